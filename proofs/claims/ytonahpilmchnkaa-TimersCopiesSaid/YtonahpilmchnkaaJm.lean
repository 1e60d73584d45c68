
/- metronomelaw19: same: contract. -/
import Derived.Test.YtonahpilmchnkaaJl
namespace Go.Proofs.Ytonahpilmchnkaa
open Go.RowKit

set_option maxRecDepth 100000 in
set_option maxHeartbeats 2000000 in
theorem lsamec (a1 a2 : Option Addr) (c1 c2 : Nat) (l m : List Int) (w : World) (h1 : IntsAt w a1 l) (h2 : IntsAt w a2 m) (hl : l.length ≤ 1000000) :
    Calls Try.prog 19 #[.slice a1 l.length c1, .slice a2 m.length c2] w fun e w' => e = .returned (.bool (decide (l = m))) ∧ Chg [] w w' := by
  by_cases hlen : l.length = m.length
  · obtain ⟨n, hn⟩ : ∃ n, n = l.length := ⟨_, rfl⟩
    have hn2 : n = m.length := by omega
    rw [← hn, ← hn2]
    rw [← hn] at hl
    have H := Lib.hid (And.intro h1 (And.intro h2 (And.intro hn hn2)))
    have e0 : ((n : Int) != (n : Int)) = false := by simp
    clear h1 h2 hlen hn hn2
    go_enter Try.func19, Try.ntmps19
    go_wp2
    go_loopw [5] (fun i wr => ∃ k : Nat, k ≤ n ∧ i = .int .i64 k ∧ l.take k = m.take k ∧ Chg [] w wr) (fun i _ => n - (intOf i).toNat)
    case atStart => exact ⟨0, by omega, rfl, by simp, Chg.refl _ _⟩
    case round =>
      obtain ⟨k, hk, rfl, hall, hC⟩ := hrel
      by_cases hlt : k < n
      · obtain ⟨x, hx⟩ : ∃ x, l[k]? = some x := ⟨_, List.getElem?_eq_getElem (by have := H.out.2.2.1; omega)⟩
        obtain ⟨y, hy⟩ : ∃ y, m[k]? = some y := ⟨_, List.getElem?_eq_getElem (by have := H.out.2.2.2; omega)⟩
        obtain ⟨g1, rfl, hd⟩ := (H.out.1.calm hC).resolve_left (fun e => by subst e; simp at hx)
        obtain ⟨g2, rfl, hf⟩ := (H.out.2.1.calm hC).resolve_left (fun e => by subst e; simp at hy)
        have d0 := hd k x hx
        have f0 := hf k y hy
        by_cases hxy : x = y
        · subst hxy
          have hst : l.take (k + 1) = m.take (k + 1) := by rw [List.take_add_one, List.take_add_one, hx, hy, hall]
          have e1 : (x != x) = false := by simp
          have HX := Lib.hid (And.intro hC hst)
          clear hx hy hd hf hall hC hst
          go_wp2
          go_quiet (fail)
          go_wp2
          go_roundw
          case rel => exact ⟨k + 1, by omega, by go_num, HX.out.2, HX.out.1.drewN _⟩
          case measure => simp [intOf]; omega
        · have hno : decide (l = m) = false := decide_eq_false fun e2 => hxy (by
            have := congrArg (fun z => z[k]?) e2
            simpa [hx, hy] using this)
          have e1 : (x != y) = true := by simpa using hxy
          have HX := Lib.hid (And.intro hC hno)
          clear hx hy hd hf hall hC hno hxy
          go_wp2
          go_quiet (fail)
          go_wp2
          go_ret
          exact ⟨by rw [HX.out.2]; rfl, HX.out.1.drewN _⟩
      · have hkn : k = n := by omega
        subst hkn
        have e1 : decide (l = m) = true := by
          rw [List.take_of_length_le (by have := H.out.2.2.1; omega), List.take_of_length_le (by have := H.out.2.2.2; omega)] at hall
          exact decide_eq_true hall
        have HX := Lib.hid (And.intro hC e1)
        clear hall hC e1
        go_wp2
        go_ret
        exact ⟨by rw [HX.out.2]; rfl, HX.out.1⟩
  · have hno : decide (l = m) = false := decide_eq_false fun e => hlen (by rw [e])
    rw [hno]
    have e0 : ((l.length : Int) != (m.length : Int)) = true := by simp; omega
    clear h1 h2 hl hno
    generalize l.length = n1 at *
    generalize m.length = n2 at *
    go_enter Try.func19, Try.ntmps19
    go_wp2
    go_ret
    exact ⟨rfl, Chg.refl _ _⟩

end Go.Proofs.Ytonahpilmchnkaa
