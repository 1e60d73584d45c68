
/- The wheel: slices.EqualFunc at deadlines; Same: contracts. -/
import Derived.Test.YtonahpilmchnkaaHi
namespace Go.Proofs.Ytonahpilmchnkaa
open Go.RowKit

def keyH (x : H1) : Int × Int := (x.1, x.2.1)
def sameH (l m : HL) : Bool := decide (l.map keyH = m.map keyH)
theorem sameH_len {l m : HL} (h : l.length ≠ m.length) : sameH l m = false := by
  unfold sameH
  refine decide_eq_false fun e => h ?_
  simpa using congrArg List.length e

theorem same1c (x y : H1) (w : World) :
    Calls Try.prog 51 #[.agg #[.int .i64 x.1, .int .i64 x.2.1, .int .i64 x.2.2], .agg #[.int .i64 y.1, .int .i64 y.2.1, .int .i64 y.2.2]] w fun e w' => e = .returned (.bool (decide (keyH x = keyH y))) ∧ Chg [] w w' := by
  obtain ⟨x1, x2, x3⟩ := x
  obtain ⟨y1, y2, y3⟩ := y
  dsimp only
  by_cases h1 : x1 = y1
  · by_cases h2 : x2 = y2
    · subst h1
      subst h2
      have e1 : decide (keyH (x1, x2, x3) = keyH (x1, x2, y3)) = true := by simp [keyH]
      have e2 : (x1 == x1) = true := by simp
      have e3 : (x2 == x2) = true := by simp
      rw [e1]
      clear e1
      go_enter Try.func51, Try.ntmps51
      go_wp2
      go_ret
      exact ⟨rfl, ((Chg.refl _ _).alloc _).alloc _⟩
    · subst h1
      have e1 : decide (keyH (x1, x2, x3) = keyH (x1, y2, y3)) = false := by simp [keyH, h2]
      have e2 : (x1 == x1) = true := by simp
      have e3 : (x2 == y2) = false := by simp [h2]
      rw [e1]
      clear e1 h2
      go_enter Try.func51, Try.ntmps51
      go_wp2
      go_ret
      exact ⟨rfl, ((Chg.refl _ _).alloc _).alloc _⟩
  · have e1 : decide (keyH (x1, x2, x3) = keyH (y1, y2, y3)) = false := by simp [keyH, h1]
    have e2 : (x1 == y1) = false := by simp [h1]
    rw [e1]
    clear e1 h1
    go_enter Try.func51, Try.ntmps51
    go_wp2
    go_ret
    exact ⟨rfl, ((Chg.refl _ _).alloc _).alloc _⟩

set_option maxRecDepth 100000 in
set_option maxHeartbeats 2000000 in
theorem equalc (a1 a2 : Option Addr) (c1 c2 : Nat) (l m : HL) (w : World) (h1 : IsT w a1 l) (h2 : IsT w a2 m) (hl : l.length ≤ 1000000) :
    Calls Try.prog 49 #[.slice a1 l.length c1, .slice a2 m.length c2, .func (.func 51) #[] #[]] w fun e w' => e = .returned (.bool (sameH l m)) ∧ Chg [] w w' := by
  by_cases hlen : l.length = m.length
  · obtain ⟨n, hn⟩ : ∃ n, n = l.length := ⟨_, rfl⟩
    have hn2 : n = m.length := by omega
    rw [← hn, ← hn2]
    rw [← hn] at hl
    have H := Lib.hid (And.intro h1 (And.intro h2 (And.intro hn hn2)))
    have e0 : ((n : Int) != (n : Int)) = false := by simp
    clear h1 h2 hlen hn hn2
    go_enter Try.func49, Try.ntmps49
    go_wp2
    go_loopw [17] (fun i wr => ∃ k : Nat, k ≤ n ∧ i = .int .i64 k ∧ (l.take k).map keyH = (m.take k).map keyH ∧ Chg [] w wr) (fun i _ => n - (intOf i).toNat)
    case atStart => exact ⟨0, by omega, rfl, by simp, Chg.refl _ _⟩
    case round =>
      obtain ⟨k, hk, rfl, hall, hC⟩ := hrel
      by_cases hlt : k < n
      · obtain ⟨x, hx⟩ : ∃ x, l[k]? = some x := ⟨_, List.getElem?_eq_getElem (by have := H.out.2.2.1; omega)⟩
        obtain ⟨y, hy⟩ : ∃ y, m[k]? = some y := ⟨_, List.getElem?_eq_getElem (by have := H.out.2.2.2; omega)⟩
        obtain ⟨g1, rfl, hd⟩ := (H.out.1.calm hC).resolve_left (fun e => by subst e; simp at hx)
        obtain ⟨g2, rfl, hf⟩ := (H.out.2.1.calm hC).resolve_left (fun e => by subst e; simp at hy)
        obtain ⟨d0, d1, d2⟩ := hd k x hx
        obtain ⟨f0, f1, f2⟩ := hf k y hy
        have hg2 : g2 < wr.heap.size := World.block_lt_of_cell? _ _ f0
        have hS := same1c x y
        have hst : decide (keyH x = keyH y) = true → (l.take (k + 1)).map keyH = (m.take (k + 1)).map keyH := fun e => by
          rw [List.take_add_one, List.take_add_one, hx, hy, List.map_append, List.map_append, hall]
          simp [of_decide_eq_true e]
        have hno : decide (keyH x = keyH y) = false → sameH l m = false := fun e => by
          unfold sameH
          refine decide_eq_false fun e2 => (of_decide_eq_false e) ?_
          have := congrArg (fun z => z[k]?) e2
          simpa [hx, hy] using this
        generalize decide (keyH x = keyH y) = r at hS hst hno
        obtain ⟨x1, x2, x3⟩ := x
        obtain ⟨y1, y2, y3⟩ := y
        dsimp only at d0 d1 d2 f0 f1 f2 hS
        have HX := Lib.hid (And.intro hC (And.intro hst (And.intro hno hS)))
        clear hx hy hd hf hall hC hst hno hS
        go_wp2_with fail
        refine (HX.out.2.2.2 _).mono ?_
        rintro e w2 ⟨rfl, hC2⟩
        have H2 := Lib.hid (((HX.out.1.alloc _).alloc _).trans hC2)
        clear hC2
        cases r with
        | true =>
          have HR := Lib.hid (HX.out.2.1 rfl)
          go_wp2
          go_roundw
          case rel => exact ⟨k + 1, by omega, by go_num, HR.out, H2.out⟩
          case measure => simp [intOf]; omega
        | false =>
          have HR := Lib.hid (HX.out.2.2.1 rfl)
          go_wp2
          go_ret
          exact ⟨by rw [HR.out]; rfl, H2.out⟩
      · have hkn : k = n := by omega
        subst hkn
        have e1 : sameH l m = true := by
          unfold sameH
          rw [List.take_of_length_le (by have := H.out.2.2.1; omega), List.take_of_length_le (by have := H.out.2.2.2; omega)] at hall
          exact decide_eq_true hall
        have HX := Lib.hid (And.intro hC e1)
        clear hall hC e1
        go_wp2
        go_ret
        exact ⟨by rw [HX.out.2]; rfl, HX.out.1⟩
  · rw [sameH_len hlen]
    have e0 : ((l.length : Int) != (m.length : Int)) = true := by simp; omega
    clear h1 h2 hl
    generalize l.length = n1 at *
    generalize m.length = n2 at *
    go_enter Try.func49, Try.ntmps49
    go_wp2
    go_ret
    exact ⟨rfl, Chg.refl _ _⟩

set_option maxRecDepth 100000 in
set_option maxHeartbeats 2000000 in
theorem samec (b1 b2 : Nat) (vs1 vs2 : List Value) (s1 s2 : HS) (w : World) (h1 : HAt w b1 vs1 s1) (h2 : HAt w b2 vs2 s2) :
    Calls Try.prog 41 #[.pointer (some ⟨b1, 0, none⟩), .pointer (some ⟨b2, 0, none⟩)] w fun e w' => e = .returned (.bool (sameH (ordH s1.M) (ordH s2.M))) ∧ Chg [] w w' := by
  have HI1 := Lib.hid (hisc b1 vs1 s1 w h1)
  have HI2 := Lib.hid (hisc b2 vs2 s2 w h2)
  have HA1 := Lib.hid (allc b1 vs1 s1 w h1)
  have H := Lib.hid (And.intro h1 h2)
  clear h1 h2
  go_enter Try.func41, Try.ntmps41
  go_wp2_with fail
  refine HI1.out.mono ?_
  rintro e w' ⟨rfl, rfl⟩
  go_wp2_with fail
  refine HI2.out.mono ?_
  rintro e w' ⟨rfl, rfl⟩
  go_wp2_with fail
  refine HA1.out.mono ?_
  rintro e w1 ⟨v1, rfl, ho1, hC1⟩
  have HA2 := Lib.hid (allc b2 vs2 s2 w1 (H.out.2.calm hC1))
  have H1 := Lib.hid (And.intro ho1 hC1)
  clear ho1 hC1
  go_wp2_with fail
  refine HA2.out.mono ?_
  rintro e w2 ⟨v2, rfl, ho2, hC2⟩
  obtain ⟨a1, c1, rfl, hT1⟩ := IsT.of_own (own_kept H1.out.1 hC2 (by simp))
  obtain ⟨a2, c2, rfl, hT2⟩ := IsT.of_own ho2
  have HE := Lib.hid (equalc a1 a2 c1 c2 _ _ w2 hT1 hT2 (by rw [ordH_len]; have := H.out.1.inv.few; omega))
  have H2 := Lib.hid hC2
  clear ho2 hC2 hT1 hT2
  go_wp2_with fail
  refine HE.out.mono ?_
  rintro e w3 ⟨rfl, hC3⟩
  have H3 := Lib.hid hC3
  clear hC3
  go_wp2
  go_ret
  exact ⟨rfl, (H1.out.2.trans H2.out).trans H3.out⟩

end Go.Proofs.Ytonahpilmchnkaa
