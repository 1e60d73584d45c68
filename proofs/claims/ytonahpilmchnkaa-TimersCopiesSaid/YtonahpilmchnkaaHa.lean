
/- The wheel in memory: rows of deadlines; predicates; slices.IndexFunc at deadlines: contracts. -/
import Derived.Test.YtonahpilmchnkaaHspec
import Derived.Test.YtonahpilmchnkaaBlk
import Derived.Test.YtonahpilmchnkaaRng
import Derived.Test.YtonahpilmchnkaaRows
namespace Go.Proofs.Ytonahpilmchnkaa
open Go.RowKit

def rowV (x : H1) : List Value := [.int .i64 x.1, .int .i64 x.2.1, .int .i64 x.2.2]
def flatH (l : HL) : List Value := l.flatMap rowV
theorem flatH_len (l : HL) : (flatH l).length = l.length * 3 := by
  unfold flatH
  induction l with
  | nil => rfl
  | cons x l ih => rw [List.flatMap_cons, List.length_append, ih, List.length_cons]; simp [rowV]; omega
theorem flatH_at {l : HL} {j : Nat} {x : H1} (h : l[j]? = some x) : (flatH l)[j * 3]? = some (.int .i64 x.1) ∧ (flatH l)[j * 3 + 1]? = some (.int .i64 x.2.1) ∧ (flatH l)[j * 3 + 2]? = some (.int .i64 x.2.2) := by
  induction l generalizing j with
  | nil => simp at h
  | cons y l ih =>
    have e : flatH (y :: l) = .int .i64 y.1 :: .int .i64 y.2.1 :: .int .i64 y.2.2 :: flatH l := rfl
    rw [e]
    cases j with
    | zero =>
      simp at h
      subst h
      exact ⟨rfl, rfl, rfl⟩
    | succ j =>
      have := ih (j := j) (by simpa using h)
      rw [show (j + 1) * 3 = j * 3 + 3 by omega]
      exact this
theorem flatH_app (l m : HL) : flatH (l ++ m) = flatH l ++ flatH m := List.flatMap_append
theorem flatH_one (l : HL) : ∀ u ∈ flatH l, u.oneCell' = true := by
  intro u hu
  obtain ⟨x, _, hx⟩ := List.mem_flatMap.1 hu
  simp [rowV] at hx
  rcases hx with rfl | rfl | rfl <;> rfl
theorem own_takeH {cur : Array Value} {m : Nat} {xs : List Value} (h : cur.toList.take m = xs) : ∀ (j : Nat) (u : Value), xs[j]? = some u → cur[j]? = some u := fun j u hj => by
  rw [← h, List.getElem?_take] at hj
  split at hj
  · simpa using hj
  · cases hj

/-- Deadlines that lie there to be read. -/
def IsT (w : World) (a : Option Addr) (l : HL) : Prop := l = [] ∨ ∃ g, a = some ⟨g, 0, none⟩ ∧ ∀ j x, l[j]? = some x → w.cell? ⟨g, j * 3, none⟩ = some (.int .i64 x.1) ∧ w.cell? ⟨g, j * 3 + 1, none⟩ = some (.int .i64 x.2.1) ∧ w.cell? ⟨g, j * 3 + 2, none⟩ = some (.int .i64 x.2.2)
theorem IsT.of_own {w : World} {B : Nat} {v : Value} {l : HL} (h : w.ownsRow B 84 3 v l.length (flatH l)) : ∃ a cap, v = .slice a l.length cap ∧ IsT w a l := by
  rcases h.2 with ⟨e1, e2⟩ | ⟨g, cap, cur, e1, _, e3, _, _, _, e4⟩
  · exact ⟨none, 0, by rw [e1, e2], .inl (List.eq_nil_of_length_eq_zero e2)⟩
  · refine ⟨some ⟨g, 0, none⟩, cap, e1, .inr ⟨g, rfl, fun j x hj => ?_⟩⟩
    obtain ⟨h1, h2, h3⟩ := flatH_at hj
    exact ⟨cellB e3 (own_takeH e4 _ _ h1), cellB e3 (own_takeH e4 _ _ h2), cellB e3 (own_takeH e4 _ _ h3)⟩
theorem cell_kept {S : List Nat} {w w' : World} {p : Addr} {v : Value} (h : w.cell? p = some v) (hC : Chg S w w') (hn : p.block ∉ S) : w'.cell? p = some v :=
  (World.cell?_of_block (hC.block p.block (World.block_lt_of_cell? _ _ h) hn)).trans h
theorem IsT.kept {S : List Nat} {w w' : World} {a : Option Addr} {l : HL} (h : IsT w a l) (hC : Chg S w w') (hn : ∀ g, a = some ⟨g, 0, none⟩ → g ∉ S) : IsT w' a l := by
  rcases h with h | ⟨g, rfl, h⟩
  · exact .inl h
  · exact .inr ⟨g, rfl, fun j x hj => by
      obtain ⟨h1, h2, h3⟩ := h j x hj
      exact ⟨cell_kept h1 hC (hn g rfl), cell_kept h2 hC (hn g rfl), cell_kept h3 hC (hn g rfl)⟩⟩
theorem IsT.calm {w w' : World} {a : Option Addr} {l : HL} (h : IsT w a l) (hC : Chg [] w w') : IsT w' a l := h.kept hC (by simp)

/-- What is asked of a predicate: it tells p, as long as a block holds what it holds; it may lay blocks. -/
def PredC (g : Nat) (cb : Array Value) (p : H1 → Bool) (bx : Nat) (o : Obj) : Prop :=
  ∀ W : World, W.heap[bx]? = some o → ∀ a t s : Int, Calls Try.prog g (#[.agg #[.int .i64 a, .int .i64 t, .int .i64 s]] ++ cb) W fun e w' => e = .returned (.bool (p (a, t, s))) ∧ Chg [] W w'

def intB (n : Int) : Obj := .cells #[.int .i64 n] 3 (0, 0)
def int64B (n : Int) : Obj := .cells #[.int .i64 n] 2 (0, 0)
theorem premove1 (n : Int) (bx : Nat) : PredC 53 #[.pointer (some ⟨bx, 0, none⟩)] (fun x => x.1 == n) bx (intB n) := by
  intro W hb a t s
  have c0 := cellB (i := 0) (v := .int .i64 n) hb rfl
  have hlt := lt_of_blk hb
  clear hb
  go_enter Try.func53, Try.ntmps53
  go_wp2
  go_ret
  exact ⟨rfl, (Chg.refl _ _).alloc _⟩
theorem pdue1 (n : Int) (bx : Nat) : PredC 46 #[.pointer (some ⟨bx, 0, none⟩)] (fun x => decide (x.2.1 ≤ n)) bx (int64B n) := by
  intro W hb a t s
  have c0 := cellB (i := 0) (v := .int .i64 n) hb rfl
  have hlt := lt_of_blk hb
  clear hb
  go_enter Try.func46, Try.ntmps46
  go_wp2
  go_ret
  exact ⟨rfl, (Chg.refl _ _).alloc _⟩
theorem pall1 (bx : Nat) (o : Obj) : PredC 58 #[] (fun _ => true) bx o := by
  intro W hb a t s
  clear hb
  go_enter Try.func58, Try.ntmps58
  go_wp2
  go_ret
  exact ⟨rfl, (Chg.refl _ _).alloc _⟩

/-- The first place of one that p holds of; -1: none. -/
def idxT (p : H1 → Bool) (l : HL) : Int := match l.findIdx? p with | none => -1 | some i => i

set_option maxRecDepth 100000 in
set_option maxHeartbeats 1000000 in
theorem idxc (g : Nat) (cb : Array Value) (p : H1 → Bool) (bx : Nat) (ob : Obj) (hp : PredC g cb p bx ob) (eg : ∀ args w, (callFunc g args).run Try.prog w = .ok (.enter g args) w) (a : Option Addr) (cap : Nat) (l : HL) (w : World) (hv : IsT w a l) (hb : w.heap[bx]? = some ob) (hl : l.length ≤ 1000000) :
    Calls Try.prog 59 #[.slice a l.length cap, .func (.func g) #[] cb] w fun e w' => e = .returned (.int .i64 (idxT p l)) ∧ Chg [] w w' := by
  obtain ⟨n, hn⟩ : ∃ n, n = l.length := ⟨_, rfl⟩
  rw [← hn] at hl ⊢
  have HV := Lib.hid (And.intro hv (And.intro hb (And.intro hp hn)))
  clear hv hb hp hn
  go_enter Try.func59, Try.ntmps59
  go_wp2
  go_loopw [8] (fun s wr => ∃ k : Nat, k ≤ n ∧ s = .int .i64 k ∧ (∀ j x, j < k → l[j]? = some x → p x = false) ∧ Chg [] w wr) (fun s _ => n - (intOf s).toNat)
  case atStart => exact ⟨0, by omega, rfl, fun j x hj => absurd hj (by omega), Chg.refl _ _⟩
  case round =>
    obtain ⟨k, hk, rfl, hall, hC⟩ := hrel
    have HK := Lib.hid (And.intro hall hC)
    clear hall hC
    by_cases hlt : k < n
    · obtain ⟨x, hx⟩ : ∃ x, l[k]? = some x := ⟨_, List.getElem?_eq_getElem (by have := HV.out.2.2.2; omega)⟩
      have hne : l ≠ [] := fun e => by subst e; simp at hx
      obtain ⟨g0, rfl, hd⟩ := (HV.out.1.calm HK.out.2).resolve_left hne
      obtain ⟨d0, d1, d2⟩ := hd k x hx
      obtain ⟨x1, x2, x3⟩ := x
      have HX := Lib.hid hx
      clear hd hne hx
      go_wp2_with fail
      refine (HV.out.2.2.1 wr (HK.out.2.blk HV.out.2.1 (by simp)) x1 x2 x3).mono ?_
      rintro e w2 ⟨rfl, hC⟩
      have H2 := Lib.hid (HK.out.2.trans hC)
      clear hC
      cases hpx : p (x1, x2, x3) with
      | true =>
        have hi : idxT p l = k := by
          unfold idxT
          have : l.findIdx? p = some k := by
            rw [List.findIdx?_eq_some_iff_getElem]
            have hkl : k < l.length := by have := HV.out.2.2.2; omega
            have hxk : l[k] = (x1, x2, x3) := by
              have := HX.out
              rw [List.getElem?_eq_getElem hkl] at this
              exact Option.some.inj this
            refine ⟨hkl, by rw [hxk]; exact hpx, fun j hj => ?_⟩
            have := HK.out.1 j _ hj (List.getElem?_eq_getElem (by omega))
            simp [this]
          rw [this]
        have HI := Lib.hid hi
        clear hpx hi
        go_wp2
        go_ret
        exact ⟨by rw [HI.out]; rfl, H2.out⟩
      | false =>
        have HP := Lib.hid hpx
        clear hpx
        go_wp2
        go_roundw
        case rel => exact ⟨k + 1, by omega, by go_num, fun j x hj hx => by
          by_cases hjk : j < k
          · exact HK.out.1 j x hjk hx
          · have : j = k := by omega
            subst this
            rw [HX.out] at hx
            cases hx
            exact HP.out, H2.out⟩
        case measure => simp [intOf]; omega
    · have hkn : k = n := by omega
      subst hkn
      have hi : idxT p l = -1 := by
        unfold idxT
        have : l.findIdx? p = none := by
          rw [List.findIdx?_eq_none_iff]
          intro x hx
          obtain ⟨j, hj⟩ := List.getElem?_of_mem hx
          exact HK.out.1 j x (by obtain ⟨h1, _⟩ := List.getElem?_eq_some_iff.1 hj; have := HV.out.2.2.2; omega) hj
        rw [this]
      have HI := Lib.hid hi
      clear hi
      go_wp2
      go_ret
      exact ⟨by rw [HI.out]; rfl, HK.out.2⟩

end Go.Proofs.Ytonahpilmchnkaa
