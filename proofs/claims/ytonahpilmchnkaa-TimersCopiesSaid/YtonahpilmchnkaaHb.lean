
/- slices.DeleteFunc at deadlines: contract. -/
import Derived.Test.YtonahpilmchnkaaHa
import Derived.Lib.SliceRun
namespace Go.Proofs.Ytonahpilmchnkaa
open Go.RowKit

theorem blk_setCells {b : Nat} {T : TypeId} {fr : Nat × Nat} : ∀ (vs : List Value) (o : Nat) (w : World) (cur : Array Value), w.heap[b]? = some (.cells cur T fr) → ∃ cur' : Array Value, (w.setCells b o vs).heap[b]? = some (.cells cur' T fr) ∧ cur'.size = cur.size ∧ ∀ k, k < o → cur'[k]? = cur[k]?
  | [], _, _, cur, h => ⟨cur, h, rfl, fun _ _ => rfl⟩
  | v :: r, o, w, cur, h => by
    obtain ⟨cur', h1, h2, h3⟩ := blk_setCells r (o + 1) _ _ (blk_setCell (i := o) h v)
    refine ⟨cur', h1, by rw [h2]; simp, fun k hk => ?_⟩
    rw [h3 k (by omega), Array.getElem?_setIfInBounds_ne (by omega)]
theorem chg_setCells {b : Nat} : ∀ (vs : List Value) (o : Nat) (w : World), Chg [b] w (w.setCells b o vs)
  | [], _, w => Chg.refl _ w
  | v :: r, o, w => ((Chg.refl [b] w).setCell ⟨b, o, none⟩ v (by simp)).trans (chg_setCells r (o + 1) _)

/-- A row of deadlines in a block of its own: the first cells are those of R. -/
def RowT (w : World) (g : Nat) (cap : Nat) (R : HL) : Prop := ∃ cur : Array Value, w.heap[g]? = some (.cells cur 84 (0, 0)) ∧ cur.size = cap * 3 ∧ cur.toList.take (R.length * 3) = flatH R
theorem RowT.kept {S : List Nat} {w w' : World} {g cap : Nat} {R : HL} (h : RowT w g cap R) (hC : Chg S w w') (hn : g ∉ S) : RowT w' g cap R := by
  obtain ⟨cur, h1, h2, h3⟩ := h
  exact ⟨cur, hC.blk h1 hn, h2, h3⟩
theorem RowT.cells {w : World} {g cap : Nat} {R : HL} (h : RowT w g cap R) {j : Nat} {x : H1} (hj : R[j]? = some x) : w.cell? ⟨g, j * 3, none⟩ = some (.int .i64 x.1) ∧ w.cell? ⟨g, j * 3 + 1, none⟩ = some (.int .i64 x.2.1) ∧ w.cell? ⟨g, j * 3 + 2, none⟩ = some (.int .i64 x.2.2) := by
  obtain ⟨cur, h1, _, h3⟩ := h
  obtain ⟨a, b, c⟩ := flatH_at hj
  exact ⟨cellB h1 (own_takeH h3 _ _ a), cellB h1 (own_takeH h3 _ _ b), cellB h1 (own_takeH h3 _ _ c)⟩
theorem RowT.frozen {w : World} {g cap : Nat} {R : HL} (h : RowT w g cap R) (i : Nat) : w.frozen? ⟨g, i, none⟩ = false := by
  obtain ⟨cur, h1, _, _⟩ := h
  exact frozenB h1 i
theorem RowT.there {w : World} {g cap : Nat} {R : HL} (h : RowT w g cap R) {i : Nat} (hi : i < cap * 3) : (w.cell? ⟨g, i, none⟩).isSome = true := by
  obtain ⟨cur, h1, h2, _⟩ := h
  rw [cellB h1 (Array.getElem?_eq_getElem (by omega))]
  rfl
theorem flatH_set {R : HL} {i : Nat} {x : H1} (hi : i < R.length) : flatH (R.set i x) = (((flatH R).set (i * 3) (.int .i64 x.1)).set (i * 3 + 1) (.int .i64 x.2.1)).set (i * 3 + 2) (.int .i64 x.2.2) := by
  induction R generalizing i with
  | nil => simp at hi
  | cons y R ih =>
    have e : ∀ z : H1, ∀ l, flatH (z :: l) = .int .i64 z.1 :: .int .i64 z.2.1 :: .int .i64 z.2.2 :: flatH l := fun _ _ => rfl
    cases i with
    | zero => rw [List.set_cons_zero, e, e]; rfl
    | succ i =>
      rw [List.set_cons_succ, e, e, ih (by simpa using hi), show (i + 1) * 3 = i * 3 + 3 by omega]
      rfl
theorem RowT.put {w : World} {g cap : Nat} {R : HL} (h : RowT w g cap R) {i : Nat} (hi : i < R.length) (x : H1) :
    RowT (((w.setCell ⟨g, i * 3, none⟩ (.int .i64 x.1)).setCell ⟨g, i * 3 + 1, none⟩ (.int .i64 x.2.1)).setCell ⟨g, i * 3 + 2, none⟩ (.int .i64 x.2.2)) g cap (R.set i x) := by
  obtain ⟨cur, h1, h2, h3⟩ := h
  refine ⟨_, blk_setCell (blk_setCell (blk_setCell h1 _) _) _, by simpa using h2, ?_⟩
  rw [List.length_set, flatH_set hi, ← h3]
  simp only [Array.toList_setIfInBounds]
  rw [List.take_set, List.take_set, List.take_set]
theorem RowT.cut {w : World} {g cap : Nat} {R : HL} (h : RowT w g cap R) (m : Nat) (vs : List Value) : RowT (w.setCells g (m * 3) vs) g cap (R.take m) := by
  obtain ⟨cur, h1, h2, h3⟩ := h
  obtain ⟨cur', e1, e2, e3⟩ := blk_setCells vs (m * 3) w cur h1
  refine ⟨cur', e1, by omega, ?_⟩
  have hl : (R.take m).length ≤ R.length := by rw [List.length_take]; omega
  have hm : (R.take m).length ≤ m := by rw [List.length_take]; omega
  have hfl : flatH (R.take m) = (flatH R).take ((R.take m).length * 3) := by
    have e : flatH R = flatH (R.take m) ++ flatH (R.drop m) := by rw [← flatH_app, List.take_append_drop]
    rw [e, List.take_left' (flatH_len _)]
  rw [hfl, ← h3, List.take_take, Nat.min_eq_left (by omega)]
  apply List.ext_getElem?
  intro k
  by_cases hk : k < (R.take m).length * 3
  · rw [List.getElem?_take_of_lt hk, List.getElem?_take_of_lt hk, Array.getElem?_toList, Array.getElem?_toList, e3 k (by omega)]
  · rw [List.getElem?_take_eq_none (by omega), List.getElem?_take_eq_none (by omega)]
theorem RowT.of_own {w : World} {B g cap n : Nat} {l : HL} (h : w.ownsRow B 84 3 (.slice (some ⟨g, 0, none⟩) n cap) n (flatH l)) (hn : n = l.length) : RowT w g cap l ∧ B ≤ g ∧ n ≤ cap ∧ cap ≤ maxLen := by
  rcases h.2 with ⟨e1, _⟩ | ⟨g', cap', cur, e1, h1, h2, h3, h4, h5, h6⟩
  · cases e1
  · cases e1
    exact ⟨⟨cur, h2, h5, by rw [← hn]; exact h6⟩, h1, h3, h4⟩
theorem RowT.own {w : World} {B g cap : Nat} {l : HL} (h : RowT w g cap l) (hB : B ≤ g) (hl : l.length ≤ cap) (hc : cap ≤ maxLen) : w.ownsRow B 84 3 (.slice (some ⟨g, 0, none⟩) l.length cap) l.length (flatH l) := by
  obtain ⟨cur, h1, h2, h3⟩ := h
  exact ⟨flatH_len l, .inr ⟨g, cap, cur, rfl, hB, h1, hl, hc, h2, h3⟩⟩

theorem zeroHone (w : World) : (zeroValue 84).run Try.prog w = .ok (.agg #[.int .i64 0, .int .i64 0, .int .i64 0]) w := by
  kernel_rfl
theorem run_clearT (w : World) (ty : TypeId) (g o n c : Nat) (hn : 0 < n) (hc : ∀ j, j < n * 3 → (w.cell? ⟨g, o + j, none⟩).isSome = true) (hf : ∀ j, j < n * 3 → w.frozen? ⟨g, o + j, none⟩ = false) :
    ∃ vs, (Builtin.clear_ #[78] ty #[.slice (some ⟨g, o, none⟩) n c]).run Try.prog w = .ok (.tuple #[]) (w.setCells g o vs) := by
  refine ⟨(Builtin.zeroCells #[.int .i64 0, .int .i64 0, .int .i64 0] n).toList, ?_⟩
  have hl : (Builtin.zeroCells #[.int .i64 0, .int .i64 0, .int .i64 0] n).toList.length = n * 3 := by simp [Builtin.zeroCells]
  have hone : ∀ v ∈ (Builtin.zeroCells #[.int .i64 0, .int .i64 0, .int .i64 0] n).toList, v.oneCell' = true := by
    intro v hv
    simp [Builtin.zeroCells] at hv
    obtain ⟨i, _, rfl⟩ := hv
    have : i % 3 = 0 ∨ i % 3 = 1 ∨ i % 3 = 2 := by omega
    rcases this with h | h | h <;> rw [h] <;> rfl
  have hst := run_storeCells_cells (P := Try.prog) g o _ 0 w (by rw [hl]; simpa using hc) (by rw [hl]; simpa using hf) hone
  simp only [Nat.add_zero] at hst
  obtain ⟨m, rfl⟩ : ∃ m, n = m + 1 := ⟨n - 1, by omega⟩
  simp [Builtin.clear_, run_underlying Try.underlying78, Value.cells, hst]

def keepT (p : H1 → Bool) (l : HL) (j : Nat) : HL := (l.take j).filter fun x => !p x
theorem keepT_succ {p : H1 → Bool} {l : HL} {j : Nat} {x : H1} (h : l[j]? = some x) : keepT p l (j + 1) = if p x = true then keepT p l j else keepT p l j ++ [x] := by
  unfold keepT
  rw [List.take_add_one, h, List.filter_append]
  cases hp : p x <;> simp [hp]
theorem keepT_all (p : H1 → Bool) (l : HL) {n : Nat} (h : n = l.length) : keepT p l n = l.filter fun x => !p x := by
  unfold keepT
  rw [List.take_of_length_le (by omega)]

/-- What stands in the row while it is gone over. -/
structure DelI (p : H1 → Bool) (l R : HL) (i j : Nat) : Prop where
  len : R.length = l.length
  kept : R.take i = keepT p l j
  at_ : (keepT p l j).length = i
  rest : R.drop j = l.drop j
  lt : i < j
theorem DelI.skip {p : H1 → Bool} {l R : HL} {i j : Nat} (h : DelI p l R i j) {x : H1} (hx : l[j]? = some x) (hp : p x = true) : DelI p l R i (j + 1) := by
  have e := keepT_succ (p := p) hx
  rw [if_pos hp] at e
  have hr := h.rest
  refine ⟨h.len, by rw [e]; exact h.kept, by rw [e]; exact h.at_, ?_, by have := h.lt; omega⟩
  have := congrArg (List.drop 1) hr
  rwa [List.drop_drop, List.drop_drop] at this
theorem DelI.keep {p : H1 → Bool} {l R : HL} {i j : Nat} (h : DelI p l R i j) {x : H1} (hx : l[j]? = some x) (hp : p x = false) : DelI p l (R.set i x) (i + 1) (j + 1) := by
  have e := keepT_succ (p := p) hx
  rw [if_neg (by simp [hp])] at e
  have hr := h.rest
  have hj := (List.getElem?_eq_some_iff.1 hx).1
  have hlt := h.lt
  have hlen := h.len
  refine ⟨by rw [List.length_set]; exact h.len, ?_, by rw [e, List.length_append, h.at_]; rfl, ?_, by omega⟩
  · rw [e, List.take_add_one, List.take_set_of_le (Nat.le_refl _), h.kept]
    simp [show i < R.length by omega]
  · rw [List.drop_set_of_lt (by omega)]
    have := congrArg (List.drop 1) hr
    rwa [List.drop_drop, List.drop_drop] at this
theorem DelI.here {p : H1 → Bool} {l R : HL} {i j : Nat} (h : DelI p l R i j) {x : H1} (hx : l[j]? = some x) : R[j]? = some x := by
  have := congrArg (fun z => z[0]?) h.rest
  simp only [List.getElem?_drop, Nat.add_zero] at this
  rw [this, hx]

set_option maxRecDepth 100000 in
set_option maxHeartbeats 2000000 in
theorem delc (g : Nat) (cb : Array Value) (p : H1 → Bool) (bx : Nat) (ob : Obj) (hp : PredC g cb p bx ob) (eg : ∀ args w, (callFunc g args).run Try.prog w = .ok (.enter g args) w) (g0 cap : Nat) (l : HL) (w : World) (hr : RowT w g0 cap l) (hc : l.length ≤ cap) (hb : w.heap[bx]? = some ob) (hne : bx ≠ g0) (hl : l.length ≤ 1000000) :
    Calls Try.prog 52 #[.slice (some ⟨g0, 0, none⟩) l.length cap, .func (.func g) #[] cb] w fun e w' => e = .returned (.slice (some ⟨g0, 0, none⟩) (l.filter fun x => !p x).length cap) ∧ RowT w' g0 cap (l.filter fun x => !p x) ∧ Chg [g0] w w' := by
  have hIx := idxc g cb p bx ob hp eg (some ⟨g0, 0, none⟩) cap l w (.inr ⟨g0, rfl, fun j x hj => hr.cells hj⟩) hb hl
  have hi := hIx
  cases hfi : l.findIdx? p with
  | none =>
    have e1 : idxT p l = -1 := by unfold idxT; rw [hfi]
    have e2 : (l.filter fun x => !p x) = l := by
      rw [List.filter_eq_self]
      intro x hx
      have := List.findIdx?_eq_none_iff.1 hfi x hx
      simp [this]
    rw [e1] at hIx
    rw [e2]
    have HR := Lib.hid hr
    have HI := Lib.hid hIx
    clear hr hIx hi hfi e1 e2 hp hb hc hl
    generalize l.length = n at *
    go_enter Try.func52, Try.ntmps52
    go_wp2_with fail
    refine HI.out.mono ?_
    rintro e w1 ⟨rfl, hC⟩
    go_wp2
    go_ret
    exact ⟨rfl, HR.out.kept hC (by simp), hC.mono (by simp)⟩
  | some i0 =>
    obtain ⟨hi0, hpi, hbe⟩ := List.findIdx?_eq_some_iff_getElem.1 hfi
    have e1 : idxT p l = i0 := by unfold idxT; rw [hfi]
    have hk0 : keepT p l i0 = l.take i0 := by
      unfold keepT
      rw [List.filter_eq_self]
      intro x hx
      obtain ⟨j, hj⟩ := List.getElem?_of_mem hx
      rw [List.getElem?_take] at hj
      split at hj
      · rename_i hji
        have := hbe j hji
        rw [List.getElem?_eq_getElem (by omega)] at hj
        cases hj
        simpa using this
      · cases hj
    have hD0 : DelI p l l i0 (i0 + 1) := by
      have hx : l[i0]? = some l[i0] := List.getElem?_eq_getElem hi0
      have e := keepT_succ (p := p) hx
      rw [if_pos hpi] at e
      exact ⟨rfl, by rw [e, hk0], by rw [e, hk0, List.length_take]; omega, rfl, by omega⟩
    rw [e1] at hIx
    obtain ⟨n, hn⟩ : ∃ n, n = l.length := ⟨_, rfl⟩
    rw [← hn] at hc hl hi0
    have hI := hIx
    rw [← hn] at hI ⊢
    have HI := Lib.hid hI
    have H := Lib.hid (And.intro hr (And.intro hb (And.intro hp (And.intro hne (And.intro hn hD0)))))
    obtain ⟨m, hm⟩ : ∃ m, m = (l.filter fun x => !p x).length := ⟨_, rfl⟩
    rw [← hm]
    have HM := Lib.hid hm
    have hn1 : ((i0 : Int) == -1) = false := by simp
    clear hr hb hp hne hIx hI hi hfi hpi hbe e1 hk0 hD0 hn hm
    go_enter Try.func52, Try.ntmps52
    go_wp2_with fail
    refine HI.out.mono ?_
    rintro e w1 ⟨rfl, hC⟩
    have H1 := Lib.hid hC
    clear hC
    go_wp2
    go_loopw [5, 6] (fun s t wr => ∃ (i j : Nat) (R : HL), s = .int .i64 i ∧ t = .int .i64 j ∧ i < j ∧ j ≤ n ∧ DelI p l R i j ∧ RowT wr g0 cap R ∧ Chg [g0] w wr) (fun _ t _ => n - (intOf t).toNat)
    case atStart => exact ⟨i0, i0 + 1, l, rfl, by go_num, by omega, by omega, H.out.2.2.2.2.2, H.out.1.kept H1.out (by simp), H1.out.mono (by simp)⟩
    case round =>
      obtain ⟨i, j, R, rfl, rfl, hij, hjn, hD, hR, hC⟩ := hrel
      have HK := Lib.hid (And.intro hD (And.intro hR hC))
      clear hD hR hC
      by_cases hlt : j < n
      · obtain ⟨x, hx⟩ : ∃ x, l[j]? = some x := ⟨_, List.getElem?_eq_getElem (by have := H.out.2.2.2.2.1; omega)⟩
        obtain ⟨d0, d1, d2⟩ := HK.out.2.1.cells (HK.out.1.here hx)
        have hg0 : g0 < wr.heap.size := by obtain ⟨cur, h1, _⟩ := HK.out.2.1; exact lt_of_blk h1
        have hlen : R.length = n := by have := HK.out.1.len; have := H.out.2.2.2.2.1; omega
        obtain ⟨x1, x2, x3⟩ := x
        have HX := Lib.hid (And.intro hx hlen)
        clear hx hlen
        have hCa : Chg [] wr (wr.alloc (.cells #[.int .i64 x1, .int .i64 x2, .int .i64 x3] 84)) := (Chg.refl _ _).alloc _
        have hbw := (HK.out.2.2.trans (hCa.mono (by simp))).blk H.out.2.1 (by simpa using H.out.2.2.2.1)
        have HA := Lib.hid (And.intro hCa hbw)
        clear hCa hbw
        go_wp2_with fail
        refine (H.out.2.2.1 _ HA.out.2 x1 x2 x3).mono ?_
        rintro e w2 ⟨rfl, hC⟩
        have b7 := hC.blk (heap_alloc_eq wr (.cells #[.int .i64 x1, .int .i64 x2, .int .i64 x3] 84)) (by simp)
        have H2 := Lib.hid (And.intro (HA.out.1.trans hC) b7)
        have v0 := cellB b7 (i := 0) rfl
        have v1 := cellB b7 (i := 1) rfl
        have v2 := cellB b7 (i := 2) rfl
        clear hC b7
        have hR2 := HK.out.2.1.kept H2.out.1 (by simp)
        have HR2 := Lib.hid hR2
        cases hpx : p (x1, x2, x3) with
        | true =>
          have HP := Lib.hid hpx
          clear hpx hR2
          go_wp2
          go_roundw
          case rel => exact ⟨i, j + 1, R, rfl, by go_num, by omega, by omega, HK.out.1.skip HX.out.1 HP.out, HR2.out, HK.out.2.2.trans' H2.out.1 (by simp)⟩
          case measure => simp [intOf]; omega
        | false =>
          have f0 := fun i => hR2.frozen i
          obtain ⟨y, hy⟩ : ∃ y, R[i]? = some y := ⟨_, List.getElem?_eq_getElem (by have := HX.out.2; omega)⟩
          obtain ⟨y0, y1, y2⟩ := hR2.cells hy
          have hne7 : g0 ≠ wr.heap.size := by omega
          have hilt : i < n := by omega
          have HP := Lib.hid hpx
          clear hpx hR2 hy
          go_wp2
          go_roundw
          case rel =>
            have hset : Chg [g0] w2 (((w2.setCell ⟨g0, i * 3, none⟩ (.int .i64 x1)).setCell ⟨g0, i * 3 + 1, none⟩ (.int .i64 x2)).setCell ⟨g0, i * 3 + 2, none⟩ (.int .i64 x3)) :=
              (((Chg.refl [g0] w2).setCell _ _ (by simp)).setCell _ _ (by simp)).setCell _ _ (by simp)
            exact ⟨i + 1, j + 1, R.set i (x1, x2, x3), by go_num, by go_num, by omega, by omega, HK.out.1.keep HX.out.1 HP.out, HR2.out.put (by have := HX.out.2; omega) (x1, x2, x3), (HK.out.2.2.trans' H2.out.1 (by simp)).trans hset⟩
          case measure => simp [intOf]; omega
      · have hjn2 : n = j := by omega
        subst hjn2
        have hR := HK.out.2.1
        have hlen : R.length = n := by have := HK.out.1.len; have := H.out.2.2.2.2.1; omega
        obtain ⟨vs, hcl⟩ := run_clearT wr 0 g0 (i * 3) (n - i) (cap - i) (by omega) (fun k hk => hR.there (by omega)) (fun k hk => hR.frozen _)
        have HL := Lib.hid hlen
        have hmi : m = i := by
          have h1 := HK.out.1.at_
          rw [keepT_all p l H.out.2.2.2.2.1] at h1
          have := HM.out
          omega
        subst hmi
        clear hR hlen
        go_wp2
        go_ret
        refine ⟨rfl, ?_, HK.out.2.2.trans (chg_setCells _ _ _)⟩
        have h2 := HK.out.2.1.cut m vs
        have h3 := HK.out.1.kept
        rw [keepT_all p l H.out.2.2.2.2.1] at h3
        rwa [h3] at h2

end Go.Proofs.Ytonahpilmchnkaa
