
/- slices.SortFunc at deadlines of the call's own; the comparison: contracts. -/
import Derived.Test.YtonahpilmchnkaaHd
import Derived.Test.YtonahpilmchnkaaShelf
import Derived.Sort.OwnSortedInts
import Derived.Lib.Small
import Derived.LoopN
namespace Go.Proofs.Ytonahpilmchnkaa
open Go.RowKit Go.Sort

/-- Draws and new blocks, nothing else. -/
def Grw (w w' : World) : Prop := ∃ q os, w' = Go.Sort.grow (w.drewN q) os
theorem Grw.refl (w : World) : Grw w w := ⟨0, #[], by rw [Go.Sort.grow_empty]; rfl⟩
theorem Grw.trans {a b c : World} (h : Grw a b) (g : Grw b c) : Grw a c := by
  obtain ⟨q, os, rfl⟩ := h
  obtain ⟨q', os', rfl⟩ := g
  exact ⟨q + q', os ++ os', by rw [← Go.Sort.grow_grow]; simp [Go.Sort.grow, World.drewN, Nat.add_assoc]⟩
theorem Grw.drew {a b : World} (h : Grw a b) : Grw a b.drew := h.trans ⟨1, #[], by rw [Go.Sort.grow_empty]; rfl⟩
theorem Grw.alloc {a b : World} (h : Grw a b) (o : Obj) : Grw a (b.alloc o) := h.trans ⟨0, #[o], by rw [Go.Sort.alloc_eq_grow]; rfl⟩
theorem Grw.chg {S : List Nat} {a b : World} (h : Grw a b) : Chg S a b := by
  obtain ⟨q, os, rfl⟩ := h
  refine ⟨rfl, rfl, rfl, by simp [Go.Sort.grow, World.drewN], fun k hk _ => ?_⟩
  simp only [Go.Sort.grow, World.drewN]
  rw [Array.getElem?_append_left hk]

set_option maxRecDepth 100000 in
set_option maxHeartbeats 400000 in
theorem compare_int64 (x y : Int) (w : World) : Calls Try.prog 57 #[.int .i64 x, .int .i64 y] w fun e w' => e = .returned (.int .i64 (Lib.compareInt x y)) ∧ w' = w := by
  rcases Int.lt_trichotomy x y with h | h | h
  · have e1 : Lib.compareInt x y = -1 := by simp [Lib.compareInt, h]
    rw [e1]
    clear e1
    go_enter Try.func57, Try.ntmps57
    go_wp2
    go_ret
    exact ⟨rfl, rfl⟩
  · subst h
    have e1 : Lib.compareInt x x = 0 := by simp [Lib.compareInt]
    rw [e1]
    clear e1
    go_enter Try.func57, Try.ntmps57
    go_wp2
    go_ret
    exact ⟨rfl, rfl⟩
  · have e1 : Lib.compareInt x y = 1 := by
      have h' : ¬ x < y := by omega
      simp [Lib.compareInt, h, h']
    rw [e1]
    clear e1
    go_enter Try.func57, Try.ntmps57
    go_wp2
    go_ret
    exact ⟨rfl, rfl⟩

def orI (x y : Int) : Int := if x = 0 then y else x
set_option maxRecDepth 100000 in
set_option maxHeartbeats 400000 in
theorem or_two (x y : Int) (b : Nat) (w : World) (c0 : w.cell? ⟨b, 0, none⟩ = some (.int .i64 x)) (c1 : w.cell? ⟨b, 1, none⟩ = some (.int .i64 y)) :
    Calls Try.prog 56 #[.slice (some ⟨b, 0, none⟩) 2 2] w fun e w' => e = .returned (.int .i64 (orI x y)) ∧ w = w' := by
  unfold orI
  by_cases hx : x = 0
  · subst hx
    by_cases hy : y = 0
    · subst hy
      go_enter Try.func56, Try.ntmps56
      go_wp2
      refine wp_loop_rounds 3 ?_
      iterate 3
        rw [rounds_succ]
        go_wp2
      go_ret
      exact ⟨rfl, rfl⟩
    · have hy' : (y != 0) = true := by simpa using hy
      go_enter Try.func56, Try.ntmps56
      go_wp2
      refine wp_loop_rounds 2 ?_
      iterate 2
        rw [rounds_succ]
        go_wp2
      go_ret
      exact ⟨rfl, rfl⟩
  · have hx' : (x != 0) = true := by simpa using hx
    rw [if_neg hx]
    clear hx
    go_enter Try.func56, Try.ntmps56
    go_wp2
    refine wp_loop_rounds 1 ?_
    rw [rounds_succ]
    go_wp2
    go_ret
    exact ⟨rfl, rfl⟩

theorem cfH_or (x y : H1) : orI (Lib.compareInt x.2.1 y.2.1) (Lib.compareInt x.2.2 y.2.2) = cfH x y := by
  unfold orI cfH Lib.compareInt
  by_cases h1 : x.2.1 < y.2.1
  · simp [h1]
  · by_cases h2 : y.2.1 < x.2.1
    · simp [h1, h2]
    · simp [h1, h2]

set_option maxRecDepth 100000 in
set_option maxHeartbeats 400000 in
theorem order1c (x y : H1) (w : World) :
    Calls Try.prog 55 #[.agg #[.int .i64 x.1, .int .i64 x.2.1, .int .i64 x.2.2], .agg #[.int .i64 y.1, .int .i64 y.2.1, .int .i64 y.2.2]] w fun e w' => e = .returned (.int .i64 (cfH x y)) ∧ Grw w w' := by
  rw [← cfH_or]
  obtain ⟨x1, x2, x3⟩ := x
  obtain ⟨y1, y2, y3⟩ := y
  have k1 := compare_int64 x2 y2
  have k2 := compare_int64 x3 y3
  dsimp only
  generalize Lib.compareInt x2 y2 = r1 at k1 ⊢
  generalize Lib.compareInt x3 y3 = r2 at k2 ⊢
  have k3 := or_two r1 r2
  generalize orI r1 r2 = r at k3 ⊢
  go_enter Try.func55, Try.ntmps55
  go_wp2
  refine region_still_tail 10 (by kernel_rfl) (by kernel_rfl) ?_
  simp only [List.take_succ_cons, List.take_zero, List.drop_succ_cons, List.drop_zero]
  iterate 4 still_step
  still_call (k1 _)
  iterate 4 still_step
  still_call (k2 _)
  refine wpStill_nil ?_
  go_wp2_with (go_at_call 56; refine (k3 _ _ ?c1 ?c2).mono ?_)
  case c1 => simp [go_sem]
  case c2 => simp [go_sem]
  rintro e w' ⟨rfl, rfl⟩
  go_wp2
  go_ret
  exact ⟨rfl, ((((Grw.refl w).alloc _).alloc _).drew).alloc _⟩

theorem swoH : SWO (ltOf cfH) := by
  constructor <;> (intros; simp only [ltOf, decide_eq_true_eq, decide_eq_false_iff_not, cfH_lt] at *; unfold ltH at *; omega)

theorem flatK_H (ts : HL) : flatK rowV 3 ts.toArray = (flatH ts).toArray := by
  apply Array.ext
  · simp [flatH_len]
  · intro t h1 h2
    have ht : t < ts.length * 3 := by simpa using h1
    have hj : t / 3 < ts.length := by omega
    obtain ⟨x, hx⟩ : ∃ x, ts[t / 3]? = some x := ⟨_, List.getElem?_eq_getElem hj⟩
    obtain ⟨f0, f1, f2⟩ := flatH_at hx
    have hx' : ts.toArray[t / 3]! = x := by
      rw [getElem!_pos ts.toArray (t / 3) (by simpa using hj)]
      simpa [List.getElem?_eq_getElem hj] using hx
    rw [← getElem!_pos (flatK rowV 3 ts.toArray) t h1, get_flatK rowV 3 ts.toArray t (by simpa using ht), hx']
    have e : (flatH ts)[t]? = some (flatH ts).toArray[t] := by rw [← List.getElem?_toArray]; exact Array.getElem?_eq_getElem h2
    have h3 : t % 3 = 0 ∨ t % 3 = 1 ∨ t % 3 = 2 := by omega
    rcases h3 with h | h | h
    · rw [show t / 3 * 3 = t by omega, e] at f0
      rw [h]
      exact (Option.some.inj f0).symm
    · rw [show t / 3 * 3 + 1 = t by omega, e] at f1
      rw [h]
      exact (Option.some.inj f1).symm
    · rw [show t / 3 * 3 + 2 = t by omega, e] at f2
      rw [h]
      exact (Option.some.inj f2).symm

section
variable {w : World} {g n : Nat} {os : Array Obj} {cur : Array Value} {e : TypeId}
theorem holds_of_blockV {vs : List Value} (hb : w.heap[g]? = some (.cells cur e (0, 0))) (ht : cur.toList.take vs.length = vs) : Holds id w g 0 vs.toArray := by
  intro j hj
  have hj' : j < vs.length := by simpa using hj
  refine ⟨?_, by simp [World.frozen?, hb]⟩
  have h1 : (cur.toList.take vs.length)[j]? = vs[j]? := by rw [ht]
  rw [List.getElem?_take_of_lt hj'] at h1
  simp only [World.cell?, hb, Nat.zero_add]
  simp only [Option.isSome_none, Bool.false_eq_true, if_false]
  rw [← Array.getElem?_toList, h1]
  simp [hj']
theorem heap_sortedV {fr : Nat × Nat} (d : Array Value) (hb : w.heap[g]? = some (.cells cur e fr)) : (grow (putRow id (Sort.ahead w n) g 0 d) os).heap[g]? = some (.cells (putCells id 0 d cur) e fr) := by
  have hg : g < w.heap.size := (Array.getElem?_eq_some_iff.1 hb).1
  rw [heap_grow_old _ _ (by simpa using hg)]
  simp [putRow, mapBlock, Sort.ahead, Array.getElem?_modify, hb, onCells]
theorem grownBy_sortedV (d : Array Value) : w.grownBy (grow (putRow id (Sort.ahead w n) g 0 d) os) (some g) := by
  refine ⟨rfl, rfl, rfl, by simp, fun k hk hne => ?_⟩
  rw [heap_grow_old _ _ (by simpa using hk)]
  have : g ≠ k := fun e => hne (by rw [e])
  simp [putRow, mapBlock, Sort.ahead, Array.getElem?_modify, this]
theorem take_putCellsV (cur : Array Value) (ts : List Value) (h : ts.length ≤ cur.size) : (putCells id 0 ts.toArray cur).toList.take ts.length = ts := by
  apply List.ext_getElem?
  intro j
  by_cases hj : j < ts.length
  · rw [List.getElem?_take_of_lt hj, Array.getElem?_toList]
    simp [putCells, hj, show j < cur.size by omega]
  · rw [List.getElem?_take_eq_none (by omega), List.getElem?_eq_none (by omega)]
end

def SortPostH (B : Nat) (v : Value) (zs : HL) (w : World) (e : Ending) (w' : World) : Prop :=
  e = .returned (.tuple #[]) ∧ ∃ ts : HL, ts.Perm zs ∧ ts.Pairwise (fun x y => ¬ cfH y x < 0) ∧ w'.ownsRow B 84 3 v zs.length (flatH ts) ∧ Chg v.ownBlock.toList w w'

theorem sortc (B : Nat) (v : Value) (zs : HL) (w : World) (hown : w.ownsRow B 84 3 v zs.length (flatH zs)) (hlen : zs.length < 4611686018427387904) :
    Calls Try.prog 54 #[v, .func (.func 55) #[] #[]] w (SortPostH B v zs w) := by
  rcases hown.2 with ⟨rfl, h0⟩ | ⟨b, cap, cur, rfl, hbase, hb, h1, h2, h3, h4⟩
  · refine (Try.sortK_none none 0 (.func (.func 55) #[] #[]) w).mono ?_
    rintro e w' ⟨rfl, rfl⟩
    have : zs = [] := List.eq_nil_of_length_eq_zero h0
    subst this
    exact ⟨rfl, [], .refl _, .nil, hown, Chg.refl _ _⟩
  · have hsz : zs.toArray.size = zs.length := by simp
    have hH : HoldsK rowV 3 w b 0 zs.toArray := by
      unfold HoldsK
      rw [flatK_H]
      exact holds_of_blockV hb (by rw [flatH_len]; exact h4)
    have eg : ∀ args w, (callFunc 55 args).run Try.prog w = .ok (.enter 55 args) w := enters_of Try.func55 (by kernel_rfl) rfl
    have hc : CmpLays Try.prog 55 #[] rowV 3 cfH b 0 zs.toArray.size w := fun m os dk _ x y =>
      (order1c x y _).mono fun e w' ⟨he, q, os', hw⟩ => ⟨he, q, os', hw⟩
    have hS := Try.sortK 3 (fun w => by kernel_rfl) (fun w => by kernel_rfl) rowV (fun _ => rfl) (fun x v hv => by simp [rowV] at hv; rcases hv with rfl | rfl | rfl <;> rfl) cfH swoH 55 #[] b 0 cap zs.toArray w eg hc hH (lt_of_blk hb) (by rw [hsz]; exact hlen)
    rw [hsz] at hS
    refine hS.mono ?_
    rintro e w' ⟨rfl, d', m, os, hP, hSo, rfl⟩
    have hpl : d'.toList.Perm zs := by
      have := hP.2.2
      rw [Array.extract_eq_self_of_le (by rw [hP.1, hsz]; exact Nat.le_refl _), Array.extract_eq_self_of_le (by simp)] at this
      simpa using this
    have hfl : flatK rowV 3 d' = (flatH d'.toList).toArray := by rw [← flatK_H]
    refine ⟨rfl, d'.toList, hpl, ?_, ?_, ?_⟩
    · rw [List.pairwise_iff_getElem]
      intro i j hi hj hij
      have hj' : j < d'.size := by simpa using hj
      have hi' : i < d'.size := by simpa using hi
      have := hSo i j (Nat.zero_le _) hij (by rw [← hpl.length_eq]; exact hj)
      rw [getElem!_pos d' j hj', getElem!_pos d' i hi'] at this
      simpa [ltOf] using this
    · unfold sortWorldK putRowK
      rw [hfl]
      have hl2 : (flatH d'.toList).length = zs.length * 3 := by rw [flatH_len, hpl.length_eq]
      exact ⟨hl2, .inr ⟨b, cap, _, rfl, hbase, heap_sortedV _ hb, h1, h2, by simp [putCells, h3], by rw [← hl2]; exact take_putCellsV cur _ (by rw [hl2, h3]; omega)⟩⟩
    · unfold sortWorldK putRowK
      exact Chg.of_grown (grownBy_sortedV (n := m) (os := os) _) (fun k hk => by cases hk; simp [Value.ownBlock])

end Go.Proofs.Ytonahpilmchnkaa
