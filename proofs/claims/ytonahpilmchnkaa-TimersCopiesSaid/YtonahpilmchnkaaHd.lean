
/- The wheel as it lies in memory. -/
import Derived.Test.YtonahpilmchnkaaHc
namespace Go.Proofs.Ytonahpilmchnkaa
open Go.RowKit

/-- Its cells: it is there; the rings; the ring of each number; how many were set; how many there are. -/
def wcl (vs W : List Value) (c m : Int) : Array Value := (Value.bool true :: (vs ++ (W ++ [.int .i64 c, .int .i64 m]))).toArray
def wherL (M : HL) : List Value := (List.range 64).map fun (i : Nat) => Value.int .i64 (whereH M i)
theorem wherL_len (M : HL) : (wherL M).length = 64 := by simp [wherL]
theorem wherL_at {M : HL} {i : Nat} (hi : i < 64) : (wherL M)[i]? = some (.int .i64 (whereH M i)) := by
  unfold wherL
  rw [List.getElem?_map, List.getElem?_range hi]
  rfl
theorem wherL_set {M M' : HL} {i : Nat} {x : Int} (h1 : whereH M' i = x) (h2 : ∀ j : Nat, j ≠ i → whereH M' j = whereH M j) : (wherL M).set i (.int .i64 x) = wherL M' := by
  apply List.ext_getElem?
  intro j
  by_cases hj : j < 64
  · rw [wherL_at hj]
    by_cases e : i = j
    · subst e
      rw [List.getElem?_set_self (by rw [wherL_len]; exact hj), h1]
    · rw [List.getElem?_set_ne e, wherL_at hj, h2 j (fun e2 => e e2.symm)]
  · rw [List.getElem?_eq_none (by rw [List.length_set, wherL_len]; omega), List.getElem?_eq_none (by rw [wherL_len]; omega)]
theorem wcl_ring {vs W : List Value} {c m : Int} {k : Nat} (hv : vs.length = 64) (hk : k < 64) : (wcl vs W c m)[1 + k]? = vs[k]? := by
  unfold wcl
  rw [List.getElem?_toArray, Nat.add_comm, List.getElem?_cons_succ, List.getElem?_append_left (by omega)]
theorem wcl_where {vs W : List Value} {c m : Int} {i : Nat} (hv : vs.length = 64) (hw : W.length = 64) (hi : i < 64) : (wcl vs W c m)[65 + i]? = W[i]? := by
  unfold wcl
  rw [List.getElem?_toArray, show 65 + i = (64 + i) + 1 by omega, List.getElem?_cons_succ, List.getElem?_append_right (by omega), hv, Nat.add_sub_cancel_left, List.getElem?_append_left (by omega)]
theorem wcl_c {vs W : List Value} {c m : Int} (hv : vs.length = 64) (hw : W.length = 64) : (wcl vs W c m)[129]? = some (.int .i64 c) := by
  unfold wcl
  rw [List.getElem?_toArray, show 129 = 128 + 1 from rfl, List.getElem?_cons_succ, List.getElem?_append_right (by omega), hv, List.getElem?_append_right (by omega), hw]
  rfl
theorem wcl_n {vs W : List Value} {c m : Int} (hv : vs.length = 64) (hw : W.length = 64) : (wcl vs W c m)[130]? = some (.int .i64 m) := by
  unfold wcl
  rw [List.getElem?_toArray, show 130 = 129 + 1 from rfl, List.getElem?_cons_succ, List.getElem?_append_right (by omega), hv, List.getElem?_append_right (by omega), hw]
  rfl
theorem wcl_setR {vs W : List Value} {c m : Int} {k : Nat} (hv : vs.length = 64) (hk : k < 64) (v : Value) : (wcl vs W c m).setIfInBounds (1 + k) v = wcl (vs.set k v) W c m := by
  unfold wcl
  rw [List.setIfInBounds_toArray, Nat.add_comm, List.set_cons_succ, List.set_append_left _ _ (by omega)]
theorem wcl_setW {vs W : List Value} {c m : Int} {i : Nat} (hv : vs.length = 64) (hw : W.length = 64) (hi : i < 64) (v : Value) : (wcl vs W c m).setIfInBounds (65 + i) v = wcl vs (W.set i v) c m := by
  unfold wcl
  rw [List.setIfInBounds_toArray, show 65 + i = (64 + i) + 1 by omega, List.set_cons_succ, List.set_append_right _ _ (by omega), hv, Nat.add_sub_cancel_left, List.set_append_left _ _ (by omega)]
theorem wcl_setC {vs W : List Value} {c m : Int} (hv : vs.length = 64) (hw : W.length = 64) (x : Int) : (wcl vs W c m).setIfInBounds 129 (.int .i64 x) = wcl vs W x m := by
  unfold wcl
  rw [List.setIfInBounds_toArray, show 129 = 128 + 1 from rfl, List.set_cons_succ, List.set_append_right _ _ (by omega), hv, List.set_append_right _ _ (by omega), hw]
  rfl
theorem wcl_setN {vs W : List Value} {c m : Int} (hv : vs.length = 64) (hw : W.length = 64) (x : Int) : (wcl vs W c m).setIfInBounds 130 (.int .i64 x) = wcl vs W c x := by
  unfold wcl
  rw [List.setIfInBounds_toArray, show 130 = 129 + 1 from rfl, List.set_cons_succ, List.set_append_right _ _ (by omega), hv, List.set_append_right _ _ (by omega), hw]
  rfl

/-- The wheel at block b, its rings' slices vs. -/
structure HAt (w : World) (b : Nat) (vs : List Value) (s : HS) : Prop where
  head : w.heap[b]? = some (.cells (wcl vs (wherL s.M) s.c s.M.length) 82 (0, 0))
  len : vs.length = 64
  own : ∀ (k : Nat) v, vs[k]? = some v → w.ownsRow 0 84 3 v (ringH s.M k).length (flatH (ringH s.M k))
  sep : ∀ (j k : Nat) u v, vs[j]? = some u → vs[k]? = some v → j ≠ k → ∀ x ∈ u.ownBlock.toList, x ∉ v.ownBlock.toList
  inv : HInv s
def blocksH (b : Nat) (vs : List Value) : List Nat := b :: vs.flatMap (fun v => v.ownBlock.toList)
theorem mem_blocks {b x : Nat} {vs : List Value} : x ∈ blocksH b vs ↔ x = b ∨ ∃ (k : Nat) (v : Value), vs[k]? = some v ∧ x ∈ v.ownBlock.toList := by
  unfold blocksH
  rw [List.mem_cons, List.mem_flatMap]
  constructor
  · rintro (h | ⟨v, hv, hx⟩)
    · exact .inl h
    · obtain ⟨k, hk⟩ := List.getElem?_of_mem hv
      exact .inr ⟨k, v, hk, hx⟩
  · rintro (h | ⟨k, v, hk, hx⟩)
    · exact .inl h
    · exact .inr ⟨v, List.mem_of_getElem? hk, hx⟩
theorem own_cellsH {w : World} {B : Nat} {e : TypeId} {size : Nat} {v : Value} {n : Nat} {xs : List Value} (h : w.ownsRow B e size v n xs) : ∀ k ∈ v.ownBlock.toList, ∃ cs, w.heap[k]? = some (.cells cs e (0, 0)) := by
  intro k hk
  rcases h.2 with ⟨e1, _⟩ | ⟨g, cap, cur, e1, _, e3, _⟩
  · subst e1
    simp [Value.ownBlock] at hk
  · subst e1
    simp [Value.ownBlock] at hk
    subst hk
    exact ⟨cur, e3⟩
theorem HAt.notb {w : World} {b : Nat} {vs : List Value} {s : HS} (h : HAt w b vs s) {k : Nat} {v : Value} (hk : vs[k]? = some v) : b ∉ v.ownBlock.toList := fun hm => by
  obtain ⟨cs, hc⟩ := own_cellsH (h.own k v hk) b hm
  rw [h.head] at hc
  injection hc with hc
  injection hc with _ h2 _
  exact absurd h2 (by decide)
theorem HAt.lt {w : World} {b : Nat} {vs : List Value} {s : HS} (h : HAt w b vs s) : ∀ x ∈ blocksH b vs, x < w.heap.size := by
  intro x hx
  rcases mem_blocks.1 hx with rfl | ⟨k, v, hk, hm⟩
  · exact lt_of_blk h.head
  · obtain ⟨cs, hc⟩ := own_cellsH (h.own k v hk) x hm
    exact lt_of_blk hc
theorem HAt.kept {S : List Nat} {w w' : World} {b : Nat} {vs : List Value} {s : HS} (h : HAt w b vs s) (hC : Chg S w w') (hS : ∀ x ∈ S, x ∉ blocksH b vs) : HAt w' b vs s :=
  ⟨hC.blk h.head (fun hm => hS _ hm (mem_blocks.2 (.inl rfl))), h.len, fun k v hk => own_kept (h.own k v hk) hC (fun x hx hm => hS x hx (mem_blocks.2 (.inr ⟨k, v, hk, hm⟩))), h.sep, h.inv⟩
theorem HAt.calm {w w' : World} {b : Nat} {vs : List Value} {s : HS} (h : HAt w b vs s) (hC : Chg [] w w') : HAt w' b vs s := h.kept hC (by simp)
theorem HAt.c0 {w : World} {b : Nat} {vs : List Value} {s : HS} (h : HAt w b vs s) : w.cell? ⟨b, 0, none⟩ = some (.bool true) := cellB h.head rfl
theorem HAt.cR {w : World} {b : Nat} {vs : List Value} {s : HS} (h : HAt w b vs s) {k : Nat} {v : Value} (hk : vs[k]? = some v) : w.cell? ⟨b, 1 + k, none⟩ = some v :=
  cellB h.head (by rw [wcl_ring h.len (by have := (List.getElem?_eq_some_iff.1 hk).1; have := h.len; omega)]; exact hk)
theorem HAt.cW {w : World} {b : Nat} {vs : List Value} {s : HS} (h : HAt w b vs s) {i : Nat} (hi : i < 64) : w.cell? ⟨b, 65 + i, none⟩ = some (.int .i64 (whereH s.M i)) :=
  cellB h.head (by rw [wcl_where h.len (wherL_len _) hi]; exact wherL_at hi)
theorem HAt.cC {w : World} {b : Nat} {vs : List Value} {s : HS} (h : HAt w b vs s) : w.cell? ⟨b, 129, none⟩ = some (.int .i64 s.c) := cellB h.head (wcl_c h.len (wherL_len _))
theorem HAt.cN {w : World} {b : Nat} {vs : List Value} {s : HS} (h : HAt w b vs s) : w.cell? ⟨b, 130, none⟩ = some (.int .i64 s.M.length) := cellB h.head (wcl_n h.len (wherL_len _))
theorem HAt.cfr {w : World} {b : Nat} {vs : List Value} {s : HS} (h : HAt w b vs s) (i : Nat) : w.frozen? ⟨b, i, none⟩ = false := frozenB h.head i

/-- One ring is another one: the others are as they were. -/
theorem HAt.reput {S : List Nat} {w w' : World} {b : Nat} {vs : List Value} {s s' : HS} (h : HAt w b vs s) (hC : Chg S w w') {k : Nat} {v v' : Value} (hk : vs[k]? = some v)
    (hS : ∀ x ∈ S, x = b ∨ x ∈ v.ownBlock.toList ∨ w.heap.size ≤ x) (hb : w'.heap[b]? = some (.cells (wcl (vs.set k v') (wherL s'.M) s'.c s'.M.length) 82 (0, 0)))
    (hv' : w'.ownsRow 0 84 3 v' (ringH s'.M k).length (flatH (ringH s'.M k))) (hown : ∀ x ∈ v'.ownBlock.toList, x ∈ v.ownBlock.toList ∨ w.heap.size ≤ x)
    (hring : ∀ j : Nat, j ≠ k → ringH s'.M j = ringH s.M j) (hI : HInv s') : HAt w' b (vs.set k v') s' ∧ (∀ x ∈ blocksH b (vs.set k v'), x ∈ blocksH b vs ∨ w.heap.size ≤ x) := by
  have hkl : k < vs.length := (List.getElem?_eq_some_iff.1 hk).1
  have hlt : ∀ (j : Nat) u, vs[j]? = some u → ∀ x ∈ u.ownBlock.toList, x < w.heap.size := fun j u hj x hx => h.lt x (mem_blocks.2 (.inr ⟨j, u, hj, hx⟩))
  have hset : ∀ (j : Nat) u, (vs.set k v')[j]? = some u → (j = k ∧ u = v') ∨ (j ≠ k ∧ vs[j]? = some u) := fun j u hj => by
    by_cases e : k = j
    · subst e
      rw [List.getElem?_set_self hkl] at hj
      exact .inl ⟨rfl, (Option.some.inj hj).symm⟩
    · rw [List.getElem?_set_ne e] at hj
      exact .inr ⟨fun e2 => e e2.symm, hj⟩
  refine ⟨⟨hb, by rw [List.length_set]; exact h.len, ?_, ?_, hI⟩, ?_⟩
  · intro j u hj
    rcases hset j u hj with ⟨rfl, rfl⟩ | ⟨hne, hj⟩
    · exact hv'
    · rw [hring j hne]
      refine own_kept (h.own j u hj) hC (fun x hx hm => ?_)
      rcases hS x hx with rfl | hx | hx
      · exact h.notb hj hm
      · exact h.sep k j v u hk hj (fun e => hne e.symm) x hx hm
      · have := hlt j u hj x hm
        omega
  · intro j1 j2 u1 u2 h1 h2 hne x hx hm
    rcases hset j1 u1 h1 with ⟨e1, e2⟩ | ⟨hn1, g1⟩
    · rcases hset j2 u2 h2 with ⟨e3, e4⟩ | ⟨hn2, g2⟩
      · exact hne (e1.trans e3.symm)
      · rw [e2] at hx
        rcases hown x hx with hx | hx
        · exact h.sep _ _ _ _ hk g2 (fun e => hn2 e.symm) x hx hm
        · have := hlt j2 u2 g2 x hm
          omega
    · rcases hset j2 u2 h2 with ⟨e3, e4⟩ | ⟨hn2, g2⟩
      · rw [e4] at hm
        rcases hown x hm with hm | hm
        · exact h.sep _ _ _ _ g1 hk hn1 x hx hm
        · have := hlt j1 u1 g1 x hx
          omega
      · exact h.sep _ _ _ _ g1 g2 hne x hx hm
  · intro x hx
    rcases mem_blocks.1 hx with rfl | ⟨j, u, hj, hm⟩
    · exact .inl (mem_blocks.2 (.inl rfl))
    · rcases hset j u hj with ⟨rfl, rfl⟩ | ⟨hne, hj⟩
      · rcases hown x hm with hm | hm
        · exact .inl (mem_blocks.2 (.inr ⟨_, v, hk, hm⟩))
        · exact .inr hm
      · exact .inl (mem_blocks.2 (.inr ⟨j, u, hj, hm⟩))

set_option maxRecDepth 100000 in
theorem hisc (b : Nat) (vs : List Value) (s : HS) (w : World) (h : HAt w b vs s) : Calls Try.prog 42 #[.pointer (some ⟨b, 0, none⟩)] w fun e w' => e = .returned (.bool true) ∧ w = w' := by
  have c0 := h.c0
  clear h
  go_enter Try.func42, Try.ntmps42
  go_wp2
  go_ret
  exact ⟨rfl, rfl⟩
set_option maxRecDepth 100000 in
theorem hidc (n : Int) (w : World) : Calls Try.prog 43 #[.int .i64 n] w fun e w' => e = .returned (.bool (decide (okId n))) ∧ w = w' := by
  unfold okId
  by_cases h1 : 0 ≤ n
  · by_cases h2 : n < 64
    · have e : decide (0 ≤ n ∧ n < 64) = true := decide_eq_true ⟨h1, h2⟩
      rw [e]
      clear e
      go_enter Try.func43, Try.ntmps43
      go_wp2
      go_ret
      exact ⟨rfl, rfl⟩
    · have e : decide (0 ≤ n ∧ n < 64) = false := by simp; omega
      rw [e]
      clear e
      go_enter Try.func43, Try.ntmps43
      go_wp2
      go_ret
      exact ⟨rfl, rfl⟩
  · have e : decide (0 ≤ n ∧ n < 64) = false := by simp; omega
    rw [e]
    clear e
    go_enter Try.func43, Try.ntmps43
    go_wp2
    go_ret
    exact ⟨rfl, rfl⟩

end Go.Proofs.Ytonahpilmchnkaa
