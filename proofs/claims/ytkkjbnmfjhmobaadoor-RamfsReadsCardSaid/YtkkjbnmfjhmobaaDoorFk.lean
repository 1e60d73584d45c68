
/- Files in memory: a node's cells and a descriptor's are written; what is then. -/
import Derived.Test.YtkkjbnmfjhmobaaDoorFj
namespace Go.Proofs.YtkkjbnmfjhmobaaDoor
open Go.RowKit

def updN {α : Type} (g : Nat → α) (n : Nat) (x : α) : Nat → α := fun i => if i = n then x else g i
theorem updN_same {α : Type} (g : Nat → α) (n : Nat) (x : α) : updN g n x n = x := by simp [updN]
theorem updN_ne {α : Type} (g : Nat → α) {n i : Nat} (x : α) (h : i ≠ n) : updN g n x i = g i := by simp [updN, h]
theorem getD_set_same {α : Type} (l : List α) (n : Nat) (x d : α) (h : n < l.length) : (l.set n x).getD n d = x := by
  rw [List.getD_eq_getElem?_getD, List.getElem?_set]
  simp [h]
theorem getD_set_ne {α : Type} (l : List α) {n i : Nat} (x d : α) (h : i ≠ n) : (l.set n x).getD i d = l.getD i d := by
  rw [List.getD_eq_getElem?_getD, List.getD_eq_getElem?_getD, List.getElem?_set, if_neg (fun e => h e.symm)]
theorem setN_same {f : FS} (hl : f.nodes.length = 64) {n : Nat} (hn : n < 64) (x : Nd) : (f.setN n x).nodes.getD n nd0 = x := getD_set_same _ _ _ _ (by show ((n : Int)).toNat < _; omega)
theorem setN_ne (f : FS) {n i : Nat} (x : Nd) (h : i ≠ n) : (f.setN n x).nodes.getD i nd0 = f.nodes.getD i nd0 := getD_set_ne _ _ _ h

/-- What lies where a node's cells were written. -/
theorem cellAt_setN {f : FS} (hl : f.nodes.length = 64) {n : Nat} (hn : n < 64) (mb : Nat → Nat) (vs : Nat → Value) (x : Nd) (b : Nat) (v : Value) (j : Nat) :
    cellAt (f.setN n x) (updN mb n b) (updN vs n v) j = if j < 192 ∧ j / 3 = n then ndC x b v (j % 3) else cellAt f mb vs j := by
  unfold cellAt
  by_cases h1 : j < 192
  · rw [if_pos h1]
    by_cases h2 : j / 3 = n
    · rw [if_pos ⟨h1, h2⟩, h2, setN_same hl hn, updN_same, updN_same]
    · rw [if_neg (fun h => h2 h.2), if_pos h1, setN_ne f x h2, updN_ne mb b h2, updN_ne vs v h2]
  · rw [if_neg h1, if_neg (fun h => h1 h.1), if_neg h1]
    rfl
theorem fsCells_size (f : FS) (mb : Nat → Nat) (vs : Nat → Value) : (fsCells f mb vs).size = 256 := by unfold fsCells; simp
theorem cells_ext {f : FS} {mb : Nat → Nat} {vs : Nat → Value} {A : Array Value} (hs : A.size = 256) (h : ∀ j, j < 256 → A[j]? = some (cellAt f mb vs j)) : A = fsCells f mb vs := by
  refine Array.ext_getElem? fun j => ?_
  by_cases hj : j < 256
  · rw [h j hj, fsCells_get f mb vs hj]
  · rw [Array.getElem?_eq_none (by omega), Array.getElem?_eq_none (by rw [fsCells_size]; omega)]
theorem size_setI {A : Array Value} {m : Nat} (h : A.size = m) (i : Nat) (v : Value) : (A.setIfInBounds i v).size = m := by rw [Array.size_setIfInBounds]; exact h
theorem get_setI {A : Array Value} {j m : Nat} (hs : A.size = m) (hj : j < m) (i : Nat) (v : Value) : (A.setIfInBounds i v)[j]? = if i = j then some v else A[j]? := by
  rw [Array.getElem?_setIfInBounds]
  by_cases e : i = j
  · rw [if_pos e, if_pos e, if_pos (by omega)]
  · rw [if_neg e, if_neg e]
/-- The three cells of a node. -/
theorem fsCells_node {f : FS} (hl : f.nodes.length = 64) {n : Nat} (hn : n < 64) (mb : Nat → Nat) (vs : Nat → Value) (x : Nd) (b : Nat) (v : Value) :
    (((fsCells f mb vs).setIfInBounds (n * 3) (ndC x b v 0)).setIfInBounds (n * 3 + 1) (ndC x b v 1)).setIfInBounds (n * 3 + 2) (ndC x b v 2) = fsCells (f.setN n x) (updN mb n b) (updN vs n v) := by
  have s0 := fsCells_size f mb vs
  have s1 := size_setI s0 (n * 3) (ndC x b v 0)
  have s2 := size_setI s1 (n * 3 + 1) (ndC x b v 1)
  have s3 := size_setI s2 (n * 3 + 2) (ndC x b v 2)
  refine cells_ext s3 fun j hj => ?_
  rw [cellAt_setN hl hn, get_setI s2 hj, get_setI s1 hj, get_setI s0 hj, fsCells_get f mb vs hj]
  by_cases h2 : n * 3 + 2 = j
  · rw [if_pos h2, if_pos (by omega), show j % 3 = 2 by omega]
  · rw [if_neg h2]
    by_cases h1 : n * 3 + 1 = j
    · rw [if_pos h1, if_pos (by omega), show j % 3 = 1 by omega]
    · rw [if_neg h1]
      by_cases h0 : n * 3 = j
      · rw [if_pos h0, if_pos (by omega), show j % 3 = 0 by omega]
      · rw [if_neg h0, if_neg (by omega)]
/-- The last of a node's cells: its bytes. -/
theorem fsCells_bytes {f : FS} (hl : f.nodes.length = 64) {n : Nat} (hn : n < 64) (mb : Nat → Nat) (vs : Nat → Value) (l : List Int) (v : Value) :
    (fsCells f mb vs).setIfInBounds (n * 3 + 2) v = fsCells (f.setN n { f.nodes.getD n nd0 with b := l }) (updN mb n (mb n)) (updN vs n v) := by
  have s0 := fsCells_size f mb vs
  refine cells_ext (size_setI s0 _ _) fun j hj => ?_
  rw [cellAt_setN hl hn, get_setI s0 hj, fsCells_get f mb vs hj]
  by_cases h2 : n * 3 + 2 = j
  · rw [if_pos h2, if_pos (by omega), show j % 3 = 2 by omega]
    rfl
  · rw [if_neg h2]
    by_cases hd : j < 192 ∧ j / 3 = n
    · rw [if_pos hd]
      unfold cellAt
      rw [if_pos hd.1, hd.2]
      rcases (show j % 3 = 0 ∨ j % 3 = 1 by omega) with e | e
      · rw [e]; rfl
      · rw [e]; rfl
    · rw [if_neg hd]
theorem setF_same {f : FS} (hl : f.files.length = 16) {n : Nat} (hn : n < 16) (x : Fl) : (f.setF n x).files.getD n fl0 = x := getD_set_same _ _ _ _ (by show ((n : Int)).toNat < _; omega)
theorem setF_ne (f : FS) {n i : Nat} (x : Fl) (h : i ≠ n) : (f.setF n x).files.getD i fl0 = f.files.getD i fl0 := getD_set_ne _ _ _ h
theorem cellAt_setF {f : FS} (hl : f.files.length = 16) {d : Nat} (hd : d < 16) (mb : Nat → Nat) (vs : Nat → Value) (x : Fl) {j : Nat} (_ : j < 256) :
    cellAt (f.setF d x) mb vs j = if 192 ≤ j ∧ (j - 192) / 4 = d then flC x ((j - 192) % 4) else cellAt f mb vs j := by
  unfold cellAt
  by_cases h1 : j < 192
  · rw [if_pos h1, if_neg (by omega), if_pos h1]
    rfl
  · rw [if_neg h1]
    by_cases h2 : (j - 192) / 4 = d
    · rw [if_pos ⟨by omega, h2⟩, h2, setF_same hl hd]
    · rw [if_neg (fun h => h2 h.2), if_neg h1, setF_ne f x h2]
/-- The four cells of a descriptor. -/
theorem fsCells_file {f : FS} (hl : f.files.length = 16) {d : Nat} (hd : d < 16) (mb : Nat → Nat) (vs : Nat → Value) (x : Fl) :
    ((((fsCells f mb vs).setIfInBounds (192 + d * 4) (flC x 0)).setIfInBounds (192 + d * 4 + 1) (flC x 1)).setIfInBounds (192 + d * 4 + 2) (flC x 2)).setIfInBounds (192 + d * 4 + 3) (flC x 3) = fsCells (f.setF d x) mb vs := by
  have s0 := fsCells_size f mb vs
  have s1 := size_setI s0 (192 + d * 4) (flC x 0)
  have s2 := size_setI s1 (192 + d * 4 + 1) (flC x 1)
  have s3 := size_setI s2 (192 + d * 4 + 2) (flC x 2)
  have s4 := size_setI s3 (192 + d * 4 + 3) (flC x 3)
  refine cells_ext s4 fun j hj => ?_
  rw [cellAt_setF hl hd mb vs x hj, get_setI s3 hj, get_setI s2 hj, get_setI s1 hj, get_setI s0 hj, fsCells_get f mb vs hj]
  by_cases h3 : 192 + d * 4 + 3 = j
  · rw [if_pos h3, if_pos (by omega), show (j - 192) % 4 = 3 by omega]
  · rw [if_neg h3]
    by_cases h2 : 192 + d * 4 + 2 = j
    · rw [if_pos h2, if_pos (by omega), show (j - 192) % 4 = 2 by omega]
    · rw [if_neg h2]
      by_cases h1 : 192 + d * 4 + 1 = j
      · rw [if_pos h1, if_pos (by omega), show (j - 192) % 4 = 1 by omega]
      · rw [if_neg h1]
        by_cases h0 : 192 + d * 4 = j
        · rw [if_pos h0, if_pos (by omega), show (j - 192) % 4 = 0 by omega]
        · rw [if_neg h0, if_neg (by omega)]
/-- The last of a descriptor's cells: its position. -/
theorem fsCells_pos {f : FS} (hl : f.files.length = 16) {d : Nat} (hd : d < 16) (mb : Nat → Nat) (vs : Nat → Value) (p : Int) :
    (fsCells f mb vs).setIfInBounds (192 + d * 4 + 3) (.int .i64 p) = fsCells (f.setF d { f.files.getD d fl0 with pos := p }) mb vs := by
  have s0 := fsCells_size f mb vs
  refine cells_ext (size_setI s0 _ _) fun j hj => ?_
  rw [cellAt_setF hl hd mb vs _ hj, get_setI s0 hj, fsCells_get f mb vs hj]
  by_cases h2 : 192 + d * 4 + 3 = j
  · rw [if_pos h2, if_pos (by omega), show (j - 192) % 4 = 3 by omega]
    rfl
  · rw [if_neg h2]
    by_cases hx : 192 ≤ j ∧ (j - 192) / 4 = d
    · rw [if_pos hx]
      unfold cellAt
      rw [if_neg (by omega), hx.2]
      rcases (show (j - 192) % 4 = 0 ∨ (j - 192) % 4 = 1 ∨ (j - 192) % 4 = 2 by omega) with e | e | e
      · rw [e]; rfl
      · rw [e]; rfl
      · rw [e]; rfl
    · rw [if_neg hx]

section
variable {S : List Nat} {w w' : World} {fb : Nat} {mb : Nat → Nat} {vs : Nat → Value} {f : FS}
/-- The blocks of one node. -/
def ownN (mb : Nat → Nat) (vs : Nat → Value) (f : FS) (n : Nat) : List Nat := (if (f.nodes.getD n nd0).dir.isSome then [mb n] else []) ++ (vs n).ownBlock.toList
theorem ownN_blk {n : Nat} (hn : n < 64) : ∀ k ∈ ownN mb vs f n, k ∈ blkF fb mb vs f := by
  intro k hk
  unfold ownN at hk
  rw [List.mem_append] at hk
  rcases hk with h | h
  · split at h
    · rename_i hs; exact mem_blkF.2 (.inr ⟨n, hn, .inl ⟨hs, by simpa using h⟩⟩)
    · cases h
  · exact mem_blkF.2 (.inr ⟨n, hn, .inr h⟩)
theorem FAt.sep_row (h : FAt w fb mb vs f) {i : Nat} (hi : i < 64) : fb ∉ (vs i).ownBlock.toList := fun hm => by
  obtain ⟨cs, hcs⟩ := own_cells (h.row i hi) fb hm
  exact cells_ne h.head hcs (by decide) rfl
theorem FAt.sep_map (h : FAt w fb mb vs f) {i : Nat} (hi : i < 64) (hs : (f.nodes.getD i nd0).dir.isSome = true) : mb i ≠ fb := by
  obtain ⟨m, hm⟩ := Option.isSome_iff_exists.1 hs
  exact (h.mp i hi m hm).ne h.head
theorem FAt.sep_mr (h : FAt w fb mb vs f) {i j : Nat} (hi : i < 64) (hj : j < 64) (hs : (f.nodes.getD i nd0).dir.isSome = true) : mb i ∉ (vs j).ownBlock.toList := fun hm => by
  obtain ⟨m, hd⟩ := Option.isSome_iff_exists.1 hs
  obtain ⟨cs, hcs⟩ := own_cells (h.row j hj) _ hm
  exact (h.mp i hi m hd).ne hcs rfl
/-- One node's blocks are none of another's. -/
theorem FAt.apart (h : FAt w fb mb vs f) {i n : Nat} (hi : i < 64) (hn : n < 64) (hne : i ≠ n) : ∀ k ∈ ownN mb vs f n, k ∉ (vs i).ownBlock.toList ∧ ((f.nodes.getD i nd0).dir.isSome = true → k ≠ mb i) := by
  intro k hk
  unfold ownN at hk
  rw [List.mem_append] at hk
  rcases hk with hk | hk
  · split at hk
    · rename_i hs
      obtain rfl : k = mb n := by simpa using hk
      exact ⟨h.sep_mr hn hi hs, fun h2 => h.maps n i hn hi (Ne.symm hne) hs h2⟩
    · cases hk
  · exact ⟨h.rows n i hn hi (Ne.symm hne) k hk, fun h2 e => h.sep_mr hi hn h2 (e ▸ hk)⟩

/-- The files go from f to f'. -/
structure FStep (w w' : World) (fb : Nat) (mb : Nat → Nat) (vs : Nat → Value) (f : FS) (mb' : Nat → Nat) (vs' : Nat → Value) (f' : FS) : Prop where
  at_ : FAt w' fb mb' vs' f'
  chg : Chg (blkF fb mb vs f) w w'
  blk : ∀ k ∈ blkF fb mb' vs' f', k ∈ blkF fb mb vs f ∨ w.heap.size ≤ k
theorem FStep.trans {w'' : World} {mb' mb'' : Nat → Nat} {vs' vs'' : Nat → Value} {f' f'' : FS} (a : FStep w w' fb mb vs f mb' vs' f') (b : FStep w' w'' fb mb' vs' f' mb'' vs'' f'') : FStep w w'' fb mb vs f mb'' vs'' f'' :=
  ⟨b.at_, a.chg.trans' b.chg a.blk, fun k hk => (b.blk k hk).elim (a.blk k) (fun h => .inr (Nat.le_trans a.chg.size h))⟩
theorem FAt.step (h : FAt w fb mb vs f) (hC : Chg [] w w') : FStep w w' fb mb vs f mb vs f := ⟨h.calm hC, hC.mono (by simp), fun _ h => .inl h⟩

/-- A node is written. -/
theorem FAt.setNode (h : FAt w fb mb vs f) {n : Nat} (hn : n < 64) {x : Nd} {b : Nat} {v : Value} (hC : Chg S w w') (hS : ∀ k ∈ S, k = fb ∨ k ∈ ownN mb vs f n)
    (hh : w'.heap[fb]? = some (.cells (fsCells (f.setN n x) (updN mb n b) (updN vs n v)) 57 (0, 0))) (hr : w'.ownsRow 0 5 1 v x.b.length (bytesV x.b)) (hm : ∀ m, x.dir = some m → SMapP w' b (namesV m))
    (hv : ∀ k ∈ v.ownBlock.toList, k ∈ (vs n).ownBlock.toList ∨ w.heap.size ≤ k) (hb : x.dir.isSome = true → ((f.nodes.getD n nd0).dir.isSome = true ∧ b = mb n) ∨ w.heap.size ≤ b) (hI : FInv (f.setN n x)) :
    FStep w w' fb mb vs f (updN mb n b) (updN vs n v) (f.setN n x) := by
  have hl := h.inv.ln
  have hlt := h.lt
  have hrow : ∀ i, i < 64 → ∀ k ∈ (vs i).ownBlock.toList, k < w.heap.size := fun i hi k hk => hlt k (mem_blkF.2 (.inr ⟨i, hi, .inr hk⟩))
  have hmap : ∀ i, i < 64 → (f.nodes.getD i nd0).dir.isSome = true → mb i < w.heap.size := fun i hi hs => hlt _ (mem_blkF.2 (.inr ⟨i, hi, .inl ⟨hs, rfl⟩⟩))
  have hSi : ∀ i, i < 64 → i ≠ n → ∀ k ∈ S, k ∉ (vs i).ownBlock.toList ∧ ((f.nodes.getD i nd0).dir.isSome = true → k ≠ mb i) := by
    intro i hi hne k hk
    rcases hS k hk with rfl | h2
    · exact ⟨h.sep_row hi, fun hs e => h.sep_map hi hs e.symm⟩
    · exact h.apart hi hn hne k h2
  refine ⟨⟨hh, ?_, ?_, ?_, ?_, hI⟩, hC.mono (fun k hk => .inl ?_), ?_⟩
  · intro i hi
    by_cases e : i = n
    · subst e; rw [setN_same hl hn, updN_same]; exact hr
    · rw [setN_ne f x e, updN_ne vs v e]
      exact own_kept (h.row i hi) hC (fun k hk => (hSi i hi e k hk).1)
  · intro i hi m hd
    by_cases e : i = n
    · subst e; rw [setN_same hl hn] at hd; rw [updN_same]; exact hm m hd
    · rw [setN_ne f x e] at hd
      rw [updN_ne mb b e]
      exact (h.mp i hi m hd).kept hC (fun hk => (hSi i hi e _ hk).2 (by rw [hd]; rfl) rfl)
  · intro i j hi hj hne k hk
    by_cases e : i = n
    · subst e
      rw [updN_same] at hk
      rw [updN_ne vs v (Ne.symm hne)]
      intro hk2
      rcases hv k hk with h1 | h1
      · exact h.rows i j hi hj hne k h1 hk2
      · have := hrow j hj k hk2; omega
    · rw [updN_ne vs v e] at hk
      by_cases e2 : j = n
      · subst e2
        rw [updN_same]
        intro hk2
        rcases hv k hk2 with h1 | h1
        · exact h.rows i j hi hj hne k hk h1
        · have := hrow i hi k hk; omega
      · rw [updN_ne vs v e2]
        exact h.rows i j hi hj hne k hk
  · intro i j hi hj hne hsi hsj
    by_cases e : i = n
    · subst e
      rw [setN_same hl hn] at hsi
      rw [setN_ne f x (Ne.symm hne)] at hsj
      rw [updN_same, updN_ne mb b (Ne.symm hne)]
      rcases hb hsi with ⟨h1, rfl⟩ | h1
      · exact h.maps i j hi hj hne h1 hsj
      · have := hmap j hj hsj; omega
    · rw [setN_ne f x e] at hsi
      rw [updN_ne mb b e]
      by_cases e2 : j = n
      · subst e2
        rw [setN_same hl hn] at hsj
        rw [updN_same]
        rcases hb hsj with ⟨h1, rfl⟩ | h1
        · exact h.maps i j hi hj hne hsi h1
        · have := hmap i hi hsi; omega
      · rw [setN_ne f x e2] at hsj
        rw [updN_ne mb b e2]
        exact h.maps i j hi hj hne hsi hsj
  · rcases hS k hk with rfl | h2
    · exact mem_blkF.2 (.inl rfl)
    · exact ownN_blk hn k h2
  · intro k hk
    rcases mem_blkF.1 hk with rfl | ⟨i, hi, h1⟩
    · exact .inl (mem_blkF.2 (.inl rfl))
    · by_cases e : i = n
      · subst e
        rw [setN_same hl hn, updN_same, updN_same] at h1
        rcases h1 with ⟨hs, rfl⟩ | h1
        · rcases hb hs with ⟨h2, rfl⟩ | h2
          · exact .inl (mem_blkF.2 (.inr ⟨i, hi, .inl ⟨h2, rfl⟩⟩))
          · exact .inr h2
        · rcases hv k h1 with h2 | h2
          · exact .inl (mem_blkF.2 (.inr ⟨i, hi, .inr h2⟩))
          · exact .inr h2
      · rw [setN_ne f x e, updN_ne mb b e, updN_ne vs v e] at h1
        exact .inl (mem_blkF.2 (.inr ⟨i, hi, h1⟩))
/-- A descriptor is written. -/
theorem FAt.setFile (h : FAt w fb mb vs f) {d : Int} {x : Fl} (hC : Chg [fb] w w') (hh : w'.heap[fb]? = some (.cells (fsCells (f.setF d x) mb vs) 57 (0, 0))) (hI : FInv (f.setF d x)) :
    FStep w w' fb mb vs f mb vs (f.setF d x) := by
  refine ⟨⟨hh, fun i hi => own_kept (h.row i hi) hC ?_, fun i hi m hm => (h.mp i hi m hm).kept hC ?_, h.rows, h.maps, hI⟩, hC.mono (by simp; exact .inl (mem_blkF.2 (.inl rfl))), fun k hk => .inl hk⟩
  · intro k hk; simp at hk; subst hk; exact h.sep_row hi
  · have := h.sep_map hi (show (f.nodes.getD i nd0).dir.isSome = true by rw [show (f.nodes.getD i nd0).dir = some m from hm]; rfl)
    simpa using this
end

end Go.Proofs.YtkkjbnmfjhmobaaDoor
