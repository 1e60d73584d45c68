
/- Files in memory: how they lie; what always holds. -/
import Derived.Test.YtkkjbnmfjhmobaaDoorFspec
import Derived.Test.YtkkjbnmfjhmobaaDoorFg
import Derived.Test.YtkkjbnmfjhmobaaDoorSRng
namespace Go.Proofs.YtkkjbnmfjhmobaaDoor
open Go.RowKit

def ndC (x : Nd) (m : Nat) (v : Value) : Nat → Value
  | 0 => .bool x.is
  | 1 => .map (if x.dir.isSome then some m else none)
  | _ => v
def flC (x : Fl) : Nat → Value
  | 0 => .bool x.op
  | 1 => .int .i64 x.node
  | 2 => .int .i64 x.flags
  | _ => .int .i64 x.pos
def cellAt (f : FS) (mb : Nat → Nat) (vs : Nat → Value) (k : Nat) : Value :=
  if k < 192 then ndC (f.nodes.getD (k / 3) nd0) (mb (k / 3)) (vs (k / 3)) (k % 3) else flC (f.files.getD ((k - 192) / 4) fl0) ((k - 192) % 4)
def fsCells (f : FS) (mb : Nat → Nat) (vs : Nat → Value) : Array Value := ((List.range 256).map (cellAt f mb vs)).toArray
theorem fsCells_get (f : FS) (mb : Nat → Nat) (vs : Nat → Value) {k : Nat} (hk : k < 256) : (fsCells f mb vs)[k]? = some (cellAt f mb vs k) := by
  unfold fsCells
  rw [List.getElem?_toArray, List.getElem?_map, List.getElem?_range hk]
  rfl
theorem fsCells_set {f f' : FS} {mb mb' : Nat → Nat} {vs vs' : Nat → Value} {k : Nat} {v : Value} (hv : cellAt f' mb' vs' k = v) (ho : ∀ j, j < 256 → j ≠ k → cellAt f' mb' vs' j = cellAt f mb vs j) : (fsCells f mb vs).setIfInBounds k v = fsCells f' mb' vs' := by
  unfold fsCells
  rw [List.setIfInBounds_toArray]
  congr 1
  refine List.ext_getElem (by simp) fun j h1 h2 => ?_
  simp at h1
  rw [List.getElem_set]
  simp only [List.getElem_map, List.getElem_range]
  split
  · rename_i e; subst e; exact hv.symm
  · rename_i e; exact (ho j h1 (fun h => e h.symm)).symm
theorem fs_node (f : FS) (mb : Nat → Nat) (vs : Nat → Value) {n j : Nat} (hn : n < 64) (hj : j < 3) : (fsCells f mb vs)[n * 3 + j]? = some (ndC (f.nodes.getD n nd0) (mb n) (vs n) j) := by
  rw [fsCells_get f mb vs (by omega)]
  unfold cellAt
  rw [if_pos (by omega), show (n * 3 + j) / 3 = n by omega, show (n * 3 + j) % 3 = j by omega]
theorem fs_file (f : FS) (mb : Nat → Nat) (vs : Nat → Value) {d j : Nat} (hd : d < 16) (hj : j < 4) : (fsCells f mb vs)[192 + (d * 4 + j)]? = some (flC (f.files.getD d fl0) j) := by
  rw [fsCells_get f mb vs (by omega)]
  unfold cellAt
  rw [if_neg (by omega), show (192 + (d * 4 + j) - 192) / 4 = d by omega, show (192 + (d * 4 + j) - 192) % 4 = j by omega]

/-- How many names there are. -/
def FS.names (f : FS) : Nat := (f.nodes.map (fun x => match x.dir with | none => 0 | some m => m.length)).sum
/-- What always holds of the files. -/
structure FInv (f : FS) : Prop where
  ln : f.nodes.length = 64
  lf : f.files.length = 16
  root : (f.nd 0).is = true ∧ (f.nd 0).dir.isSome = true
  free : ∀ x ∈ f.nodes, x.is = false → x = nd0
  tgt : ∀ x ∈ f.nodes, ∀ m, x.dir = some m → (∀ p ∈ m, 0 ≤ p.2 ∧ p.2 < 64 ∧ (f.nd p.2).is = true) ∧ (m.map (·.1)).Nodup
  file : ∀ x ∈ f.files, x.op = true → 0 ≤ x.node ∧ x.node < 64 ∧ (f.nd x.node).is = true ∧ 0 ≤ x.flags ∧ x.flags ≤ 63 ∧ 0 ≤ x.pos ∧ x.pos ≤ 4096
  shut : ∀ x ∈ f.files, x.op = false → x = fl0
  bytes : f.bytes ≤ 4096
  byte : ∀ x ∈ f.nodes, ∀ z ∈ x.b, 0 ≤ z ∧ z < 256

def namesV (m : List (ByteArray × Int)) : List (ByteArray × Value) := m.map fun p => (p.1, .int .i64 p.2)
def bytesV (b : List Int) : List Value := b.map (Value.int .u8)
/-- The blocks of the files: its own, its directories' maps, its bytes' rows. -/
def blkF (fb : Nat) (mb : Nat → Nat) (vs : Nat → Value) (f : FS) : List Nat := fb :: (List.range 64).flatMap fun i => (if (f.nodes.getD i nd0).dir.isSome then [mb i] else []) ++ (vs i).ownBlock.toList
/-- The files at block fb: node i's names at block mb i, its bytes the row vs i. -/
structure FAt (w : World) (fb : Nat) (mb : Nat → Nat) (vs : Nat → Value) (f : FS) : Prop where
  head : w.heap[fb]? = some (.cells (fsCells f mb vs) 57 (0, 0))
  row : ∀ i, i < 64 → w.ownsRow 0 5 1 (vs i) (f.nodes.getD i nd0).b.length (bytesV (f.nodes.getD i nd0).b)
  mp : ∀ i, i < 64 → ∀ m, (f.nodes.getD i nd0).dir = some m → SMapP w (mb i) (namesV m)
  rows : ∀ i j, i < 64 → j < 64 → i ≠ j → ∀ k ∈ (vs i).ownBlock.toList, k ∉ (vs j).ownBlock.toList
  maps : ∀ i j, i < 64 → j < 64 → i ≠ j → (f.nodes.getD i nd0).dir.isSome = true → (f.nodes.getD j nd0).dir.isSome = true → mb i ≠ mb j
  inv : FInv f
theorem mem_blkF {fb : Nat} {mb : Nat → Nat} {vs : Nat → Value} {f : FS} {k : Nat} : k ∈ blkF fb mb vs f ↔ k = fb ∨ ∃ i, i < 64 ∧ (((f.nodes.getD i nd0).dir.isSome = true ∧ k = mb i) ∨ k ∈ (vs i).ownBlock.toList) := by
  unfold blkF
  simp only [List.mem_cons, List.mem_flatMap, List.mem_range, List.mem_append]
  constructor
  · rintro (h | ⟨i, hi, h | h⟩)
    · exact .inl h
    · split at h
      · rename_i hs; exact .inr ⟨i, hi, .inl ⟨hs, by simpa using h⟩⟩
      · cases h
    · exact .inr ⟨i, hi, .inr h⟩
  · rintro (h | ⟨i, hi, ⟨hs, h⟩ | h⟩)
    · exact .inl h
    · exact .inr ⟨i, hi, .inl (by rw [if_pos hs, h]; simp)⟩
    · exact .inr ⟨i, hi, .inr h⟩
section
variable {S : List Nat} {w w' : World} {fb : Nat} {mb : Nat → Nat} {vs : Nat → Value} {f : FS}
theorem FAt.kept (h : FAt w fb mb vs f) (hC : Chg S w w') (hS : ∀ k ∈ S, k ∉ blkF fb mb vs f) : FAt w' fb mb vs f :=
  ⟨hC.blk h.head (fun hm => hS _ hm (mem_blkF.2 (.inl rfl))), fun i hi => own_kept (h.row i hi) hC (fun k hk hm => hS k hk (mem_blkF.2 (.inr ⟨i, hi, .inr hm⟩))),
    fun i hi m hm => (h.mp i hi m hm).kept hC (fun hk => hS _ hk (mem_blkF.2 (.inr ⟨i, hi, .inl ⟨by rw [hm]; rfl, rfl⟩⟩))), h.rows, h.maps, h.inv⟩
theorem FAt.calm (h : FAt w fb mb vs f) (hC : Chg [] w w') : FAt w' fb mb vs f := h.kept hC (by simp)
theorem FAt.lt (h : FAt w fb mb vs f) : ∀ k ∈ blkF fb mb vs f, k < w.heap.size := by
  intro k hk
  rcases mem_blkF.1 hk with rfl | ⟨i, hi, ⟨hs, rfl⟩ | hm⟩
  · exact lt_of_blk h.head
  · obtain ⟨m, hm⟩ := Option.isSome_iff_exists.1 hs
    exact (h.mp i hi m hm).lt
  · obtain ⟨cs, hcs⟩ := own_cells (h.row i hi) k hm
    exact lt_of_blk hcs
theorem FAt.cN (h : FAt w fb mb vs f) {n : Nat} (hn : n < 64) : w.cell? ⟨fb, n * 3, none⟩ = some (.bool (f.nodes.getD n nd0).is) ∧ w.cell? ⟨fb, n * 3 + 1, none⟩ = some (.map (if (f.nodes.getD n nd0).dir.isSome then some (mb n) else none)) ∧ w.cell? ⟨fb, n * 3 + 2, none⟩ = some (vs n) :=
  ⟨cellB h.head (fs_node f mb vs hn (j := 0) (by omega)), cellB h.head (fs_node f mb vs hn (j := 1) (by omega)), cellB h.head (fs_node f mb vs hn (j := 2) (by omega))⟩
theorem FAt.cF (h : FAt w fb mb vs f) {d : Nat} (hd : d < 16) : w.cell? ⟨fb, 192 + d * 4, none⟩ = some (.bool (f.files.getD d fl0).op) ∧ w.cell? ⟨fb, 192 + d * 4 + 1, none⟩ = some (.int .i64 (f.files.getD d fl0).node) ∧ w.cell? ⟨fb, 192 + d * 4 + 2, none⟩ = some (.int .i64 (f.files.getD d fl0).flags) ∧ w.cell? ⟨fb, 192 + d * 4 + 3, none⟩ = some (.int .i64 (f.files.getD d fl0).pos) :=
  ⟨cellB h.head (fs_file f mb vs hd (j := 0) (by omega)), cellB h.head (fs_file f mb vs hd (j := 1) (by omega)), cellB h.head (fs_file f mb vs hd (j := 2) (by omega)), cellB h.head (fs_file f mb vs hd (j := 3) (by omega))⟩
theorem FAt.frz (h : FAt w fb mb vs f) (i : Nat) : w.frozen? ⟨fb, i, none⟩ = false := frozenB h.head i
end

end Go.Proofs.YtkkjbnmfjhmobaaDoor
