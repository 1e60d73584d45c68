
/- Package mutex: Copy, Same: contracts (written by wip/samem.py). -/
import Derived.Test.YtagnobmdcchcaaaMe
import Derived.Test.YtagnobmdcchcaaaMf
import Derived.Deep.RegionHeld3
namespace Go.Proofs.Ytagnobmdcchcaaa
open Go.RowKit

def MCopyP (N : Int) (s : MS) (w : World) (e : Ending) (w' : World) : Prop := ∃ c2 a2 m2, e = .returned (.pointer (some ⟨c2, 0, none⟩)) ∧ (w.heap.size ≤ c2 ∧ w.heap.size ≤ a2 ∧ w.heap.size ≤ m2) ∧ MAt w' c2 a2 m2 N s ∧ Chg [] w w'

set_option maxRecDepth 100000 in
set_option maxHeartbeats 2000000 in
theorem mcopyc (cb ab mb : Nat) (N : Int) (s : MS) (w : World) (h : MAt w cb ab mb N s) :
    Calls Try.prog 24 #[.pointer (some ⟨cb, 0, none⟩)] w (MCopyP N s w) := by
  have c0 := cellB h.head (i := 0) (v := .int .i64 s.k) rfl
  have c1 := cellB h.head (i := 1) (v := .int .i64 s.p) rfl
  have c2 := cellB h.head (i := 2) (v := .int .i64 s.c) rfl
  have c3 := cellB h.head (i := 3) (v := .bool s.rob) rfl
  have c4 := cellB h.head (i := 4) (v := .int .i64 s.own) rfl
  have c5 := cellB h.head (i := 5) (v := .int .i64 s.cnt) rfl
  have c6 := cellB h.head (i := 6) (v := .int .i64 s.st) rfl
  have c7 := cellB h.head (i := 7) (v := .pointer (some ⟨ab, 0, none⟩)) rfl
  have hlt := h.lt.1
  have HI := Lib.hid (misc cb ab mb N s w h)
  have hC0 : Chg [] w (w.alloc (.cells (mcells ab s) 71)) := (Chg.refl _ _).alloc _
  have HC := Lib.hid (And.intro (copyc ab mb N s.L _ (h.list.kept hC0 (by simp) (by simp))) (And.intro hC0 (heap_alloc_eq w (.cells (mcells ab s) 71))))
  clear h hC0
  go_enter Try.func24, Try.ntmps24
  go_wp2_with (go_at_call 36; refine HI.out.mono ?_; rintro e w' ⟨rfl, rfl⟩)
  refine HC.out.1.mono ?_
  rintro e w2 ⟨a1, m1, rfl, ha1, hm1, hW2, hC2⟩
  have hb2 := hC2.blk HC.out.2.2 (by simp)
  have d7 := cellB hb2 (i := 7) (v := .pointer (some ⟨ab, 0, none⟩)) rfl
  have f7 := frozenB hb2 7
  have hne := hW2.ne_of hb2 (by decide)
  have hsz : w.heap.size ≤ (w.alloc (.cells (mcells ab s) 71)).heap.size := HC.out.2.1.size
  have hS : Chg [w.heap.size] w2 (w2.setCell ⟨w.heap.size, 7, none⟩ (.pointer (some ⟨a1, 0, none⟩))) := (Chg.refl _ _).setCell _ _ (by simp)
  have H2 := Lib.hid (show MAt (w2.setCell ⟨w.heap.size, 7, none⟩ (.pointer (some ⟨a1, 0, none⟩))) w.heap.size a1 m1 N s ∧ Chg [] w (w2.setCell ⟨w.heap.size, 7, none⟩ (.pointer (some ⟨a1, 0, none⟩))) ∧ w.heap.size ≤ a1 ∧ w.heap.size ≤ m1 from
    ⟨⟨blk_setCell hb2 _, hW2.kept hS (by simp; omega) (by simp; omega)⟩, (HC.out.2.1.trans hC2).setCell _ _ (.inr (Nat.le_refl _)), by omega, by omega⟩)
  clear hW2 hC2 hb2 ha1 hm1 hne hS
  go_wp2
  go_ret
  exact ⟨_, a1, m1, rfl, ⟨Nat.le_refl _, H2.out.2.2.1, H2.out.2.2.2⟩, H2.out.1, H2.out.2.1⟩

theorem cell_calm15 {w w' : World} {p : Addr} {v : Value} (hC : Chg [] w w') (h : w.cell? p = some v) : w'.cell? p = some v := (World.cell?_of_block (hC.block p.block (World.block_lt_of_cell? _ _ h) (by simp))).trans h
/-- Two that are of a kind: are they the same? -/
def MS.eqv (s t : MS) : Bool := (s.c == t.c) && (s.own == t.own) && (s.cnt == t.cnt) && (s.st == t.st) && decide (s.L = t.L)


end Go.Proofs.Ytagnobmdcchcaaa
