
/- metronomeref09: Copy. -/
import Derived.Test.YtknngbnkcbcanaaGreatRe
namespace Go.Proofs.YtknngbnkcbcanaaGreat
open Go.RowKit

def RCopyP (l : WL) (w : World) (e : Ending) (w' : World) : Prop :=
  ∃ rb, e = .returned (.pointer (some ⟨rb, 0, none⟩)) ∧ w.heap.size ≤ rb ∧ RAt w' rb l ∧ Chg [] w w'

set_option maxRecDepth 100000 in
set_option maxHeartbeats 1000000 in
theorem rcopyc (rb : Nat) (l : WL) (w : World) (h : RAt w rb l) (hl : l.length ≤ 999999) :
    Calls Tryz.prog 43 #[.pointer (some ⟨rb, 0, none⟩)] w (RCopyP l w) := by
  obtain ⟨a, cap, hb, hs⟩ := h.src
  have c0 : w.cell? ⟨rb, 0, none⟩ = some (.slice a l.length cap) := cellB hb (i := 0) rfl
  obtain ⟨v1, w1, hr, ho, hC⟩ := run_fresh hs (by omega)
  obtain ⟨va, vc, rfl⟩ := own_slice ho
  have H1 := Lib.hid (And.intro hr (And.intro ho hC))
  clear h hb hs hr ho hC hl
  generalize hn : l.length = n at *
  have HN := Lib.hid hn
  clear hn
  go_enter Tryz.func43, Tryz.ntmps43
  go_wp2_with (at_builtin; refine wpList_run rfl _ _ 54 54 rfl rfl (.slice none 0 0) (.slice a n cap) (.slice va n vc) rfl rfl w1 H1.out.1 ?_)
  go_ret
  have hA : Chg [] w1 (w1.alloc (.cells #[.slice va n vc] 56)) := (Chg.refl _ _).alloc _
  refine ⟨w1.heap.size, rfl, H1.out.2.2.size, ⟨.slice va n vc, heap_alloc_eq w1 _, ?_⟩, H1.out.2.2.trans hA⟩
  rw [HN.out]
  exact own_mono (own_kept H1.out.2.1 hA (by simp)) (Nat.zero_le _)

end Go.Proofs.YtknngbnkcbcanaaGreat
