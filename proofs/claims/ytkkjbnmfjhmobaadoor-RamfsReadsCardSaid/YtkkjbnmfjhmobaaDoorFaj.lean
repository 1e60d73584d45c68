
/- Package ramfs: Rename: contract. -/
import Derived.Test.YtkkjbnmfjhmobaaDoorFai
import Derived.Test.YtkkjbnmfjhmobaaDoorFah
namespace Go.Proofs.YtkkjbnmfjhmobaaDoor
open Go.RowKit

set_option maxRecDepth 100000 in
set_option maxHeartbeats 1000000 in
theorem frenamec (fb : Nat) (mb : Nat → Nat) (vs : Nat → Value) (f : FS) (p q : ByteArray) (w : World) (h : FAt w fb mb vs f) (hL : LibW w) (hN : f.names + 1 < 4611686018427387904) :
    Calls Tryd.prog 12 #[.pointer (some ⟨fb, 0, none⟩), .string p, .string q] w fun e w' => ∃ c, e = .returned (.int .i64 c) ∧ ERes w w' fb mb vs f (onPaths p q f.renameE) c := by
  obtain ⟨w0, hw0⟩ : ∃ w0, w0 = ((w.alloc (.cells #[.pointer (some ⟨fb, 0, none⟩)] 25 (0, 0))).alloc (.cells #[.string p] 9 (0, 0))).alloc (.cells #[.string q] 9 (0, 0)) := ⟨_, rfl⟩
  have hA : w0 = allocs w [.cells #[.pointer (some ⟨fb, 0, none⟩)] 25 (0, 0), .cells #[.string p] 9 (0, 0), .cells #[.string q] 9 (0, 0)] := hw0
  have hC0 : Chg [] w w0 := by rw [hA]; exact allocs_chg _ _
  have b0 : w0.heap[w.heap.size]? = some (.cells #[.pointer (some ⟨fb, 0, none⟩)] 25 (0, 0)) := by rw [hA]; exact allocs_get w _ (i := 0) rfl
  have b1 : w0.heap[w.heap.size + 1]? = some (.cells #[.string p] 9 (0, 0)) := by rw [hA]; exact allocs_get w _ (i := 1) rfl
  have b2 : w0.heap[w.heap.size + 2]? = some (.cells #[.string q] 9 (0, 0)) := by rw [hA]; exact allocs_get w _ (i := 2) rfl
  have hc := (Chg.refl [] w0).alloc (.cells #[.int .i64 0] 30 (0, 0))
  have HF := Lib.hid (facer2 fb mb vs f [] 38 #[.pointer (some ⟨w.heap.size + 1, 0, none⟩), .pointer (some ⟨w.heap.size + 2, 0, none⟩), .pointer (some ⟨w.heap.size, 0, none⟩)] w w0 hC0 h (fun args w => by kernel_rfl) (onPaths p q f.renameE) (fun _ => True) (fun k hk => by cases hk)
    ((frename1c fb mb vs f (w.heap.size + 1) (w.heap.size + 2) w.heap.size p q _ (h.calm (hC0.trans hc)) (hL.calm (hC0.trans hc)) hN (cellB (hc.blk b1 List.not_mem_nil) (i := 0) rfl) (cellB (hc.blk b2 List.not_mem_nil) (i := 0) rfl) (cellB (hc.blk b0 List.not_mem_nil) (i := 0) rfl)
      (fun d hd hs e => by have := h.lt (mb d) (mem_blkF.2 (.inr ⟨d, hd, .inl ⟨hs, rfl⟩⟩)); omega)).mono fun e W' hE => ⟨EDo.of h (hC0.trans hc) hE (fun _ => trivial), hE.x⟩))
  clear h hL hN hC0 b0 b1 b2 hc hA
  go_enter Tryd.func12, Tryd.ntmps12
  go_wp2_with (go_at_call 22; rw [← hw0]; refine HF.out.mono ?_; rintro e w' ⟨c, W', rfl, hr, _, _⟩; have HR := Lib.hid hr; clear hr)
  go_ret
  exact ⟨c, rfl, HR.out⟩

end Go.Proofs.YtkkjbnmfjhmobaaDoor
