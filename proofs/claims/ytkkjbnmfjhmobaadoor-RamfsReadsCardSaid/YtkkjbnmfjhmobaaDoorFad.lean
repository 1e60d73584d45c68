
/- Package ramfs: Open: contract. -/
import Derived.Test.YtkkjbnmfjhmobaaDoorFac
namespace Go.Proofs.YtkkjbnmfjhmobaaDoor
open Go.RowKit

set_option maxRecDepth 100000 in
set_option maxHeartbeats 1000000 in
theorem fopenc (fb : Nat) (mb : Nat → Nat) (vs : Nat → Value) (f : FS) (p : ByteArray) (flags : Int) (w : World) (h : FAt w fb mb vs f) (hL : LibW w) :
    Calls Tryd.prog 8 #[.pointer (some ⟨fb, 0, none⟩), .string p, .int .i64 flags] w fun e w' => ∃ c, e = .returned (.tuple #[.int .i64 (resV (onPath p (f.openE · flags))), .int .i64 c]) ∧ ERes w w' fb mb vs f (resF (onPath p (f.openE · flags))) c := by
  obtain ⟨w0, hw0⟩ : ∃ w0, w0 = (((w.alloc (.cells #[.pointer (some ⟨fb, 0, none⟩)] 25 (0, 0))).alloc (.cells #[.string p] 9 (0, 0))).alloc (.cells #[.int .i64 flags] 3 (0, 0))).alloc (.cells #[.int .i64 0] 3 (0, 0)) := ⟨_, rfl⟩
  have hA : w0 = allocs w [.cells #[.pointer (some ⟨fb, 0, none⟩)] 25 (0, 0), .cells #[.string p] 9 (0, 0), .cells #[.int .i64 flags] 3 (0, 0), .cells #[.int .i64 0] 3 (0, 0)] := hw0
  have hC0 : Chg [] w w0 := by rw [hA]; exact allocs_chg _ _
  have b0 : w0.heap[w.heap.size]? = some (.cells #[.pointer (some ⟨fb, 0, none⟩)] 25 (0, 0)) := by rw [hA]; exact allocs_get w _ (i := 0) rfl
  have b1 : w0.heap[w.heap.size + 1]? = some (.cells #[.string p] 9 (0, 0)) := by rw [hA]; exact allocs_get w _ (i := 1) rfl
  have b2 : w0.heap[w.heap.size + 2]? = some (.cells #[.int .i64 flags] 3 (0, 0)) := by rw [hA]; exact allocs_get w _ (i := 2) rfl
  have b3 : w0.heap[w.heap.size + 3]? = some (.cells #[.int .i64 0] 3 (0, 0)) := by rw [hA]; exact allocs_get w _ (i := 3) rfl
  have hsz := lt_of_blk b3
  have hfb := lt_of_blk h.head
  have hc := (Chg.refl [] w0).alloc (.cells #[.int .i64 0] 30 (0, 0))
  have HF := Lib.hid (facer2 fb mb vs f [w.heap.size + 3] 23 #[.pointer (some ⟨w.heap.size + 1, 0, none⟩), .pointer (some ⟨w.heap.size + 2, 0, none⟩), .pointer (some ⟨w.heap.size, 0, none⟩), .pointer (some ⟨w.heap.size + 3, 0, none⟩)] w w0 hC0 h (fun args w => by kernel_rfl) _ _ (fun k hk => by rw [List.mem_singleton] at hk; omega)
    (fopen1c fb mb vs f (w.heap.size + 1) (w.heap.size + 2) w.heap.size (w.heap.size + 3) p flags w _ (hC0.trans hc) h (hL.calm (hC0.trans hc)) (cellB (hc.blk b1 List.not_mem_nil) (i := 0) rfl) (cellB (hc.blk b2 List.not_mem_nil) (i := 0) rfl) (cellB (hc.blk b0 List.not_mem_nil) (i := 0) rfl) (hc.blk b3 List.not_mem_nil) (by omega) (by omega) (by omega)
      (fun d hd hs hm => by have := h.lt (mb d) (mem_blkF.2 (.inr ⟨d, hd, .inl ⟨hs, rfl⟩⟩)); simp at hm; omega)))
  have HZ := Lib.hid hsz
  clear h hL hC0 b0 b1 b2 b3 hc hA hsz hfb
  generalize onPath p (f.openE · flags) = R at *
  go_enter Tryd.func8, Tryd.ntmps8
  go_wp2_with fail
  rw [← hw0]
  refine HF.out.mono ?_
  rintro e w' ⟨c, W', rfl, hr, hx, hk⟩
  have hb := hk.blk hx (by have := HZ.out; simp; omega)
  have HR := Lib.hid (And.intro hr hb)
  have c4 := cellB hb (i := 0) rfl
  have z4 := frozenB hb 0
  clear hr hx hk hb hw0
  go_wp2
  have c5 := cellB (blk_setCell HR.out.2 (i := 0) (.int .i64 (resV R))) (i := 0) (v := .int .i64 (resV R)) rfl
  refine bodyPost_ret (v := .tuple #[.int .i64 (resV R), .int .i64 c]) ?_ rfl ⟨c, rfl, HR.out.1.box HR.out.2 (by omega) (by decide) (by decide) 0 _⟩
  simp [results, Tryd.results8, go_sem, c5]

end Go.Proofs.YtkkjbnmfjhmobaaDoor
