
/- Package ramfs: Seek: contract. -/
import Derived.Test.YtkkjbnmfjhmobaaDoorFo
namespace Go.Proofs.YtkkjbnmfjhmobaaDoor
open Go.RowKit

theorem ERes.box {w w' : World} {fb : Nat} {mb : Nat → Nat} {vs : Nat → Value} {f : FS} {r : Except Int FS} {c : Int} {k : Nat} {cs : Array Value} {T : TypeId} {fr : Nat × Nat} (h : ERes w w' fb mb vs f r c) (hk : w'.heap[k]? = some (.cells cs T fr)) (h0 : w.heap.size ≤ k) (h1 : T ≠ 57) (h2 : T ≠ 5) (i : Nat) (v : Value) : ERes w (w'.setCell ⟨k, i, none⟩ v) fb mb vs f r c := by
  unfold ERes at *
  have hC : Chg [k] w' (w'.setCell ⟨k, i, none⟩ v) := (Chg.refl _ _).setCell _ _ (.inl (by simp))
  cases r with
  | ok f' =>
    obtain ⟨hc, mb', vs', hs⟩ := h
    exact ⟨hc, mb', vs', hs.calmNew hC h0 (hs.at_.notin hk h1 h2)⟩
  | error e => exact ⟨h.1, h.2.trans' hC (fun j hj => .inr (by simp at hj; omega))⟩
set_option maxRecDepth 100000 in
set_option maxHeartbeats 1000000 in
theorem fseekc (fb : Nat) (mb : Nat → Nat) (vs : Nat → Value) (f : FS) (d by_ fr : Int) (w : World) (h : FAt w fb mb vs f) :
    Calls Tryd.prog 17 #[.pointer (some ⟨fb, 0, none⟩), .int .i64 d, .int .i64 by_, .int .i64 fr] w fun e w' => ∃ c, e = .returned (.tuple #[.int .i64 (resV (f.seekE d by_ fr)), .int .i64 c]) ∧ ERes w w' fb mb vs f (resF (f.seekE d by_ fr)) c := by
  obtain ⟨w0, hw0⟩ : ∃ w0, w0 = ((((w.alloc (.cells #[.pointer (some ⟨fb, 0, none⟩)] 25 (0, 0))).alloc (.cells #[.int .i64 d] 3 (0, 0))).alloc (.cells #[.int .i64 by_] 2 (0, 0))).alloc (.cells #[.int .i64 fr] 3 (0, 0))).alloc (.cells #[.int .i64 0] 2 (0, 0)) := ⟨_, rfl⟩
  have hA : w0 = allocs w [.cells #[.pointer (some ⟨fb, 0, none⟩)] 25 (0, 0), .cells #[.int .i64 d] 3 (0, 0), .cells #[.int .i64 by_] 2 (0, 0), .cells #[.int .i64 fr] 3 (0, 0), .cells #[.int .i64 0] 2 (0, 0)] := hw0
  have hC0 : Chg [] w w0 := by rw [hA]; exact allocs_chg _ _
  have b0 : w0.heap[w.heap.size]? = some (.cells #[.pointer (some ⟨fb, 0, none⟩)] 25 (0, 0)) := by rw [hA]; exact allocs_get w _ (i := 0) rfl
  have b1 : w0.heap[w.heap.size + 1]? = some (.cells #[.int .i64 d] 3 (0, 0)) := by rw [hA]; exact allocs_get w _ (i := 1) rfl
  have b2 : w0.heap[w.heap.size + 2]? = some (.cells #[.int .i64 by_] 2 (0, 0)) := by rw [hA]; exact allocs_get w _ (i := 2) rfl
  have b3 : w0.heap[w.heap.size + 3]? = some (.cells #[.int .i64 fr] 3 (0, 0)) := by rw [hA]; exact allocs_get w _ (i := 3) rfl
  have b4 : w0.heap[w.heap.size + 4]? = some (.cells #[.int .i64 0] 2 (0, 0)) := by rw [hA]; exact allocs_get w _ (i := 4) rfl
  have hsz := lt_of_blk b4
  have hc := (Chg.refl [] w0).alloc (.cells #[.int .i64 0] 30 (0, 0))
  have HF := Lib.hid (facer2 fb mb vs f [w.heap.size + 4] 42 #[.pointer (some ⟨w.heap.size, 0, none⟩), .pointer (some ⟨w.heap.size + 1, 0, none⟩), .pointer (some ⟨w.heap.size + 3, 0, none⟩), .pointer (some ⟨w.heap.size + 2, 0, none⟩), .pointer (some ⟨w.heap.size + 4, 0, none⟩)] w w0 hC0 h (fun args w => by kernel_rfl) _ _ (fun k hk => by rw [List.mem_singleton] at hk; omega)
    (fseek1c fb mb vs f w.heap.size (w.heap.size + 1) (w.heap.size + 3) (w.heap.size + 2) (w.heap.size + 4) d by_ fr w _ (hC0.trans hc) h (cellB (hc.blk b0 List.not_mem_nil) (i := 0) rfl) (cellB (hc.blk b1 List.not_mem_nil) (i := 0) rfl) (cellB (hc.blk b3 List.not_mem_nil) (i := 0) rfl) (cellB (hc.blk b2 List.not_mem_nil) (i := 0) rfl) (hc.blk b4 List.not_mem_nil) (by omega)))
  have HZ := Lib.hid hsz
  clear h hC0 b0 b1 b2 b3 b4 hc hA hsz
  go_enter Tryd.func17, Tryd.ntmps17
  go_wp2_with (go_at_call 22; rw [← hw0]; refine HF.out.mono ?_; rintro e w' ⟨c, W', rfl, hr, hx, hk⟩; have hb := hk.blk hx (by have := HZ.out; simp; omega); have HR := Lib.hid (And.intro hr hb); have c4 := cellB hb (i := 0) rfl; have z4 := frozenB hb 0; clear hr hx hk hb hw0)
  have c5 := cellB (blk_setCell HR.out.2 (i := 0) (.int .i64 (resV (f.seekE d by_ fr)))) (i := 0) (v := .int .i64 (resV (f.seekE d by_ fr))) rfl
  refine bodyPost_ret (v := .tuple #[.int .i64 (resV (f.seekE d by_ fr)), .int .i64 c]) ?_ rfl ⟨c, rfl, HR.out.1.box HR.out.2 (by omega) (by decide) (by decide) 0 _⟩
  simp [results, Tryd.results17, go_sem, c5]

end Go.Proofs.YtkkjbnmfjhmobaaDoor
