
/- Package ramfs: Write: contract. -/
import Derived.Test.YtkkjbnmfjhmobaaDoorFaf
namespace Go.Proofs.YtkkjbnmfjhmobaaDoor
open Go.RowKit

set_option maxRecDepth 100000 in
set_option maxHeartbeats 1000000 in
theorem fwritec (fb : Nat) (mb : Nat → Nat) (vs : Nat → Value) (f : FS) (d : Int) (sa : Option Addr) (sc : Nat) (data : List Int) (w : World) (h : FAt w fb mb vs f) (hdat : BytesE w (.slice sa data.length sc) data) (hdz : ∀ z ∈ data, 0 ≤ z ∧ z < 256) (hdl : data.length ≤ 9000) (hdk : data ≠ [] → ∀ k ∈ (Value.slice sa data.length sc).ownBlock.toList, k ∉ blkF fb mb vs f) :
    Calls Tryd.prog 9 #[.pointer (some ⟨fb, 0, none⟩), .int .i64 d, .slice sa data.length sc] w fun e w' => ∃ c, e = .returned (.tuple #[.int .i64 (resV (f.writeE d data)), .int .i64 c]) ∧ ERes w w' fb mb vs f (resF (f.writeE d data)) c := by
  obtain ⟨w0, hw0⟩ : ∃ w0, w0 = (((w.alloc (.cells #[.pointer (some ⟨fb, 0, none⟩)] 25 (0, 0))).alloc (.cells #[.int .i64 d] 3 (0, 0))).alloc (.cells #[.slice sa data.length sc] 23 (0, 0))).alloc (.cells #[.int .i64 0] 3 (0, 0)) := ⟨_, rfl⟩
  have hA : w0 = allocs w [.cells #[.pointer (some ⟨fb, 0, none⟩)] 25 (0, 0), .cells #[.int .i64 d] 3 (0, 0), .cells #[.slice sa data.length sc] 23 (0, 0), .cells #[.int .i64 0] 3 (0, 0)] := hw0
  have hC0 : Chg [] w w0 := by rw [hA]; exact allocs_chg _ _
  have b0 : w0.heap[w.heap.size]? = some (.cells #[.pointer (some ⟨fb, 0, none⟩)] 25 (0, 0)) := by rw [hA]; exact allocs_get w _ (i := 0) rfl
  have b1 : w0.heap[w.heap.size + 1]? = some (.cells #[.int .i64 d] 3 (0, 0)) := by rw [hA]; exact allocs_get w _ (i := 1) rfl
  have b2 : w0.heap[w.heap.size + 2]? = some (.cells #[.slice sa data.length sc] 23 (0, 0)) := by rw [hA]; exact allocs_get w _ (i := 2) rfl
  have b3 : w0.heap[w.heap.size + 3]? = some (.cells #[.int .i64 0] 3 (0, 0)) := by rw [hA]; exact allocs_get w _ (i := 3) rfl
  have hsz := lt_of_blk b3
  have hfb := lt_of_blk h.head
  have hc := (Chg.refl [] w0).alloc (.cells #[.int .i64 0] 30 (0, 0))
  have HF := Lib.hid (facer2 fb mb vs f [w.heap.size + 3] 33 #[.pointer (some ⟨w.heap.size, 0, none⟩), .pointer (some ⟨w.heap.size + 1, 0, none⟩), .pointer (some ⟨w.heap.size + 2, 0, none⟩), .pointer (some ⟨w.heap.size + 3, 0, none⟩)] w w0 hC0 h (fun args w => by kernel_rfl) _ _ (fun k hk => by rw [List.mem_singleton] at hk; omega)
    (fwrite1c fb mb vs f w.heap.size (w.heap.size + 1) (w.heap.size + 2) (w.heap.size + 3) d sa sc data w _ (hC0.trans hc) h (cellB (hc.blk b0 List.not_mem_nil) (i := 0) rfl) (cellB (hc.blk b1 List.not_mem_nil) (i := 0) rfl) (cellB (hc.blk b2 List.not_mem_nil) (i := 0) rfl) (hdat.calm (hC0.trans hc)) hdz hdl hdk (hc.blk b3 List.not_mem_nil) (by omega)
      (fun hm => by have := h.lt _ hm; omega)))
  have HZ := Lib.hid hsz
  clear h hdat hdz hdk hC0 b0 b1 b2 b3 hc hA hsz hfb
  generalize f.writeE d data = R at *
  generalize data.length = dl at *
  go_enter Tryd.func9, Tryd.ntmps9
  go_wp2_with fail
  rw [← hw0]
  refine HF.out.mono ?_
  rintro e w' ⟨c, W', rfl, hr, hx, hk⟩
  have hb := hk.blk hx (by have := HZ.out; simp; omega)
  have HR := Lib.hid (And.intro hr hb)
  have c4 := cellB hb (i := 0) rfl
  have z4 := frozenB hb 0
  clear hr hx hk hb hw0
  go_wp2
  have c5 := cellB (blk_setCell HR.out.2 (i := 0) (.int .i64 (resV R))) (i := 0) (v := .int .i64 (resV R)) rfl
  refine bodyPost_ret (v := .tuple #[.int .i64 (resV R), .int .i64 c]) ?_ rfl ⟨c, rfl, HR.out.1.box HR.out.2 (by omega) (by decide) (by decide) 0 _⟩
  simp [results, Tryd.results9, go_sem, c5]

end Go.Proofs.YtkkjbnmfjhmobaaDoor
