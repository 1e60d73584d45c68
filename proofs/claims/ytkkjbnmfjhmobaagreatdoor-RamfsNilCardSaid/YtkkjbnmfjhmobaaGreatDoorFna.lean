
/- Package ramfs: each call at files that are not there (written by wip/nil22.py). -/
import Derived.Test.YtkkjbnmfjhmobaaGreatDoorFp
namespace Go.Proofs.YtkkjbnmfjhmobaaGreatDoor
open Go.RowKit

/-- No files: nil, or files whose root is none. -/
def NoF (w : World) (p : Option Addr) : Prop := p = none ∨ ∃ fb A t fr, p = some ⟨fb, 0, none⟩ ∧ w.heap[fb]? = some (.cells A t fr) ∧ A[0]? = some (.bool false)
theorem NoF.calm {w w' : World} {p : Option Addr} (h : NoF w p) (hC : Chg [] w w') : NoF w' p := by
  rcases h with h | ⟨fb, A, t, fr, h, hb, h0⟩
  · exact .inl h
  · exact .inr ⟨fb, A, t, fr, h, hC.blk hb (by simp), h0⟩
set_option maxRecDepth 100000 in
theorem nthere (p : Option Addr) (w : World) (h : NoF w p) : Calls Tryz.prog 26 #[.pointer p] w fun e w' => e = .returned (.bool false) ∧ w = w' := by
  rcases h with rfl | ⟨fb, A, t, fr, rfl, hb, h0⟩
  · go_enter Tryz.func26, Tryz.ntmps26
    go_wp2
    go_ret
    exact ⟨rfl, rfl⟩
  · have c0 := cellB hb (i := 0) h0
    clear hb h0
    go_enter Tryz.func26, Tryz.ntmps26
    go_wp2
    go_ret
    exact ⟨rfl, rfl⟩
set_option maxRecDepth 100000 in
theorem nface (p : Option Addr) (g : Nat) (lb : Array Value) (w : World) (h : NoF w p) : Calls Tryz.prog 30 #[.pointer p, .func (.func g) #[] lb] w fun e w' => e = .returned (.int .i64 22) ∧ Chg [] w w' := by
  have hmf : ∀ (fn : Fn) (first cap : Array Value) (w : World), (Instr.makeFunc fn first cap).run Tryz.prog w = .ok (.func fn first cap) w := fun _ _ _ _ => rfl
  obtain ⟨be, hbe⟩ : ∃ be, be = w.heap.size := ⟨_, rfl⟩
  obtain ⟨w0, hw0⟩ : ∃ w0, w0 = w.alloc (.cells #[.int .i64 0] 37 (0, 0)) := ⟨_, rfl⟩
  have hC : Chg [] w w0 := by rw [hw0]; exact (Chg.refl _ _).alloc _
  have hb0 : w0.heap[be]? = some (.cells #[.int .i64 0] 37 (0, 0)) := by rw [hw0, hbe]; exact heap_alloc_eq _ _
  have HT := Lib.hid (nthere p w0 (h.calm hC))
  have HC := Lib.hid (And.intro hC (And.intro hbe hb0))
  have z0 := frozenB hb0 0
  have c0 := cellB hb0 (i := 0) (v := .int .i64 0) rfl
  clear h hC hb0
  go_enter_defers Tryz.func30, Tryz.ntmps30
  go_upto_region 1 with fail
  rw [← hbe, ← hw0]
  clear hbe hw0
  go_wp2_with (go_at_call 26; refine HT.out.mono ?_; rintro e w' ⟨rfl, rfl⟩)
  have c2 := cellB (blk_setCell HC.out.2.2 (i := 0) (.int .i64 22)) (i := 0) (v := .int .i64 22) rfl
  simp [bodyPostD, Leaves, results, Tryz.results30, go_sem, c2]
  exact HC.out.1.trans' ((Chg.refl [be] w0).setCell _ _ (by simp)) (fun k hk => .inr (by have := HC.out.2.1; simp at hk; omega))

set_option maxRecDepth 100000 in
set_option maxHeartbeats 1000000 in
theorem nOpen (p : Option Addr) (s : ByteArray) (fl : Int) (w : World) (h : NoF w p) : Calls Tryz.prog 8 #[.pointer p, .string s, .int .i64 fl] w fun e w' => e = .returned (.tuple #[.int .i64 0, .int .i64 22]) ∧ Chg [] w w' := by
  have hmf : ∀ (fn : Fn) (first cap : Array Value) (w : World), (Instr.makeFunc fn first cap).run Tryz.prog w = .ok (.func fn first cap) w := fun _ _ _ _ => rfl
  obtain ⟨w0, hw0⟩ : ∃ w0, w0 = (((w.alloc (.cells #[.pointer p] 23 (0, 0))).alloc (.cells #[.string s] 9 (0, 0))).alloc (.cells #[.int .i64 fl] 3 (0, 0))).alloc (.cells #[.int .i64 0] 3 (0, 0)) := ⟨_, rfl⟩
  have hA : w0 = allocs w [.cells #[.pointer p] 23 (0, 0), .cells #[.string s] 9 (0, 0), .cells #[.int .i64 fl] 3 (0, 0), .cells #[.int .i64 0] 3 (0, 0)] := hw0
  have hC0 : Chg [] w w0 := by rw [hA]; exact allocs_chg _ _
  have b0 : w0.heap[w.heap.size]? = some (.cells #[.pointer p] 23 (0, 0)) := by rw [hA]; exact allocs_get w _ (i := 0) rfl
  have b1 : w0.heap[w.heap.size + 3]? = some (.cells #[.int .i64 0] 3 (0, 0)) := by rw [hA]; exact allocs_get w _ (i := 3) rfl
  have HF := Lib.hid (fun g lb => nface p g lb w0 (h.calm hC0))
  have HB := Lib.hid (And.intro hC0 b1)
  clear h hC0 hA b0 b1
  go_enter Tryz.func8, Tryz.ntmps8
  go_wp2_with (go_at_call 30; rw [← hw0]; refine (HF.out _ _).mono ?_; rintro e w' ⟨rfl, hk⟩; have h0 := hk.blk HB.out.2 List.not_mem_nil; have z0 := frozenB h0; have c00 := cellB h0 (i := 0) rfl; have HK := Lib.hid (And.intro hk (h0)); clear hk h0 hw0)
  have q0 := blk_setCell HK.out.2 (i := 0) (.int .i64 0)
  have d0 := cellB q0 (i := 0) (v := .int .i64 0) rfl
  refine bodyPost_ret (v := .tuple #[.int .i64 0, .int .i64 22]) ?_ rfl ⟨rfl, ((HB.out.1.trans HK.out.1).trans' ((Chg.refl [w.heap.size + 3] _).setCell _ _ (.inl (by simp))) (fun k hk => .inr (by simp at hk; omega)))⟩
  simp [results, Tryz.results8, go_sem, d0]
set_option maxRecDepth 100000 in
set_option maxHeartbeats 1000000 in
theorem nRead (p : Option Addr) (d : Int) (n : Int) (w : World) (h : NoF w p) : Calls Tryz.prog 9 #[.pointer p, .int .i64 d, .int .i64 n] w fun e w' => e = .returned (.tuple #[.slice none 0 0, .int .i64 22]) ∧ Chg [] w w' := by
  have hmf : ∀ (fn : Fn) (first cap : Array Value) (w : World), (Instr.makeFunc fn first cap).run Tryz.prog w = .ok (.func fn first cap) w := fun _ _ _ _ => rfl
  obtain ⟨w0, hw0⟩ : ∃ w0, w0 = (((w.alloc (.cells #[.pointer p] 23 (0, 0))).alloc (.cells #[.int .i64 d] 3 (0, 0))).alloc (.cells #[.int .i64 n] 3 (0, 0))).alloc (.cells #[.slice none 0 0] 25 (0, 0)) := ⟨_, rfl⟩
  have hA : w0 = allocs w [.cells #[.pointer p] 23 (0, 0), .cells #[.int .i64 d] 3 (0, 0), .cells #[.int .i64 n] 3 (0, 0), .cells #[.slice none 0 0] 25 (0, 0)] := hw0
  have hC0 : Chg [] w w0 := by rw [hA]; exact allocs_chg _ _
  have b0 : w0.heap[w.heap.size]? = some (.cells #[.pointer p] 23 (0, 0)) := by rw [hA]; exact allocs_get w _ (i := 0) rfl
  have b1 : w0.heap[w.heap.size + 3]? = some (.cells #[.slice none 0 0] 25 (0, 0)) := by rw [hA]; exact allocs_get w _ (i := 3) rfl
  have HF := Lib.hid (fun g lb => nface p g lb w0 (h.calm hC0))
  have HB := Lib.hid (And.intro hC0 b1)
  clear h hC0 hA b0 b1
  go_enter Tryz.func9, Tryz.ntmps9
  go_wp2_with (go_at_call 30; rw [← hw0]; refine (HF.out _ _).mono ?_; rintro e w' ⟨rfl, hk⟩; have h0 := hk.blk HB.out.2 List.not_mem_nil; have z0 := frozenB h0; have c00 := cellB h0 (i := 0) rfl; have HK := Lib.hid (And.intro hk (h0)); clear hk h0 hw0)
  have q0 := blk_setCell HK.out.2 (i := 0) (.slice none 0 0)
  have d0 := cellB q0 (i := 0) (v := .slice none 0 0) rfl
  refine bodyPost_ret (v := .tuple #[.slice none 0 0, .int .i64 22]) ?_ rfl ⟨rfl, ((HB.out.1.trans HK.out.1).trans' ((Chg.refl [w.heap.size + 3] _).setCell _ _ (.inl (by simp))) (fun k hk => .inr (by simp at hk; omega)))⟩
  simp [results, Tryz.results9, go_sem, d0]
set_option maxRecDepth 100000 in
set_option maxHeartbeats 1000000 in
theorem nWrite (p : Option Addr) (d : Int) (w : World) (h : NoF w p) : Calls Tryz.prog 10 #[.pointer p, .int .i64 d, .slice none 0 0] w fun e w' => e = .returned (.tuple #[.int .i64 0, .int .i64 22]) ∧ Chg [] w w' := by
  have hmf : ∀ (fn : Fn) (first cap : Array Value) (w : World), (Instr.makeFunc fn first cap).run Tryz.prog w = .ok (.func fn first cap) w := fun _ _ _ _ => rfl
  obtain ⟨w0, hw0⟩ : ∃ w0, w0 = (((w.alloc (.cells #[.pointer p] 23 (0, 0))).alloc (.cells #[.int .i64 d] 3 (0, 0))).alloc (.cells #[.slice none 0 0] 25 (0, 0))).alloc (.cells #[.int .i64 0] 3 (0, 0)) := ⟨_, rfl⟩
  have hA : w0 = allocs w [.cells #[.pointer p] 23 (0, 0), .cells #[.int .i64 d] 3 (0, 0), .cells #[.slice none 0 0] 25 (0, 0), .cells #[.int .i64 0] 3 (0, 0)] := hw0
  have hC0 : Chg [] w w0 := by rw [hA]; exact allocs_chg _ _
  have b0 : w0.heap[w.heap.size]? = some (.cells #[.pointer p] 23 (0, 0)) := by rw [hA]; exact allocs_get w _ (i := 0) rfl
  have b1 : w0.heap[w.heap.size + 3]? = some (.cells #[.int .i64 0] 3 (0, 0)) := by rw [hA]; exact allocs_get w _ (i := 3) rfl
  have HF := Lib.hid (fun g lb => nface p g lb w0 (h.calm hC0))
  have HB := Lib.hid (And.intro hC0 b1)
  clear h hC0 hA b0 b1
  go_enter Tryz.func10, Tryz.ntmps10
  go_wp2_with (go_at_call 30; rw [← hw0]; refine (HF.out _ _).mono ?_; rintro e w' ⟨rfl, hk⟩; have h0 := hk.blk HB.out.2 List.not_mem_nil; have z0 := frozenB h0; have c00 := cellB h0 (i := 0) rfl; have HK := Lib.hid (And.intro hk (h0)); clear hk h0 hw0)
  have q0 := blk_setCell HK.out.2 (i := 0) (.int .i64 0)
  have d0 := cellB q0 (i := 0) (v := .int .i64 0) rfl
  refine bodyPost_ret (v := .tuple #[.int .i64 0, .int .i64 22]) ?_ rfl ⟨rfl, ((HB.out.1.trans HK.out.1).trans' ((Chg.refl [w.heap.size + 3] _).setCell _ _ (.inl (by simp))) (fun k hk => .inr (by simp at hk; omega)))⟩
  simp [results, Tryz.results10, go_sem, d0]
set_option maxRecDepth 100000 in
set_option maxHeartbeats 1000000 in
theorem nSeek (p : Option Addr) (d : Int) (b : Int) (fr : Int) (w : World) (h : NoF w p) : Calls Tryz.prog 11 #[.pointer p, .int .i64 d, .int .i64 b, .int .i64 fr] w fun e w' => e = .returned (.tuple #[.int .i64 0, .int .i64 22]) ∧ Chg [] w w' := by
  have hmf : ∀ (fn : Fn) (first cap : Array Value) (w : World), (Instr.makeFunc fn first cap).run Tryz.prog w = .ok (.func fn first cap) w := fun _ _ _ _ => rfl
  obtain ⟨w0, hw0⟩ : ∃ w0, w0 = ((((w.alloc (.cells #[.pointer p] 23 (0, 0))).alloc (.cells #[.int .i64 d] 3 (0, 0))).alloc (.cells #[.int .i64 b] 2 (0, 0))).alloc (.cells #[.int .i64 fr] 3 (0, 0))).alloc (.cells #[.int .i64 0] 2 (0, 0)) := ⟨_, rfl⟩
  have hA : w0 = allocs w [.cells #[.pointer p] 23 (0, 0), .cells #[.int .i64 d] 3 (0, 0), .cells #[.int .i64 b] 2 (0, 0), .cells #[.int .i64 fr] 3 (0, 0), .cells #[.int .i64 0] 2 (0, 0)] := hw0
  have hC0 : Chg [] w w0 := by rw [hA]; exact allocs_chg _ _
  have b0 : w0.heap[w.heap.size]? = some (.cells #[.pointer p] 23 (0, 0)) := by rw [hA]; exact allocs_get w _ (i := 0) rfl
  have b1 : w0.heap[w.heap.size + 4]? = some (.cells #[.int .i64 0] 2 (0, 0)) := by rw [hA]; exact allocs_get w _ (i := 4) rfl
  have HF := Lib.hid (fun g lb => nface p g lb w0 (h.calm hC0))
  have HB := Lib.hid (And.intro hC0 b1)
  clear h hC0 hA b0 b1
  go_enter Tryz.func11, Tryz.ntmps11
  go_wp2_with (go_at_call 30; rw [← hw0]; refine (HF.out _ _).mono ?_; rintro e w' ⟨rfl, hk⟩; have h0 := hk.blk HB.out.2 List.not_mem_nil; have z0 := frozenB h0; have c00 := cellB h0 (i := 0) rfl; have HK := Lib.hid (And.intro hk (h0)); clear hk h0 hw0)
  have q0 := blk_setCell HK.out.2 (i := 0) (.int .i64 0)
  have d0 := cellB q0 (i := 0) (v := .int .i64 0) rfl
  refine bodyPost_ret (v := .tuple #[.int .i64 0, .int .i64 22]) ?_ rfl ⟨rfl, ((HB.out.1.trans HK.out.1).trans' ((Chg.refl [w.heap.size + 4] _).setCell _ _ (.inl (by simp))) (fun k hk => .inr (by simp at hk; omega)))⟩
  simp [results, Tryz.results11, go_sem, d0]
set_option maxRecDepth 100000 in
set_option maxHeartbeats 1000000 in
theorem nStat (p : Option Addr) (s : ByteArray) (w : World) (h : NoF w p) : Calls Tryz.prog 12 #[.pointer p, .string s] w fun e w' => e = .returned (.tuple #[.agg #[.int .i64 0, .bool false, .int .i64 0, .int .i64 0], .int .i64 22]) ∧ Chg [] w w' := by
  have hmf : ∀ (fn : Fn) (first cap : Array Value) (w : World), (Instr.makeFunc fn first cap).run Tryz.prog w = .ok (.func fn first cap) w := fun _ _ _ _ => rfl
  obtain ⟨w0, hw0⟩ : ∃ w0, w0 = ((w.alloc (.cells #[.pointer p] 23 (0, 0))).alloc (.cells #[.string s] 9 (0, 0))).alloc (.cells #[.int .i64 0, .bool false, .int .i64 0, .int .i64 0] 46 (0, 0)) := ⟨_, rfl⟩
  have hA : w0 = allocs w [.cells #[.pointer p] 23 (0, 0), .cells #[.string s] 9 (0, 0), .cells #[.int .i64 0, .bool false, .int .i64 0, .int .i64 0] 46 (0, 0)] := hw0
  have hC0 : Chg [] w w0 := by rw [hA]; exact allocs_chg _ _
  have b0 : w0.heap[w.heap.size]? = some (.cells #[.pointer p] 23 (0, 0)) := by rw [hA]; exact allocs_get w _ (i := 0) rfl
  have b1 : w0.heap[w.heap.size + 2]? = some (.cells #[.int .i64 0, .bool false, .int .i64 0, .int .i64 0] 46 (0, 0)) := by rw [hA]; exact allocs_get w _ (i := 2) rfl
  have HF := Lib.hid (fun g lb => nface p g lb w0 (h.calm hC0))
  have HB := Lib.hid (And.intro hC0 b1)
  clear h hC0 hA b0 b1
  go_enter Tryz.func12, Tryz.ntmps12
  go_wp2_with (go_at_call 30; rw [← hw0]; refine (HF.out _ _).mono ?_; rintro e w' ⟨rfl, hk⟩; have h0 := hk.blk HB.out.2 List.not_mem_nil; have z0 := frozenB h0; have c00 := cellB h0 (i := 0) rfl; have c01 := cellB h0 (i := 1) rfl; have c02 := cellB h0 (i := 2) rfl; have c03 := cellB h0 (i := 3) rfl; have HK := Lib.hid (And.intro hk (h0)); clear hk h0 hw0)
  have q0 := blk_setCell HK.out.2 (i := 0) (.int .i64 0)
  have q1 := blk_setCell q0 (i := 1) (.bool false)
  have q2 := blk_setCell q1 (i := 2) (.int .i64 0)
  have q3 := blk_setCell q2 (i := 3) (.int .i64 0)
  have d0 := cellB q3 (i := 0) (v := .int .i64 0) rfl
  have d1 := cellB q3 (i := 1) (v := .bool false) rfl
  have d2 := cellB q3 (i := 2) (v := .int .i64 0) rfl
  have d3 := cellB q3 (i := 3) (v := .int .i64 0) rfl
  refine bodyPost_ret (v := .tuple #[.agg #[.int .i64 0, .bool false, .int .i64 0, .int .i64 0], .int .i64 22]) ?_ rfl ⟨rfl, (((((HB.out.1.trans HK.out.1).trans' ((Chg.refl [w.heap.size + 2] _).setCell _ _ (.inl (by simp))) (fun k hk => .inr (by simp at hk; omega))).trans' ((Chg.refl [w.heap.size + 2] _).setCell _ _ (.inl (by simp))) (fun k hk => .inr (by simp at hk; omega))).trans' ((Chg.refl [w.heap.size + 2] _).setCell _ _ (.inl (by simp))) (fun k hk => .inr (by simp at hk; omega))).trans' ((Chg.refl [w.heap.size + 2] _).setCell _ _ (.inl (by simp))) (fun k hk => .inr (by simp at hk; omega)))⟩
  simp [results, Tryz.results12, go_sem, d0, d1, d2, d3]
set_option maxRecDepth 100000 in
set_option maxHeartbeats 1000000 in
theorem nNames (p : Option Addr) (s : ByteArray) (w : World) (h : NoF w p) : Calls Tryz.prog 13 #[.pointer p, .string s] w fun e w' => e = .returned (.tuple #[.slice none 0 0, .int .i64 22]) ∧ Chg [] w w' := by
  have hmf : ∀ (fn : Fn) (first cap : Array Value) (w : World), (Instr.makeFunc fn first cap).run Tryz.prog w = .ok (.func fn first cap) w := fun _ _ _ _ => rfl
  obtain ⟨w0, hw0⟩ : ∃ w0, w0 = ((w.alloc (.cells #[.pointer p] 23 (0, 0))).alloc (.cells #[.string s] 9 (0, 0))).alloc (.cells #[.slice none 0 0] 49 (0, 0)) := ⟨_, rfl⟩
  have hA : w0 = allocs w [.cells #[.pointer p] 23 (0, 0), .cells #[.string s] 9 (0, 0), .cells #[.slice none 0 0] 49 (0, 0)] := hw0
  have hC0 : Chg [] w w0 := by rw [hA]; exact allocs_chg _ _
  have b0 : w0.heap[w.heap.size]? = some (.cells #[.pointer p] 23 (0, 0)) := by rw [hA]; exact allocs_get w _ (i := 0) rfl
  have b1 : w0.heap[w.heap.size + 2]? = some (.cells #[.slice none 0 0] 49 (0, 0)) := by rw [hA]; exact allocs_get w _ (i := 2) rfl
  have HF := Lib.hid (fun g lb => nface p g lb w0 (h.calm hC0))
  have HB := Lib.hid (And.intro hC0 b1)
  clear h hC0 hA b0 b1
  go_enter Tryz.func13, Tryz.ntmps13
  go_wp2_with (go_at_call 30; rw [← hw0]; refine (HF.out _ _).mono ?_; rintro e w' ⟨rfl, hk⟩; have h0 := hk.blk HB.out.2 List.not_mem_nil; have z0 := frozenB h0; have c00 := cellB h0 (i := 0) rfl; have HK := Lib.hid (And.intro hk (h0)); clear hk h0 hw0)
  have q0 := blk_setCell HK.out.2 (i := 0) (.slice none 0 0)
  have d0 := cellB q0 (i := 0) (v := .slice none 0 0) rfl
  refine bodyPost_ret (v := .tuple #[.slice none 0 0, .int .i64 22]) ?_ rfl ⟨rfl, ((HB.out.1.trans HK.out.1).trans' ((Chg.refl [w.heap.size + 2] _).setCell _ _ (.inl (by simp))) (fun k hk => .inr (by simp at hk; omega)))⟩
  simp [results, Tryz.results13, go_sem, d0]
set_option maxRecDepth 100000 in
set_option maxHeartbeats 1000000 in
theorem nTell (p : Option Addr) (d : Int) (w : World) (h : NoF w p) : Calls Tryz.prog 14 #[.pointer p, .int .i64 d] w fun e w' => e = .returned (.tuple #[.agg #[.int .i64 0, .bool false, .int .i64 0, .int .i64 0], .int .i64 0, .int .i64 22]) ∧ Chg [] w w' := by
  have hmf : ∀ (fn : Fn) (first cap : Array Value) (w : World), (Instr.makeFunc fn first cap).run Tryz.prog w = .ok (.func fn first cap) w := fun _ _ _ _ => rfl
  obtain ⟨w0, hw0⟩ : ∃ w0, w0 = (((w.alloc (.cells #[.pointer p] 23 (0, 0))).alloc (.cells #[.int .i64 d] 3 (0, 0))).alloc (.cells #[.int .i64 0, .bool false, .int .i64 0, .int .i64 0] 46 (0, 0))).alloc (.cells #[.int .i64 0] 2 (0, 0)) := ⟨_, rfl⟩
  have hA : w0 = allocs w [.cells #[.pointer p] 23 (0, 0), .cells #[.int .i64 d] 3 (0, 0), .cells #[.int .i64 0, .bool false, .int .i64 0, .int .i64 0] 46 (0, 0), .cells #[.int .i64 0] 2 (0, 0)] := hw0
  have hC0 : Chg [] w w0 := by rw [hA]; exact allocs_chg _ _
  have b0 : w0.heap[w.heap.size]? = some (.cells #[.pointer p] 23 (0, 0)) := by rw [hA]; exact allocs_get w _ (i := 0) rfl
  have b1 : w0.heap[w.heap.size + 2]? = some (.cells #[.int .i64 0, .bool false, .int .i64 0, .int .i64 0] 46 (0, 0)) := by rw [hA]; exact allocs_get w _ (i := 2) rfl
  have b2 : w0.heap[w.heap.size + 3]? = some (.cells #[.int .i64 0] 2 (0, 0)) := by rw [hA]; exact allocs_get w _ (i := 3) rfl
  have HF := Lib.hid (fun g lb => nface p g lb w0 (h.calm hC0))
  have HB := Lib.hid (And.intro hC0 (And.intro b1 b2))
  clear h hC0 hA b0 b1 b2
  go_enter Tryz.func14, Tryz.ntmps14
  go_wp2_with (go_at_call 30; rw [← hw0]; refine (HF.out _ _).mono ?_; rintro e w' ⟨rfl, hk⟩; have h0 := hk.blk HB.out.2.1 List.not_mem_nil; have z0 := frozenB h0; have c00 := cellB h0 (i := 0) rfl; have c01 := cellB h0 (i := 1) rfl; have c02 := cellB h0 (i := 2) rfl; have c03 := cellB h0 (i := 3) rfl; have h1 := hk.blk HB.out.2.2 List.not_mem_nil; have z1 := frozenB h1; have c10 := cellB h1 (i := 0) rfl; have HK := Lib.hid (And.intro hk (And.intro h0 h1)); clear hk h0 h1 hw0)
  go_region
  go_wp2
  have e0 := blk_setCell HK.out.2.1 (i := 0) (.int .i64 0)
  have e1 := blk_setCell e0 (i := 1) (.bool false)
  have e2 := blk_setCell e1 (i := 2) (.int .i64 0)
  have e3 := blk_setCell e2 (i := 3) (.int .i64 0)
  have e4 := blk_setCell_ne (p := ⟨w.heap.size + 3, 0, none⟩) e3 (by simp) (.int .i64 0)
  have g0 := blk_setCell_ne (p := ⟨w.heap.size + 2, 0, none⟩) HK.out.2.2 (by simp) (.int .i64 0)
  have g1 := blk_setCell_ne (p := ⟨w.heap.size + 2, 1, none⟩) g0 (by simp) (.bool false)
  have g2 := blk_setCell_ne (p := ⟨w.heap.size + 2, 2, none⟩) g1 (by simp) (.int .i64 0)
  have g3 := blk_setCell_ne (p := ⟨w.heap.size + 2, 3, none⟩) g2 (by simp) (.int .i64 0)
  have g4 := blk_setCell g3 (i := 0) (.int .i64 0)
  obtain ⟨W, hW⟩ : ∃ W, W = (((((w'.setCell ⟨w.heap.size + 1 + 1, 0, none⟩ (.int .i64 0)).setCell ⟨w.heap.size + 1 + 1, 1, none⟩ (.bool false)).setCell ⟨w.heap.size + 1 + 1, 2, none⟩ (.int .i64 0)).setCell ⟨w.heap.size + 1 + 1, 3, none⟩ (.int .i64 0)).setCell ⟨w.heap.size + 1 + 1 + 1, 0, none⟩ (.int .i64 0)).drew := ⟨_, rfl⟩
  have hCW : Chg [] w W := by rw [hW]; exact (((((((HB.out.1.trans HK.out.1).trans' ((Chg.refl [w.heap.size + 2] _).setCell _ _ (.inl (by simp))) (fun k hk => .inr (by simp at hk; omega))).trans' ((Chg.refl [w.heap.size + 2] _).setCell _ _ (.inl (by simp))) (fun k hk => .inr (by simp at hk; omega))).trans' ((Chg.refl [w.heap.size + 2] _).setCell _ _ (.inl (by simp))) (fun k hk => .inr (by simp at hk; omega))).trans' ((Chg.refl [w.heap.size + 2] _).setCell _ _ (.inl (by simp))) (fun k hk => .inr (by simp at hk; omega))).trans' ((Chg.refl [w.heap.size + 3] _).setCell _ _ (.inl (by simp))) (fun k hk => .inr (by simp at hk; omega)))).trans ((Chg.refl [] _).drewN 1)
  have d0 : W.cell? ⟨w.heap.size + 1 + 1, 0, none⟩ = some (.int .i64 0) := by rw [hW]; exact cell_chg ((Chg.refl [] _).drewN 1) (by simp) (cellB e4 (i := 0) (v := .int .i64 0) rfl)
  have d1 : W.cell? ⟨w.heap.size + 1 + 1, 1, none⟩ = some (.bool false) := by rw [hW]; exact cell_chg ((Chg.refl [] _).drewN 1) (by simp) (cellB e4 (i := 1) (v := .bool false) rfl)
  have d2 : W.cell? ⟨w.heap.size + 1 + 1, 2, none⟩ = some (.int .i64 0) := by rw [hW]; exact cell_chg ((Chg.refl [] _).drewN 1) (by simp) (cellB e4 (i := 2) (v := .int .i64 0) rfl)
  have d3 : W.cell? ⟨w.heap.size + 1 + 1, 3, none⟩ = some (.int .i64 0) := by rw [hW]; exact cell_chg ((Chg.refl [] _).drewN 1) (by simp) (cellB e4 (i := 3) (v := .int .i64 0) rfl)
  have d4 : W.cell? ⟨w.heap.size + 1 + 1 + 1, 0, none⟩ = some (.int .i64 0) := by rw [hW]; exact cell_chg ((Chg.refl [] _).drewN 1) (by simp) (cellB g4 (i := 0) (v := .int .i64 0) rfl)
  rw [← hW]
  refine bodyPost_ret (v := .tuple #[.agg #[.int .i64 0, .bool false, .int .i64 0, .int .i64 0], .int .i64 0, .int .i64 22]) ?_ rfl ⟨rfl, hCW⟩
  simp [results, Tryz.results14, go_sem, d0, d1, d2, d3, d4]
set_option maxRecDepth 100000 in
set_option maxHeartbeats 1000000 in
theorem nClose (p : Option Addr) (d : Int) (w : World) (h : NoF w p) : Calls Tryz.prog 17 #[.pointer p, .int .i64 d] w fun e w' => e = .returned (.int .i64 22) ∧ Chg [] w w' := by
  have hmf : ∀ (fn : Fn) (first cap : Array Value) (w : World), (Instr.makeFunc fn first cap).run Tryz.prog w = .ok (.func fn first cap) w := fun _ _ _ _ => rfl
  obtain ⟨w0, hw0⟩ : ∃ w0, w0 = (w.alloc (.cells #[.pointer p] 23 (0, 0))).alloc (.cells #[.int .i64 d] 3 (0, 0)) := ⟨_, rfl⟩
  have hA : w0 = allocs w [.cells #[.pointer p] 23 (0, 0), .cells #[.int .i64 d] 3 (0, 0)] := hw0
  have hC0 : Chg [] w w0 := by rw [hA]; exact allocs_chg _ _
  have b0 : w0.heap[w.heap.size]? = some (.cells #[.pointer p] 23 (0, 0)) := by rw [hA]; exact allocs_get w _ (i := 0) rfl
  have HF := Lib.hid (fun g lb => nface p g lb w0 (h.calm hC0))
  have HB := Lib.hid (And.intro hC0 trivial)
  clear h hC0 hA b0 
  go_enter Tryz.func17, Tryz.ntmps17
  go_wp2_with (go_at_call 30; rw [← hw0]; refine (HF.out _ _).mono ?_; rintro e w' ⟨rfl, hk⟩; clear hw0)
  go_ret
  exact ⟨rfl, HB.out.1.trans hk⟩
set_option maxRecDepth 100000 in
set_option maxHeartbeats 1000000 in
theorem nMkdir (p : Option Addr) (s : ByteArray) (w : World) (h : NoF w p) : Calls Tryz.prog 18 #[.pointer p, .string s] w fun e w' => e = .returned (.int .i64 22) ∧ Chg [] w w' := by
  have hmf : ∀ (fn : Fn) (first cap : Array Value) (w : World), (Instr.makeFunc fn first cap).run Tryz.prog w = .ok (.func fn first cap) w := fun _ _ _ _ => rfl
  obtain ⟨w0, hw0⟩ : ∃ w0, w0 = (w.alloc (.cells #[.pointer p] 23 (0, 0))).alloc (.cells #[.string s] 9 (0, 0)) := ⟨_, rfl⟩
  have hA : w0 = allocs w [.cells #[.pointer p] 23 (0, 0), .cells #[.string s] 9 (0, 0)] := hw0
  have hC0 : Chg [] w w0 := by rw [hA]; exact allocs_chg _ _
  have b0 : w0.heap[w.heap.size]? = some (.cells #[.pointer p] 23 (0, 0)) := by rw [hA]; exact allocs_get w _ (i := 0) rfl
  have HF := Lib.hid (fun g lb => nface p g lb w0 (h.calm hC0))
  have HB := Lib.hid (And.intro hC0 trivial)
  clear h hC0 hA b0 
  go_enter Tryz.func18, Tryz.ntmps18
  go_wp2_with (go_at_call 30; rw [← hw0]; refine (HF.out _ _).mono ?_; rintro e w' ⟨rfl, hk⟩; clear hw0)
  go_ret
  exact ⟨rfl, HB.out.1.trans hk⟩
set_option maxRecDepth 100000 in
set_option maxHeartbeats 1000000 in
theorem nRmdir (p : Option Addr) (s : ByteArray) (w : World) (h : NoF w p) : Calls Tryz.prog 19 #[.pointer p, .string s] w fun e w' => e = .returned (.int .i64 22) ∧ Chg [] w w' := by
  have hmf : ∀ (fn : Fn) (first cap : Array Value) (w : World), (Instr.makeFunc fn first cap).run Tryz.prog w = .ok (.func fn first cap) w := fun _ _ _ _ => rfl
  obtain ⟨w0, hw0⟩ : ∃ w0, w0 = (w.alloc (.cells #[.pointer p] 23 (0, 0))).alloc (.cells #[.string s] 9 (0, 0)) := ⟨_, rfl⟩
  have hA : w0 = allocs w [.cells #[.pointer p] 23 (0, 0), .cells #[.string s] 9 (0, 0)] := hw0
  have hC0 : Chg [] w w0 := by rw [hA]; exact allocs_chg _ _
  have b0 : w0.heap[w.heap.size]? = some (.cells #[.pointer p] 23 (0, 0)) := by rw [hA]; exact allocs_get w _ (i := 0) rfl
  have HF := Lib.hid (fun g lb => nface p g lb w0 (h.calm hC0))
  have HB := Lib.hid (And.intro hC0 trivial)
  clear h hC0 hA b0 
  go_enter Tryz.func19, Tryz.ntmps19
  go_wp2_with (go_at_call 30; rw [← hw0]; refine (HF.out _ _).mono ?_; rintro e w' ⟨rfl, hk⟩; clear hw0)
  go_ret
  exact ⟨rfl, HB.out.1.trans hk⟩
set_option maxRecDepth 100000 in
set_option maxHeartbeats 1000000 in
theorem nUnlink (p : Option Addr) (s : ByteArray) (w : World) (h : NoF w p) : Calls Tryz.prog 20 #[.pointer p, .string s] w fun e w' => e = .returned (.int .i64 22) ∧ Chg [] w w' := by
  have hmf : ∀ (fn : Fn) (first cap : Array Value) (w : World), (Instr.makeFunc fn first cap).run Tryz.prog w = .ok (.func fn first cap) w := fun _ _ _ _ => rfl
  obtain ⟨w0, hw0⟩ : ∃ w0, w0 = (w.alloc (.cells #[.pointer p] 23 (0, 0))).alloc (.cells #[.string s] 9 (0, 0)) := ⟨_, rfl⟩
  have hA : w0 = allocs w [.cells #[.pointer p] 23 (0, 0), .cells #[.string s] 9 (0, 0)] := hw0
  have hC0 : Chg [] w w0 := by rw [hA]; exact allocs_chg _ _
  have b0 : w0.heap[w.heap.size]? = some (.cells #[.pointer p] 23 (0, 0)) := by rw [hA]; exact allocs_get w _ (i := 0) rfl
  have HF := Lib.hid (fun g lb => nface p g lb w0 (h.calm hC0))
  have HB := Lib.hid (And.intro hC0 trivial)
  clear h hC0 hA b0 
  go_enter Tryz.func20, Tryz.ntmps20
  go_wp2_with (go_at_call 30; rw [← hw0]; refine (HF.out _ _).mono ?_; rintro e w' ⟨rfl, hk⟩; clear hw0)
  go_ret
  exact ⟨rfl, HB.out.1.trans hk⟩
set_option maxRecDepth 100000 in
set_option maxHeartbeats 1000000 in
theorem nLink (p : Option Addr) (s : ByteArray) (t : ByteArray) (w : World) (h : NoF w p) : Calls Tryz.prog 21 #[.pointer p, .string s, .string t] w fun e w' => e = .returned (.int .i64 22) ∧ Chg [] w w' := by
  have hmf : ∀ (fn : Fn) (first cap : Array Value) (w : World), (Instr.makeFunc fn first cap).run Tryz.prog w = .ok (.func fn first cap) w := fun _ _ _ _ => rfl
  obtain ⟨w0, hw0⟩ : ∃ w0, w0 = ((w.alloc (.cells #[.pointer p] 23 (0, 0))).alloc (.cells #[.string s] 9 (0, 0))).alloc (.cells #[.string t] 9 (0, 0)) := ⟨_, rfl⟩
  have hA : w0 = allocs w [.cells #[.pointer p] 23 (0, 0), .cells #[.string s] 9 (0, 0), .cells #[.string t] 9 (0, 0)] := hw0
  have hC0 : Chg [] w w0 := by rw [hA]; exact allocs_chg _ _
  have b0 : w0.heap[w.heap.size]? = some (.cells #[.pointer p] 23 (0, 0)) := by rw [hA]; exact allocs_get w _ (i := 0) rfl
  have HF := Lib.hid (fun g lb => nface p g lb w0 (h.calm hC0))
  have HB := Lib.hid (And.intro hC0 trivial)
  clear h hC0 hA b0 
  go_enter Tryz.func21, Tryz.ntmps21
  go_wp2_with (go_at_call 30; rw [← hw0]; refine (HF.out _ _).mono ?_; rintro e w' ⟨rfl, hk⟩; clear hw0)
  go_ret
  exact ⟨rfl, HB.out.1.trans hk⟩
set_option maxRecDepth 100000 in
set_option maxHeartbeats 1000000 in
theorem nRename (p : Option Addr) (s : ByteArray) (t : ByteArray) (w : World) (h : NoF w p) : Calls Tryz.prog 22 #[.pointer p, .string s, .string t] w fun e w' => e = .returned (.int .i64 22) ∧ Chg [] w w' := by
  have hmf : ∀ (fn : Fn) (first cap : Array Value) (w : World), (Instr.makeFunc fn first cap).run Tryz.prog w = .ok (.func fn first cap) w := fun _ _ _ _ => rfl
  obtain ⟨w0, hw0⟩ : ∃ w0, w0 = ((w.alloc (.cells #[.pointer p] 23 (0, 0))).alloc (.cells #[.string s] 9 (0, 0))).alloc (.cells #[.string t] 9 (0, 0)) := ⟨_, rfl⟩
  have hA : w0 = allocs w [.cells #[.pointer p] 23 (0, 0), .cells #[.string s] 9 (0, 0), .cells #[.string t] 9 (0, 0)] := hw0
  have hC0 : Chg [] w w0 := by rw [hA]; exact allocs_chg _ _
  have b0 : w0.heap[w.heap.size]? = some (.cells #[.pointer p] 23 (0, 0)) := by rw [hA]; exact allocs_get w _ (i := 0) rfl
  have HF := Lib.hid (fun g lb => nface p g lb w0 (h.calm hC0))
  have HB := Lib.hid (And.intro hC0 trivial)
  clear h hC0 hA b0 
  go_enter Tryz.func22, Tryz.ntmps22
  go_wp2_with (go_at_call 30; rw [← hw0]; refine (HF.out _ _).mono ?_; rintro e w' ⟨rfl, hk⟩; clear hw0)
  go_ret
  exact ⟨rfl, HB.out.1.trans hk⟩
theorem eql_seqF_nil (f : Fn) (a b : Array Value) (w : World) : (binOp .eql 55 (.func f a b) .nilFunc).run Tryz.prog w = .ok (.bool false) w := by kernel_rfl
set_option maxRecDepth 100000 in
theorem nNodes (p : Option Addr) (w : World) (h : NoF w p) : Calls Tryz.prog 23 #[.pointer p] w fun e w' => e = .returned (.int .i64 0) ∧ w = w' := by
  have HT := Lib.hid (nthere p w h)
  clear h
  go_enter Tryz.func23, Tryz.ntmps23
  go_wp2
  go_loopw [3, 4] (fun n i wr => n = .int .i64 0 ∧ i = .int .i64 0 ∧ wr = w) (fun _ _ _ => 0)
  case atStart => exact ⟨rfl, rfl, rfl⟩
  case round =>
    obtain ⟨rfl, rfl, rfl⟩ := hrel
    go_wp2_with (go_at_call 26; refine HT.out.mono ?_; rintro e w' ⟨rfl, rfl⟩)
    go_ret
    exact ⟨rfl, rfl⟩
set_option maxRecDepth 100000 in
theorem nBytes (p : Option Addr) (w : World) (h : NoF w p) : Calls Tryz.prog 24 #[.pointer p] w fun e w' => e = .returned (.int .i64 0) ∧ w = w' := by
  have HT := Lib.hid (nthere p w h)
  clear h
  go_enter Tryz.func24, Tryz.ntmps24
  go_wp2
  go_loopw [3, 4] (fun n i wr => n = .int .i64 0 ∧ i = .int .i64 0 ∧ wr = w) (fun _ _ _ => 0)
  case atStart => exact ⟨rfl, rfl, rfl⟩
  case round =>
    obtain ⟨rfl, rfl, rfl⟩ := hrel
    go_wp2_with (go_at_call 26; refine HT.out.mono ?_; rintro e w' ⟨rfl, rfl⟩)
    go_ret
    exact ⟨rfl, rfl⟩
set_option maxRecDepth 100000 in
theorem nCopy (p : Option Addr) (w : World) (h : NoF w p) : Calls Tryz.prog 25 #[.pointer p] w fun e w' => e = .returned (.pointer none) ∧ w = w' := by
  have HT := Lib.hid (nthere p w h)
  clear h
  go_enter Tryz.func25, Tryz.ntmps25
  go_wp2_with (go_at_call 26; refine HT.out.mono ?_; rintro e w' ⟨rfl, rfl⟩)
  go_ret
  exact ⟨rfl, rfl⟩
set_option maxRecDepth 100000 in
theorem nSame (p q : Option Addr) (b : Bool) (w : World) (hp : Calls Tryz.prog 26 #[.pointer p] w fun e w' => e = .returned (.bool b) ∧ w = w') (h : NoF w q) : Calls Tryz.prog 5 #[.pointer p, .pointer q] w fun e w' => e = .returned (.bool !b) ∧ w = w' := by
  have HP := Lib.hid hp
  have HT := Lib.hid (nthere q w h)
  clear h hp
  cases b
  · go_enter Tryz.func5, Tryz.ntmps5
    go_wp2_with (go_at_call 26; (first | (with_reducible refine HP.out.mono ?_) | (with_reducible refine HT.out.mono ?_)); rintro e w' ⟨rfl, rfl⟩)
    go_ret
    exact ⟨rfl, rfl⟩
  · go_enter Tryz.func5, Tryz.ntmps5
    go_wp2_with (go_at_call 26; (first | (with_reducible refine HP.out.mono ?_) | (with_reducible refine HT.out.mono ?_)); rintro e w' ⟨rfl, rfl⟩)
    go_ret
    exact ⟨rfl, rfl⟩
set_option maxRecDepth 100000 in
theorem nAll (p : Option Addr) (w : World) : Calls Tryz.prog 15 #[.pointer p] w fun e w' => ∃ bq, e = .returned (.func (.func 52) #[] #[.pointer (some ⟨bq, 0, none⟩)]) ∧ w'.heap[bq]? = some (.cells #[.pointer p] 23 (0, 0)) ∧ Chg [] w w' := by
  have hmf : ∀ (fn : Fn) (first cap : Array Value) (w : World), (Instr.makeFunc fn first cap).run Tryz.prog w = .ok (.func fn first cap) w := fun _ _ _ _ => rfl
  go_enter Tryz.func15, Tryz.ntmps15
  go_wp2
  go_ret
  exact ⟨w.heap.size, rfl, heap_alloc_eq w _, (Chg.refl _ _).alloc _⟩
set_option maxRecDepth 100000 in
theorem nAll1 (p : Option Addr) (y : Value) (bq : Nat) (w : World) (h : NoF w p) (hb : w.heap[bq]? = some (.cells #[.pointer p] 23 (0, 0))) : Calls Tryz.prog 52 #[y, .pointer (some ⟨bq, 0, none⟩)] w fun e w' => e = .returned (.tuple #[]) ∧ w = w' := by
  have HT := Lib.hid (nthere p w h)
  have c0 := cellB hb (i := 0) (v := .pointer p) rfl
  clear h hb
  go_enter Tryz.func52, Tryz.ntmps52
  go_wp2_with (go_at_call 26; refine HT.out.mono ?_; rintro e w' ⟨rfl, rfl⟩)
  exact ⟨rfl, _, results_none rfl _ _ _, rfl, rfl⟩


end Go.Proofs.YtkkjbnmfjhmobaaGreatDoor
