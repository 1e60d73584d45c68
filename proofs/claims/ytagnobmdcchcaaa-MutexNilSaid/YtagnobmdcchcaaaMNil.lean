
/- Package mutex: mutexes that are not there; metronomelaw13.MutexNil answers true (written by wip/nil13.py). -/
import Derived.Test.YtagnobmdcchcaaaL13known
namespace Go.Proofs.Ytagnobmdcchcaaa
open Go.RowKit

/-- No mutex, or a zero one. -/
def MNo (w : World) (p : Option Addr) : Prop := p = none ∨ ∃ cb, p = some ⟨cb, 0, none⟩ ∧ w.heap[cb]? = some (.cells #[.int .i64 0, .int .i64 0, .int .i64 0, .bool false, .int .i64 0, .int .i64 0, .int .i64 0, .pointer none] 71 (0, 0))
theorem MNo.calm {w w' : World} {p : Option Addr} (h : MNo w p) (hC : Chg [] w w') : MNo w' p := by
  rcases h with h | ⟨cb, h1, h2⟩
  · exact .inl h
  · exact .inr ⟨cb, h1, hC.blk h2 (by simp)⟩

set_option maxRecDepth 100000 in
theorem nis (p : Option Addr) (w : World) (h : MNo w p) : Calls Try.prog 36 #[.pointer p] w fun e w' => e = .returned (.bool false) ∧ w = w' := by
  rcases h with rfl | ⟨cb, rfl, hb⟩
  · go_enter Try.func36, Try.ntmps36
    go_wp2
    go_ret
    exact ⟨rfl, rfl⟩
  · have c7 := cellB hb (i := 7) (v := .pointer none) rfl
    clear hb
    go_enter Try.func36, Try.ntmps36
    go_wp2
    go_ret
    exact ⟨rfl, rfl⟩

set_option maxRecDepth 100000 in
theorem nask (p : Option Addr) (w : World) (h : MNo w p) : Calls Try.prog 33 #[.pointer p, .int .i64 0, .int .i64 1] w fun e w' => e = .returned (.int .i64 22) ∧ w = w' := by
  have HN := Lib.hid h
  clear h
  go_enter Try.func33, Try.ntmps33
  go_wp2_with (first | (go_at_call 36; refine (nis p _ HN.out).mono ?_; rintro e w' ⟨rfl, rfl⟩))
  go_ret
  exact ⟨rfl, rfl⟩

set_option maxRecDepth 100000 in
theorem nlock (p : Option Addr) (w : World) (h : MNo w p) : Calls Try.prog 12 #[.pointer p, .int .i64 0, .int .i64 1, .int .i64 1] w fun e w' => e = .returned (.tuple #[.bool false, .int .i64 22]) ∧ w = w' := by
  have HN := Lib.hid h
  clear h
  go_enter Try.func12, Try.ntmps12
  go_wp2_with (first | (go_at_call 36; refine (nis p _ HN.out).mono ?_; rintro e w' ⟨rfl, rfl⟩) | (go_at_call 32; refine (mprioc 1 _).mono ?_; rintro e w' ⟨rfl, rfl⟩; rw [show prB 1 = true from rfl]) | (go_at_call 33; refine (nask p _ HN.out).mono ?_; rintro e w' ⟨rfl, rfl⟩))
  go_ret2
  exact ⟨rfl, rfl⟩

set_option maxRecDepth 100000 in
theorem ntry (p : Option Addr) (w : World) (h : MNo w p) : Calls Try.prog 15 #[.pointer p, .int .i64 0, .int .i64 1] w fun e w' => e = .returned (.int .i64 22) ∧ w = w' := by
  have HN := Lib.hid h
  clear h
  go_enter Try.func15, Try.ntmps15
  go_wp2_with (first | (go_at_call 36; refine (nis p _ HN.out).mono ?_; rintro e w' ⟨rfl, rfl⟩) | (go_at_call 33; refine (nask p _ HN.out).mono ?_; rintro e w' ⟨rfl, rfl⟩))
  go_ret
  exact ⟨rfl, rfl⟩

set_option maxRecDepth 100000 in
theorem nunlock (p : Option Addr) (w : World) (h : MNo w p) : Calls Try.prog 13 #[.pointer p, .int .i64 0] w fun e w' => e = .returned (.tuple #[.slice none 0 0, .int .i64 22]) ∧ w = w' := by
  have HN := Lib.hid h
  clear h
  go_enter Try.func13, Try.ntmps13
  go_wp2_with (first | (go_at_call 36; refine (nis p _ HN.out).mono ?_; rintro e w' ⟨rfl, rfl⟩))
  go_ret2
  exact ⟨rfl, rfl⟩

set_option maxRecDepth 100000 in
theorem nconsist (p : Option Addr) (w : World) (h : MNo w p) : Calls Try.prog 16 #[.pointer p, .int .i64 0] w fun e w' => e = .returned (.int .i64 22) ∧ w = w' := by
  have HN := Lib.hid h
  clear h
  go_enter Try.func16, Try.ntmps16
  go_wp2_with (first | (go_at_call 36; refine (nis p _ HN.out).mono ?_; rintro e w' ⟨rfl, rfl⟩))
  go_ret
  exact ⟨rfl, rfl⟩

set_option maxRecDepth 100000 in
theorem nended (p : Option Addr) (w : World) (h : MNo w p) : Calls Try.prog 17 #[.pointer p, .int .i64 0] w fun e w' => e = .returned (.slice none 0 0) ∧ w = w' := by
  have HN := Lib.hid h
  clear h
  go_enter Try.func17, Try.ntmps17
  go_wp2_with (first | (go_at_call 36; refine (nis p _ HN.out).mono ?_; rintro e w' ⟨rfl, rfl⟩))
  go_ret
  exact ⟨rfl, rfl⟩

set_option maxRecDepth 100000 in
theorem nleave (p : Option Addr) (w : World) (h : MNo w p) : Calls Try.prog 18 #[.pointer p, .int .i64 0] w fun e w' => e = .returned (.bool false) ∧ w = w' := by
  have HN := Lib.hid h
  clear h
  go_enter Try.func18, Try.ntmps18
  go_wp2_with (first | (go_at_call 36; refine (nis p _ HN.out).mono ?_; rintro e w' ⟨rfl, rfl⟩))
  go_ret
  exact ⟨rfl, rfl⟩

set_option maxRecDepth 100000 in
theorem nchange (p : Option Addr) (w : World) (h : MNo w p) : Calls Try.prog 20 #[.pointer p, .int .i64 0, .int .i64 1] w fun e w' => e = .returned (.bool false) ∧ w = w' := by
  have HN := Lib.hid h
  clear h
  go_enter Try.func20, Try.ntmps20
  go_wp2_with (first | (go_at_call 36; refine (nis p _ HN.out).mono ?_; rintro e w' ⟨rfl, rfl⟩))
  go_ret
  exact ⟨rfl, rfl⟩

set_option maxRecDepth 100000 in
theorem nceil (p : Option Addr) (w : World) (h : MNo w p) : Calls Try.prog 27 #[.pointer p, .int .i64 0, .int .i64 1] w fun e w' => e = .returned (.tuple #[.int .i64 0, .int .i64 22]) ∧ w = w' := by
  have HN := Lib.hid h
  clear h
  go_enter Try.func27, Try.ntmps27
  go_wp2_with (first | (go_at_call 36; refine (nis p _ HN.out).mono ?_; rintro e w' ⟨rfl, rfl⟩))
  go_ret2
  exact ⟨rfl, rfl⟩

set_option maxRecDepth 100000 in
theorem nwaiting (p : Option Addr) (w : World) (h : MNo w p) : Calls Try.prog 19 #[.pointer p] w fun e w' => e = .returned (.slice none 0 0) ∧ w = w' := by
  have HN := Lib.hid h
  clear h
  go_enter Try.func19, Try.ntmps19
  go_wp2_with (first | (go_at_call 36; refine (nis p _ HN.out).mono ?_; rintro e w' ⟨rfl, rfl⟩))
  go_ret
  exact ⟨rfl, rfl⟩

set_option maxRecDepth 100000 in
theorem nproto (p : Option Addr) (w : World) (h : MNo w p) : Calls Try.prog 28 #[.pointer p] w fun e w' => e = .returned (.int .i64 0) ∧ w = w' := by
  have HN := Lib.hid h
  clear h
  go_enter Try.func28, Try.ntmps28
  go_wp2_with (first | (go_at_call 36; refine (nis p _ HN.out).mono ?_; rintro e w' ⟨rfl, rfl⟩))
  go_ret
  exact ⟨rfl, rfl⟩

set_option maxRecDepth 100000 in
theorem ncopy (p : Option Addr) (w : World) (h : MNo w p) : Calls Try.prog 24 #[.pointer p] w fun e w' => e = .returned (.pointer none) ∧ w = w' := by
  have HN := Lib.hid h
  clear h
  go_enter Try.func24, Try.ntmps24
  go_wp2_with (first | (go_at_call 36; refine (nis p _ HN.out).mono ?_; rintro e w' ⟨rfl, rfl⟩))
  go_ret
  exact ⟨rfl, rfl⟩

set_option maxRecDepth 100000 in
theorem nat_ (p : Option Addr) (w : World) (h : MNo w p) : Calls Try.prog 14 #[.pointer p] w fun e w' => e = .returned (.agg #[.int .i64 (-1), .int .i64 0, .int .i64 0, .int .i64 0]) ∧ Chg [] w w' := by
  have HN := Lib.hid (h.calm ((Chg.refl [] w).alloc (.cells #[.int .i64 0, .int .i64 0, .int .i64 0, .int .i64 0] 41)))
  clear h
  go_enter Try.func14, Try.ntmps14
  go_wp2_with (first | (go_at_call 36; refine (nis p _ HN.out).mono ?_; rintro e w' ⟨rfl, rfl⟩))
  refine bodyPost_ret (v := .agg #[.int .i64 (-1), .int .i64 0, .int .i64 0, .int .i64 0]) (by simp [results, Try.results14, go_sem]) rfl ⟨rfl, ?_⟩
  exact (Chg.refl [] w).alloc _

set_option maxRecDepth 100000 in
theorem nsame00 (p q : Option Addr) (w : World) (h : MNo w p) (g : MNo w q) : Calls Try.prog 25 #[.pointer p, .pointer q] w fun e w' => e = .returned (.bool true) ∧ w = w' := by
  have hT : ∀ r : Option Addr, r = p ∨ r = q → Calls Try.prog 36 #[.pointer r] w fun e w' => e = .returned (.bool false) ∧ w = w' := by
    rintro r (rfl | rfl)
    · exact nis _ w h
    · exact nis _ w g
  have HT := Lib.hid hT
  clear h g hT
  go_enter Try.func25, Try.ntmps25
  go_wp2_with (go_at_call 36; refine (HT.out _ (by first | exact .inl rfl | exact .inr rfl)).mono ?_; rintro e w' ⟨rfl, rfl⟩)
  go_ret
  exact ⟨rfl, rfl⟩

set_option maxRecDepth 100000 in
theorem nsame01 (cb ab mb : Nat) (N : Int) (s : MS) (w : World) (h : MAt w cb ab mb N s) : Calls Try.prog 25 #[.pointer none, .pointer (some ⟨cb, 0, none⟩)] w fun e w' => e = .returned (.bool false) ∧ w = w' := by
  have hT : ∀ r : Option Addr, r = none ∨ r = some ⟨cb, 0, none⟩ → Calls Try.prog 36 #[.pointer r] w fun e w' => e = .returned (.bool r.isSome) ∧ w = w' := by
    rintro r (rfl | rfl)
    · exact nis _ w (.inl rfl)
    · exact misc cb ab mb N s w h
  have HT := Lib.hid hT
  clear h hT
  go_enter Try.func25, Try.ntmps25
  go_wp2_with (go_at_call 36; refine (HT.out _ (by first | exact .inl rfl | exact .inr rfl)).mono ?_; rintro e w' ⟨rfl, rfl⟩; simp only [Option.isSome_some, Option.isSome_none])
  go_ret
  exact ⟨rfl, rfl⟩

set_option maxRecDepth 100000 in
set_option maxHeartbeats 2000000 in
theorem nsame_rob (c1 a1 m1 c2 a2 m2 : Nat) (N1 N2 : Int) (w : World) (h1 : MAt w c1 a1 m1 N1 (mnew 0 0 0 false)) (h2 : MAt w c2 a2 m2 N2 (mnew 0 0 0 true)) :
    Calls Try.prog 25 #[.pointer (some ⟨c1, 0, none⟩), .pointer (some ⟨c2, 0, none⟩)] w fun e w' => e = .returned (.bool false) ∧ Chg [] w w' := by
  have hT : ∀ r : Nat, r = c1 ∨ r = c2 → Calls Try.prog 36 #[.pointer (some ⟨r, 0, none⟩)] w fun e w' => e = .returned (.bool true) ∧ w = w' := by
    rintro r (rfl | rfl)
    · exact misc _ a1 m1 N1 _ w h1
    · exact misc _ a2 m2 N2 _ w h2
  have HT := Lib.hid hT
  have c10 := cellB h1.head (i := 0) (v := .int .i64 0) rfl
  have c11 := cellB h1.head (i := 1) (v := .int .i64 0) rfl
  have c12 := cellB h1.head (i := 2) (v := .int .i64 0) rfl
  have c13 := cellB h1.head (i := 3) (v := .bool false) rfl
  have c20 := cellB h2.head (i := 0) (v := .int .i64 0) rfl
  have c21 := cellB h2.head (i := 1) (v := .int .i64 0) rfl
  have c22 := cellB h2.head (i := 2) (v := .int .i64 0) rfl
  have c23 := cellB h2.head (i := 3) (v := .bool true) rfl
  clear h1 h2 hT
  go_enter Try.func25, Try.ntmps25
  go_wp2_with (go_at_call 36; refine (HT.out _ (by first | exact .inl rfl | exact .inr rfl)).mono ?_; rintro e w' ⟨rfl, rfl⟩)
  simp only [List.append_eq, List.cons_append, List.nil_append]
  go_quiet (fail)
  go_wp2
  go_ret
  exact ⟨rfl, (Chg.refl _ _).drewN _⟩

theorem eql_pMutex_nil (w : World) : (binOp .eql 25 (.pointer none) (.pointer none)).run Try.prog w = .ok (.bool true) w := by simp [go_sem]

set_option maxRecDepth 100000 in
set_option maxHeartbeats 8000000 in
theorem mutexNil_any (w : World) : Calls Try.prog 9 #[] w fun e w' => e = .returned (.bool true) ∧ Chg [] w w' := by
  have hz : ((w.alloc (.cells #[.int .i64 0, .int .i64 0, .int .i64 0, .bool false, .int .i64 0, .int .i64 0, .int .i64 0, .pointer none] 71)).alloc (.cells #[.pointer none, .pointer (some ⟨w.heap.size, 0, none⟩)] 25)).heap[w.heap.size]? = some (.cells #[.int .i64 0, .int .i64 0, .int .i64 0, .bool false, .int .i64 0, .int .i64 0, .int .i64 0, .pointer none] 71) := blk_alloc (heap_alloc_eq w _) _
  have hl : ((w.alloc (.cells #[.int .i64 0, .int .i64 0, .int .i64 0, .bool false, .int .i64 0, .int .i64 0, .int .i64 0, .pointer none] 71)).alloc (.cells #[.pointer none, .pointer (some ⟨w.heap.size, 0, none⟩)] 25)).heap[w.heap.size + 1]? = some (.cells #[.pointer none, .pointer (some ⟨w.heap.size, 0, none⟩)] 25) := by
    have := heap_alloc_eq (w.alloc (.cells #[.int .i64 0, .int .i64 0, .int .i64 0, .bool false, .int .i64 0, .int .i64 0, .int .i64 0, .pointer none] 71)) (.cells #[.pointer none, .pointer (some ⟨w.heap.size, 0, none⟩)] 25)
    rwa [World.size_alloc] at this
  have hC : Chg [] w ((w.alloc (.cells #[.int .i64 0, .int .i64 0, .int .i64 0, .bool false, .int .i64 0, .int .i64 0, .int .i64 0, .pointer none] 71)).alloc (.cells #[.pointer none, .pointer (some ⟨w.heap.size, 0, none⟩)] 25)) := ((Chg.refl _ _).alloc _).alloc _
  have e1 : eqL (-1) 0 0 0 (-1) 0 0 0 = true := by decide
  have HH := Lib.hid (And.intro hz (And.intro hl hC))
  clear hz hl hC
  go_enter Try.func9, Try.ntmps9
  go_wp2
  refine wp_loop_rounds 3 ?_
  rw [rounds_succ]
  have l0 := cellB HH.out.2.1 (i := 0) (v := .pointer none) rfl
  go_wp2_with fail
  refine (nlock none ((w.alloc (.cells #[.int .i64 0, .int .i64 0, .int .i64 0, .bool false, .int .i64 0, .int .i64 0, .int .i64 0, .pointer none] 71)).alloc (.cells #[.pointer none, .pointer (some ⟨w.heap.size, 0, none⟩)] 25)) (Or.inl rfl)).mono ?_
  rintro e wq ⟨rfl, rfl⟩
  go_wp2_with fail
  refine (nunlock none ((w.alloc (.cells #[.int .i64 0, .int .i64 0, .int .i64 0, .bool false, .int .i64 0, .int .i64 0, .int .i64 0, .pointer none] 71)).alloc (.cells #[.pointer none, .pointer (some ⟨w.heap.size, 0, none⟩)] 25)) (Or.inl rfl)).mono ?_
  rintro e wq ⟨rfl, rfl⟩
  go_wp2_with fail
  refine (nceil none ((w.alloc (.cells #[.int .i64 0, .int .i64 0, .int .i64 0, .bool false, .int .i64 0, .int .i64 0, .int .i64 0, .pointer none] 71)).alloc (.cells #[.pointer none, .pointer (some ⟨w.heap.size, 0, none⟩)] 25)) (Or.inl rfl)).mono ?_
  rintro e wq ⟨rfl, rfl⟩
  go_wp2_with fail
  refine (ntry none ((w.alloc (.cells #[.int .i64 0, .int .i64 0, .int .i64 0, .bool false, .int .i64 0, .int .i64 0, .int .i64 0, .pointer none] 71)).alloc (.cells #[.pointer none, .pointer (some ⟨w.heap.size, 0, none⟩)] 25)) (Or.inl rfl)).mono ?_
  rintro e wq ⟨rfl, rfl⟩
  go_wp2_with fail
  refine (nconsist none ((w.alloc (.cells #[.int .i64 0, .int .i64 0, .int .i64 0, .bool false, .int .i64 0, .int .i64 0, .int .i64 0, .pointer none] 71)).alloc (.cells #[.pointer none, .pointer (some ⟨w.heap.size, 0, none⟩)] 25)) (Or.inl rfl)).mono ?_
  rintro e wq ⟨rfl, rfl⟩
  go_wp2_with fail
  refine (nended none ((w.alloc (.cells #[.int .i64 0, .int .i64 0, .int .i64 0, .bool false, .int .i64 0, .int .i64 0, .int .i64 0, .pointer none] 71)).alloc (.cells #[.pointer none, .pointer (some ⟨w.heap.size, 0, none⟩)] 25)) (Or.inl rfl)).mono ?_
  rintro e wq ⟨rfl, rfl⟩
  go_wp2_with fail
  refine (nleave none ((w.alloc (.cells #[.int .i64 0, .int .i64 0, .int .i64 0, .bool false, .int .i64 0, .int .i64 0, .int .i64 0, .pointer none] 71)).alloc (.cells #[.pointer none, .pointer (some ⟨w.heap.size, 0, none⟩)] 25)) (Or.inl rfl)).mono ?_
  rintro e wq ⟨rfl, rfl⟩
  go_wp2_with fail
  refine (nchange none ((w.alloc (.cells #[.int .i64 0, .int .i64 0, .int .i64 0, .bool false, .int .i64 0, .int .i64 0, .int .i64 0, .pointer none] 71)).alloc (.cells #[.pointer none, .pointer (some ⟨w.heap.size, 0, none⟩)] 25)) (Or.inl rfl)).mono ?_
  rintro e wq ⟨rfl, rfl⟩
  go_wp2_with fail
  refine (nat_ none ((w.alloc (.cells #[.int .i64 0, .int .i64 0, .int .i64 0, .bool false, .int .i64 0, .int .i64 0, .int .i64 0, .pointer none] 71)).alloc (.cells #[.pointer none, .pointer (some ⟨w.heap.size, 0, none⟩)] 25)) (Or.inl rfl)).mono ?_
  rintro e wa ⟨rfl, hC⟩
  have HA := Lib.hid (And.intro (hC.blk HH.out.1 (by simp)) (And.intro (hC.blk HH.out.2.1 (by simp)) (HH.out.2.2.trans hC)))
  clear hC l0
  go_wp2_with fail
  refine (nwaiting none wa (Or.inl rfl)).mono ?_
  rintro e wq ⟨rfl, rfl⟩
  go_wp2_with fail
  refine (nproto none wa (Or.inl rfl)).mono ?_
  rintro e wq ⟨rfl, rfl⟩
  go_wp2_with fail
  refine (ncopy none wa (Or.inl rfl)).mono ?_
  rintro e wq ⟨rfl, rfl⟩
  go_wp2
  have HB := HA
  obtain ⟨wb, hwb⟩ : ∃ x, x = wa := ⟨_, rfl⟩
  rw [← hwb] at HB ⊢
  clear hwb HA HH
  rw [rounds_succ]
  have l1 := cellB HB.out.2.1 (i := 1) (v := .pointer (some ⟨w.heap.size, 0, none⟩)) rfl
  go_wp2_with fail
  refine (nlock (some ⟨w.heap.size, 0, none⟩) wb (Or.inr ⟨_, rfl, HB.out.1⟩)).mono ?_
  rintro e wq ⟨rfl, rfl⟩
  go_wp2_with fail
  refine (nunlock (some ⟨w.heap.size, 0, none⟩) wb (Or.inr ⟨_, rfl, HB.out.1⟩)).mono ?_
  rintro e wq ⟨rfl, rfl⟩
  go_wp2_with fail
  refine (nceil (some ⟨w.heap.size, 0, none⟩) wb (Or.inr ⟨_, rfl, HB.out.1⟩)).mono ?_
  rintro e wq ⟨rfl, rfl⟩
  go_wp2_with fail
  refine (ntry (some ⟨w.heap.size, 0, none⟩) wb (Or.inr ⟨_, rfl, HB.out.1⟩)).mono ?_
  rintro e wq ⟨rfl, rfl⟩
  go_wp2_with fail
  refine (nconsist (some ⟨w.heap.size, 0, none⟩) wb (Or.inr ⟨_, rfl, HB.out.1⟩)).mono ?_
  rintro e wq ⟨rfl, rfl⟩
  go_wp2_with fail
  refine (nended (some ⟨w.heap.size, 0, none⟩) wb (Or.inr ⟨_, rfl, HB.out.1⟩)).mono ?_
  rintro e wq ⟨rfl, rfl⟩
  go_wp2_with fail
  refine (nleave (some ⟨w.heap.size, 0, none⟩) wb (Or.inr ⟨_, rfl, HB.out.1⟩)).mono ?_
  rintro e wq ⟨rfl, rfl⟩
  go_wp2_with fail
  refine (nchange (some ⟨w.heap.size, 0, none⟩) wb (Or.inr ⟨_, rfl, HB.out.1⟩)).mono ?_
  rintro e wq ⟨rfl, rfl⟩
  go_wp2_with fail
  refine (nat_ (some ⟨w.heap.size, 0, none⟩) wb (Or.inr ⟨_, rfl, HB.out.1⟩)).mono ?_
  rintro e wc ⟨rfl, hC⟩
  have HCc := Lib.hid (And.intro (hC.blk HB.out.1 (by simp)) (And.intro (hC.blk HB.out.2.1 (by simp)) (HB.out.2.2.trans hC)))
  clear hC l1
  go_wp2_with fail
  refine (nwaiting (some ⟨w.heap.size, 0, none⟩) wc (Or.inr ⟨_, rfl, HCc.out.1⟩)).mono ?_
  rintro e wq ⟨rfl, rfl⟩
  go_wp2_with fail
  refine (nproto (some ⟨w.heap.size, 0, none⟩) wc (Or.inr ⟨_, rfl, HCc.out.1⟩)).mono ?_
  rintro e wq ⟨rfl, rfl⟩
  go_wp2_with fail
  refine (ncopy (some ⟨w.heap.size, 0, none⟩) wc (Or.inr ⟨_, rfl, HCc.out.1⟩)).mono ?_
  rintro e wq ⟨rfl, rfl⟩
  go_wp2
  rw [rounds_succ]
  go_wp2_with fail
  refine (fnewF 0 0 0 false w wc HCc.out.2.2 (by decide)).mono ?_
  rintro e w1 ⟨c1, a1, m1, rfl, hF, hC⟩
  have H1 := Lib.hid (And.intro hF (And.intro (hC.blk HCc.out.1 (by simp)) (hC.blk HCc.out.2.1 (by simp))))
  clear hF hC
  go_wp2_with fail
  refine (fnewF 0 0 0 true w w1 H1.out.1.c (by decide)).mono ?_
  rintro e w2 ⟨c2, a2, m2, rfl, hF, hC⟩
  have l1 := cellB (hC.blk H1.out.2.2 (by simp)) (i := 1) (v := .pointer (some ⟨w.heap.size, 0, none⟩)) rfl
  have H2 := Lib.hid (And.intro (H1.out.1.calm hC) (And.intro hF (hC.blk H1.out.2.1 (by simp))))
  clear hF hC
  go_wp2_with fail
  refine (nsame00 none (some ⟨w.heap.size, 0, none⟩) w2 (Or.inl rfl) (Or.inr ⟨_, rfl, H2.out.2.2⟩)).mono ?_
  rintro e wq ⟨rfl, rfl⟩
  go_wp2_with fail
  refine (nsame01 c1 a1 m1 0 _ w2 H2.out.1.m).mono ?_
  rintro e wq ⟨rfl, rfl⟩
  go_wp2_with fail
  refine (nsame_rob c1 a1 m1 c2 a2 m2 0 0 w2 H2.out.1.m H2.out.2.1.m).mono ?_
  rintro e w3 ⟨rfl, hC⟩
  have H3 := Lib.hid (H2.out.1.c.trans hC)
  clear hC
  go_wp2_with fail
  refine (known13 w3).mono ?_
  rintro e w4 ⟨rfl, hC⟩
  have H4 := Lib.hid (H3.out.trans hC)
  clear hC
  go_wp2
  go_ret
  exact ⟨rfl, H4.out⟩

end Go.Proofs.Ytagnobmdcchcaaa
