
/- Package mqueue at queues that are not there: contracts. -/
import Derived.Test.YtiiafhlckmkcnaaVf
namespace Go.Proofs.Ytiiafhlckmkcnaa
open Go.RowKit Go.Shelf
attribute [local go_sem] Oper.semAt_some

/-- No queue: nil, or a zero one. -/
def NoQ (w : World) (p : Option Addr) : Prop := p = none ∨ ∃ b, p = some ⟨b, 0, none⟩ ∧ w.heap[b]? = some (.cells #[.int .i64 0, .slice none 0 0, .pointer none, .pointer none, .map none] 56 (0, 0))
theorem NoQ.calm {w w' : World} {p : Option Addr} (h : NoQ w p) (hC : Chg [] w w') : NoQ w' p := by
  rcases h with h | ⟨b, h1, h2⟩
  · exact .inl h
  · exact .inr ⟨b, h1, hC.blk h2 (by simp)⟩

set_option maxRecDepth 100000 in
theorem ntherec (p : Option Addr) (w : World) (h : NoQ w p) : Calls Try.prog 34 #[.pointer p] w fun e w' => e = .returned (.bool false) ∧ w = w' := by
  rcases h with rfl | ⟨b, rfl, hb⟩
  · go_enter Try.func34, Try.ntmps34
    go_wp2
    go_ret
    exact ⟨rfl, rfl⟩
  · have c0 := cellB hb (i := 0) (v := .int .i64 0) rfl
    clear hb
    go_enter Try.func34, Try.ntmps34
    go_wp2
    go_ret
    exact ⟨rfl, rfl⟩
set_option maxRecDepth 100000 in
theorem nlenc (p : Option Addr) (w : World) (h : NoQ w p) : Calls Try.prog 13 #[.pointer p] w fun e w' => e = .returned (.int .i64 0) ∧ Chg [] w w' := by
  have HT := Lib.hid (show ∀ W, Chg [] w W → Calls Try.prog 34 #[.pointer p] W fun e w' => e = .returned (.bool false) ∧ W = w' from fun W hW => ntherec p W (h.calm hW))
  have HN := Lib.hid h
  clear h
  go_enter Try.func13, Try.ntmps13
  go_wp2_with (go_at_call 34; refine (HT.out _ (by first | exact Chg.refl _ _ | exact hCx | exact (Chg.refl _ _).alloc _)).mono ?_; rintro e w' ⟨rfl, rfl⟩)
  go_ret
  exact ⟨rfl, Chg.refl _ _⟩
set_option maxRecDepth 100000 in
theorem nroomc (p : Option Addr) (w : World) (h : NoQ w p) : Calls Try.prog 21 #[.pointer p] w fun e w' => e = .returned (.int .i64 0) ∧ Chg [] w w' := by
  have HT := Lib.hid (show ∀ W, Chg [] w W → Calls Try.prog 34 #[.pointer p] W fun e w' => e = .returned (.bool false) ∧ W = w' from fun W hW => ntherec p W (h.calm hW))
  have HN := Lib.hid h
  clear h
  go_enter Try.func21, Try.ntmps21
  go_wp2_with (go_at_call 34; refine (HT.out _ (by first | exact Chg.refl _ _ | exact hCx | exact (Chg.refl _ _).alloc _)).mono ?_; rintro e w' ⟨rfl, rfl⟩)
  go_ret
  exact ⟨rfl, Chg.refl _ _⟩
set_option maxRecDepth 100000 in
theorem nfullc (p : Option Addr) (w : World) (h : NoQ w p) : Calls Try.prog 19 #[.pointer p] w fun e w' => e = .returned (.bool false) ∧ Chg [] w w' := by
  have HT := Lib.hid (show ∀ W, Chg [] w W → Calls Try.prog 34 #[.pointer p] W fun e w' => e = .returned (.bool false) ∧ W = w' from fun W hW => ntherec p W (h.calm hW))
  have HN := Lib.hid h
  clear h
  go_enter Try.func19, Try.ntmps19
  go_wp2_with (go_at_call 34; refine (HT.out _ (by first | exact Chg.refl _ _ | exact hCx | exact (Chg.refl _ _).alloc _)).mono ?_; rintro e w' ⟨rfl, rfl⟩)
  go_ret
  exact ⟨rfl, Chg.refl _ _⟩
set_option maxRecDepth 100000 in
theorem nwaitc (p : Option Addr) (t : Int) (w : World) (h : NoQ w p) : Calls Try.prog 42 #[.pointer p, .int .i64 t] w fun e w' => e = .returned (.tuple #[.bool false, .bool false]) ∧ Chg [] w w' := by
  have HT := Lib.hid (show ∀ W, Chg [] w W → Calls Try.prog 34 #[.pointer p] W fun e w' => e = .returned (.bool false) ∧ W = w' from fun W hW => ntherec p W (h.calm hW))
  have HN := Lib.hid h
  clear h
  go_enter Try.func42, Try.ntmps42
  go_wp2_with (go_at_call 34; refine (HT.out _ (by first | exact Chg.refl _ _ | exact hCx | exact (Chg.refl _ _).alloc _)).mono ?_; rintro e w' ⟨rfl, rfl⟩)
  go_ret2
  exact ⟨rfl, Chg.refl _ _⟩
set_option maxRecDepth 100000 in
theorem nlinec (p : Option Addr) (k : Int) (w : World) (h : NoQ w p) : Calls Try.prog 35 #[.pointer p, .int .i64 k] w fun e w' => e = .returned (.slice none 0 0) ∧ Chg [] w w' := by
  have HT := Lib.hid (show ∀ W, Chg [] w W → Calls Try.prog 34 #[.pointer p] W fun e w' => e = .returned (.bool false) ∧ W = w' from fun W hW => ntherec p W (h.calm hW))
  have HN := Lib.hid h
  clear h
  go_enter Try.func35, Try.ntmps35
  go_wp2_with (go_at_call 34; refine (HT.out _ (by first | exact Chg.refl _ _ | exact hCx | exact (Chg.refl _ _).alloc _)).mono ?_; rintro e w' ⟨rfl, rfl⟩)
  go_ret
  exact ⟨rfl, Chg.refl _ _⟩
set_option maxRecDepth 100000 in
theorem nsendersc (p : Option Addr) (w : World) (h : NoQ w p) : Calls Try.prog 15 #[.pointer p] w fun e w' => e = .returned (.slice none 0 0) ∧ Chg [] w w' := by
  have HL := Lib.hid (nlinec p 0 w h)
  clear h
  go_enter Try.func15, Try.ntmps15
  go_wp2_with fail
  refine HL.out.mono ?_
  rintro e w1 ⟨rfl, hC⟩
  go_wp2
  go_ret
  exact ⟨rfl, hC⟩
set_option maxRecDepth 100000 in
theorem nreceiversc (p : Option Addr) (w : World) (h : NoQ w p) : Calls Try.prog 14 #[.pointer p] w fun e w' => e = .returned (.slice none 0 0) ∧ Chg [] w w' := by
  have HL := Lib.hid (nlinec p 1 w h)
  clear h
  go_enter Try.func14, Try.ntmps14
  go_wp2_with fail
  refine HL.out.mono ?_
  rintro e w1 ⟨rfl, hC⟩
  go_wp2
  go_ret
  exact ⟨rfl, hC⟩
set_option maxRecDepth 100000 in
theorem naskc (p : Option Addr) (t pr q : Int) (b : Bool) (w : World) (h : NoQ w p) : Calls Try.prog 23 #[.pointer p, .int .i64 t, .int .i64 pr, .int .i64 q, .bool b] w fun e w' => e = .returned (.int .i64 1) ∧ Chg [] w w' := by
  have HT := Lib.hid (show ∀ W, Chg [] w W → Calls Try.prog 34 #[.pointer p] W fun e w' => e = .returned (.bool false) ∧ W = w' from fun W hW => ntherec p W (h.calm hW))
  have HN := Lib.hid h
  clear h
  go_enter Try.func23, Try.ntmps23
  go_wp2_with (go_at_call 34; refine (HT.out _ (by first | exact Chg.refl _ _ | exact hCx | exact (Chg.refl _ _).alloc _)).mono ?_; rintro e w' ⟨rfl, rfl⟩)
  go_ret
  exact ⟨rfl, Chg.refl _ _⟩

set_option maxRecDepth 100000 in
set_option maxHeartbeats 1000000 in
theorem nsendc (p : Option Addr) (t pr a b : Int) (w : World) (h : NoQ w p) : Calls Try.prog 8 #[.pointer p, .int .i64 t, .int .i64 pr, .agg #[.int .i64 a, .int .i64 b]] w fun e w' => e = .returned (.tuple #[pdV pd0, .int .i64 1]) ∧ Chg [] w w' := by
  obtain ⟨bm, hbm⟩ : ∃ bm, bm = w.heap.size := ⟨_, rfl⟩
  obtain ⟨w0, hw0⟩ : ∃ w0, w0 = (w.alloc (.cells #[.int .i64 a, .int .i64 b] 31 (0, 0))).alloc pd0B := ⟨_, rfl⟩
  have hC0 : Chg [] w w0 := by rw [hw0]; exact ((Chg.refl _ _).alloc _).alloc _
  have hm0 : w0.heap[bm]? = some (msgB (a, b)) := by rw [hw0, hbm]; exact blk_alloc (heap_alloc_eq w _) _
  have hr0 : w0.heap[bm + 1]? = some pd0B := by rw [hw0, hbm]; have := heap_alloc_eq (w.alloc (.cells #[.int .i64 a, .int .i64 b] 31 (0, 0))) pd0B; rwa [World.size_alloc] at this
  have HA := Lib.hid (naskc p t pr b false w0 (h.calm hC0))
  have H0 := Lib.hid (And.intro hC0 (And.intro hr0 hbm))
  have d1 := cellB hm0 (i := 1) (v := .int .i64 b) rfl
  clear h hC0 hm0 hr0
  unfold pd0B at hw0
  go_enter Try.func8, Try.ntmps8
  go_upto_region 1 with fail
  rw [← hbm, ← hw0]
  clear hbm hw0
  go_wp2_with fail
  refine HA.out.mono ?_
  rintro e w1 ⟨rfl, hC1⟩
  have hr := hC1.blk H0.out.2.1 (by simp)
  have r0 := cellB hr (i := 0) (v := .bool false) rfl
  have r1 := cellB hr (i := 1) (v := .int .i64 0) rfl
  have r2 := cellB hr (i := 2) (v := .int .i64 0) rfl
  have r3 := cellB hr (i := 3) (v := .int .i64 0) rfl
  have f1 := frozenB hr
  have hbz := pBuild0
  have H1 := Lib.hid (And.intro (H0.out.1.trans hC1) hr)
  clear hr hC1
  go_wp2
  obtain ⟨W, hW⟩ : ∃ W, W = ((((w1.setCell ⟨bm + 1, 0, none⟩ (.bool false)).setCell ⟨bm + 1, 1, none⟩ (.int .i64 0)).setCell ⟨bm + 1, 2, none⟩ (.int .i64 0)).setCell ⟨bm + 1, 3, none⟩ (.int .i64 0)) := ⟨_, rfl⟩
  have hf : W.heap[bm + 1]? = some (.cells #[.bool false, .int .i64 0, .int .i64 0, .int .i64 0] 35 (0, 0)) := by rw [hW]; exact res4 H1.out.2 _ _ _ _
  have hCW : Chg [bm + 1] w1 W := by rw [hW]; exact chg4 _ _ _ _ _ _
  have q0 := cellB hf (i := 0) rfl
  have q1 := cellB hf (i := 1) rfl
  have q2 := cellB hf (i := 2) rfl
  have q3 := cellB hf (i := 3) rfl
  rw [← hW]
  refine ⟨rfl, .tuple #[pdV pd0, .int .i64 1], ?_, rfl, H1.out.1.trans' hCW (fun k hk => by simp at hk; subst hk; exact .inr (by have := H0.out.2.2; omega))⟩
  simp [results, Try.results8, go_sem, q0, q1, q2, q3, pdV, pd0]

set_option maxRecDepth 100000 in
set_option maxHeartbeats 1000000 in
theorem nrcvc (p : Option Addr) (t pr : Int) (w : World) (h : NoQ w p) : Calls Try.prog 10 #[.pointer p, .int .i64 t, .int .i64 pr] w fun e w' => e = .returned (.tuple #[pdV pd0, .int .i64 1]) ∧ Chg [] w w' := by
  obtain ⟨bm, hbm⟩ : ∃ bm, bm = w.heap.size := ⟨_, rfl⟩
  obtain ⟨w0, hw0⟩ : ∃ w0, w0 = w.alloc pd0B := ⟨_, rfl⟩
  have hC0 : Chg [] w w0 := by rw [hw0]; exact (Chg.refl _ _).alloc _
  have hr0 : w0.heap[bm]? = some pd0B := by rw [hw0, hbm]; exact heap_alloc_eq w _
  have HA := Lib.hid (naskc p t pr 0 false w0 (h.calm hC0))
  have H0 := Lib.hid (And.intro hC0 (And.intro hr0 hbm))
  clear h hC0 hr0
  unfold pd0B at hw0
  go_enter Try.func10, Try.ntmps10
  go_upto_region 1 with fail
  rw [← hbm, ← hw0]
  clear hbm hw0
  go_wp2_with fail
  refine HA.out.mono ?_
  rintro e w1 ⟨rfl, hC1⟩
  have hr := hC1.blk H0.out.2.1 (by simp)
  have r0 := cellB hr (i := 0) (v := .bool false) rfl
  have r1 := cellB hr (i := 1) (v := .int .i64 0) rfl
  have r2 := cellB hr (i := 2) (v := .int .i64 0) rfl
  have r3 := cellB hr (i := 3) (v := .int .i64 0) rfl
  have f1 := frozenB hr
  have hbz := pBuild0
  have H1 := Lib.hid (And.intro (H0.out.1.trans hC1) hr)
  clear hr hC1
  go_wp2
  obtain ⟨W, hW⟩ : ∃ W, W = ((((w1.setCell ⟨bm, 0, none⟩ (.bool false)).setCell ⟨bm, 1, none⟩ (.int .i64 0)).setCell ⟨bm, 2, none⟩ (.int .i64 0)).setCell ⟨bm, 3, none⟩ (.int .i64 0)) := ⟨_, rfl⟩
  have hf : W.heap[bm]? = some (.cells #[.bool false, .int .i64 0, .int .i64 0, .int .i64 0] 35 (0, 0)) := by rw [hW]; exact res4 H1.out.2 _ _ _ _
  have hCW : Chg [bm] w1 W := by rw [hW]; exact chg4 _ _ _ _ _ _
  have q0 := cellB hf (i := 0) rfl
  have q1 := cellB hf (i := 1) rfl
  have q2 := cellB hf (i := 2) rfl
  have q3 := cellB hf (i := 3) rfl
  rw [← hW]
  refine ⟨rfl, .tuple #[pdV pd0, .int .i64 1], ?_, rfl, H1.out.1.trans' hCW (fun k hk => by simp at hk; subst hk; exact .inr (by have := H0.out.2.2; omega))⟩
  simp [results, Try.results10, go_sem, q0, q1, q2, q3, pdV, pd0]

set_option maxRecDepth 100000 in
theorem nchangec (p : Option Addr) (t pr : Int) (g : Nat) (cap : Array Value) (w : World) (h : NoQ w p) : Calls Try.prog 29 #[.pointer p, .int .i64 t, .int .i64 pr, .func (.func g) #[] cap] w fun e w' => e = .returned (.int .i64 1) ∧ Chg [] w w' := by
  have HA := Lib.hid (naskc p t pr 0 true w h)
  clear h
  go_enter Try.func29, Try.ntmps29
  go_wp2
  go_step3
  go_wp2_with fail
  refine HA.out.mono ?_
  rintro e w1 ⟨rfl, hC1⟩
  have H1 := Lib.hid hC1
  clear hC1
  go_wp2
  rw [Exit.noGoto_ret]
  go_ret
  exact ⟨rfl, H1.out⟩
set_option maxRecDepth 100000 in
theorem nleavec (p : Option Addr) (t : Int) (w : World) (h : NoQ w p) : Calls Try.prog 11 #[.pointer p, .int .i64 t] w fun e w' => e = .returned (.int .i64 1) ∧ Chg [] w w' := by
  obtain ⟨bq, hbq⟩ : ∃ bq, bq = w.heap.size := ⟨_, rfl⟩
  obtain ⟨w0, hw0⟩ : ∃ w0, w0 = (w.alloc (.cells #[.pointer p] 24 (0, 0))).alloc (.cells #[.int .i64 t] 3 (0, 0)) := ⟨_, rfl⟩
  have hC0 : Chg [] w w0 := by rw [hw0]; exact ((Chg.refl _ _).alloc _).alloc _
  have hb2 : BxAt w0 bq (.pointer p) 24 := by rw [hw0, hbq]; exact blk_alloc (heap_alloc_eq w _) _
  have hb3 : BxAt w0 (bq + 1) (.int .i64 t) 3 := by rw [hw0, hbq]; have := heap_alloc_eq (w.alloc (.cells #[.pointer p] 24 (0, 0))) (.cells #[.int .i64 t] 3 (0, 0)); rwa [World.size_alloc] at this
  have HC := Lib.hid (And.intro hC0 (nchangec p t 1 30 #[.pointer (some ⟨bq + 1, 0, none⟩), .pointer (some ⟨bq, 0, none⟩)] w0 (h.calm hC0)))
  have d2 := cellB hb2 (i := 0) rfl
  have d3 := cellB hb3 (i := 0) rfl
  clear hC0 hb2 hb3 h
  go_enter Try.func11, Try.ntmps11
  go_upto_region 1 with fail
  rw [← hbq, ← hw0]
  clear hbq hw0
  go_wp2_with fail
  refine HC.out.2.mono ?_
  rintro e w1 ⟨rfl, hC⟩
  have HF := Lib.hid (HC.out.1.trans hC)
  clear hC
  go_wp2
  go_ret
  exact ⟨rfl, HF.out⟩
set_option maxRecDepth 100000 in
theorem nchc (p : Option Addr) (t pr : Int) (w : World) (h : NoQ w p) : Calls Try.prog 12 #[.pointer p, .int .i64 t, .int .i64 pr] w fun e w' => e = .returned (.int .i64 1) ∧ Chg [] w w' := by
  obtain ⟨bq, hbq⟩ : ∃ bq, bq = w.heap.size := ⟨_, rfl⟩
  obtain ⟨w0, hw0⟩ : ∃ w0, w0 = (w.alloc (.cells #[.int .i64 t] 3 (0, 0))).alloc (.cells #[.int .i64 pr] 3 (0, 0)) := ⟨_, rfl⟩
  have hC0 : Chg [] w w0 := by rw [hw0]; exact ((Chg.refl _ _).alloc _).alloc _
  have hb2 : BxAt w0 bq (.int .i64 t) 3 := by rw [hw0, hbq]; exact blk_alloc (heap_alloc_eq w _) _
  have hb3 : BxAt w0 (bq + 1) (.int .i64 pr) 3 := by rw [hw0, hbq]; have := heap_alloc_eq (w.alloc (.cells #[.int .i64 t] 3 (0, 0))) (.cells #[.int .i64 pr] 3 (0, 0)); rwa [World.size_alloc] at this
  have HC := Lib.hid (And.intro hC0 (nchangec p t pr 32 #[.pointer (some ⟨bq, 0, none⟩), .pointer (some ⟨bq + 1, 0, none⟩)] w0 (h.calm hC0)))
  have d2 := cellB hb2 (i := 0) rfl
  have d3 := cellB hb3 (i := 0) rfl
  clear hC0 hb2 hb3 h
  go_enter Try.func12, Try.ntmps12
  go_upto_region 1 with fail
  rw [← hbq, ← hw0]
  clear hbq hw0
  go_wp2_with fail
  refine HC.out.2.mono ?_
  rintro e w1 ⟨rfl, hC⟩
  have HF := Lib.hid (HC.out.1.trans hC)
  clear hC
  go_wp2
  go_ret
  exact ⟨rfl, HF.out⟩
set_option maxRecDepth 100000 in
theorem ncopyc (p : Option Addr) (w : World) (h : NoQ w p) : Calls Try.prog 17 #[.pointer p] w fun e w' => e = .returned (.pointer none) ∧ Chg [] w w' := by
  have HT := Lib.hid (show ∀ W, Chg [] w W → Calls Try.prog 34 #[.pointer p] W fun e w' => e = .returned (.bool false) ∧ W = w' from fun W hW => ntherec p W (h.calm hW))
  have HN := Lib.hid h
  clear h
  go_enter Try.func17, Try.ntmps17
  go_wp2_with (go_at_call 34; refine (HT.out _ (by first | exact Chg.refl _ _ | exact hCx | exact (Chg.refl _ _).alloc _)).mono ?_; rintro e w' ⟨rfl, rfl⟩)
  go_ret
  exact ⟨rfl, Chg.refl _ _⟩
set_option maxRecDepth 100000 in
theorem nsamec (p : Option Addr) (w : World) (h : NoQ w p) : Calls Try.prog 18 #[.pointer p, .pointer none] w fun e w' => e = .returned (.bool true) ∧ Chg [] w w' := by
  have HT2 := Lib.hid (ntherec none w (.inl rfl))
  have HT1 := Lib.hid (ntherec p w h)
  clear h
  go_enter Try.func18, Try.ntmps18
  go_wp2_with fail
  refine HT1.out.mono ?_
  rintro e w' ⟨rfl, rfl⟩
  go_wp2_with fail
  refine HT1.out.mono ?_
  rintro e w' ⟨rfl, rfl⟩
  go_wp2_with fail
  refine HT2.out.mono ?_
  rintro e w' ⟨rfl, rfl⟩
  go_wp2
  go_ret
  exact ⟨rfl, Chg.refl _ _⟩
set_option maxRecDepth 100000 in
theorem nsamec2 (u : UB) (v : Value) (N : Int) (s : QS) (w : World) (h : UAt w u v N s) : Calls Try.prog 18 #[.pointer (some ⟨u.q, 0, none⟩), .pointer none] w fun e w' => e = .returned (.bool false) ∧ Chg [] w w' := by
  have HT2 := Lib.hid (ntherec none w (.inl rfl))
  have HT1 := Lib.hid (utherec u v N s w h)
  clear h
  go_enter Try.func18, Try.ntmps18
  go_wp2_with fail
  refine HT1.out.mono ?_
  rintro e w' ⟨rfl, rfl⟩
  go_wp2_with fail
  refine HT2.out.mono ?_
  rintro e w' ⟨rfl, rfl⟩
  go_wp2_with fail
  refine HT1.out.mono ?_
  rintro e w' ⟨rfl, rfl⟩
  go_wp2_with fail
  refine HT2.out.mono ?_
  rintro e w' ⟨rfl, rfl⟩
  go_wp2
  go_ret
  exact ⟨rfl, Chg.refl _ _⟩

end Go.Proofs.Ytiiafhlckmkcnaa
