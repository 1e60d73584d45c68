
/- metronomelaw14.do: one step of both semaphores (written by wip/do14.py). -/
import Derived.Test.YtknngbnkcbcanaaGreatSR
import Derived.Test.YtknngbnkcbcanaaGreatSc
import Derived.Test.YtknngbnkcbcanaaGreatIns
namespace Go.Proofs.YtknngbnkcbcanaaGreat
open Go.RowKit

theorem snumc (z : Int) (w : World) : Calls Tryz.prog 18 #[.int .i64 z] w fun e w' => e = .returned (.int .i64 z) ∧ w = w' := by
  go_enter Tryz.func18, Tryz.ntmps18
  go_wp2
  go_ret
  exact ⟨rfl, rfl⟩

theorem semNe : 52 ≠ 58 := by decide
theorem styV_in {V : Int} (h0 : 0 ≤ V) (h1 : V ≤ 32767) : 0 ≤ styV V ∧ styV V ≤ 32767 := by unfold styV; split <;> omega
theorem swV_in {L : WL} {V t p : Int} (h0 : 0 ≤ V) (h1 : V ≤ 32767) : 0 ≤ swV L V t p ∧ swV L V t p ≤ 32767 := by unfold swV; split; exact styV_in h0 h1; omega
theorem spV_in {L : WL} {V : Int} (h0 : 0 ≤ V) (h1 : V ≤ 32767) : 0 ≤ spV L V ∧ spV L V ≤ 32767 := by unfold spV; split; omega; split <;> omega

abbrev SB := PB 52 58
abbrev SDoP (cb ab mb rc rb : Nat) (N : Int) (L : WL) (V : Int) (w : World) := PDoP 52 58 cb ab mb rc rb (N + 2) L V w

set_option maxRecDepth 100000 in
set_option maxHeartbeats 2000000 in
theorem sdo1 (cb ab mb rc rb : Nat) (N : Int) (L : WL) (V t p : Int) (w : World) (h : SB w cb ab mb rc rb N L V) (_hN : N < 4611686018427380000) (_v0 : 0 ≤ V) (_v1 : V ≤ 32767) :
    Calls Tryz.prog 8 #[.pointer (some ⟨cb, 0, none⟩), .pointer (some ⟨rc, 0, none⟩), .agg #[.int .i64 1, .int .i64 t, .int .i64 p]] w (SDoP cb ab mb rc rb N (swL L V t p) (swV L V t p) w) := by
  have hC0 : Chg [] w (w.alloc (.cells #[.int .i64 1, .int .i64 t, .int .i64 p] 38)) := (Chg.refl [] w).alloc _
  have hb := heap_alloc_eq w (.cells #[.int .i64 1, .int .i64 t, .int .i64 p] 38)
  have c1 := cellB hb (i := 1) rfl
  have c2 := cellB hb (i := 2) rfl
  have H0 := Lib.hid (And.intro (h.c.calm hC0) (And.intro (h.r.calm hC0) (And.intro hC0 (And.intro h.c.list.facts.2.2 (And.intro hb (And.intro h.c.lt (And.intro h.r.lt h.c.list.lok)))))))
  have c0 := cellB H0.out.2.1.head (i := 1) rfl
  clear h hC0 hb
  have e1 : (swB L V t p == swB L V t p) = true := by simp
  have e2 : (askR L t p false == askR L t p false) = true := by simp
  go_enter Tryz.func8, Tryz.ntmps8
  go_wp2_with fail
  refine (swaitc cb ab mb N L V t p _ H0.out.1 (by omega) _v0 _v1).mono ?_
  rintro e w1 ⟨rfl, hW1, hC1⟩
  have hg := H0.out.2.1.cstep semNe H0.out.1 hC1
  have hb1 := hC1.blk H0.out.2.2.2.2.1 (by have := H0.out.2.2.2.2.2.1; simp; omega)
  have x1 := cellB hb1 (i := 1) rfl
  have x2 := cellB hb1 (i := 2) rfl
  have H1 := Lib.hid (And.intro hW1 (And.intro hg hC1))
  clear hW1 hC1 hg hb1 c0 c1 c2
  go_wp2_with fail
  refine (rswaitc rc rb L V t p w1 H1.out.2.1 (by have := H0.out.2.2.2.1; omega) _v0 _v1).mono ?_
  rintro e w2 ⟨rb', rfl, hR2, hrb, hC2⟩
  have hs := H0.out.2.2.1.size
  have hs1 := H1.out.2.2.size
  have HF := Lib.hid (PB.fin (N := N + 2) (Int.le_refl _) H0.out.2.2.1 semNe H1.out.2.1 H1.out.1 H1.out.2.2 hR2 (hC2.mono (by simp)))
  have HR : Hid (rb' = rb ∨ w.heap.size ≤ rb') := by rcases hrb with h | h; exact .inl h; exact .inr (Nat.le_trans hs (Nat.le_trans hs1 h))
  clear hR2 hC2 hrb hs hs1 x1 x2
  go_wp2_with (first | fail | (go_at_call 18; refine (snumc _ _).mono ?_; rintro e wz ⟨rfl, rfl⟩))
  go_ret3
  exact ⟨cb, ab, mb, rb', rfl, .inl ⟨rfl, rfl, rfl⟩, HR.out, HF.out.1, HF.out.2⟩

set_option maxRecDepth 100000 in
set_option maxHeartbeats 2000000 in
theorem sdo2 (cb ab mb rc rb : Nat) (N : Int) (L : WL) (V t p : Int) (w : World) (h : SB w cb ab mb rc rb N L V) (_hN : N < 4611686018427380000) (_v0 : 0 ≤ V) (_v1 : V ≤ 32767) :
    Calls Tryz.prog 8 #[.pointer (some ⟨cb, 0, none⟩), .pointer (some ⟨rc, 0, none⟩), .agg #[.int .i64 2, .int .i64 t, .int .i64 p]] w (SDoP cb ab mb rc rb N L (styV V) w) := by
  have hC0 : Chg [] w (w.alloc (.cells #[.int .i64 2, .int .i64 t, .int .i64 p] 38)) := (Chg.refl [] w).alloc _
  have hb := heap_alloc_eq w (.cells #[.int .i64 2, .int .i64 t, .int .i64 p] 38)
  have c1 := cellB hb (i := 1) rfl
  have c2 := cellB hb (i := 2) rfl
  have H0 := Lib.hid (And.intro (h.c.calm hC0) (And.intro (h.r.calm hC0) (And.intro hC0 (And.intro h.c.list.facts.2.2 (And.intro hb (And.intro h.c.lt (And.intro h.r.lt h.c.list.lok)))))))
  have c0 := cellB H0.out.2.1.head (i := 1) rfl
  clear h hC0 hb
  have e1 : (styB V == styB V) = true := by simp
  go_enter Tryz.func8, Tryz.ntmps8
  go_wp2_with fail
  refine (stryc cb ab mb N L V _ H0.out.1 _v0 _v1).mono ?_
  rintro e w1 ⟨rfl, hW1, hC1⟩
  have hg := H0.out.2.1.cstep semNe H0.out.1 (hC1.mono (by simp))
  have H1 := Lib.hid (And.intro hW1 (And.intro hg hC1))
  clear hW1 hC1 hg c0 c1 c2
  go_wp2_with fail
  refine (rstryc rc rb L V w1 H1.out.2.1 _v0 _v1).mono ?_
  rintro e w2 ⟨rfl, hR2, hC2⟩
  have HF := Lib.hid (PB.fin (N := N + 2) (by omega) H0.out.2.2.1 semNe H1.out.2.1 H1.out.1 (H1.out.2.2.mono (by simp)) hR2 (hC2.mono (by simp)))
  clear hR2 hC2
  go_wp2
  go_ret3
  exact ⟨cb, ab, mb, rb, rfl, .inl ⟨rfl, rfl, rfl⟩, .inl rfl, HF.out.1, HF.out.2⟩

set_option maxRecDepth 100000 in
set_option maxHeartbeats 2000000 in
theorem sdo3 (cb ab mb rc rb : Nat) (N : Int) (L : WL) (V t p : Int) (w : World) (h : SB w cb ab mb rc rb N L V) (_hN : N < 4611686018427380000) (_v0 : 0 ≤ V) (_v1 : V ≤ 32767) :
    Calls Tryz.prog 8 #[.pointer (some ⟨cb, 0, none⟩), .pointer (some ⟨rc, 0, none⟩), .agg #[.int .i64 3, .int .i64 t, .int .i64 p]] w (SDoP cb ab mb rc rb N (takeL L) (spV L V) w) := by
  have hC0 : Chg [] w (w.alloc (.cells #[.int .i64 3, .int .i64 t, .int .i64 p] 38)) := (Chg.refl [] w).alloc _
  have hb := heap_alloc_eq w (.cells #[.int .i64 3, .int .i64 t, .int .i64 p] 38)
  have c1 := cellB hb (i := 1) rfl
  have c2 := cellB hb (i := 2) rfl
  have H0 := Lib.hid (And.intro (h.c.calm hC0) (And.intro (h.r.calm hC0) (And.intro hC0 (And.intro h.c.list.facts.2.2 (And.intro hb (And.intro h.c.lt (And.intro h.r.lt h.c.list.lok)))))))
  have c0 := cellB H0.out.2.1.head (i := 1) rfl
  clear h hC0 hb
  have e1 : (spT L == spT L) = true := by simp
  have e2 : (spE L V == spE L V) = true := by simp
  go_enter Tryz.func8, Tryz.ntmps8
  go_wp2_with fail
  refine (spostc cb ab mb N L V _ H0.out.1 _v0 _v1).mono ?_
  rintro e w1 ⟨rfl, hW1, hC1⟩
  have hg := H0.out.2.1.cstep semNe H0.out.1 hC1
  have H1 := Lib.hid (And.intro hW1 (And.intro hg hC1))
  clear hW1 hC1 hg c0 c1 c2
  go_wp2_with fail
  refine (rspostc rc rb L V w1 H1.out.2.1 (by have := H0.out.2.2.2.1; omega) H0.out.2.2.2.2.2.2.2 _v0 _v1).mono ?_
  rintro e w2 ⟨rfl, hR2, hC2⟩
  have HF := Lib.hid (PB.fin (N := N + 2) (by omega) H0.out.2.2.1 semNe H1.out.2.1 H1.out.1 H1.out.2.2 hR2 hC2)
  clear hR2 hC2
  go_wp2_with (first | fail | (go_at_call 18; refine (snumc _ _).mono ?_; rintro e wz ⟨rfl, rfl⟩))
  go_ret3
  exact ⟨cb, ab, mb, rb, rfl, .inl ⟨rfl, rfl, rfl⟩, .inl rfl, HF.out.1, HF.out.2⟩

set_option maxRecDepth 100000 in
set_option maxHeartbeats 2000000 in
theorem sdo4 (cb ab mb rc rb : Nat) (N : Int) (L : WL) (V t p : Int) (w : World) (h : SB w cb ab mb rc rb N L V) (_hN : N < 4611686018427380000) (_v0 : 0 ≤ V) (_v1 : V ≤ 32767) :
    Calls Tryz.prog 8 #[.pointer (some ⟨cb, 0, none⟩), .pointer (some ⟨rc, 0, none⟩), .agg #[.int .i64 4, .int .i64 t, .int .i64 p]] w (SDoP cb ab mb rc rb N (lvL L t) V w) := by
  have hC0 : Chg [] w (w.alloc (.cells #[.int .i64 4, .int .i64 t, .int .i64 p] 38)) := (Chg.refl [] w).alloc _
  have hb := heap_alloc_eq w (.cells #[.int .i64 4, .int .i64 t, .int .i64 p] 38)
  have c1 := cellB hb (i := 1) rfl
  have c2 := cellB hb (i := 2) rfl
  have H0 := Lib.hid (And.intro (h.c.calm hC0) (And.intro (h.r.calm hC0) (And.intro hC0 (And.intro h.c.list.facts.2.2 (And.intro hb (And.intro h.c.lt (And.intro h.r.lt h.c.list.lok)))))))
  have c0 := cellB H0.out.2.1.head (i := 1) rfl
  clear h hC0 hb
  go_enter Tryz.func8, Tryz.ntmps8
  go_wp2
  generalize (w.alloc (.cells #[.int .i64 4, .int .i64 t, .int .i64 p] 38)) = WW at *
  have HP := Lib.hid (H0.out.1.calm ((Chg.refl [] WW).drew))
  have HQ := Lib.hid (H0.out.2.1.calm ((Chg.refl [] WW).drew))
  go_region_held3 (fun w' => w'.cell? ⟨rc, 1, none⟩ = some (.pointer (some ⟨rb, 0, none⟩)) ∧ w'.cell? ⟨w.heap.size, 1, none⟩ = some (.int .i64 t)) (first | exact ⟨c0, c1⟩ | exact ⟨x0, x1⟩ | exact ⟨y0, y1⟩)
    (first
    | (go_at_call 23; refine (sleavec cb ab mb N L V t _ HP.out).mono ?_; rintro e w1 ⟨rfl, hW1, hC1⟩; have hg1 := HQ.out.cstep semNe HP.out (hC1.mono (by simp)); have x0 := cellB hg1.head (i := 1) rfl; have hb1 := (((Chg.refl [] WW).drew.mono (by simp)).trans hC1).blk H0.out.2.2.2.2.1 (by have := H0.out.2.2.2.2.2.1; simp; omega); have x1 := cellB hb1 (i := 1) rfl)
    | (go_at_call 18; refine (snumc _ _).mono ?_; rintro e w' ⟨rfl, rfl⟩)
    | (go_at_call 24; refine (rleavec rb L t w1 hg1.list (by have := H0.out.2.2.2.1; omega)).mono ?_; rintro e w2 ⟨rfl, hR2, hC2⟩; have hg2 := hg1.lstep hR2 hC2; have y0 := cellB hg2.head (i := 1) rfl; have hb2 := hC2.blk hb1 (by have := H0.out.2.2.2.2.2.2.1; simp; omega); have y1 := cellB hb2 (i := 1) rfl))
  have HF := Lib.hid (PB.fin (N := N + 2) (by omega) H0.out.2.2.1.drew semNe hg1 hW1 (show Chg [cb, ab, mb] _ w1 from hC1.mono (by simp)) hg2 (hC2.mono (by simp)))
  clear hW1 hC1 hg1 x0 hR2 hC2 hg2 y0 x1 y1 hb1 hb2
  go_wp2
  go_ret3
  exact ⟨cb, ab, mb, rb, rfl, .inl ⟨rfl, rfl, rfl⟩, .inl rfl, HF.out.1, HF.out.2⟩

set_option maxRecDepth 100000 in
set_option maxHeartbeats 2000000 in
theorem sdo5 (cb ab mb rc rb : Nat) (N : Int) (L : WL) (V t p : Int) (w : World) (h : SB w cb ab mb rc rb N L V) (_hN : N < 4611686018427380000) (_v0 : 0 ≤ V) (_v1 : V ≤ 32767) :
    Calls Tryz.prog 8 #[.pointer (some ⟨cb, 0, none⟩), .pointer (some ⟨rc, 0, none⟩), .agg #[.int .i64 5, .int .i64 t, .int .i64 p]] w (SDoP cb ab mb rc rb N (chgL L t p) V w) := by
  have hC0 : Chg [] w (w.alloc (.cells #[.int .i64 5, .int .i64 t, .int .i64 p] 38)) := (Chg.refl [] w).alloc _
  have hb := heap_alloc_eq w (.cells #[.int .i64 5, .int .i64 t, .int .i64 p] 38)
  have c1 := cellB hb (i := 1) rfl
  have c2 := cellB hb (i := 2) rfl
  have H0 := Lib.hid (And.intro (h.c.calm hC0) (And.intro (h.r.calm hC0) (And.intro hC0 (And.intro h.c.list.facts.2.2 (And.intro hb (And.intro h.c.lt (And.intro h.r.lt h.c.list.lok)))))))
  have c0 := cellB H0.out.2.1.head (i := 1) rfl
  clear h hC0 hb
  go_enter Tryz.func8, Tryz.ntmps8
  go_wp2
  generalize (w.alloc (.cells #[.int .i64 5, .int .i64 t, .int .i64 p] 38)) = WW at *
  have HP := Lib.hid (H0.out.1.calm ((Chg.refl [] WW).drew))
  have HQ := Lib.hid (H0.out.2.1.calm ((Chg.refl [] WW).drew))
  go_region_held3 (fun w' => w'.cell? ⟨rc, 1, none⟩ = some (.pointer (some ⟨rb, 0, none⟩)) ∧ w'.cell? ⟨w.heap.size, 1, none⟩ = some (.int .i64 t) ∧ w'.cell? ⟨w.heap.size, 2, none⟩ = some (.int .i64 p)) (first | exact ⟨c0, c1, c2⟩ | exact ⟨x0, x1, x2⟩ | exact ⟨y0, y1, y2⟩)
    (first
    | (go_at_call 25; refine (schangec cb ab mb N L V t p _ HP.out).mono ?_; rintro e w1 ⟨rfl, hW1, hC1⟩; have hg1 := HQ.out.cstep semNe HP.out (hC1.mono (by simp)); have x0 := cellB hg1.head (i := 1) rfl; have hb1 := (((Chg.refl [] WW).drew.mono (by simp)).trans hC1).blk H0.out.2.2.2.2.1 (by have := H0.out.2.2.2.2.2.1; simp; omega); have x1 := cellB hb1 (i := 1) rfl; have x2 := cellB hb1 (i := 2) rfl)
    | (go_at_call 18; refine (snumc _ _).mono ?_; rintro e w' ⟨rfl, rfl⟩)
    | (go_at_call 26; refine (rchangec rb L t p w1 hg1.list (by have := H0.out.2.2.2.1; omega)).mono ?_; rintro e w2 ⟨rfl, hR2, hC2⟩; have hg2 := hg1.lstep hR2 hC2; have y0 := cellB hg2.head (i := 1) rfl; have hb2 := hC2.blk hb1 (by have := H0.out.2.2.2.2.2.2.1; simp; omega); have y1 := cellB hb2 (i := 1) rfl; have y2 := cellB hb2 (i := 2) rfl))
  have HF := Lib.hid (PB.fin (N := N + 2) (by omega) H0.out.2.2.1.drew semNe hg1 hW1 (show Chg [cb, ab, mb] _ w1 from hC1.mono (by simp)) hg2 (hC2.mono (by simp)))
  clear hW1 hC1 hg1 x0 hR2 hC2 hg2 y0 x1 y1 hb1 hb2 x2 y2
  go_wp2
  go_ret3
  exact ⟨cb, ab, mb, rb, rfl, .inl ⟨rfl, rfl, rfl⟩, .inl rfl, HF.out.1, HF.out.2⟩

set_option maxRecDepth 100000 in
set_option maxHeartbeats 2000000 in
theorem sdo6 (cb ab mb rc rb : Nat) (N : Int) (L : WL) (V t p : Int) (w : World) (h : SB w cb ab mb rc rb N L V) (_hN : N < 4611686018427380000) (_v0 : 0 ≤ V) (_v1 : V ≤ 32767) :
    Calls Tryz.prog 8 #[.pointer (some ⟨cb, 0, none⟩), .pointer (some ⟨rc, 0, none⟩), .agg #[.int .i64 6, .int .i64 t, .int .i64 p]] w (SDoP cb ab mb rc rb N L V w) := by
  have hC0 : Chg [] w (w.alloc (.cells #[.int .i64 6, .int .i64 t, .int .i64 p] 38)) := (Chg.refl [] w).alloc _
  have hb := heap_alloc_eq w (.cells #[.int .i64 6, .int .i64 t, .int .i64 p] 38)
  have c1 := cellB hb (i := 1) rfl
  have c2 := cellB hb (i := 2) rfl
  have H0 := Lib.hid (And.intro (h.c.calm hC0) (And.intro (h.r.calm hC0) (And.intro hC0 (And.intro h.c.list.facts.2.2 (And.intro hb (And.intro h.c.lt (And.intro h.r.lt h.c.list.lok)))))))
  have c0 := cellB H0.out.2.1.head (i := 1) rfl
  clear h hC0 hb
  go_enter Tryz.func8, Tryz.ntmps8
  go_wp2_with fail
  refine (scopyc cb ab mb N L V _ H0.out.1).mono ?_
  rintro e w1 ⟨cx, a1, m1, rfl, hc1, ha1, hm1, hW1, hC1⟩
  have hs := H0.out.2.2.1.size
  have H1 := Lib.hid (And.intro hW1 (And.intro (H0.out.1.calm hC1) (And.intro (H0.out.2.1.calm hC1) (And.intro (H0.out.2.2.1.trans hC1) (And.intro (Nat.le_trans hs hc1) (And.intro (Nat.le_trans hs ha1) (Nat.le_trans hs hm1)))))))
  clear hW1 hC1 ha1 hm1 hc1 hs c0 c1 c2
  go_wp2_with fail
  refine (ssamec cx a1 m1 cb ab mb N N L L V V w1 H1.out.1 H1.out.2.1).mono ?_
  rintro e w2 ⟨rfl, hC2⟩
  rw [show (decide (V = V) && decide (L = L)) = true by rw [decide_eq_true rfl, decide_eq_true rfl]; rfl]
  have hn : ∀ k ∈ [cb, ab, mb], k ≠ cx ∧ k ≠ a1 ∧ k ≠ m1 := fun k hk => by
    have h1 := H0.out.2.2.2.2.2.1
    have h2 := H1.out.2.2.2.2
    simp at hk
    omega
  have H2 := Lib.hid (And.intro (H1.out.1.calm hC2) (And.intro (H1.out.2.1.calm hC2) (And.intro (H1.out.2.2.1.calm hC2) (And.intro ((H1.out.2.2.2.1.trans hC2).mono (S2 := [cb, ab, mb]) (by simp)) hn))))
  clear hC2 hn
  go_wp2_with fail
  refine (spostc cb ab mb N L V w2 H2.out.2.1 _v0 _v1).mono ?_
  rintro e w3 ⟨rfl, hW, hC⟩
  have H3 := Lib.hid (And.intro (H2.out.1.kept hC (fun h => (H2.out.2.2.2.2 _ h).1 rfl) (fun h => (H2.out.2.2.2.2 _ h).2.1 rfl) (fun h => (H2.out.2.2.2.2 _ h).2.2 rfl)) (And.intro hW (And.intro (H2.out.2.2.1.cstep semNe H2.out.2.1 hC) (H2.out.2.2.2.1.trans hC))))
  clear hW hC
  go_wp2_with fail
  refine (swaitc cb ab mb N (takeL L) (spV L V) 15 31 w3 H3.out.2.1 (by omega) (spV_in _v0 _v1).1 (spV_in _v0 _v1).2).mono ?_
  rintro e w4 ⟨rfl, hW, hC⟩
  have H4 := Lib.hid (And.intro (H3.out.1.kept hC (fun h => (H2.out.2.2.2.2 _ h).1 rfl) (fun h => (H2.out.2.2.2.2 _ h).2.1 rfl) (fun h => (H2.out.2.2.2.2 _ h).2.2 rfl)) (And.intro (H3.out.2.2.1.cstep semNe H3.out.2.1 hC) (H3.out.2.2.2.trans hC)))
  clear hW hC
  go_wp2
  go_ret3
  exact ⟨cx, a1, m1, rb, rfl, .inr H1.out.2.2.2.2, .inl rfl, ⟨H4.out.1.mono (by omega), H4.out.2.1, semNe⟩, H4.out.2.2.mono (by simp)⟩

set_option maxRecDepth 100000 in
set_option maxHeartbeats 2000000 in
theorem sdo0 (cb ab mb rc rb : Nat) (N : Int) (L : WL) (V k t p : Int) (w : World) (h : SB w cb ab mb rc rb N L V) (h1 : (k == 1) = false) (h2 : (k == 2) = false) (h3 : (k == 3) = false) (h4 : (k == 4) = false) (h5 : (k == 5) = false) (h6 : (k == 6) = false) :
    Calls Tryz.prog 8 #[.pointer (some ⟨cb, 0, none⟩), .pointer (some ⟨rc, 0, none⟩), .agg #[.int .i64 k, .int .i64 t, .int .i64 p]] w (SDoP cb ab mb rc rb N L V w) := by
  have H0 := Lib.hid h
  clear h
  go_enter Tryz.func8, Tryz.ntmps8
  go_wp2
  go_ret3
  have hC0 := (Chg.refl [] w).alloc (.cells #[.int .i64 k, .int .i64 t, .int .i64 p] 38)
  exact ⟨cb, ab, mb, rb, rfl, .inl ⟨rfl, rfl, rfl⟩, .inl rfl, (H0.out.calm hC0).mono (by omega), hC0.mono (by simp)⟩

/-- The list and the value behind a step. -/
def sstL (L : WL) (V k t p : Int) : WL := if k = 1 then swL L V t p else if k = 2 then L else if k = 3 then takeL L else if k = 4 then lvL L t else if k = 5 then chgL L t p else L
def sstV (L : WL) (V k t p : Int) : Int := if k = 1 then swV L V t p else if k = 2 then styV V else if k = 3 then spV L V else V
theorem sstV_in {L : WL} {V k t p : Int} (h0 : 0 ≤ V) (h1 : V ≤ 32767) : 0 ≤ sstV L V k t p ∧ sstV L V k t p ≤ 32767 := by
  unfold sstV
  split
  · exact swV_in h0 h1
  · split
    · exact styV_in h0 h1
    · split
      · exact spV_in h0 h1
      · exact ⟨h0, h1⟩

theorem sdoc (cb ab mb rc rb : Nat) (N : Int) (L : WL) (V k t p : Int) (w : World) (h : SB w cb ab mb rc rb N L V) (_hN : N < 4611686018427380000) (_v0 : 0 ≤ V) (_v1 : V ≤ 32767) :
    Calls Tryz.prog 8 #[.pointer (some ⟨cb, 0, none⟩), .pointer (some ⟨rc, 0, none⟩), .agg #[.int .i64 k, .int .i64 t, .int .i64 p]] w (SDoP cb ab mb rc rb N (sstL L V k t p) (sstV L V k t p) w) := by
  unfold sstL sstV
  by_cases h1 : k = 1
  · subst h1; rw [if_pos rfl, if_pos rfl]; exact sdo1 cb ab mb rc rb N L V t p w h _hN _v0 _v1
  rw [if_neg h1, if_neg h1]
  by_cases h2 : k = 2
  · subst h2; rw [if_pos rfl, if_pos rfl]; exact sdo2 cb ab mb rc rb N L V t p w h _hN _v0 _v1
  rw [if_neg h2, if_neg h2]
  by_cases h3 : k = 3
  · subst h3; rw [if_pos rfl, if_pos rfl]; exact sdo3 cb ab mb rc rb N L V t p w h _hN _v0 _v1
  rw [if_neg h3, if_neg h3]
  by_cases h4 : k = 4
  · subst h4; rw [if_pos rfl]; exact sdo4 cb ab mb rc rb N L V t p w h _hN _v0 _v1
  rw [if_neg h4]
  by_cases h5 : k = 5
  · subst h5; rw [if_pos rfl]; exact sdo5 cb ab mb rc rb N L V t p w h _hN _v0 _v1
  rw [if_neg h5]
  by_cases h6 : k = 6
  · subst h6; exact sdo6 cb ab mb rc rb N L V t p w h _hN _v0 _v1
  exact sdo0 cb ab mb rc rb N L V k t p w h (by simpa using h1) (by simpa using h2) (by simpa using h3) (by simpa using h4) (by simpa using h5) (by simpa using h6)

end Go.Proofs.YtknngbnkcbcanaaGreat
