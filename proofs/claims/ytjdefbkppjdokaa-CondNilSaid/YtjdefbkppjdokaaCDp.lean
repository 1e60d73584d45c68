/- metronomelaw16.do: the other kinds; all kinds. -/
import Derived.Test.YtjdefbkppjdokaaCDo
namespace Go.Proofs.Ytjdefbkppjdokaa
open Go.RowKit

theorem CB.fin {cb ab mb rc rb : Nat} {N N2 M : Int} {L2 : WL} {w WW w1 w2 : World} {M1 : Int} {L : WL} (hN : N2 ≤ N + 1) (h0 : Chg [] w WW) (hg : RCAt w1 rc rb L M1) (hW1 : CAt w1 cb ab mb N2 L2 M) (hC1 : Chg [cb, ab, mb] WW w1) (hR2 : RCAt w2 rc rb L2 M) (hC2 : Chg [rc, rb] w1 w2) :
    CB w2 cb ab mb rc rb (N + 1) L2 M ∧ Chg [cb, ab, mb, rc, rb] w w2 :=
  ⟨⟨(hW1.rstep hg hC2).mono hN, hR2⟩, ((h0.mono (by simp)).trans (hC1.mono (by simp))).trans (hC2.mono (by simp))⟩

set_option maxRecDepth 100000 in
set_option maxHeartbeats 2000000 in
theorem cdo2 (cb ab mb rc rb : Nat) (N : Int) (L : WL) (M t p m : Int) (w : World) (h : CB w cb ab mb rc rb N L M) :
    Calls Try.prog 20 #[.pointer (some ⟨cb, 0, none⟩), .pointer (some ⟨rc, 0, none⟩), .agg #[.int .i64 2, .int .i64 t, .int .i64 p, .int .i64 m]] w (CDoP cb ab mb rc rb N (takeL L) M w) := by
  have hC0 : Chg [] w (w.alloc (.cells #[.int .i64 2, .int .i64 t, .int .i64 p, .int .i64 m] 27)) := (Chg.refl [] w).alloc _
  have H0 := Lib.hid (And.intro (h.c.calm hC0) (And.intro (h.r.calm hC0) (And.intro hC0 (And.intro h.c.list.facts.2.2 h.c.list.lok))))
  clear h hC0
  go_enter Try.func20, Try.ntmps20
  go_wp2_with fail
  refine (csignalc cb ab mb N L M _ H0.out.1).mono ?_
  rintro e w1 ⟨rfl, hW1, hC1⟩
  have hg := H0.out.2.1.cstep H0.out.1 (hC1.mono (by simp))
  have c0 := cellB hg.head (i := 0) rfl
  have H1 := Lib.hid (And.intro hW1 (And.intro hg hC1))
  clear hW1 hC1 hg
  go_wp2_with fail
  refine (rtakec rb L w1 H1.out.2.1.list (by have := H0.out.2.2.2.1; omega) H0.out.2.2.2.2).mono ?_
  rintro e w2 ⟨rfl, hR2, hC2⟩
  have HF := Lib.hid (CB.fin (N := N) (by omega) H0.out.2.2.1 H1.out.2.1 H1.out.1 (show Chg [cb, ab, mb] _ w1 from H1.out.2.2.mono (by simp)) (H1.out.2.1.lstep hR2 hC2) (hC2.mono (by simp)))
  clear hR2 hC2
  go_wp2
  go_ret3
  exact ⟨cb, ab, mb, rb, rfl, .inl ⟨rfl, rfl, rfl⟩, .inl rfl, HF.out.1, HF.out.2⟩

set_option maxRecDepth 100000 in
set_option maxHeartbeats 2000000 in
theorem cdo3 (cb ab mb rc rb : Nat) (N : Int) (L : WL) (M t p m : Int) (w : World) (h : CB w cb ab mb rc rb N L M) :
    Calls Try.prog 20 #[.pointer (some ⟨cb, 0, none⟩), .pointer (some ⟨rc, 0, none⟩), .agg #[.int .i64 3, .int .i64 t, .int .i64 p, .int .i64 m]] w (CDoP cb ab mb rc rb N [] M w) := by
  have hC0 : Chg [] w (w.alloc (.cells #[.int .i64 3, .int .i64 t, .int .i64 p, .int .i64 m] 27)) := (Chg.refl [] w).alloc _
  have hlen : (ordT L).length ≤ 16 := by unfold ordT; rw [List.length_map, ordT_len h.c.list.lok]; exact h.c.list.facts.2.2
  have H0 := Lib.hid (And.intro (h.c.calm hC0) (And.intro (h.r.calm hC0) (And.intro hC0 (And.intro h.c.list.facts.2.2 (And.intro h.c.list.lok (And.intro hlen (And.intro h.c.lt h.r.lt)))))))
  have c0 := cellB H0.out.2.1.head (i := 0) rfl
  clear h hC0 hlen
  go_enter Try.func20, Try.ntmps20
  go_wp2
  generalize (w.alloc (.cells #[.int .i64 3, .int .i64 t, .int .i64 p, .int .i64 m] 27)) = WW at *
  have HP := Lib.hid (H0.out.1.calm ((Chg.refl [] WW).drew))
  have HQ := Lib.hid (H0.out.2.1.calm ((Chg.refl [] WW).drew))
  go_region_held3 (fun w' => w'.cell? ⟨rc, 0, none⟩ = some (.pointer (some ⟨rb, 0, none⟩))) (first | exact c0 | exact x0 | exact y0 | exact z0)
    (first
    | (go_at_call 16; refine (cbroadc cb ab mb N L M _ HP.out).mono ?_; rintro e w1 ⟨v1, rfl, ho1, hW1, hC1⟩; have hg1 := HQ.out.cstep HP.out (hC1.mono (by simp)); have x0 := cellB hg1.head (i := 0) rfl)
    | (go_at_call 37; refine (rclearc rb L w1 hg1.list (by have := H0.out.2.2.2.1; omega) H0.out.2.2.2.2.1).mono ?_; rintro e w2 ⟨v2, rfl, ho2, hR2, hC2⟩; have hg2 := hg1.lstep hR2 hC2; have y0 := cellB hg2.head (i := 0) rfl)
    | (go_at_call 14; refine (sameInts_any v1 v2 (ordT L) (ordT L) w2 (IsInts.of_own (own_kept ho1 hC2 (fun k hk => own_notin ho1 (by have h1 := H0.out.2.2.1.size; have h2 := H0.out.2.2.2.2.2.2.2; simp at hk; subst hk; simp; omega)))) (IsInts.of_own ho2) (by have := H0.out.2.2.2.2.2.1; omega) (by have := H0.out.2.2.2.2.2.1; omega)).mono ?_; rintro e w3 ⟨rfl, hC3⟩; rw [show decide (ordT L = ordT L) = true from decide_eq_true rfl]; have z0 := cellB (hg2.calm hC3).head (i := 0) rfl))
  have HF := Lib.hid (CB.fin (N := N) (by omega) H0.out.2.2.1.drew hg1 hW1 (show Chg [cb, ab, mb] _ w1 from hC1.mono (by simp)) hg2 (hC2.mono (by simp)))
  have H3 := Lib.hid hC3
  clear ho1 hW1 hC1 hg1 x0 ho2 hR2 hC2 hg2 y0 z0 hC3
  go_wp2
  go_ret3
  exact ⟨cb, ab, mb, rb, rfl, .inl ⟨rfl, rfl, rfl⟩, .inl rfl, ⟨HF.out.1.c.calm H3.out, HF.out.1.r.calm H3.out⟩, HF.out.2.trans (H3.out.mono (by simp))⟩

set_option maxRecDepth 100000 in
set_option maxHeartbeats 2000000 in
theorem cdo4 (cb ab mb rc rb : Nat) (N : Int) (L : WL) (M t p m : Int) (w : World) (h : CB w cb ab mb rc rb N L M) :
    Calls Try.prog 20 #[.pointer (some ⟨cb, 0, none⟩), .pointer (some ⟨rc, 0, none⟩), .agg #[.int .i64 4, .int .i64 t, .int .i64 p, .int .i64 m]] w (CDoP cb ab mb rc rb N (lvL L t) M w) := by
  have hC0 : Chg [] w (w.alloc (.cells #[.int .i64 4, .int .i64 t, .int .i64 p, .int .i64 m] 27)) := (Chg.refl [] w).alloc _
  have hb := heap_alloc_eq w (.cells #[.int .i64 4, .int .i64 t, .int .i64 p, .int .i64 m] 27)
  have c1 := cellB hb (i := 1) rfl
  have H0 := Lib.hid (And.intro (h.c.calm hC0) (And.intro (h.r.calm hC0) (And.intro hC0 (And.intro h.c.list.facts.2.2 (And.intro hb (And.intro h.c.lt h.r.lt))))))
  have c0 := cellB H0.out.2.1.head (i := 0) rfl
  clear h hC0 hb
  go_enter Try.func20, Try.ntmps20
  go_wp2
  generalize (w.alloc (.cells #[.int .i64 4, .int .i64 t, .int .i64 p, .int .i64 m] 27)) = WW at *
  have HP := Lib.hid (H0.out.1.calm ((Chg.refl [] WW).drew))
  have HQ := Lib.hid (H0.out.2.1.calm ((Chg.refl [] WW).drew))
  go_region_held3 (fun w' => w'.cell? ⟨rc, 0, none⟩ = some (.pointer (some ⟨rb, 0, none⟩)) ∧ w'.cell? ⟨w.heap.size, 1, none⟩ = some (.int .i64 t)) (first | exact ⟨c0, c1⟩ | exact ⟨x0, x1⟩ | exact ⟨y0, y1⟩)
    (first
    | (go_at_call 17; refine (cleavec cb ab mb N L M t _ HP.out).mono ?_; rintro e w1 ⟨rfl, hW1, hC1⟩; have hg1 := HQ.out.cstep HP.out (hC1.mono (by simp)); have x0 := cellB hg1.head (i := 0) rfl; have hb1 := (((Chg.refl [] WW).drew.mono (by simp)).trans hC1).blk H0.out.2.2.2.2.1 (by have := H0.out.2.2.2.2.2.1; simp; omega); have x1 := cellB hb1 (i := 1) rfl)
    | (go_at_call 12; refine (cnumc _ _).mono ?_; rintro e w' ⟨rfl, rfl⟩)
    | (go_at_call 38; refine (rleavec rb L t w1 hg1.list (by have := H0.out.2.2.2.1; omega)).mono ?_; rintro e w2 ⟨rfl, hR2, hC2⟩; have hg2 := hg1.lstep hR2 hC2; have y0 := cellB hg2.head (i := 0) rfl; have hb2 := hC2.blk hb1 (by have := H0.out.2.2.2.2.2.2; simp; omega); have y1 := cellB hb2 (i := 1) rfl))
  have HF := Lib.hid (CB.fin (N := N) (by omega) H0.out.2.2.1.drew hg1 hW1 (show Chg [cb, ab, mb] _ w1 from hC1.mono (by simp)) hg2 (hC2.mono (by simp)))
  clear hW1 hC1 hg1 x0 hR2 hC2 hg2 y0 x1 y1 hb1 hb2
  go_wp2
  go_ret3
  exact ⟨cb, ab, mb, rb, rfl, .inl ⟨rfl, rfl, rfl⟩, .inl rfl, HF.out.1, HF.out.2⟩

set_option maxRecDepth 100000 in
set_option maxHeartbeats 2000000 in
theorem cdo5 (cb ab mb rc rb : Nat) (N : Int) (L : WL) (M t p m : Int) (w : World) (h : CB w cb ab mb rc rb N L M) :
    Calls Try.prog 20 #[.pointer (some ⟨cb, 0, none⟩), .pointer (some ⟨rc, 0, none⟩), .agg #[.int .i64 5, .int .i64 t, .int .i64 p, .int .i64 m]] w (CDoP cb ab mb rc rb N (chgL L t p) M w) := by
  have hC0 : Chg [] w (w.alloc (.cells #[.int .i64 5, .int .i64 t, .int .i64 p, .int .i64 m] 27)) := (Chg.refl [] w).alloc _
  have hb := heap_alloc_eq w (.cells #[.int .i64 5, .int .i64 t, .int .i64 p, .int .i64 m] 27)
  have c1 := cellB hb (i := 1) rfl
  have c2 := cellB hb (i := 2) rfl
  have H0 := Lib.hid (And.intro (h.c.calm hC0) (And.intro (h.r.calm hC0) (And.intro hC0 (And.intro h.c.list.facts.2.2 (And.intro hb (And.intro h.c.lt h.r.lt))))))
  have c0 := cellB H0.out.2.1.head (i := 0) rfl
  clear h hC0 hb
  go_enter Try.func20, Try.ntmps20
  go_wp2
  generalize (w.alloc (.cells #[.int .i64 5, .int .i64 t, .int .i64 p, .int .i64 m] 27)) = WW at *
  have HP := Lib.hid (H0.out.1.calm ((Chg.refl [] WW).drew))
  have HQ := Lib.hid (H0.out.2.1.calm ((Chg.refl [] WW).drew))
  go_region_held3 (fun w' => w'.cell? ⟨rc, 0, none⟩ = some (.pointer (some ⟨rb, 0, none⟩)) ∧ w'.cell? ⟨w.heap.size, 1, none⟩ = some (.int .i64 t) ∧ w'.cell? ⟨w.heap.size, 2, none⟩ = some (.int .i64 p)) (first | exact ⟨c0, c1, c2⟩ | exact ⟨x0, x1, x2⟩ | exact ⟨y0, y1, y2⟩)
    (first
    | (go_at_call 18; refine (cchangec cb ab mb N L M t p _ HP.out).mono ?_; rintro e w1 ⟨rfl, hW1, hC1⟩; have hg1 := HQ.out.cstep HP.out (hC1.mono (by simp)); have x0 := cellB hg1.head (i := 0) rfl; have hb1 := (((Chg.refl [] WW).drew.mono (by simp)).trans hC1).blk H0.out.2.2.2.2.1 (by have := H0.out.2.2.2.2.2.1; simp; omega); have x1 := cellB hb1 (i := 1) rfl; have x2 := cellB hb1 (i := 2) rfl)
    | (go_at_call 12; refine (cnumc _ _).mono ?_; rintro e w' ⟨rfl, rfl⟩)
    | (go_at_call 39; refine (rchangec rb L t p w1 hg1.list (by have := H0.out.2.2.2.1; omega)).mono ?_; rintro e w2 ⟨rfl, hR2, hC2⟩; have hg2 := hg1.lstep hR2 hC2; have y0 := cellB hg2.head (i := 0) rfl; have hb2 := hC2.blk hb1 (by have := H0.out.2.2.2.2.2.2; simp; omega); have y1 := cellB hb2 (i := 1) rfl; have y2 := cellB hb2 (i := 2) rfl))
  have HF := Lib.hid (CB.fin (N := N) (by omega) H0.out.2.2.1.drew hg1 hW1 (show Chg [cb, ab, mb] _ w1 from hC1.mono (by simp)) hg2 (hC2.mono (by simp)))
  clear hW1 hC1 hg1 x0 hR2 hC2 hg2 y0 x1 y1 hb1 hb2 x2 y2
  go_wp2
  go_ret3
  exact ⟨cb, ab, mb, rb, rfl, .inl ⟨rfl, rfl, rfl⟩, .inl rfl, HF.out.1, HF.out.2⟩

set_option maxRecDepth 100000 in
set_option maxHeartbeats 2000000 in
theorem cdo6 (cb ab mb rc rb : Nat) (N : Int) (L : WL) (M t p m : Int) (w : World) (h : CB w cb ab mb rc rb N L M) (hN : N < 4611686018427387904) :
    Calls Try.prog 20 #[.pointer (some ⟨cb, 0, none⟩), .pointer (some ⟨rc, 0, none⟩), .agg #[.int .i64 6, .int .i64 t, .int .i64 p, .int .i64 m]] w (CDoP cb ab mb rc rb N L M w) := by
  have hC0 : Chg [] w (w.alloc (.cells #[.int .i64 6, .int .i64 t, .int .i64 p, .int .i64 m] 27)) := (Chg.refl [] w).alloc _
  have H0 := Lib.hid (And.intro (h.c.calm hC0) (And.intro (h.r.calm hC0) (And.intro hC0 h.c.lt)))
  clear h hC0
  go_enter Try.func20, Try.ntmps20
  go_wp2_with fail
  refine (ccopyc cb ab mb N L M _ H0.out.1).mono ?_
  rintro e w1 ⟨c1, a1, m1, rfl, hc1, ha1, hm1, hW1, hC1⟩
  have hs := H0.out.2.2.1.size
  have H1 := Lib.hid (And.intro hW1 (And.intro (H0.out.1.calm hC1) (And.intro (H0.out.2.1.calm hC1) (And.intro (H0.out.2.2.1.trans hC1) (And.intro (Nat.le_trans hs hc1) (And.intro (Nat.le_trans hs ha1) (Nat.le_trans hs hm1)))))))
  clear hW1 hC1 ha1 hm1 hc1 hs
  go_wp2_with fail
  refine (csamec c1 a1 m1 cb ab mb N N L L M M w1 H1.out.1 H1.out.2.1).mono ?_
  rintro e w2 ⟨rfl, hC2⟩
  rw [show (decide (muM L M = muM L M) && decide (L = L)) = true by rw [decide_eq_true rfl, decide_eq_true rfl]; rfl]
  have hn : ∀ k ∈ [cb, ab, mb], k ≠ c1 ∧ k ≠ a1 ∧ k ≠ m1 := fun k hk => by
    have h1 := H0.out.2.2.2
    have h2 := H1.out.2.2.2.2
    simp at hk
    omega
  have H2 := Lib.hid (And.intro (H1.out.1.calm hC2) (And.intro (H1.out.2.1.calm hC2) (And.intro (H1.out.2.2.1.calm hC2) (And.intro ((H1.out.2.2.2.1.trans hC2).mono (S2 := [cb, ab, mb]) (by simp)) hn))))
  clear hC2 hn
  have hno : ∀ {S : List Nat}, (∀ k ∈ S, k ∈ [cb, ab, mb]) → c1 ∉ S ∧ a1 ∉ S ∧ m1 ∉ S := fun hS => ⟨fun hm => (H2.out.2.2.2.2 _ (hS _ hm)).1 rfl, fun hm => (H2.out.2.2.2.2 _ (hS _ hm)).2.1 rfl, fun hm => (H2.out.2.2.2.2 _ (hS _ hm)).2.2 rfl⟩
  have HNO := Lib.hid (And.intro (hno (S := [cb, ab, mb]) (by simp)) (hno (S := [ab, mb]) (by simp)))
  clear hno
  go_wp2_with fail
  refine (csignalc cb ab mb N L M w2 H2.out.2.1).mono ?_
  rintro e w3 ⟨rfl, hW, hC⟩
  have H3 := Lib.hid (And.intro (H2.out.1.kept hC HNO.out.2.1 HNO.out.2.2.1 HNO.out.2.2.2) (And.intro hW (And.intro (H2.out.2.2.1.cstep H2.out.2.1 (hC.mono (by simp))) (H2.out.2.2.2.1.trans (hC.mono (by simp))))))
  clear hW hC
  go_wp2_with fail
  refine (cwaitc cb ab mb N (takeL L) M 15 31 99 w3 H3.out.2.1 hN).mono ?_
  rintro e w4 ⟨rfl, hW, hC⟩
  have H4 := Lib.hid (And.intro (H3.out.1.kept hC HNO.out.1.1 HNO.out.1.2.1 HNO.out.1.2.2) (And.intro hW (And.intro (H3.out.2.2.1.cstep H3.out.2.1 hC) (H3.out.2.2.2.trans hC))))
  clear hW hC
  go_wp2_with fail
  refine (cbroadc cb ab mb (N + 1) _ _ w4 H4.out.2.1).mono ?_
  rintro e w5 ⟨v, rfl, ho, hW, hC⟩
  have H5 := Lib.hid (And.intro (H4.out.1.kept hC HNO.out.2.1 HNO.out.2.2.1 HNO.out.2.2.2) (And.intro (H4.out.2.2.1.cstep H4.out.2.1 (hC.mono (by simp))) (H4.out.2.2.2.trans (hC.mono (by simp)))))
  clear hW hC ho
  go_wp2
  go_ret3
  exact ⟨c1, a1, m1, rb, rfl, .inr H1.out.2.2.2.2, .inl rfl, ⟨H5.out.1.mono (by omega), H5.out.2.1⟩, H5.out.2.2.mono (by simp)⟩

set_option maxRecDepth 100000 in
set_option maxHeartbeats 2000000 in
theorem cdo0 (cb ab mb rc rb : Nat) (N : Int) (L : WL) (M k t p m : Int) (w : World) (h : CB w cb ab mb rc rb N L M) (h1 : (k == 1) = false) (h2 : (k == 2) = false) (h3 : (k == 3) = false) (h4 : (k == 4) = false) (h5 : (k == 5) = false) (h6 : (k == 6) = false) :
    Calls Try.prog 20 #[.pointer (some ⟨cb, 0, none⟩), .pointer (some ⟨rc, 0, none⟩), .agg #[.int .i64 k, .int .i64 t, .int .i64 p, .int .i64 m]] w (CDoP cb ab mb rc rb N L M w) := by
  have H0 := Lib.hid h
  clear h
  go_enter Try.func20, Try.ntmps20
  go_wp2
  go_ret3
  have hC0 := (Chg.refl [] w).alloc (.cells #[.int .i64 k, .int .i64 t, .int .i64 p, .int .i64 m] 27)
  exact ⟨cb, ab, mb, rb, rfl, .inl ⟨rfl, rfl, rfl⟩, .inl rfl, ⟨(H0.out.c.calm hC0).mono (by omega), H0.out.r.calm hC0⟩, hC0.mono (by simp)⟩

/-- The list and the mutex behind a step. -/
def cstL (L : WL) (M k t p m : Int) : WL := if k = 1 then cwL L M t p m else if k = 2 then takeL L else if k = 3 then [] else if k = 4 then lvL L t else if k = 5 then chgL L t p else L
def cstM (L : WL) (M k t p m : Int) : Int := if k = 1 then cwM L M t p m else M

theorem cdoc (cb ab mb rc rb : Nat) (N : Int) (L : WL) (M k t p m : Int) (w : World) (h : CB w cb ab mb rc rb N L M) (hN : N < 4611686018427387904) :
    Calls Try.prog 20 #[.pointer (some ⟨cb, 0, none⟩), .pointer (some ⟨rc, 0, none⟩), .agg #[.int .i64 k, .int .i64 t, .int .i64 p, .int .i64 m]] w (CDoP cb ab mb rc rb N (cstL L M k t p m) (cstM L M k t p m) w) := by
  unfold cstL cstM
  by_cases h1 : k = 1
  · subst h1; rw [if_pos rfl, if_pos rfl]; exact cdo1 cb ab mb rc rb N L M t p m w h hN
  rw [if_neg h1, if_neg h1]
  by_cases h2 : k = 2
  · subst h2; rw [if_pos rfl]; exact cdo2 cb ab mb rc rb N L M t p m w h
  rw [if_neg h2]
  by_cases h3 : k = 3
  · subst h3; rw [if_pos rfl]; exact cdo3 cb ab mb rc rb N L M t p m w h
  rw [if_neg h3]
  by_cases h4 : k = 4
  · subst h4; rw [if_pos rfl]; exact cdo4 cb ab mb rc rb N L M t p m w h
  rw [if_neg h4]
  by_cases h5 : k = 5
  · subst h5; rw [if_pos rfl]; exact cdo5 cb ab mb rc rb N L M t p m w h
  rw [if_neg h5]
  by_cases h6 : k = 6
  · subst h6; exact cdo6 cb ab mb rc rb N L M t p m w h hN
  exact cdo0 cb ab mb rc rb N L M k t p m w h (by simpa using h1) (by simpa using h2) (by simpa using h3) (by simpa using h4) (by simpa using h5) (by simpa using h6)

end Go.Proofs.Ytjdefbkppjdokaa
