
/- metronomelaw14.around: one step of both barriers (written by wip/around14.py). -/
import Derived.Test.YtknngbnkcbcanaaGreatBR
import Derived.Test.YtknngbnkcbcanaaGreatSDo
namespace Go.Proofs.YtknngbnkcbcanaaGreat
open Go.RowKit

abbrev BB := PB 60 62
abbrev BDoP (cb ab mb rc rb : Nat) (N : Int) (L : WL) (V : Int) (w : World) := PDoP 60 62 cb ab mb rc rb (N + 4) L V w

theorem wdel_len (L : WL) (t : Int) : (wdel L t).length ≤ L.length := by
  induction L with
  | nil => exact Nat.le_refl _
  | cons y L ih =>
    obtain ⟨k, x⟩ := y
    unfold wdel
    split
    · simp
    · simp; exact ih
theorem wupd_len (L : WL) (t p : Int) : (wupd L t p).length = L.length := by
  induction L with
  | nil => rfl
  | cons y L ih =>
    obtain ⟨k, x⟩ := y
    unfold wupd
    split
    · simp
    · simp [ih]
theorem lvL_len (L : WL) (t : Int) : (lvL L t).length ≤ L.length := by unfold lvL; split; exact wdel_len L t; exact Nat.le_refl _
theorem chgL_len (L : WL) (t p : Int) : (chgL L t p).length = L.length := by unfold chgL; split; exact wupd_len L t p; rfl
theorem bwL_in {L : WL} {C t p : Int} (h : (L.length : Int) < C) : ((bwL L C t p).length : Int) < C := by
  unfold bwL
  split
  · split
    · simp; omega
    · simp; omega
  · exact h
theorem bwO_len {L : WL} {C t p : Int} (h : (ordT L).length ≤ 16) : (bwO L C t p).length ≤ 17 := by
  unfold bwO
  split
  · simp; omega
  · simp

set_option maxRecDepth 100000 in
set_option maxHeartbeats 2000000 in
theorem bdo1 (cb ab mb rc rb : Nat) (N : Int) (L : WL) (V t p : Int) (w : World) (h : BB w cb ab mb rc rb N L V) (_hN : N < 4611686018427380000) (_v0 : (L.length : Int) < V) (_v1 : V ≤ 16) :
    Calls Tryz.prog 9 #[.pointer (some ⟨cb, 0, none⟩), .pointer (some ⟨rc, 0, none⟩), .agg #[.int .i64 1, .int .i64 t, .int .i64 p]] w (BDoP cb ab mb rc rb N (bwL L V t p) V w) := by
  have hC0 : Chg [] w (w.alloc (.cells #[.int .i64 1, .int .i64 t, .int .i64 p] 38)) := (Chg.refl [] w).alloc _
  have hb := heap_alloc_eq w (.cells #[.int .i64 1, .int .i64 t, .int .i64 p] 38)
  have c1 := cellB hb (i := 1) rfl
  have c2 := cellB hb (i := 2) rfl
  have H0 := Lib.hid (And.intro (h.c.calm hC0) (And.intro (h.r.calm hC0) (And.intro hC0 (And.intro h.c.list.facts.2.2 (And.intro hb (And.intro h.c.lt (And.intro h.r.lt (And.intro h.c.list.lok (show (ordT L).length ≤ 16 by unfold ordT; rw [List.length_map, ordT_len h.c.list.lok]; exact h.c.list.facts.2.2)))))))))
  have c0 := cellB H0.out.2.1.head (i := 1) rfl
  clear h hC0 hb
  have e2 : (askR L t p false == askR L t p false) = true := by simp
  have hc1 : 1 ≤ V := by omega
  go_enter Tryz.func9, Tryz.ntmps9
  go_wp2_with fail
  refine (bwaitc cb ab mb N L V t p _ H0.out.1 (by omega) hc1 _v1).mono ?_
  rintro e w1 ⟨v1, rfl, ho1, hW1, hC1⟩
  have hg := H0.out.2.1.cstep barNe H0.out.1 hC1
  have hb1 := hC1.blk H0.out.2.2.2.2.1 (by have := H0.out.2.2.2.2.2.1; simp; omega)
  have x1 := cellB hb1 (i := 1) rfl
  have x2 := cellB hb1 (i := 2) rfl
  have H1 := Lib.hid (And.intro hW1 (And.intro hg (And.intro hC1 ho1)))
  obtain ⟨va1, vc1, rfl⟩ := own_slice ho1
  clear hW1 hC1 hg hb1 c0 c1 c2 ho1
  go_wp2_with fail
  refine (rbwaitc rc rb L V t p w1 H1.out.2.1 _v0 H0.out.2.2.2.2.2.2.2.1 _v1).mono ?_
  rintro e w2 ⟨v2, rb', rfl, ho2, hR2, hrb, hC2⟩
  have hs := H0.out.2.2.1.size
  have hs1 := H1.out.2.2.1.size
  have hrl := H0.out.2.2.2.2.2.2.1
  have HO := Lib.hid (And.intro (IsInts.of_own (own_kept H1.out.2.2.2 hC2 (fun k hk => own_notin H1.out.2.2.2 (by simp at hk; omega)))) (IsInts.of_own ho2))
  have HF := Lib.hid (PB.fin (N := N + 4) (by omega) H0.out.2.2.1 barNe H1.out.2.1 H1.out.1 H1.out.2.2.1 hR2 hC2)
  have HR : Hid (rb' = rb ∨ w.heap.size ≤ rb') := by rcases hrb with h | h; exact .inl h; exact .inr (Nat.le_trans hs (Nat.le_trans hs1 h))
  obtain ⟨va2, vc2, rfl⟩ := own_slice ho2
  have hlo := bwO_len (C := V) (t := t) (p := p) H0.out.2.2.2.2.2.2.2.2
  have HLo := Lib.hid hlo
  generalize bwO L V t p = oo at *
  clear hR2 hC2 hrb hs hs1 x1 x2 hrl ho2 hlo
  go_wp2_with fail
  refine (sameInts_any _ _ oo oo w2 HO.out.1 HO.out.2 (by have := HLo.out; omega) (by have := HLo.out; omega)).mono ?_
  rintro e w3 ⟨rfl, hC3⟩
  rw [show decide (oo = oo) = true from decide_eq_true rfl]
  have H3 := Lib.hid hC3
  clear hC3
  go_wp2_with (first | fail | (go_at_call 18; refine (snumc _ _).mono ?_; rintro e wz ⟨rfl, rfl⟩))
  go_ret3
  exact ⟨cb, ab, mb, rb', rfl, .inl ⟨rfl, rfl, rfl⟩, HR.out, HF.out.1.calm H3.out, HF.out.2.trans (H3.out.mono (by simp))⟩

set_option maxRecDepth 100000 in
set_option maxHeartbeats 2000000 in
theorem bdo2 (cb ab mb rc rb : Nat) (N : Int) (L : WL) (V t p : Int) (w : World) (h : BB w cb ab mb rc rb N L V) (_hN : N < 4611686018427380000) (_v0 : (L.length : Int) < V) (_v1 : V ≤ 16) :
    Calls Tryz.prog 9 #[.pointer (some ⟨cb, 0, none⟩), .pointer (some ⟨rc, 0, none⟩), .agg #[.int .i64 2, .int .i64 t, .int .i64 p]] w (BDoP cb ab mb rc rb N (bwL L V t p) V w) := by
  have hC0 : Chg [] w (w.alloc (.cells #[.int .i64 2, .int .i64 t, .int .i64 p] 38)) := (Chg.refl [] w).alloc _
  have hb := heap_alloc_eq w (.cells #[.int .i64 2, .int .i64 t, .int .i64 p] 38)
  have c1 := cellB hb (i := 1) rfl
  have c2 := cellB hb (i := 2) rfl
  have H0 := Lib.hid (And.intro (h.c.calm hC0) (And.intro (h.r.calm hC0) (And.intro hC0 (And.intro h.c.list.facts.2.2 (And.intro hb (And.intro h.c.lt (And.intro h.r.lt (And.intro h.c.list.lok (show (ordT L).length ≤ 16 by unfold ordT; rw [List.length_map, ordT_len h.c.list.lok]; exact h.c.list.facts.2.2)))))))))
  have c0 := cellB H0.out.2.1.head (i := 1) rfl
  clear h hC0 hb
  have e2 : (askR L t p false == askR L t p false) = true := by simp
  have hc1 : 1 ≤ V := by omega
  go_enter Tryz.func9, Tryz.ntmps9
  go_wp2_with fail
  refine (bwaitc cb ab mb N L V t p _ H0.out.1 (by omega) hc1 _v1).mono ?_
  rintro e w1 ⟨v1, rfl, ho1, hW1, hC1⟩
  have hg := H0.out.2.1.cstep barNe H0.out.1 hC1
  have hb1 := hC1.blk H0.out.2.2.2.2.1 (by have := H0.out.2.2.2.2.2.1; simp; omega)
  have x1 := cellB hb1 (i := 1) rfl
  have x2 := cellB hb1 (i := 2) rfl
  have H1 := Lib.hid (And.intro hW1 (And.intro hg (And.intro hC1 ho1)))
  obtain ⟨va1, vc1, rfl⟩ := own_slice ho1
  clear hW1 hC1 hg hb1 c0 c1 c2 ho1
  go_wp2_with fail
  refine (rbwaitc rc rb L V t p w1 H1.out.2.1 _v0 H0.out.2.2.2.2.2.2.2.1 _v1).mono ?_
  rintro e w2 ⟨v2, rb', rfl, ho2, hR2, hrb, hC2⟩
  have hs := H0.out.2.2.1.size
  have hs1 := H1.out.2.2.1.size
  have hrl := H0.out.2.2.2.2.2.2.1
  have HO := Lib.hid (And.intro (IsInts.of_own (own_kept H1.out.2.2.2 hC2 (fun k hk => own_notin H1.out.2.2.2 (by simp at hk; omega)))) (IsInts.of_own ho2))
  have HF := Lib.hid (PB.fin (N := N + 4) (by omega) H0.out.2.2.1 barNe H1.out.2.1 H1.out.1 H1.out.2.2.1 hR2 hC2)
  have HR : Hid (rb' = rb ∨ w.heap.size ≤ rb') := by rcases hrb with h | h; exact .inl h; exact .inr (Nat.le_trans hs (Nat.le_trans hs1 h))
  obtain ⟨va2, vc2, rfl⟩ := own_slice ho2
  have hlo := bwO_len (C := V) (t := t) (p := p) H0.out.2.2.2.2.2.2.2.2
  have HLo := Lib.hid hlo
  generalize bwO L V t p = oo at *
  clear hR2 hC2 hrb hs hs1 x1 x2 hrl ho2 hlo
  go_wp2_with fail
  refine (sameInts_any _ _ oo oo w2 HO.out.1 HO.out.2 (by have := HLo.out; omega) (by have := HLo.out; omega)).mono ?_
  rintro e w3 ⟨rfl, hC3⟩
  rw [show decide (oo = oo) = true from decide_eq_true rfl]
  have H3 := Lib.hid hC3
  clear hC3
  go_wp2_with (first | fail | (go_at_call 18; refine (snumc _ _).mono ?_; rintro e wz ⟨rfl, rfl⟩))
  go_ret3
  exact ⟨cb, ab, mb, rb', rfl, .inl ⟨rfl, rfl, rfl⟩, HR.out, HF.out.1.calm H3.out, HF.out.2.trans (H3.out.mono (by simp))⟩

set_option maxRecDepth 100000 in
set_option maxHeartbeats 2000000 in
theorem bdo3 (cb ab mb rc rb : Nat) (N : Int) (L : WL) (V t p : Int) (w : World) (h : BB w cb ab mb rc rb N L V) (_hN : N < 4611686018427380000) (_v0 : (L.length : Int) < V) (_v1 : V ≤ 16) :
    Calls Tryz.prog 9 #[.pointer (some ⟨cb, 0, none⟩), .pointer (some ⟨rc, 0, none⟩), .agg #[.int .i64 3, .int .i64 t, .int .i64 p]] w (BDoP cb ab mb rc rb N (bwL L V t p) V w) := by
  have hC0 : Chg [] w (w.alloc (.cells #[.int .i64 3, .int .i64 t, .int .i64 p] 38)) := (Chg.refl [] w).alloc _
  have hb := heap_alloc_eq w (.cells #[.int .i64 3, .int .i64 t, .int .i64 p] 38)
  have c1 := cellB hb (i := 1) rfl
  have c2 := cellB hb (i := 2) rfl
  have H0 := Lib.hid (And.intro (h.c.calm hC0) (And.intro (h.r.calm hC0) (And.intro hC0 (And.intro h.c.list.facts.2.2 (And.intro hb (And.intro h.c.lt (And.intro h.r.lt (And.intro h.c.list.lok (show (ordT L).length ≤ 16 by unfold ordT; rw [List.length_map, ordT_len h.c.list.lok]; exact h.c.list.facts.2.2)))))))))
  have c0 := cellB H0.out.2.1.head (i := 1) rfl
  clear h hC0 hb
  have e2 : (askR L t p false == askR L t p false) = true := by simp
  have hc1 : 1 ≤ V := by omega
  go_enter Tryz.func9, Tryz.ntmps9
  go_wp2_with fail
  refine (bwaitc cb ab mb N L V t p _ H0.out.1 (by omega) hc1 _v1).mono ?_
  rintro e w1 ⟨v1, rfl, ho1, hW1, hC1⟩
  have hg := H0.out.2.1.cstep barNe H0.out.1 hC1
  have hb1 := hC1.blk H0.out.2.2.2.2.1 (by have := H0.out.2.2.2.2.2.1; simp; omega)
  have x1 := cellB hb1 (i := 1) rfl
  have x2 := cellB hb1 (i := 2) rfl
  have H1 := Lib.hid (And.intro hW1 (And.intro hg (And.intro hC1 ho1)))
  obtain ⟨va1, vc1, rfl⟩ := own_slice ho1
  clear hW1 hC1 hg hb1 c0 c1 c2 ho1
  go_wp2_with fail
  refine (rbwaitc rc rb L V t p w1 H1.out.2.1 _v0 H0.out.2.2.2.2.2.2.2.1 _v1).mono ?_
  rintro e w2 ⟨v2, rb', rfl, ho2, hR2, hrb, hC2⟩
  have hs := H0.out.2.2.1.size
  have hs1 := H1.out.2.2.1.size
  have hrl := H0.out.2.2.2.2.2.2.1
  have HO := Lib.hid (And.intro (IsInts.of_own (own_kept H1.out.2.2.2 hC2 (fun k hk => own_notin H1.out.2.2.2 (by simp at hk; omega)))) (IsInts.of_own ho2))
  have HF := Lib.hid (PB.fin (N := N + 4) (by omega) H0.out.2.2.1 barNe H1.out.2.1 H1.out.1 H1.out.2.2.1 hR2 hC2)
  have HR : Hid (rb' = rb ∨ w.heap.size ≤ rb') := by rcases hrb with h | h; exact .inl h; exact .inr (Nat.le_trans hs (Nat.le_trans hs1 h))
  obtain ⟨va2, vc2, rfl⟩ := own_slice ho2
  have hlo := bwO_len (C := V) (t := t) (p := p) H0.out.2.2.2.2.2.2.2.2
  have HLo := Lib.hid hlo
  generalize bwO L V t p = oo at *
  clear hR2 hC2 hrb hs hs1 x1 x2 hrl ho2 hlo
  go_wp2_with fail
  refine (sameInts_any _ _ oo oo w2 HO.out.1 HO.out.2 (by have := HLo.out; omega) (by have := HLo.out; omega)).mono ?_
  rintro e w3 ⟨rfl, hC3⟩
  rw [show decide (oo = oo) = true from decide_eq_true rfl]
  have H3 := Lib.hid hC3
  clear hC3
  go_wp2_with (first | fail | (go_at_call 18; refine (snumc _ _).mono ?_; rintro e wz ⟨rfl, rfl⟩))
  go_ret3
  exact ⟨cb, ab, mb, rb', rfl, .inl ⟨rfl, rfl, rfl⟩, HR.out, HF.out.1.calm H3.out, HF.out.2.trans (H3.out.mono (by simp))⟩

set_option maxRecDepth 100000 in
set_option maxHeartbeats 2000000 in
theorem bdo4 (cb ab mb rc rb : Nat) (N : Int) (L : WL) (V t p : Int) (w : World) (h : BB w cb ab mb rc rb N L V) (_hN : N < 4611686018427380000) (_v0 : (L.length : Int) < V) (_v1 : V ≤ 16) :
    Calls Tryz.prog 9 #[.pointer (some ⟨cb, 0, none⟩), .pointer (some ⟨rc, 0, none⟩), .agg #[.int .i64 4, .int .i64 t, .int .i64 p]] w (BDoP cb ab mb rc rb N (lvL L t) V w) := by
  have hC0 : Chg [] w (w.alloc (.cells #[.int .i64 4, .int .i64 t, .int .i64 p] 38)) := (Chg.refl [] w).alloc _
  have hb := heap_alloc_eq w (.cells #[.int .i64 4, .int .i64 t, .int .i64 p] 38)
  have c1 := cellB hb (i := 1) rfl
  have c2 := cellB hb (i := 2) rfl
  have H0 := Lib.hid (And.intro (h.c.calm hC0) (And.intro (h.r.calm hC0) (And.intro hC0 (And.intro h.c.list.facts.2.2 (And.intro hb (And.intro h.c.lt (And.intro h.r.lt (And.intro h.c.list.lok (show (ordT L).length ≤ 16 by unfold ordT; rw [List.length_map, ordT_len h.c.list.lok]; exact h.c.list.facts.2.2)))))))))
  have c0 := cellB H0.out.2.1.head (i := 1) rfl
  clear h hC0 hb
  go_enter Tryz.func9, Tryz.ntmps9
  go_wp2
  generalize (w.alloc (.cells #[.int .i64 4, .int .i64 t, .int .i64 p] 38)) = WW at *
  have HP := Lib.hid (H0.out.1.calm ((Chg.refl [] WW).drew))
  have HQ := Lib.hid (H0.out.2.1.calm ((Chg.refl [] WW).drew))
  go_region_held3 (fun w' => w'.cell? ⟨rc, 1, none⟩ = some (.pointer (some ⟨rb, 0, none⟩)) ∧ w'.cell? ⟨w.heap.size, 1, none⟩ = some (.int .i64 t)) (first | exact ⟨c0, c1⟩ | exact ⟨x0, x1⟩ | exact ⟨y0, y1⟩)
    (first
    | (go_at_call 31; refine (bleavec cb ab mb N L V t _ HP.out).mono ?_; rintro e w1 ⟨rfl, hW1, hC1⟩; have hg1 := HQ.out.cstep barNe HP.out (hC1.mono (by simp)); have x0 := cellB hg1.head (i := 1) rfl; have hb1 := (((Chg.refl [] WW).drew.mono (by simp)).trans hC1).blk H0.out.2.2.2.2.1 (by have := H0.out.2.2.2.2.2.1; simp; omega); have x1 := cellB hb1 (i := 1) rfl)
    | (go_at_call 18; refine (snumc _ _).mono ?_; rintro e w' ⟨rfl, rfl⟩)
    | (go_at_call 24; refine (rleavec rb L t w1 hg1.list (by have := H0.out.2.2.2.1; omega)).mono ?_; rintro e w2 ⟨rfl, hR2, hC2⟩; have hg2 := hg1.lstep hR2 hC2; have y0 := cellB hg2.head (i := 1) rfl; have hb2 := hC2.blk hb1 (by have := H0.out.2.2.2.2.2.2.1; simp; omega); have y1 := cellB hb2 (i := 1) rfl))
  have HF := Lib.hid (PB.fin (N := N + 4) (by omega) H0.out.2.2.1.drew barNe hg1 hW1 (show Chg [cb, ab, mb] _ w1 from hC1.mono (by simp)) hg2 (hC2.mono (by simp)))
  clear hW1 hC1 hg1 x0 hR2 hC2 hg2 y0 x1 y1 hb1 hb2
  go_wp2
  go_ret3
  exact ⟨cb, ab, mb, rb, rfl, .inl ⟨rfl, rfl, rfl⟩, .inl rfl, HF.out.1, HF.out.2⟩

set_option maxRecDepth 100000 in
set_option maxHeartbeats 2000000 in
theorem bdo5 (cb ab mb rc rb : Nat) (N : Int) (L : WL) (V t p : Int) (w : World) (h : BB w cb ab mb rc rb N L V) (_hN : N < 4611686018427380000) (_v0 : (L.length : Int) < V) (_v1 : V ≤ 16) :
    Calls Tryz.prog 9 #[.pointer (some ⟨cb, 0, none⟩), .pointer (some ⟨rc, 0, none⟩), .agg #[.int .i64 5, .int .i64 t, .int .i64 p]] w (BDoP cb ab mb rc rb N (chgL L t p) V w) := by
  have hC0 : Chg [] w (w.alloc (.cells #[.int .i64 5, .int .i64 t, .int .i64 p] 38)) := (Chg.refl [] w).alloc _
  have hb := heap_alloc_eq w (.cells #[.int .i64 5, .int .i64 t, .int .i64 p] 38)
  have c1 := cellB hb (i := 1) rfl
  have c2 := cellB hb (i := 2) rfl
  have H0 := Lib.hid (And.intro (h.c.calm hC0) (And.intro (h.r.calm hC0) (And.intro hC0 (And.intro h.c.list.facts.2.2 (And.intro hb (And.intro h.c.lt (And.intro h.r.lt (And.intro h.c.list.lok (show (ordT L).length ≤ 16 by unfold ordT; rw [List.length_map, ordT_len h.c.list.lok]; exact h.c.list.facts.2.2)))))))))
  have c0 := cellB H0.out.2.1.head (i := 1) rfl
  clear h hC0 hb
  go_enter Tryz.func9, Tryz.ntmps9
  go_wp2
  generalize (w.alloc (.cells #[.int .i64 5, .int .i64 t, .int .i64 p] 38)) = WW at *
  have HP := Lib.hid (H0.out.1.calm ((Chg.refl [] WW).drew))
  have HQ := Lib.hid (H0.out.2.1.calm ((Chg.refl [] WW).drew))
  go_region_held3 (fun w' => w'.cell? ⟨rc, 1, none⟩ = some (.pointer (some ⟨rb, 0, none⟩)) ∧ w'.cell? ⟨w.heap.size, 1, none⟩ = some (.int .i64 t) ∧ w'.cell? ⟨w.heap.size, 2, none⟩ = some (.int .i64 p)) (first | exact ⟨c0, c1, c2⟩ | exact ⟨x0, x1, x2⟩ | exact ⟨y0, y1, y2⟩)
    (first
    | (go_at_call 32; refine (bchangec cb ab mb N L V t p _ HP.out).mono ?_; rintro e w1 ⟨rfl, hW1, hC1⟩; have hg1 := HQ.out.cstep barNe HP.out (hC1.mono (by simp)); have x0 := cellB hg1.head (i := 1) rfl; have hb1 := (((Chg.refl [] WW).drew.mono (by simp)).trans hC1).blk H0.out.2.2.2.2.1 (by have := H0.out.2.2.2.2.2.1; simp; omega); have x1 := cellB hb1 (i := 1) rfl; have x2 := cellB hb1 (i := 2) rfl)
    | (go_at_call 18; refine (snumc _ _).mono ?_; rintro e w' ⟨rfl, rfl⟩)
    | (go_at_call 26; refine (rchangec rb L t p w1 hg1.list (by have := H0.out.2.2.2.1; omega)).mono ?_; rintro e w2 ⟨rfl, hR2, hC2⟩; have hg2 := hg1.lstep hR2 hC2; have y0 := cellB hg2.head (i := 1) rfl; have hb2 := hC2.blk hb1 (by have := H0.out.2.2.2.2.2.2.1; simp; omega); have y1 := cellB hb2 (i := 1) rfl; have y2 := cellB hb2 (i := 2) rfl))
  have HF := Lib.hid (PB.fin (N := N + 4) (by omega) H0.out.2.2.1.drew barNe hg1 hW1 (show Chg [cb, ab, mb] _ w1 from hC1.mono (by simp)) hg2 (hC2.mono (by simp)))
  clear hW1 hC1 hg1 x0 hR2 hC2 hg2 y0 x1 y1 hb1 hb2 x2 y2
  go_wp2
  go_ret3
  exact ⟨cb, ab, mb, rb, rfl, .inl ⟨rfl, rfl, rfl⟩, .inl rfl, HF.out.1, HF.out.2⟩

set_option maxRecDepth 100000 in
set_option maxHeartbeats 2000000 in
theorem bdo6 (cb ab mb rc rb : Nat) (N : Int) (L : WL) (V t p : Int) (w : World) (h : BB w cb ab mb rc rb N L V) (_hN : N < 4611686018427380000) (_v0 : (L.length : Int) < V) (_v1 : V ≤ 16) :
    Calls Tryz.prog 9 #[.pointer (some ⟨cb, 0, none⟩), .pointer (some ⟨rc, 0, none⟩), .agg #[.int .i64 6, .int .i64 t, .int .i64 p]] w (BDoP cb ab mb rc rb N L V w) := by
  have hC0 : Chg [] w (w.alloc (.cells #[.int .i64 6, .int .i64 t, .int .i64 p] 38)) := (Chg.refl [] w).alloc _
  have hb := heap_alloc_eq w (.cells #[.int .i64 6, .int .i64 t, .int .i64 p] 38)
  have c1 := cellB hb (i := 1) rfl
  have c2 := cellB hb (i := 2) rfl
  have H0 := Lib.hid (And.intro (h.c.calm hC0) (And.intro (h.r.calm hC0) (And.intro hC0 (And.intro h.c.list.facts.2.2 (And.intro hb (And.intro h.c.lt (And.intro h.r.lt (And.intro h.c.list.lok (show (ordT L).length ≤ 16 by unfold ordT; rw [List.length_map, ordT_len h.c.list.lok]; exact h.c.list.facts.2.2)))))))))
  have c0 := cellB H0.out.2.1.head (i := 1) rfl
  clear h hC0 hb
  go_enter Tryz.func9, Tryz.ntmps9
  go_wp2_with fail
  refine (bcopyc cb ab mb N L V _ H0.out.1).mono ?_
  rintro e w1 ⟨cx, a1, m1, rfl, hc1, ha1, hm1, hW1, hC1⟩
  have hs := H0.out.2.2.1.size
  have H1 := Lib.hid (And.intro hW1 (And.intro (H0.out.1.calm hC1) (And.intro (H0.out.2.1.calm hC1) (And.intro (H0.out.2.2.1.trans hC1) (And.intro (Nat.le_trans hs hc1) (And.intro (Nat.le_trans hs ha1) (Nat.le_trans hs hm1)))))))
  clear hW1 hC1 ha1 hm1 hc1 hs c0 c1 c2
  go_wp2_with fail
  refine (bsamec cx a1 m1 cb ab mb N N L L V V w1 H1.out.1 H1.out.2.1).mono ?_
  rintro e w2 ⟨rfl, hC2⟩
  rw [show (decide (V = V) && decide (L = L)) = true by rw [decide_eq_true rfl, decide_eq_true rfl]; rfl]
  have hn : ∀ k ∈ [cb, ab, mb], k ≠ cx ∧ k ≠ a1 ∧ k ≠ m1 := fun k hk => by
    have h1 := H0.out.2.2.2.2.2.1
    have h2 := H1.out.2.2.2.2
    simp at hk
    omega
  have H2 := Lib.hid (And.intro (H1.out.1.calm hC2) (And.intro (H1.out.2.1.calm hC2) (And.intro (H1.out.2.2.1.calm hC2) (And.intro ((H1.out.2.2.2.1.trans hC2).mono (S2 := [cb, ab, mb]) (by simp)) hn))))
  clear hC2 hn
  go_wp2_with fail
  refine (bwaitc cb ab mb N L V 15 31 w2 H2.out.2.1 (by omega) (by omega) _v1).mono ?_
  rintro e w3 ⟨v3, rfl, ho, hW, hC⟩
  have H3 := Lib.hid (And.intro (H2.out.1.kept hC (fun h => (H2.out.2.2.2.2 _ h).1 rfl) (fun h => (H2.out.2.2.2.2 _ h).2.1 rfl) (fun h => (H2.out.2.2.2.2 _ h).2.2 rfl)) (And.intro hW (And.intro (H2.out.2.2.1.cstep barNe H2.out.2.1 hC) (H2.out.2.2.2.1.trans hC))))
  obtain ⟨va3, vc3, rfl⟩ := own_slice ho
  clear hW hC ho
  go_wp2_with fail
  refine (bwaitc cb ab mb (N + 2) (bwL L V 15 31) V 14 30 w3 H3.out.2.1 (by omega) (by omega) _v1).mono ?_
  rintro e w4 ⟨v4, rfl, ho, hW, hC⟩
  have H4 := Lib.hid (And.intro (H3.out.1.kept hC (fun h => (H2.out.2.2.2.2 _ h).1 rfl) (fun h => (H2.out.2.2.2.2 _ h).2.1 rfl) (fun h => (H2.out.2.2.2.2 _ h).2.2 rfl)) (And.intro (H3.out.2.2.1.cstep barNe H3.out.2.1 hC) (H3.out.2.2.2.trans hC)))
  obtain ⟨va4, vc4, rfl⟩ := own_slice ho
  clear hW hC ho
  go_wp2
  go_ret3
  exact ⟨cx, a1, m1, rb, rfl, .inr H1.out.2.2.2.2, .inl rfl, ⟨H4.out.1.mono (by omega), H4.out.2.1, barNe⟩, H4.out.2.2.mono (by simp)⟩

set_option maxRecDepth 100000 in
set_option maxHeartbeats 2000000 in
theorem bdo0 (cb ab mb rc rb : Nat) (N : Int) (L : WL) (V k t p : Int) (w : World) (h : BB w cb ab mb rc rb N L V) (h1 : (k == 1) = false) (h2 : (k == 2) = false) (h3 : (k == 3) = false) (h4 : (k == 4) = false) (h5 : (k == 5) = false) (h6 : (k == 6) = false) :
    Calls Tryz.prog 9 #[.pointer (some ⟨cb, 0, none⟩), .pointer (some ⟨rc, 0, none⟩), .agg #[.int .i64 k, .int .i64 t, .int .i64 p]] w (BDoP cb ab mb rc rb N L V w) := by
  have H0 := Lib.hid h
  clear h
  go_enter Tryz.func9, Tryz.ntmps9
  go_wp2
  go_ret3
  have hC0 := (Chg.refl [] w).alloc (.cells #[.int .i64 k, .int .i64 t, .int .i64 p] 38)
  exact ⟨cb, ab, mb, rb, rfl, .inl ⟨rfl, rfl, rfl⟩, .inl rfl, (H0.out.calm hC0).mono (by omega), hC0.mono (by simp)⟩

/-- The list behind a step of a barrier. -/
def bstL (L : WL) (C k t p : Int) : WL := if k = 1 ∨ k = 2 ∨ k = 3 then bwL L C t p else if k = 4 then lvL L t else if k = 5 then chgL L t p else L
theorem bstL_in {L : WL} {C k t p : Int} (h : (L.length : Int) < C) : ((bstL L C k t p).length : Int) < C := by
  unfold bstL
  split
  · exact bwL_in h
  · split
    · have := lvL_len L t; omega
    · split
      · have := chgL_len L t p; omega
      · exact h

theorem bdoc (cb ab mb rc rb : Nat) (N : Int) (L : WL) (V k t p : Int) (w : World) (h : BB w cb ab mb rc rb N L V) (_hN : N < 4611686018427380000) (_v0 : (L.length : Int) < V) (_v1 : V ≤ 16) :
    Calls Tryz.prog 9 #[.pointer (some ⟨cb, 0, none⟩), .pointer (some ⟨rc, 0, none⟩), .agg #[.int .i64 k, .int .i64 t, .int .i64 p]] w (BDoP cb ab mb rc rb N (bstL L V k t p) V w) := by
  unfold bstL
  by_cases h1 : k = 1
  · subst h1; rw [if_pos (.inl rfl)]; exact bdo1 cb ab mb rc rb N L V t p w h _hN _v0 _v1
  by_cases h2 : k = 2
  · subst h2; rw [if_pos (.inr (.inl rfl))]; exact bdo2 cb ab mb rc rb N L V t p w h _hN _v0 _v1
  by_cases h3 : k = 3
  · subst h3; rw [if_pos (.inr (.inr rfl))]; exact bdo3 cb ab mb rc rb N L V t p w h _hN _v0 _v1
  rw [if_neg (by omega)]
  by_cases h4 : k = 4
  · subst h4; rw [if_pos rfl]; exact bdo4 cb ab mb rc rb N L V t p w h _hN _v0 _v1
  rw [if_neg h4]
  by_cases h5 : k = 5
  · subst h5; rw [if_pos rfl]; exact bdo5 cb ab mb rc rb N L V t p w h _hN _v0 _v1
  rw [if_neg h5]
  by_cases h6 : k = 6
  · subst h6; exact bdo6 cb ab mb rc rb N L V t p w h _hN _v0 _v1
  exact bdo0 cb ab mb rc rb N L V k t p w h (by simpa using h1) (by simpa using h2) (by simpa using h3) (by simpa using h4) (by simpa using h5) (by simpa using h6)

end Go.Proofs.YtknngbnkcbcanaaGreat
