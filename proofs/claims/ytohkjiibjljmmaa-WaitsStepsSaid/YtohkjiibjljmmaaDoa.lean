
/- metronomelaw09.do: one step of both lists, kinds 1, 2, 3 (written by wip/do09.py). -/
import Derived.Test.YtohkjiibjljmmaaRe
import Derived.Test.YtohkjiibjljmmaaL09c
import Derived.Deep.RegionHeld3
import Derived.OwnWalk
namespace Go.Proofs.Ytohkjiibjljmmaa
open Go.RowKit

theorem numc (z : Int) (w : World) : Calls Try.prog 8 #[.int .i64 z] w fun e w' => e = .returned (.int .i64 z) ∧ w = w' := by
  go_enter Try.func8, Try.ntmps8
  go_wp2
  go_ret
  exact ⟨rfl, rfl⟩

/-- What a step leaves: the same list, or a copy of it. -/
def DoPost (ab mb rb : Nat) (N : Int) (L : WL) (w : World) (e : Ending) (w' : World) : Prop :=
  ∃ ab' mb', e = .returned (.tuple #[.pointer (some ⟨ab', 0, none⟩), .pointer (some ⟨rb, 0, none⟩), .bool true]) ∧ ((ab' = ab ∧ mb' = mb) ∨ (w.heap.size ≤ ab' ∧ w.heap.size ≤ mb')) ∧ WAt w' ab' mb' (N + 1) L ∧ RAt w' rb L ∧ Chg [ab, mb, rb] w w'

theorem bothStep {ab mb rb : Nat} {N N2 : Int} {L2 : WL} {w WW w1 w2 : World} (hN : N2 ≤ N + 1) (h0 : Chg [] w WW) (hne : ab ≠ rb ∧ mb ≠ rb) (hW1 : WAt w1 ab mb N2 L2) (hC1 : Chg [ab, mb] WW.drew w1) (hR2 : RAt w2 rb L2) (hC2 : Chg [rb] w1 w2) :
    WAt w2 ab mb (N + 1) L2 ∧ RAt w2 rb L2 ∧ Chg [ab, mb, rb] w w2 :=
  ⟨(hW1.mono hN).kept hC2 (by simp; exact hne.1) (by simp; exact hne.2), hR2, ((h0.drew.mono (by simp)).trans (hC1.mono (by simp))).trans (hC2.mono (by simp))⟩

set_option maxRecDepth 100000 in
set_option maxHeartbeats 2000000 in
theorem do1 (ab mb rb : Nat) (N : Int) (L : WL) (t p : Int) (w : World) (hW : WAt w ab mb N L) (hR : RAt w rb L) (hN : N < 4611686018427387904) :
    Calls Try.prog 15 #[.pointer (some ⟨ab, 0, none⟩), .pointer (some ⟨rb, 0, none⟩), .agg #[.int .i64 1, .int .i64 t, .int .i64 p]] w (DoPost ab mb rb N (putL L t p) w) := by
  have hC0 : Chg [] w (w.alloc (.cells #[.int .i64 1, .int .i64 t, .int .i64 p] 28)) := (Chg.refl [] w).alloc _
  have hb := heap_alloc_eq w (.cells #[.int .i64 1, .int .i64 t, .int .i64 p] 28)
  have c1 := cellB hb (i := 1) rfl
  have c2 := cellB hb (i := 2) rfl
  have hlt := hW.lt
  have hrl := hR.lt
  have hne := hR.ne hW
  have hf := hW.facts.2.2
  have H0 := Lib.hid (And.intro (hW.kept hC0 (by simp) (by simp)) (And.intro (hR.calm hC0) (And.intro hb (And.intro hC0 (And.intro hlt (And.intro hrl (And.intro hne hf)))))))
  clear hW hR hb hC0 hlt hrl hne hf
  go_enter Try.func15, Try.ntmps15
  go_wp2
  generalize (w.alloc (.cells #[.int .i64 1, .int .i64 t, .int .i64 p] 28)) = WW at *
  have HP := Lib.hid (H0.out.1.kept ((Chg.refl [] WW).drew) (by simp) (by simp))
  have HQ := Lib.hid (H0.out.2.1.calm ((Chg.refl [] WW).drew))
  go_region_held3 (fun w' => w'.cell? ⟨w.heap.size, 1, none⟩ = some (.int .i64 t) ∧ w'.cell? ⟨w.heap.size, 2, none⟩ = some (.int .i64 p)) (first | exact ⟨c1, c2⟩ | exact ⟨x1, x2⟩ | exact ⟨y1, y2⟩)
    (first
    | (go_at_call 9; refine (putc ab mb N L t p _ HP.out hN).mono ?_; rintro e w1 ⟨rfl, hW1, hC1⟩; have hb1 := (((Chg.refl [] WW).drew.mono (by simp)).trans hC1).blk H0.out.2.2.1 (by have := H0.out.2.2.2.2.1; simp; omega); have x1 := cellB hb1 (i := 1) rfl; have x2 := cellB hb1 (i := 2) rfl)
    | (go_at_call 8; refine (numc _ _).mono ?_; rintro e w' ⟨rfl, rfl⟩)
    | (go_at_call 27; refine (rputc rb L t p w1 (HQ.out.step HP.out hC1) (by have := H0.out.2.2.2.2.2.2.2; omega)).mono ?_; rintro e w2 ⟨rfl, hR2, hC2⟩; have hb2 := hC2.blk hb1 (by have := H0.out.2.2.2.2.2.1; simp; omega); have y1 := cellB hb2 (i := 1) rfl; have y2 := cellB hb2 (i := 2) rfl))
  have HF := Lib.hid (bothStep (N := N) (by omega) H0.out.2.2.2.1 H0.out.2.2.2.2.2.2.1 hW1 hC1 hR2 hC2)
  clear hW1 hC1 hR2 hC2 hb1 hb2 x1 x2 y1 y2
  go_wp2
  go_ret3
  exact ⟨ab, mb, rfl, .inl ⟨rfl, rfl⟩, HF.out.1, HF.out.2.1, HF.out.2.2⟩

set_option maxRecDepth 100000 in
set_option maxHeartbeats 2000000 in
theorem do2 (ab mb rb : Nat) (N : Int) (L : WL) (t p : Int) (w : World) (hW : WAt w ab mb N L) (hR : RAt w rb L) :
    Calls Try.prog 15 #[.pointer (some ⟨ab, 0, none⟩), .pointer (some ⟨rb, 0, none⟩), .agg #[.int .i64 2, .int .i64 t, .int .i64 p]] w (DoPost ab mb rb N (chgL L t p) w) := by
  have hC0 : Chg [] w (w.alloc (.cells #[.int .i64 2, .int .i64 t, .int .i64 p] 28)) := (Chg.refl [] w).alloc _
  have hb := heap_alloc_eq w (.cells #[.int .i64 2, .int .i64 t, .int .i64 p] 28)
  have c1 := cellB hb (i := 1) rfl
  have c2 := cellB hb (i := 2) rfl
  have hlt := hW.lt
  have hrl := hR.lt
  have hne := hR.ne hW
  have hf := hW.facts.2.2
  have H0 := Lib.hid (And.intro (hW.kept hC0 (by simp) (by simp)) (And.intro (hR.calm hC0) (And.intro hb (And.intro hC0 (And.intro hlt (And.intro hrl (And.intro hne hf)))))))
  clear hW hR hb hC0 hlt hrl hne hf
  go_enter Try.func15, Try.ntmps15
  go_wp2
  generalize (w.alloc (.cells #[.int .i64 2, .int .i64 t, .int .i64 p] 28)) = WW at *
  have HP := Lib.hid (H0.out.1.kept ((Chg.refl [] WW).drew) (by simp) (by simp))
  have HQ := Lib.hid (H0.out.2.1.calm ((Chg.refl [] WW).drew))
  go_region_held3 (fun w' => w'.cell? ⟨w.heap.size, 1, none⟩ = some (.int .i64 t) ∧ w'.cell? ⟨w.heap.size, 2, none⟩ = some (.int .i64 p)) (first | exact ⟨c1, c2⟩ | exact ⟨x1, x2⟩ | exact ⟨y1, y2⟩)
    (first
    | (go_at_call 10; refine (changec ab mb N L t p _ HP.out).mono ?_; rintro e w1 ⟨rfl, hW1, hC1⟩; have hb1 := (((Chg.refl [] WW).drew.mono (by simp)).trans hC1).blk H0.out.2.2.1 (by have := H0.out.2.2.2.2.1; simp; omega); have x1 := cellB hb1 (i := 1) rfl; have x2 := cellB hb1 (i := 2) rfl)
    | (go_at_call 8; refine (numc _ _).mono ?_; rintro e w' ⟨rfl, rfl⟩)
    | (go_at_call 28; refine (rchangec rb L t p w1 (HQ.out.step HP.out hC1) (by have := H0.out.2.2.2.2.2.2.2; omega)).mono ?_; rintro e w2 ⟨rfl, hR2, hC2⟩; have hb2 := hC2.blk hb1 (by have := H0.out.2.2.2.2.2.1; simp; omega); have y1 := cellB hb2 (i := 1) rfl; have y2 := cellB hb2 (i := 2) rfl))
  have HF := Lib.hid (bothStep (N := N) (by omega) H0.out.2.2.2.1 H0.out.2.2.2.2.2.2.1 hW1 hC1 hR2 hC2)
  clear hW1 hC1 hR2 hC2 hb1 hb2 x1 x2 y1 y2
  go_wp2
  go_ret3
  exact ⟨ab, mb, rfl, .inl ⟨rfl, rfl⟩, HF.out.1, HF.out.2.1, HF.out.2.2⟩

set_option maxRecDepth 100000 in
set_option maxHeartbeats 2000000 in
theorem do3 (ab mb rb : Nat) (N : Int) (L : WL) (t p : Int) (w : World) (hW : WAt w ab mb N L) (hR : RAt w rb L) :
    Calls Try.prog 15 #[.pointer (some ⟨ab, 0, none⟩), .pointer (some ⟨rb, 0, none⟩), .agg #[.int .i64 3, .int .i64 t, .int .i64 p]] w (DoPost ab mb rb N (lvL L t) w) := by
  have hC0 : Chg [] w (w.alloc (.cells #[.int .i64 3, .int .i64 t, .int .i64 p] 28)) := (Chg.refl [] w).alloc _
  have hb := heap_alloc_eq w (.cells #[.int .i64 3, .int .i64 t, .int .i64 p] 28)
  have c1 := cellB hb (i := 1) rfl
  have c2 := cellB hb (i := 2) rfl
  have hlt := hW.lt
  have hrl := hR.lt
  have hne := hR.ne hW
  have hf := hW.facts.2.2
  have H0 := Lib.hid (And.intro (hW.kept hC0 (by simp) (by simp)) (And.intro (hR.calm hC0) (And.intro hb (And.intro hC0 (And.intro hlt (And.intro hrl (And.intro hne hf)))))))
  clear hW hR hb hC0 hlt hrl hne hf
  go_enter Try.func15, Try.ntmps15
  go_wp2
  generalize (w.alloc (.cells #[.int .i64 3, .int .i64 t, .int .i64 p] 28)) = WW at *
  have HP := Lib.hid (H0.out.1.kept ((Chg.refl [] WW).drew) (by simp) (by simp))
  have HQ := Lib.hid (H0.out.2.1.calm ((Chg.refl [] WW).drew))
  go_region_held3 (fun w' => w'.cell? ⟨w.heap.size, 1, none⟩ = some (.int .i64 t) ∧ w'.cell? ⟨w.heap.size, 2, none⟩ = some (.int .i64 p)) (first | exact ⟨c1, c2⟩ | exact ⟨x1, x2⟩ | exact ⟨y1, y2⟩)
    (first
    | (go_at_call 11; refine (leavec ab mb N L t _ HP.out).mono ?_; rintro e w1 ⟨rfl, hW1, hC1⟩; have hb1 := (((Chg.refl [] WW).drew.mono (by simp)).trans hC1).blk H0.out.2.2.1 (by have := H0.out.2.2.2.2.1; simp; omega); have x1 := cellB hb1 (i := 1) rfl; have x2 := cellB hb1 (i := 2) rfl)
    | (go_at_call 8; refine (numc _ _).mono ?_; rintro e w' ⟨rfl, rfl⟩)
    | (go_at_call 29; refine (rleavec rb L t w1 (HQ.out.step HP.out hC1) (by have := H0.out.2.2.2.2.2.2.2; omega)).mono ?_; rintro e w2 ⟨rfl, hR2, hC2⟩; have hb2 := hC2.blk hb1 (by have := H0.out.2.2.2.2.2.1; simp; omega); have y1 := cellB hb2 (i := 1) rfl; have y2 := cellB hb2 (i := 2) rfl))
  have HF := Lib.hid (bothStep (N := N) (by omega) H0.out.2.2.2.1 H0.out.2.2.2.2.2.2.1 hW1 hC1 hR2 hC2)
  clear hW1 hC1 hR2 hC2 hb1 hb2 x1 x2 y1 y2
  go_wp2
  go_ret3
  exact ⟨ab, mb, rfl, .inl ⟨rfl, rfl⟩, HF.out.1, HF.out.2.1, HF.out.2.2⟩

end Go.Proofs.Ytohkjiibjljmmaa
