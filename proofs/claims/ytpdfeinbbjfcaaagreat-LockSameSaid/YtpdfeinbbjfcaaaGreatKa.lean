
/- Package rwlock: a lock as it lies in memory; there, first, Held, may, hold, Waiting, Writer, Reads, Readers, Writers, New: contracts. -/
import Derived.Test.YtpdfeinbbjfcaaaGreatWo
import Derived.Test.YtpdfeinbbjfcaaaGreatKlaw
import Derived.Deep.RegionHeld3
import Derived.OwnWalk
import Derived.StillTailTactics
import Derived.Test.YtpdfeinbbjfcaaaGreatRow
namespace Go.Proofs.YtpdfeinbbjfcaaaGreat
open Go.RowKit

def lcells (rb a0 a1 : Nat) (s : LS) : Array Value := #[.int .i64 s.wr, .map (some rb), .pointer (some ⟨a0, 0, none⟩), .pointer (some ⟨a1, 0, none⟩)]

/-- A lock at block cb: its map at rb, who waits to read at a0, m0, to write at a1, m1. -/
structure LAt (w : World) (cb rb a0 m0 a1 m1 : Nat) (N : Int) (s : LS) : Prop where
  head : w.heap[cb]? = some (.cells (lcells rb a0 a1 s) 42 (0, 0))
  reads : MapP w rb (rdM s.C)
  lr : WAt w a0 m0 N s.R
  lw : WAt w a1 m1 N s.W
  inv : LInv s
  dis : [cb, rb, a0, m0, a1, m1].Nodup

theorem LAt.kept {S : List Nat} {w w' : World} {cb rb a0 m0 a1 m1 : Nat} {N : Int} {s : LS} (h : LAt w cb rb a0 m0 a1 m1 N s) (hC : Chg S w w') (hS : ∀ k ∈ S, k ∉ [cb, rb, a0, m0, a1, m1]) : LAt w' cb rb a0 m0 a1 m1 N s :=
  have hn : ∀ k ∈ [cb, rb, a0, m0, a1, m1], k ∉ S := fun k hk hm => hS k hm hk
  ⟨hC.blk h.head (hn _ (by simp)), h.reads.kept hC (hn _ (by simp)), h.lr.kept hC (hn _ (by simp)) (hn _ (by simp)), h.lw.kept hC (hn _ (by simp)) (hn _ (by simp)), h.inv, h.dis⟩
theorem LAt.calm {w w' : World} {cb rb a0 m0 a1 m1 : Nat} {N : Int} {s : LS} (h : LAt w cb rb a0 m0 a1 m1 N s) (hC : Chg [] w w') : LAt w' cb rb a0 m0 a1 m1 N s := h.kept hC (by simp)
theorem LAt.mono {w : World} {cb rb a0 m0 a1 m1 : Nat} {N N' : Int} {s : LS} (h : LAt w cb rb a0 m0 a1 m1 N s) (hN : N ≤ N') : LAt w cb rb a0 m0 a1 m1 N' s := ⟨h.head, h.reads, h.lr.mono hN, h.lw.mono hN, h.inv, h.dis⟩
theorem LAt.lt {w : World} {cb rb a0 m0 a1 m1 : Nat} {N : Int} {s : LS} (h : LAt w cb rb a0 m0 a1 m1 N s) : ∀ k ∈ [cb, rb, a0, m0, a1, m1], k < w.heap.size := by
  have h1 := lt_of_blk h.head
  have h2 := h.reads.lt
  have h3 := h.lr.lt
  have h4 := h.lw.lt
  intro k hk
  simp only [List.mem_cons, List.not_mem_nil, or_false] at hk
  omega
theorem LAt.ne {w : World} {cb rb a0 m0 a1 m1 : Nat} {N : Int} {s : LS} (h : LAt w cb rb a0 m0 a1 m1 N s) : cb ≠ rb ∧ cb ≠ a0 ∧ cb ≠ m0 ∧ cb ≠ a1 ∧ cb ≠ m1 ∧ rb ≠ a0 ∧ rb ≠ m0 ∧ rb ≠ a1 ∧ rb ≠ m1 ∧ a0 ≠ m0 ∧ a0 ≠ a1 ∧ a0 ≠ m1 ∧ m0 ≠ a1 ∧ m0 ≠ m1 ∧ a1 ≠ m1 := by
  have := h.dis
  simp only [List.nodup_cons, List.mem_cons, List.not_mem_nil, or_false, not_or, List.nodup_nil, not_false_eq_true, and_true] at this
  omega
/-- A store of who holds it to write. -/
theorem LAt.putWr {w : World} {cb rb a0 m0 a1 m1 : Nat} {N : Int} {s : LS} (h : LAt w cb rb a0 m0 a1 m1 N s) (x : Int) (hI : LInv { s with wr := x }) :
    LAt (w.setCell ⟨cb, 0, none⟩ (.int .i64 x)) cb rb a0 m0 a1 m1 N { s with wr := x } ∧ Chg [cb] w (w.setCell ⟨cb, 0, none⟩ (.int .i64 x)) :=
  have hC : Chg [cb] w (w.setCell ⟨cb, 0, none⟩ (.int .i64 x)) := (Chg.refl _ _).setCell _ _ (by simp)
  have hn := h.ne
  ⟨⟨blk_setCell h.head _, h.reads.kept hC (by simp; omega), h.lr.kept hC (by simp; omega) (by simp; omega), h.lw.kept hC (by simp; omega) (by simp; omega), hI, h.dis⟩, hC⟩
theorem LAt.putRd {w w' : World} {cb rb a0 m0 a1 m1 : Nat} {N : Int} {s : LS} {C : CL} (h : LAt w cb rb a0 m0 a1 m1 N s) (hM : MapP w' rb (rdM C)) (hC : Chg [rb] w w') (hI : LInv { s with C := C }) : LAt w' cb rb a0 m0 a1 m1 N { s with C := C } :=
  have hn := h.ne
  ⟨hC.blk h.head (by simp; omega), hM, h.lr.kept hC (by simp; omega) (by simp; omega), h.lw.kept hC (by simp; omega) (by simp; omega), hI, h.dis⟩
theorem LAt.stepR {w w' : World} {cb rb a0 m0 a1 m1 : Nat} {N N' : Int} {s : LS} {R : WL} (h : LAt w cb rb a0 m0 a1 m1 N s) (hW : WAt w' a0 m0 N' R) (hC : Chg [a0, m0] w w') (hN : N ≤ N') (hI : LInv { s with R := R }) : LAt w' cb rb a0 m0 a1 m1 N' { s with R := R } :=
  have hn := h.ne
  ⟨hC.blk h.head (by simp; omega), h.reads.kept hC (by simp; omega), hW, (h.lw.kept hC (by simp; omega) (by simp; omega)).mono hN, hI, h.dis⟩
theorem LAt.stepW {w w' : World} {cb rb a0 m0 a1 m1 : Nat} {N N' : Int} {s : LS} {W : WL} (h : LAt w cb rb a0 m0 a1 m1 N s) (hW : WAt w' a1 m1 N' W) (hC : Chg [a1, m1] w w') (hN : N ≤ N') (hI : LInv { s with W := W }) : LAt w' cb rb a0 m0 a1 m1 N' { s with W := W } :=
  have hn := h.ne
  ⟨hC.blk h.head (by simp; omega), h.reads.kept hC (by simp; omega), (h.lr.kept hC (by simp; omega) (by simp; omega)).mono hN, hW, hI, h.dis⟩

theorem zeroInt (w : World) : (zeroValue 3).run Tryz.prog w = .ok (.int .i64 0) w := by kernel_rfl
theorem LAt.look {w : World} {cb rb a0 m0 a1 m1 : Nat} {N : Int} {s : LS} (h : LAt w cb rb a0 m0 a1 m1 N s) (t : Int) : (Instr.lookup 37 (.map (some rb)) (.int .i64 t) false).run Tryz.prog w = .ok (.int .i64 (s.cnt t)) w := by
  have hr := run_lookup_P1 (P := Tryz.prog) Tryz.underlying37 Tryz.underlying3 (zeroInt w) h.reads t
  rw [rdM_getD (h.inv.ok.cnt t).1] at hr
  exact hr

@[go_sem] theorem neq_mapii (w : World) (r : Option Nat) : (binOp .neq 37 (.map r) (.map none)).run Tryz.prog w = .ok (.bool (!r.isNone)) w :=
  run_neq_map_nil w _ 3 3 r Tryz.underlying37


set_option maxRecDepth 100000 in
theorem ltherec (cb rb a0 m0 a1 m1 : Nat) (N : Int) (s : LS) (w : World) (h : LAt w cb rb a0 m0 a1 m1 N s) :
    Calls Tryz.prog 37 #[.pointer (some ⟨cb, 0, none⟩)] w fun e w' => e = .returned (.bool true) ∧ w = w' := by
  have c1 := cellB h.head (i := 1) (v := .map (some rb)) rfl
  clear h
  go_enter Tryz.func37, Tryz.ntmps37
  go_wp2
  go_ret
  exact ⟨rfl, rfl⟩

set_option maxRecDepth 100000 in
theorem lheldc (cb rb a0 m0 a1 m1 : Nat) (N : Int) (s : LS) (w : World) (h : LAt w cb rb a0 m0 a1 m1 N s) :
    Calls Tryz.prog 29 #[.pointer (some ⟨cb, 0, none⟩)] w fun e w' => e = .returned (.bool s.held) ∧ Chg [] w w' := by
  have c0 := cellB h.head (i := 0) (v := .int .i64 s.wr) rfl
  have c1 := cellB h.head (i := 1) (v := .map (some rb)) rfl
  have HT := Lib.hid (ltherec cb rb a0 m0 a1 m1 N s w h)
  have hrun := run_len_P (P := Tryz.prog) Tryz.underlying37 h.reads 3
  have hl := rdM_len s.C
  obtain ⟨n, hn⟩ : ∃ n : Int, n = ((rdM s.C).length : Int) := ⟨_, rfl⟩
  rw [← hn] at hrun hl
  unfold LS.held
  clear h hn
  by_cases h1 : s.wr = -1
  · have b1 : (s.wr != -1) = false := by simp [h1]
    rw [decide_eq_true h1, ← hl]
    obtain ⟨r, hr⟩ : ∃ r, r = decide (0 < n) := ⟨_, rfl⟩
    rw [← hr]
    have hr' := hr.symm
    clear hl h1 hr
    go_enter Tryz.func29, Tryz.ntmps29
    go_wp2_with (go_at_call 37; refine HT.out.mono ?_; rintro e w' ⟨rfl, rfl⟩)
    go_ret
    exact ⟨rfl, Chg.refl _ _⟩
  · have b1 : (s.wr != -1) = true := by simp [h1]
    rw [decide_eq_false h1]
    clear hl h1 hrun
    go_enter Tryz.func29, Tryz.ntmps29
    go_wp2_with (go_at_call 37; refine HT.out.mono ?_; rintro e w' ⟨rfl, rfl⟩)
    go_ret
    exact ⟨rfl, Chg.refl _ _⟩

theorem prio_first {L : WL} (h : ListOk L) (hn : headB (ordL L) = true) : headT (ordL L) = fT L ∧ prioR L (fT L) = fP L := by
  rcases fT_ok h with ⟨_, _, h3⟩ | ⟨x, r, ho, h1, h2, h3, h4, h5⟩
  · rw [h3] at hn; cases hn
  · rw [h1, h2, ho]
    exact ⟨rfl, prioR_mem h.nodup h5⟩
theorem none_first {L : WL} (hn : headB (ordL L) = false) : fT L = -1 ∧ fP L = 0 := by
  unfold fT fP
  cases ho : ordL L with
  | nil => exact ⟨rfl, rfl⟩
  | cons x r => rw [ho] at hn; cases hn

set_option maxRecDepth 100000 in
theorem lfirstc (wr : Bool) (cb rb a0 m0 a1 m1 : Nat) (N : Int) (s : LS) (w : World) (h : LAt w cb rb a0 m0 a1 m1 N s) :
    Calls Tryz.prog 76 #[.pointer (some ⟨cb, 0, none⟩), .int .i64 (if wr = true then 1 else 0)] w fun e w' => e = .returned (.tuple #[.int .i64 (fT (s.line wr)), .int .i64 (fP (s.line wr))]) ∧ Chg [] w w' := by
  have c2 := cellB h.head (i := 2) (v := .pointer (some ⟨a0, 0, none⟩)) rfl
  have c3 := cellB h.head (i := 3) (v := .pointer (some ⟨a1, 0, none⟩)) rfl
  cases wr
  all_goals
    simp only [LS.line, Bool.false_eq_true, if_false, if_true]
  · have HL := Lib.hid h.lr
    have hok := h.inv.r
    clear h
    cases hb : headB (ordL s.R) with
    | true =>
      obtain ⟨e1, e2⟩ := prio_first hok hb
      have hF := firstc a0 m0 N s.R w HL.out
      have hP := fun (W : World) (hW : WAt W a0 m0 N s.R) => prioc a0 m0 N s.R (fT s.R) W hW
      rw [hb, e1] at hF
      rw [e2] at hP
      have HF := Lib.hid (And.intro hF hP)
      clear hF hP e1 e2 hb hok
      go_enter Tryz.func76, Tryz.ntmps76
      go_wp2_with fail
      refine HF.out.1.mono ?_
      rintro e w1 ⟨rfl, hC⟩
      have d2 := cell_kept' c2 hC (by simp)
      have HC := Lib.hid hC
      clear hC
      go_wp2_with fail
      refine (HF.out.2 w1 (HL.out.kept HC.out (by simp) (by simp))).mono ?_
      rintro e w2 ⟨rfl, hC⟩
      go_wp2
      go_ret2
      exact ⟨rfl, HC.out.trans hC⟩
    | false =>
      obtain ⟨e1, e2⟩ := none_first hb
      have hF := firstc a0 m0 N s.R w HL.out
      rw [hb] at hF
      rw [e1, e2]
      have HF := Lib.hid hF
      clear hF e1 e2 hb hok
      go_enter Tryz.func76, Tryz.ntmps76
      go_wp2_with fail
      refine HF.out.mono ?_
      rintro e w1 ⟨rfl, hC⟩
      go_wp2
      go_ret2
      exact ⟨rfl, hC⟩
  · have HL := Lib.hid h.lw
    have hok := h.inv.w
    clear h
    cases hb : headB (ordL s.W) with
    | true =>
      obtain ⟨e1, e2⟩ := prio_first hok hb
      have hF := firstc a1 m1 N s.W w HL.out
      have hP := fun (W : World) (hW : WAt W a1 m1 N s.W) => prioc a1 m1 N s.W (fT s.W) W hW
      rw [hb, e1] at hF
      rw [e2] at hP
      have HF := Lib.hid (And.intro hF hP)
      clear hF hP e1 e2 hb hok
      go_enter Tryz.func76, Tryz.ntmps76
      go_wp2_with fail
      refine HF.out.1.mono ?_
      rintro e w1 ⟨rfl, hC⟩
      have d3 := cell_kept' c3 hC (by simp)
      have HC := Lib.hid hC
      clear hC
      go_wp2_with fail
      refine (HF.out.2 w1 (HL.out.kept HC.out (by simp) (by simp))).mono ?_
      rintro e w2 ⟨rfl, hC⟩
      go_wp2
      go_ret2
      exact ⟨rfl, HC.out.trans hC⟩
    | false =>
      obtain ⟨e1, e2⟩ := none_first hb
      have hF := firstc a1 m1 N s.W w HL.out
      rw [hb] at hF
      rw [e1, e2]
      have HF := Lib.hid hF
      clear hF e1 e2 hb hok
      go_enter Tryz.func76, Tryz.ntmps76
      go_wp2_with fail
      refine HF.out.mono ?_
      rintro e w1 ⟨rfl, hC⟩
      go_wp2
      go_ret2
      exact ⟨rfl, hC⟩

set_option maxRecDepth 100000 in
theorem lmayc (wr : Bool) (cb rb a0 m0 a1 m1 : Nat) (N : Int) (s : LS) (t p : Int) (w : World) (h : LAt w cb rb a0 m0 a1 m1 N s) :
    Calls Tryz.prog 71 #[.pointer (some ⟨cb, 0, none⟩), .int .i64 (if wr = true then 1 else 0), .int .i64 t, .int .i64 p] w fun e w' => e = .returned (.bool (s.may wr t p)) ∧ Chg [] w w' := by
  cases wr
  all_goals
    simp only [LS.may, Bool.false_eq_true, if_false, if_true]
  · have HF := Lib.hid (lfirstc true cb rb a0 m0 a1 m1 N s w h)
    have HL := Lib.hid h
    unfold LS.mayR
    have hw : (s.wr == -1) = false ∧ decide (s.wr = -1) = false ∨ (s.wr == -1) = true ∧ decide (s.wr = -1) = true := by
      by_cases h : s.wr = -1 <;> simp [h]
    clear h
    rcases hw with ⟨b1, b2⟩ | ⟨b1, b2⟩
    · rw [b2, Bool.false_and]
      clear b2
      go_enter Tryz.func71, Tryz.ntmps71
      go_wp2_with fail
      refine HF.out.mono ?_
      rintro e w1 ⟨rfl, hC⟩
      have c0 := cellB (HL.out.calm hC).head (i := 0) (v := .int .i64 s.wr) rfl
      have HC := Lib.hid hC
      clear hC
      go_wp2
      go_ret
      exact ⟨rfl, HC.out⟩
    · rw [b2, Bool.true_and]
      clear b2
      obtain ⟨n, hn⟩ : ∃ n, n = s.cnt t := ⟨_, rfl⟩
      obtain ⟨q, hq⟩ : ∃ q, q = fP s.W := ⟨_, rfl⟩
      rw [← hn, ← hq]
      have HQ := Lib.hid (And.intro hn hq)
      clear hn hq
      by_cases h2 : 0 < n
      · have d2 : decide (0 < n) = true := decide_eq_true h2
        rw [d2, Bool.true_or]
        clear h2
        go_enter Tryz.func71, Tryz.ntmps71
        go_wp2_with fail
        refine HF.out.mono ?_
        rintro e w1 ⟨rfl, hC⟩
        have c0 := cellB (HL.out.calm hC).head (i := 0) (v := .int .i64 s.wr) rfl
        have c1 := cellB (HL.out.calm hC).head (i := 1) (v := .map (some rb)) rfl
        have hl := (HL.out.calm hC).look t
        rw [← HQ.out.1] at hl
        have HC := Lib.hid hC
        clear hC
        go_wp2
        go_ret
        exact ⟨rfl, HC.out⟩
      · have d2 : decide (0 < n) = false := decide_eq_false h2
        rw [d2, Bool.false_or]
        clear h2
        obtain ⟨r, hr⟩ : ∃ r, r = decide (q < p) := ⟨_, rfl⟩
        rw [← hr]
        have hr' := hr.symm
        clear hr
        go_enter Tryz.func71, Tryz.ntmps71
        go_wp2_with fail
        refine HF.out.mono ?_
        rintro e w1 ⟨rfl, hC⟩
        have c0 := cellB (HL.out.calm hC).head (i := 0) (v := .int .i64 s.wr) rfl
        have c1 := cellB (HL.out.calm hC).head (i := 1) (v := .map (some rb)) rfl
        have hl := (HL.out.calm hC).look t
        rw [← HQ.out.1] at hl
        have HC := Lib.hid hC
        clear hC
        rw [show fP (s.line true) = q from HQ.out.2.symm]
        go_wp2
        go_ret
        exact ⟨rfl, HC.out⟩
  · have HF := Lib.hid (lheldc cb rb a0 m0 a1 m1 N s w h)
    generalize s.held = b at *
    clear h
    go_enter Tryz.func71, Tryz.ntmps71
    go_wp2_with fail
    refine HF.out.mono ?_
    rintro e w1 ⟨rfl, hC⟩
    go_wp2
    go_ret
    exact ⟨rfl, hC⟩

set_option maxRecDepth 100000 in
theorem lholdc (wr : Bool) (cb rb a0 m0 a1 m1 : Nat) (N : Int) (s : LS) (t : Int) (w : World) (h : LAt w cb rb a0 m0 a1 m1 N s) (ht : okT t) (hI : LInv (s.hold wr t)) :
    Calls Tryz.prog 72 #[.pointer (some ⟨cb, 0, none⟩), .int .i64 (if wr = true then 1 else 0), .int .i64 t] w fun e w' => e = .returned (.tuple #[]) ∧ LAt w' cb rb a0 m0 a1 m1 N (s.hold wr t) ∧ Chg [cb, rb] w w' := by
  cases wr
  all_goals
    simp only [LS.hold, Bool.false_eq_true, if_false, if_true] at hI ⊢
  · have c1 := cellB h.head (i := 1) (v := .map (some rb)) rfl
    have hl := h.look t
    have hb := h.inv.ok.cnt t
    obtain ⟨w1, hrun, hM, hC⟩ := run_update_P (P := Tryz.prog) Tryz.underlying37 Tryz.underlying3 h.reads t (.int .i64 (s.cnt t + 1))
    have H1 := Lib.hid (show LAt w1 cb rb a0 m0 a1 m1 N { s with C := s.C.set t.toNat (s.cnt t + 1) } ∧ Chg [cb, rb] w w1 from
      ⟨h.putRd (hM.perm (rdM_put ht h.inv.ok.len (by omega))) hC hI, hC.mono (by simp)⟩)
    obtain ⟨n, hn⟩ : ∃ n, n = s.cnt t := ⟨_, rfl⟩
    rw [← hn] at hl hb hrun H1 ⊢
    clear h hI hM hC hn
    go_enter Tryz.func72, Tryz.ntmps72
    go_wp2
    go_end0
    exact ⟨rfl, H1.out.1, H1.out.2⟩
  · have c0 := cellB h.head (i := 0) (v := .int .i64 s.wr) rfl
    have f0 := frozenB h.head 0
    have H1 := Lib.hid (h.putWr t hI)
    clear h hI
    go_enter Tryz.func72, Tryz.ntmps72
    go_wp2
    go_end0
    exact ⟨rfl, H1.out.1, H1.out.2.mono (by simp)⟩

set_option maxRecDepth 100000 in
theorem lwaitingc (cb rb a0 m0 a1 m1 : Nat) (N : Int) (s : LS) (t : Int) (w : World) (h : LAt w cb rb a0 m0 a1 m1 N s) :
    Calls Tryz.prog 31 #[.pointer (some ⟨cb, 0, none⟩), .int .i64 t] w fun e w' => e = .returned (.tuple #[.bool (hasR s.W t), .bool (s.is t)]) ∧ Chg [] w w' := by
  have c2 := cellB h.head (i := 2) (v := .pointer (some ⟨a0, 0, none⟩)) rfl
  have c3 := cellB h.head (i := 3) (v := .pointer (some ⟨a1, 0, none⟩)) rfl
  have HT := Lib.hid (ltherec cb rb a0 m0 a1 m1 N s w h)
  have HL := Lib.hid h
  have hH := hasc a1 m1 N s.W t w h.lw
  have hG := fun (W : World) (hW : WAt W a0 m0 N s.R) => hasc a0 m0 N s.R t W hW
  unfold LS.is
  generalize hasR s.R t = b at *
  generalize hasR s.W t = c at *
  have HF := Lib.hid (And.intro hH hG)
  clear h hH hG
  cases c
  all_goals
    simp only [Bool.true_or, Bool.false_or]
    go_enter Tryz.func31, Tryz.ntmps31
    go_wp2_with (go_at_call 37; refine HT.out.mono ?_; rintro e w' ⟨rfl, rfl⟩)
    refine HF.out.1.mono ?_
    rintro e w1 ⟨rfl, hC⟩
    have d2 := cell_kept' c2 hC (by simp)
    have HC := Lib.hid hC
    clear hC
  · go_wp2_with fail
    refine (HF.out.2 w1 (HL.out.calm HC.out).lr).mono ?_
    rintro e w2 ⟨rfl, hC⟩
    go_wp2
    go_ret2
    exact ⟨rfl, HC.out.trans hC⟩
  · go_wp2
    go_ret2
    exact ⟨rfl, HC.out⟩

set_option maxRecDepth 100000 in
theorem lwriterc (cb rb a0 m0 a1 m1 : Nat) (N : Int) (s : LS) (w : World) (h : LAt w cb rb a0 m0 a1 m1 N s) :
    Calls Tryz.prog 28 #[.pointer (some ⟨cb, 0, none⟩)] w fun e w' => e = .returned (.tuple #[.int .i64 (if s.wr = -1 then 0 else s.wr), .bool (!decide (s.wr = -1))]) ∧ Chg [] w w' := by
  have c0 := cellB h.head (i := 0) (v := .int .i64 s.wr) rfl
  have HT := Lib.hid (ltherec cb rb a0 m0 a1 m1 N s w h)
  clear h
  by_cases h1 : s.wr = -1
  · have b1 : (s.wr == -1) = true := by simp [h1]
    rw [decide_eq_true h1, if_pos h1]
    clear h1
    go_enter Tryz.func28, Tryz.ntmps28
    go_wp2_with (go_at_call 37; refine HT.out.mono ?_; rintro e w' ⟨rfl, rfl⟩)
    go_ret2
    exact ⟨rfl, Chg.refl _ _⟩
  · have b1 : (s.wr == -1) = false := by simp [h1]
    rw [decide_eq_false h1, if_neg h1]
    clear h1
    go_enter Tryz.func28, Tryz.ntmps28
    go_wp2_with (go_at_call 37; refine HT.out.mono ?_; rintro e w' ⟨rfl, rfl⟩)
    go_ret2
    exact ⟨rfl, Chg.refl _ _⟩

set_option maxRecDepth 100000 in
theorem lreadsc (cb rb a0 m0 a1 m1 : Nat) (N : Int) (s : LS) (t : Int) (w : World) (h : LAt w cb rb a0 m0 a1 m1 N s) :
    Calls Tryz.prog 33 #[.pointer (some ⟨cb, 0, none⟩), .int .i64 t] w fun e w' => e = .returned (.int .i64 (s.cnt t)) ∧ Chg [] w w' := by
  have c1 := cellB h.head (i := 1) (v := .map (some rb)) rfl
  have HT := Lib.hid (ltherec cb rb a0 m0 a1 m1 N s w h)
  have hl := h.look t
  generalize s.cnt t = n at *
  clear h
  go_enter Tryz.func33, Tryz.ntmps33
  go_wp2_with (go_at_call 37; refine HT.out.mono ?_; rintro e w' ⟨rfl, rfl⟩)
  go_ret
  exact ⟨rfl, Chg.refl _ _⟩

set_option maxRecDepth 100000 in
theorem lreadersc (cb rb a0 m0 a1 m1 : Nat) (N : Int) (s : LS) (w : World) (h : LAt w cb rb a0 m0 a1 m1 N s) :
    Calls Tryz.prog 34 #[.pointer (some ⟨cb, 0, none⟩)] w (IntsPost (ordT s.R) w) := by
  have c2 := cellB h.head (i := 2) (v := .pointer (some ⟨a0, 0, none⟩)) rfl
  have HT := Lib.hid (ltherec cb rb a0 m0 a1 m1 N s w h)
  have HL := Lib.hid (listc a0 m0 N s.R w h.lr)
  clear h
  go_enter Tryz.func34, Tryz.ntmps34
  go_wp2_with (go_at_call 37; refine HT.out.mono ?_; rintro e w' ⟨rfl, rfl⟩)
  refine HL.out.mono ?_
  rintro e w1 ⟨v, rfl, ho, hC⟩
  have HO := Lib.hid (And.intro ho hC)
  clear ho hC
  go_wp2
  go_ret
  exact ⟨v, rfl, HO.out.1, HO.out.2⟩

set_option maxRecDepth 100000 in
theorem lwritersc (cb rb a0 m0 a1 m1 : Nat) (N : Int) (s : LS) (w : World) (h : LAt w cb rb a0 m0 a1 m1 N s) :
    Calls Tryz.prog 36 #[.pointer (some ⟨cb, 0, none⟩)] w (IntsPost (ordT s.W) w) := by
  have c3 := cellB h.head (i := 3) (v := .pointer (some ⟨a1, 0, none⟩)) rfl
  have HT := Lib.hid (ltherec cb rb a0 m0 a1 m1 N s w h)
  have HL := Lib.hid (listc a1 m1 N s.W w h.lw)
  clear h
  go_enter Tryz.func36, Tryz.ntmps36
  go_wp2_with (go_at_call 37; refine HT.out.mono ?_; rintro e w' ⟨rfl, rfl⟩)
  refine HL.out.mono ?_
  rintro e w1 ⟨v, rfl, ho, hC⟩
  have HO := Lib.hid (And.intro ho hC)
  clear ho hC
  go_wp2
  go_ret
  exact ⟨v, rfl, HO.out.1, HO.out.2⟩

def LNewP (w : World) (e : Ending) (w' : World) : Prop := ∃ cb rb a0 m0 a1 m1, e = .returned (.pointer (some ⟨cb, 0, none⟩)) ∧ (∀ k ∈ [cb, rb, a0, m0, a1, m1], w.heap.size ≤ k) ∧ LAt w' cb rb a0 m0 a1 m1 0 lnew ∧ Chg [] w w'

theorem rdM_new : rdM lnew.C = [] := by decide

set_option maxRecDepth 100000 in
theorem lnewc (w : World) : Calls Tryz.prog 5 #[] w (LNewP w) := by
  have hmm := @run_makeMap Tryz.prog
  have H0 := Lib.hid (show MapP (w.alloc (.map #[] 0)) w.heap.size [] ∧ Chg [] w (w.alloc (.map #[] 0)) from ⟨MapP.made w, (Chg.refl _ _).alloc _⟩)
  go_enter Tryz.func5, Tryz.ntmps5
  go_wp2_with fail
  refine (newc _).mono ?_
  rintro e w1 ⟨a0, m0, rfl, h1, h2, hW, hC⟩
  have H1 := Lib.hid (And.intro h1 (And.intro h2 (And.intro hW hC)))
  clear h1 h2 hW hC
  go_wp2_with fail
  refine (newc _).mono ?_
  rintro e w2 ⟨a1, m1, rfl, h1, h2, hW, hC⟩
  have H2 := Lib.hid (And.intro h1 (And.intro h2 (And.intro hW hC)))
  clear h1 h2 hW hC
  go_wp2
  go_ret
  have hA : Chg [] w2 (w2.alloc (.cells #[.int .i64 (-1), .map (some w.heap.size), .pointer (some ⟨a0, 0, none⟩), .pointer (some ⟨a1, 0, none⟩)] 42)) := (Chg.refl _ _).alloc _
  have s0 := H0.out.2.size
  have s1 := H1.out.2.2.2.size
  have s2 := H2.out.2.2.2.size
  have l0 := H0.out.1.lt
  have l1 := H1.out.2.2.1.lt
  have l2 := H2.out.2.2.1.lt
  have g1 := H1.out.1
  have g2 := H1.out.2.1
  have g3 := H2.out.1
  have g4 := H2.out.2.1
  refine ⟨w2.heap.size, w.heap.size, a0, m0, a1, m1, rfl, ?_, ⟨heap_alloc_eq w2 _, ?_, ?_, H2.out.2.2.1.kept hA (by simp) (by simp), LInv.new, ?_⟩, ((H0.out.2.trans H1.out.2.2.2).trans H2.out.2.2.2).trans hA⟩
  · intro k hk
    simp only [List.mem_cons, List.not_mem_nil, or_false] at hk
    omega
  · rw [rdM_new]
    exact ((H0.out.1.kept H1.out.2.2.2 (by simp)).kept H2.out.2.2.2 (by simp)).kept hA (by simp)
  · exact (H1.out.2.2.1.kept H2.out.2.2.2 (by simp) (by simp)).kept hA (by simp) (by simp)
  · simp only [List.nodup_cons, List.mem_cons, List.not_mem_nil, or_false, not_or, List.nodup_nil, not_false_eq_true, and_true]
    omega

end Go.Proofs.YtpdfeinbbjfcaaaGreat
