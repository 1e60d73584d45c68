
/- Package mqueue: change, Leave, Change: contracts. -/
import Derived.Test.YtiiafhlckmkcnaaGreatUh
namespace Go.Proofs.YtiiafhlckmkcnaaGreat
open Go.RowKit

theorem heldM_by (S M : WL) : heldM S M = (S.map (·.1)).map fun t => (t, msgV (mAt M t)) := by unfold heldM; rw [List.map_map]; rfl
theorem heldM_chg {S M : WL} (h : ListOk S) (t p : Int) : heldM (chgL S t p) M = heldM S M := by rw [heldM_by, heldM_by, chgL_keys h]
theorem lvL_is {L : WL} {t : Int} (ht : okT t) (h : hasR L t = true) : lvL L t = wdel L t := by
  unfold lvL
  rw [if_pos (by rw [askR_of ht ⟨by decide, by decide⟩, if_pos h])]
theorem mdel_absent {M : List (Int × Value)} {t : Int} (h : ∀ x ∈ M, x.1 ≠ t) : mdel M t = M := by
  refine mdel_none ?_
  rw [List.findIdx?_eq_none_iff]
  intro x hx
  simpa using fun e => h x hx e.symm
theorem QInv.lvS {s : QS} (h : QInv s) (t : Int) : QInv { s with S := lvL s.S t } := ⟨h.room, h.few, h.msg, h.ls.sub (lvL_sub h.ls t), h.lr, h.len, h.held⟩
theorem QInv.lvR {s : QS} (h : QInv s) (t : Int) : QInv { s with R := lvL s.R t } := ⟨h.room, h.few, h.msg, h.ls, h.lr.sub (lvL_sub h.lr t), h.len, h.held⟩
theorem QInv.chgS {s : QS} (h : QInv s) (t p : Int) : QInv { s with S := chgL s.S t p } := ⟨h.room, h.few, h.msg, h.ls.chg t p, h.lr, h.len, h.held⟩
theorem QInv.chgR {s : QS} (h : QInv s) (t p : Int) : QInv { s with R := chgL s.R t p } := ⟨h.room, h.few, h.msg, h.ls, h.lr.chg t p, h.len, h.held⟩

/-- A box with one value. -/
def BxAt (w : World) (b : Nat) (x : Value) (T : TypeId) : Prop := w.heap[b]? = some (.cells #[x] T (0, 0))


set_option maxRecDepth 100000 in
set_option maxHeartbeats 2000000 in
theorem ulv1_S (u : UB) (v : Value) (N : Int) (s : QS) (t : Int) (bt bq : Nat) (w : World) (h : UAt w u v N s) (hb2 : BxAt w bt (.int .i64 t) 3) (hb3 : BxAt w bq (.pointer (some ⟨u.q, 0, none⟩)) 24) (ht : okT t) (hh : hasR s.S t = true) (hbt : bt ∉ u.l) (hbq : bq ∉ u.l) :
    Calls Tryz.prog 49 #[.pointer (some ⟨u.sa, 0, none⟩), .pointer (some ⟨bt, 0, none⟩), .pointer (some ⟨bq, 0, none⟩)] w fun e w' => e = .returned (.tuple #[]) ∧ UAt w' u v N { s with S := lvL s.S t } ∧ Chg [u.h, u.sa, u.sm] w w' := by
  have hn := h.ne
  have c0 := cellB hb2 (i := 0) rfl
  have HL := Lib.hid (leavec u.sa u.sm N s.S t w h.ls)
  have HU := Lib.hid (And.intro h (And.intro hb2 (And.intro hb3 (And.intro ht (And.intro hh (And.intro hbt (And.intro hbq hn)))))))
  clear h hb2 hb3 hn hbt hbq ht hh
  go_enter Tryz.func49, Tryz.ntmps49
  go_wp2_with fail
  refine HL.out.mono ?_
  rintro e w1 ⟨rfl, hW1, hC1⟩
  obtain ⟨h, hb2, hb3, ht, hh, hbt, hbq, hn⟩ := HU.out
  have hw2 := hC1.blk hb2 (fun hm => hbt (by revert hm; simp [UB.l]; intro hm; rcases hm with e | e <;> simp [e]))
  have hw3 := hC1.blk hb3 (fun hm => hbq (by revert hm; simp [UB.l]; intro hm; rcases hm with e | e <;> simp [e]))
  have hq1 := hC1.blk h.head (by simp; omega)
  have c4 := cellB hq1 (i := 4) (v := .map (some u.h)) rfl
  have d2 := cellB hw2 (i := 0) rfl
  have d3 := cellB hw3 (i := 0) rfl
  have hmp := h.held.kept hC1 (by simp; omega)
  obtain ⟨w2, hru, hM2, hC2⟩ := run_delete_P (P := Tryz.prog) (w := w1.drew) Tryz.underlying46 Tryz.underlying3 (hmp.kept ((Chg.refl [] w1).drew) (by simp)) t 3 0
  have hC2' : Chg [u.h] w1 w2 := ((Chg.refl [u.h] w1).drew).trans hC2
  have hP2 := hM2.perm (heldM_del (M := s.M) h.inv.ls (lvL_is ht hh))
  have hfin : UAt w2 u v N { s with S := lvL s.S t } := h.stepS hP2 (hW1.kept hC2' (by simp; omega) (by simp; omega)) ((hC1.mono (by simp)).trans (hC2'.mono (by simp))) (Int.le_refl _) (h.inv.lvS t)
  have HF := Lib.hid (And.intro hfin ((hC1.mono (S2 := [u.h, u.sa, u.sm]) (by simp)).trans (hC2'.mono (by simp))))
  clear hfin hP2 hC2' hC2 hM2 hmp hq1 hw2 hw3 hC1 hW1 h hb2 hb3 hn hbt hbq ht hh
  go_wp2
  refine region_still_tail 5 (by kernel_rfl) (by kernel_rfl) ?_
  simp only [List.take_succ_cons, List.take_zero, List.drop_succ_cons, List.drop_zero]
  repeat still_step
  refine wpStill_nil ?_
  go_wp2
  go_end0
  exact ⟨rfl, HF.out.1, HF.out.2⟩

set_option maxRecDepth 100000 in
set_option maxHeartbeats 2000000 in
theorem ulv1_R (u : UB) (v : Value) (N : Int) (s : QS) (t : Int) (bt bq : Nat) (w : World) (h : UAt w u v N s) (hb2 : BxAt w bt (.int .i64 t) 3) (hb3 : BxAt w bq (.pointer (some ⟨u.q, 0, none⟩)) 24) (hh : hasR s.S t = false) (hbt : bt ∉ u.l) (hbq : bq ∉ u.l) :
    Calls Tryz.prog 49 #[.pointer (some ⟨u.ra, 0, none⟩), .pointer (some ⟨bt, 0, none⟩), .pointer (some ⟨bq, 0, none⟩)] w fun e w' => e = .returned (.tuple #[]) ∧ UAt w' u v N { s with R := lvL s.R t } ∧ Chg [u.h, u.ra, u.rm] w w' := by
  have hn := h.ne
  have c0 := cellB hb2 (i := 0) rfl
  have HL := Lib.hid (leavec u.ra u.rm N s.R t w h.lr)
  have HU := Lib.hid (And.intro h (And.intro hb2 (And.intro hb3 (And.intro hh (And.intro hh (And.intro hbt (And.intro hbq hn)))))))
  clear h hb2 hb3 hn hbt hbq hh
  go_enter Tryz.func49, Tryz.ntmps49
  go_wp2_with fail
  refine HL.out.mono ?_
  rintro e w1 ⟨rfl, hW1, hC1⟩
  obtain ⟨h, hb2, hb3, ht, hh, hbt, hbq, hn⟩ := HU.out
  have hw2 := hC1.blk hb2 (fun hm => hbt (by revert hm; simp [UB.l]; intro hm; rcases hm with e | e <;> simp [e]))
  have hw3 := hC1.blk hb3 (fun hm => hbq (by revert hm; simp [UB.l]; intro hm; rcases hm with e | e <;> simp [e]))
  have hq1 := hC1.blk h.head (by simp; omega)
  have c4 := cellB hq1 (i := 4) (v := .map (some u.h)) rfl
  have d2 := cellB hw2 (i := 0) rfl
  have d3 := cellB hw3 (i := 0) rfl
  have hmp := h.held.kept hC1 (by simp; omega)
  obtain ⟨w2, hru, hM2, hC2⟩ := run_delete_P (P := Tryz.prog) (w := w1.drew) Tryz.underlying46 Tryz.underlying3 (hmp.kept ((Chg.refl [] w1).drew) (by simp)) t 3 0
  have hC2' : Chg [u.h] w1 w2 := ((Chg.refl [u.h] w1).drew).trans hC2
  rw [mdel_absent (fun x hx e => by
    obtain ⟨y, hy, rfl⟩ := List.mem_map.1 hx
    have : hasR s.S t = true := hasR_mem.2 ⟨y.2, by rw [← show y.1 = t from e]; exact hy⟩
    rw [hh] at this
    cases this)] at hM2
  have h1 : UAt w1 u v N { s with R := lvL s.R t } := h.stepR hW1 hC1 (Int.le_refl _) (h.inv.lvR t)
  have hfin : UAt w2 u v N { s with R := lvL s.R t } := h1.stepS (S := s.S) (M := s.M) hM2 (h1.ls.kept hC2' (by simp; omega) (by simp; omega)) (hC2'.mono (by simp)) (Int.le_refl _) (h.inv.lvR t)
  have HF := Lib.hid (And.intro hfin ((hC1.mono (S2 := [u.h, u.ra, u.rm]) (by simp)).trans (hC2'.mono (by simp))))
  clear hfin h1 hC2' hC2 hM2 hmp hq1 hw2 hw3 hC1 hW1 h hb2 hb3 hn hbt hbq ht hh
  go_wp2
  refine region_still_tail 5 (by kernel_rfl) (by kernel_rfl) ?_
  simp only [List.take_succ_cons, List.take_zero, List.drop_succ_cons, List.drop_zero]
  repeat still_step
  refine wpStill_nil ?_
  go_wp2
  go_end0
  exact ⟨rfl, HF.out.1, HF.out.2⟩

set_option maxRecDepth 100000 in
theorem uch1_S (u : UB) (v : Value) (N : Int) (s : QS) (t p : Int) (bt bp : Nat) (w : World) (h : UAt w u v N s) (hb2 : BxAt w bt (.int .i64 t) 3) (hb3 : BxAt w bp (.int .i64 p) 3) :
    Calls Tryz.prog 52 #[.pointer (some ⟨u.sa, 0, none⟩), .pointer (some ⟨bt, 0, none⟩), .pointer (some ⟨bp, 0, none⟩)] w fun e w' => e = .returned (.tuple #[]) ∧ UAt w' u v N { s with S := chgL s.S t p } ∧ Chg [u.h, u.sa, u.sm] w w' := by
  have hn := h.ne
  have c0 := cellB hb2 (i := 0) rfl
  have c1 := cellB hb3 (i := 0) rfl
  have HL := Lib.hid (changec u.sa u.sm N s.S t p w h.ls)
  have HH := Lib.hid h
  clear h
  go_enter Tryz.func52, Tryz.ntmps52
  go_wp2_with fail
  refine HL.out.mono ?_
  rintro e w1 ⟨rfl, hW1, hC1⟩
  have hfin : UAt w1 u v N { s with S := chgL s.S t p } := HH.out.stepS (M := s.M) (by rw [heldM_chg HH.out.inv.ls]; exact HH.out.held.kept hC1 (by simp; omega)) hW1 (hC1.mono (by simp)) (Int.le_refl _) (HH.out.inv.chgS t p)
  have HF := Lib.hid (And.intro hfin (hC1.mono (S2 := [u.h, u.sa, u.sm]) (by simp)))
  clear hfin hW1 hC1
  go_wp2
  go_end0
  exact ⟨rfl, HF.out.1, HF.out.2⟩
set_option maxRecDepth 100000 in
theorem uch1_R (u : UB) (v : Value) (N : Int) (s : QS) (t p : Int) (bt bp : Nat) (w : World) (h : UAt w u v N s) (hb2 : BxAt w bt (.int .i64 t) 3) (hb3 : BxAt w bp (.int .i64 p) 3) :
    Calls Tryz.prog 52 #[.pointer (some ⟨u.ra, 0, none⟩), .pointer (some ⟨bt, 0, none⟩), .pointer (some ⟨bp, 0, none⟩)] w fun e w' => e = .returned (.tuple #[]) ∧ UAt w' u v N { s with R := chgL s.R t p } ∧ Chg [u.h, u.ra, u.rm] w w' := by
  have c0 := cellB hb2 (i := 0) rfl
  have c1 := cellB hb3 (i := 0) rfl
  have HL := Lib.hid (changec u.ra u.rm N s.R t p w h.lr)
  have HH := Lib.hid h
  clear h
  go_enter Tryz.func52, Tryz.ntmps52
  go_wp2_with fail
  refine HL.out.mono ?_
  rintro e w1 ⟨rfl, hW1, hC1⟩
  have hfin : UAt w1 u v N { s with R := chgL s.R t p } := HH.out.stepR hW1 hC1 (Int.le_refl _) (HH.out.inv.chgR t p)
  have HF := Lib.hid (And.intro hfin (hC1.mono (S2 := [u.h, u.ra, u.rm]) (by simp)))
  clear hfin hW1 hC1
  go_wp2
  go_end0
  exact ⟨rfl, HF.out.1, HF.out.2⟩

end Go.Proofs.YtiiafhlckmkcnaaGreat
