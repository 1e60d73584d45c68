
/- metronomeref18: steps of the document's queue; Leave, Change: contracts. -/
import Derived.Test.YtiiafhlckmkcnaaGreatYa
import Derived.Test.YtiiafhlckmkcnaaGreatUk
namespace Go.Proofs.YtiiafhlckmkcnaaGreat
open Go.RowKit

section
variable {w w' : World} {rc rr rw : Nat} {v v' : Value} {s s' : QS} {R : WL}
theorem DQ.stepS (h : DQ w rc rr rw v s) (hR : RAt w' rr R) (hC : Chg [rr] w w') (hI : QInv { s with S := R }) : DQ w' rc rr rw v { s with S := R } :=
  have hn := h.nc
  ⟨hC.blk h.head (by simp; exact hn.1), own_kept h.row hC (fun k hk hm => by simp at hk; subst hk; exact (h.rowNe _ hm).1 (by simp)), hR, h.rv.kept hC (fun k hk => by simp at hk; subst hk; exact ⟨h.ne, h.sd.notW⟩), hI, h.ne⟩
theorem DQ.stepR (h : DQ w rc rr rw v s) (hR : RAt w' rw R) (hC : Chg [rw] w w') (hI : QInv { s with R := R }) : DQ w' rc rr rw v { s with R := R } :=
  have hn := h.nc
  ⟨hC.blk h.head (by simp; exact hn.2.1), own_kept h.row hC (fun k hk hm => by simp at hk; subst hk; exact (h.rowNe _ hm).1 (by simp)), h.sd.kept hC (fun k hk => by simp at hk; subst hk; exact ⟨h.ne.symm, h.rv.notW⟩), hR, hI, h.ne⟩
/-- The row is made anew. -/
theorem DQ.putL {L : WL} (h : DQ w rc rr rw v s) (hC : Chg v.ownBlock.toList w w') (hr : w'.ownsRow 0 33 2 v' L.length (flatW L)) (hI : QInv { s with L := L }) :
    DQ (w'.setCell ⟨rc, 1, none⟩ v') rc rr rw v' { s with L := L } ∧ Chg (rc :: v.ownBlock.toList) w (w'.setCell ⟨rc, 1, none⟩ v') := by
  have hn := h.nc
  have hrow := h.rowNe
  have hC1 : Chg [rc] w' (w'.setCell ⟨rc, 1, none⟩ v') := (Chg.refl _ _).setCell _ _ (by simp)
  have hh : w'.heap[rc]? = some (.cells (dqcells rr rw v s) 56 (0, 0)) := hC.blk h.head (fun hm => (hrow _ hm).1 (by simp))
  have hs : RAt w' rr s.S := h.sd.kept hC (fun k hk => ⟨fun e => (hrow k hk).1 (by simp [e]), (hrow k hk).2⟩)
  have hv : RAt w' rw s.R := h.rv.kept hC (fun k hk => ⟨fun e => (hrow k hk).1 (by simp [e]), (hrow k hk).2⟩)
  refine ⟨⟨by rw [blk_setCell hh]; rfl, own_kept hr hC1 (fun k hk hm => ?_), hs.kept hC1 (fun k hk => by simp at hk; subst hk; exact ⟨hn.1, NotW.of hh (fun cs fr e => by cases e)⟩), hv.kept hC1 (fun k hk => by simp at hk; subst hk; exact ⟨hn.2.1, NotW.of hh (fun cs fr e => by cases e)⟩), hI, h.ne⟩, (hC.mono (fun k hk => .inl (List.mem_cons_of_mem _ hk))).trans (hC1.mono (by simp))⟩
  simp at hk
  subst hk
  obtain ⟨cs, hcs⟩ := own_cells hr _ hm
  exact cells_ne hh hcs (by decide) rfl
end

/-- A step of the document's queue. -/
def DStepP (rc rr rw : Nat) (v : Value) (s' : QS) (r : Value) (w : World) (e : Ending) (w' : World) : Prop :=
  ∃ v', e = .returned r ∧ DQ w' rc rr rw v' s' ∧ Chg (blkD rc rr rw v) w w' ∧ ∀ k ∈ v'.ownBlock.toList, k ∈ v.ownBlock.toList ∨ w.heap.size ≤ k

theorem askE_2 {s : QS} {t p q : Int} {b : Bool} (h : tpB t p = false) : s.askE t p q b = 2 := by unfold QS.askE; rw [if_neg (by rw [h]; simp)]
theorem askE_t {s : QS} {t p : Int} (h : tpB t p = true) : s.askE t p 0 true = if s.is t = true then 0 else 6 := by unfold QS.askE; rw [if_pos ⟨h, by decide⟩]; rfl
theorem askR_tp {L : WL} {t p : Int} (h : tpB t p = true) : askR L t p true = if hasR L t = true then 0 else 6 := by
  obtain ⟨h1, h2⟩ := tpB_iff.1 h
  rw [askR_of h1 h2]
  rfl

set_option maxRecDepth 100000 in
theorem dqleavec (rc rr rw : Nat) (v : Value) (s : QS) (t : Int) (w : World) (h : DQ w rc rr rw v s) :
    Calls Tryz.prog 19 #[.pointer (some ⟨rc, 0, none⟩), .int .i64 t] w (DStepP rc rr rw v (s.lvS t) (.int .i64 (s.askE t 1 0 true)) w) := by
  cases ha : tpB t 1 with
  | false =>
    have e1 : s.askE t 1 0 true = 2 := askE_2 ha
    have e2 : s.lvS t = s := by unfold QS.lvS; rw [if_neg (by rw [e1]; decide)]
    rw [e1, e2]
    have hA := dqaskc rc t 1 w
    rw [ha] at hA
    have HA := Lib.hid hA
    have HQ := Lib.hid h
    clear h hA ha e1 e2
    go_enter Tryz.func19, Tryz.ntmps19
    go_wp2_with fail
    refine HA.out.mono ?_
    rintro e w1 ⟨rfl, rfl⟩
    go_wp2
    go_ret
    exact ⟨v, rfl, HQ.out, Chg.refl _ _, fun k hk => .inl hk⟩
  | true =>
    have e1 := askE_t (s := s) ha
    have hA := dqaskc rc t 1 w
    rw [ha] at hA
    have c2 := h.c2
    cases hs : hasR s.S t with
    | true =>
      have ei : s.is t = true := by unfold QS.is; rw [hs]; rfl
      rw [ei, if_pos rfl] at e1
      have e2 : s.lvS t = { s with S := lvL s.S t } := by unfold QS.lvS; rw [if_pos e1, if_pos hs]
      rw [e1, e2]
      have hL := rleavec rr s.S t w h.sd h.fewS.1
      rw [askR_tp ha, hs] at hL
      have HL := Lib.hid (And.intro hA (And.intro hL h))
      clear h hA ha e1 e2 hL hs ei
      go_enter Tryz.func19, Tryz.ntmps19
      go_wp2_with fail
      refine HL.out.1.mono ?_
      rintro e w1 ⟨rfl, rfl⟩
      go_wp2_with fail
      refine HL.out.2.1.mono ?_
      rintro e w1 ⟨rfl, hR, hC⟩
      have H1 := Lib.hid (And.intro (HL.out.2.2.stepS hR hC (HL.out.2.2.inv.lvS t)) hC)
      clear hR hC
      go_wp2
      go_ret
      exact ⟨v, rfl, H1.out.1, H1.out.2.mono (by simp [blkD]), fun k hk => .inl hk⟩
    | false =>
      have hL := rleavec rr s.S t w h.sd h.fewS.1
      rw [askR_tp ha, hs] at hL
      have hl : lvL s.S t = s.S := by unfold Go.Proofs.YtiiafhlckmkcnaaGreat.lvL; rw [if_neg (by rw [askR_tp ha, hs]; decide)]
      rw [hl] at hL
      cases hr : hasR s.R t with
      | true =>
        have ei : s.is t = true := by unfold QS.is; rw [hs, hr]; rfl
        rw [ei, if_pos rfl] at e1
        have e2 : s.lvS t = { s with R := lvL s.R t } := by unfold QS.lvS; rw [if_pos e1, if_neg (by rw [hs]; decide)]
        rw [e1, e2]
        have hK := fun (W : World) (hR : RAt W rw s.R) => rleavec rw s.R t W hR h.fewS.2
        rw [askR_tp ha, hr] at hK
        have HL := Lib.hid (And.intro hA (And.intro hL (And.intro h hK)))
        clear h hA ha e1 e2 hL hs ei hr hK hl
        go_enter Tryz.func19, Tryz.ntmps19
        go_wp2_with fail
        refine HL.out.1.mono ?_
        rintro e w1 ⟨rfl, rfl⟩
        go_wp2_with fail
        refine HL.out.2.1.mono ?_
        rintro e w1 ⟨rfl, hR, hC⟩
        have h1 := HL.out.2.2.1.stepS hR hC HL.out.2.2.1.inv
        have c3 := h1.c3
        have H1 := Lib.hid (And.intro h1 hC)
        clear hR hC h1
        go_wp2_with fail
        refine (HL.out.2.2.2 w1 H1.out.1.rv).mono ?_
        rintro e w2 ⟨rfl, hR, hC⟩
        have H2 := Lib.hid (And.intro (H1.out.1.stepR hR hC (H1.out.1.inv.lvR t)) hC)
        clear hR hC
        go_wp2
        go_ret
        exact ⟨v, rfl, H2.out.1, (H1.out.2.mono (by simp [blkD])).trans (H2.out.2.mono (by simp [blkD])), fun k hk => .inl hk⟩
      | false =>
        have ei : s.is t = false := by unfold QS.is; rw [hs, hr]; rfl
        rw [ei, if_neg (by decide)] at e1
        have e2 : s.lvS t = s := by unfold QS.lvS; rw [if_neg (by rw [e1]; decide)]
        rw [e1, e2]
        have hK := fun (W : World) (hR : RAt W rw s.R) => rleavec rw s.R t W hR h.fewS.2
        have hl2 : lvL s.R t = s.R := by unfold Go.Proofs.YtiiafhlckmkcnaaGreat.lvL; rw [if_neg (by rw [askR_tp ha, hr]; decide)]
        rw [askR_tp ha, hr, hl2] at hK
        have HL := Lib.hid (And.intro hA (And.intro hL (And.intro h hK)))
        clear h hA ha e1 e2 hL hs ei hr hK hl hl2
        go_enter Tryz.func19, Tryz.ntmps19
        go_wp2_with fail
        refine HL.out.1.mono ?_
        rintro e w1 ⟨rfl, rfl⟩
        go_wp2_with fail
        refine HL.out.2.1.mono ?_
        rintro e w1 ⟨rfl, hR, hC⟩
        have h1 := HL.out.2.2.1.stepS hR hC HL.out.2.2.1.inv
        have c3 := h1.c3
        have H1 := Lib.hid (And.intro h1 hC)
        clear hR hC h1
        go_wp2_with fail
        refine (HL.out.2.2.2 w1 H1.out.1.rv).mono ?_
        rintro e w2 ⟨rfl, hR, hC⟩
        have H2 := Lib.hid (And.intro (H1.out.1.stepR hR hC H1.out.1.inv) hC)
        clear hR hC
        go_wp2
        go_ret
        exact ⟨v, rfl, H2.out.1, (H1.out.2.mono (by simp [blkD])).trans (H2.out.2.mono (by simp [blkD])), fun k hk => .inl hk⟩

set_option maxRecDepth 100000 in
theorem dqchangec (rc rr rw : Nat) (v : Value) (s : QS) (t p : Int) (w : World) (h : DQ w rc rr rw v s) :
    Calls Tryz.prog 21 #[.pointer (some ⟨rc, 0, none⟩), .int .i64 t, .int .i64 p] w (DStepP rc rr rw v (s.chS t p) (.int .i64 (s.askE t p 0 true)) w) := by
  cases ha : tpB t p with
  | false =>
    have e1 : s.askE t p 0 true = 2 := askE_2 ha
    have e2 : s.chS t p = s := by unfold QS.chS; rw [if_neg (by rw [e1]; decide)]
    rw [e1, e2]
    have hA := dqaskc rc t p w
    rw [ha] at hA
    have HA := Lib.hid hA
    have HQ := Lib.hid h
    clear h hA ha e1 e2
    go_enter Tryz.func21, Tryz.ntmps21
    go_wp2_with fail
    refine HA.out.mono ?_
    rintro e w1 ⟨rfl, rfl⟩
    go_wp2
    go_ret
    exact ⟨v, rfl, HQ.out, Chg.refl _ _, fun k hk => .inl hk⟩
  | true =>
    have e1 := askE_t (s := s) ha
    have hA := dqaskc rc t p w
    rw [ha] at hA
    have c2 := h.c2
    cases hs : hasR s.S t with
    | true =>
      have ei : s.is t = true := by unfold QS.is; rw [hs]; rfl
      rw [ei, if_pos rfl] at e1
      have e2 : s.chS t p = { s with S := chgL s.S t p } := by unfold QS.chS; rw [if_pos e1, if_pos hs]
      rw [e1, e2]
      have hL := rchangec rr s.S t p w h.sd h.fewS.1
      rw [askR_tp ha, hs] at hL
      have HL := Lib.hid (And.intro hA (And.intro hL h))
      clear h hA ha e1 e2 hL hs ei
      go_enter Tryz.func21, Tryz.ntmps21
      go_wp2_with fail
      refine HL.out.1.mono ?_
      rintro e w1 ⟨rfl, rfl⟩
      go_wp2_with fail
      refine HL.out.2.1.mono ?_
      rintro e w1 ⟨rfl, hR, hC⟩
      have H1 := Lib.hid (And.intro (HL.out.2.2.stepS hR hC (HL.out.2.2.inv.chgS t p)) hC)
      clear hR hC
      go_wp2
      go_ret
      exact ⟨v, rfl, H1.out.1, H1.out.2.mono (by simp [blkD]), fun k hk => .inl hk⟩
    | false =>
      have hL := rchangec rr s.S t p w h.sd h.fewS.1
      rw [askR_tp ha, hs] at hL
      have hl : chgL s.S t p = s.S := by unfold Go.Proofs.YtiiafhlckmkcnaaGreat.chgL; rw [if_neg (by rw [askR_tp ha, hs]; decide)]
      rw [hl] at hL
      cases hr : hasR s.R t with
      | true =>
        have ei : s.is t = true := by unfold QS.is; rw [hs, hr]; rfl
        rw [ei, if_pos rfl] at e1
        have e2 : s.chS t p = { s with R := chgL s.R t p } := by unfold QS.chS; rw [if_pos e1, if_neg (by rw [hs]; decide)]
        rw [e1, e2]
        have hK := fun (W : World) (hR : RAt W rw s.R) => rchangec rw s.R t p W hR h.fewS.2
        rw [askR_tp ha, hr] at hK
        have HL := Lib.hid (And.intro hA (And.intro hL (And.intro h hK)))
        clear h hA ha e1 e2 hL hs ei hr hK hl
        go_enter Tryz.func21, Tryz.ntmps21
        go_wp2_with fail
        refine HL.out.1.mono ?_
        rintro e w1 ⟨rfl, rfl⟩
        go_wp2_with fail
        refine HL.out.2.1.mono ?_
        rintro e w1 ⟨rfl, hR, hC⟩
        have h1 := HL.out.2.2.1.stepS hR hC HL.out.2.2.1.inv
        have c3 := h1.c3
        have H1 := Lib.hid (And.intro h1 hC)
        clear hR hC h1
        go_wp2_with fail
        refine (HL.out.2.2.2 w1 H1.out.1.rv).mono ?_
        rintro e w2 ⟨rfl, hR, hC⟩
        have H2 := Lib.hid (And.intro (H1.out.1.stepR hR hC (H1.out.1.inv.chgR t p)) hC)
        clear hR hC
        go_wp2
        go_ret
        exact ⟨v, rfl, H2.out.1, (H1.out.2.mono (by simp [blkD])).trans (H2.out.2.mono (by simp [blkD])), fun k hk => .inl hk⟩
      | false =>
        have ei : s.is t = false := by unfold QS.is; rw [hs, hr]; rfl
        rw [ei, if_neg (by decide)] at e1
        have e2 : s.chS t p = s := by unfold QS.chS; rw [if_neg (by rw [e1]; decide)]
        rw [e1, e2]
        have hK := fun (W : World) (hR : RAt W rw s.R) => rchangec rw s.R t p W hR h.fewS.2
        have hl2 : chgL s.R t p = s.R := by unfold Go.Proofs.YtiiafhlckmkcnaaGreat.chgL; rw [if_neg (by rw [askR_tp ha, hr]; decide)]
        rw [askR_tp ha, hr, hl2] at hK
        have HL := Lib.hid (And.intro hA (And.intro hL (And.intro h hK)))
        clear h hA ha e1 e2 hL hs ei hr hK hl hl2
        go_enter Tryz.func21, Tryz.ntmps21
        go_wp2_with fail
        refine HL.out.1.mono ?_
        rintro e w1 ⟨rfl, rfl⟩
        go_wp2_with fail
        refine HL.out.2.1.mono ?_
        rintro e w1 ⟨rfl, hR, hC⟩
        have h1 := HL.out.2.2.1.stepS hR hC HL.out.2.2.1.inv
        have c3 := h1.c3
        have H1 := Lib.hid (And.intro h1 hC)
        clear hR hC h1
        go_wp2_with fail
        refine (HL.out.2.2.2 w1 H1.out.1.rv).mono ?_
        rintro e w2 ⟨rfl, hR, hC⟩
        have H2 := Lib.hid (And.intro (H1.out.1.stepR hR hC H1.out.1.inv) hC)
        clear hR hC
        go_wp2
        go_ret
        exact ⟨v, rfl, H2.out.1, (H1.out.2.mono (by simp [blkD])).trans (H2.out.2.mono (by simp [blkD])), fun k hk => .inl hk⟩

end Go.Proofs.YtiiafhlckmkcnaaGreat
