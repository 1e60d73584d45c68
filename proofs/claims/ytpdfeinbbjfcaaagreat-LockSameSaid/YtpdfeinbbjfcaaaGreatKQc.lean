
/- metronomeref15: Unlock, Leave, Change: contracts (written by wip/unq.py). -/
import Derived.Test.YtpdfeinbbjfcaaaGreatKQb
namespace Go.Proofs.YtpdfeinbbjfcaaaGreat
open Go.RowKit

def DLetE (l : List Int) (r : Int) (rc rr rw : Nat) (s' : LS) (w : World) (e : Ending) (w' : World) : Prop :=
  ∃ v, e = .returned (.tuple #[v, .int .i64 r]) ∧ w'.ownsRow w.heap.size 3 1 v l.length (l.map (Value.int .i64)) ∧ DAt w' rc rr rw s' ∧ Chg [rc, rr, rw] w w'
theorem DLetE.nil {r : Int} {rc rr rw : Nat} {s' : LS} {w w' : World} (h : DAt w' rc rr rw s') (hC : Chg [rc, rr, rw] w w') : DLetE [] r rc rr rw s' w (.returned (.tuple #[.slice none 0 0, .int .i64 r])) w' :=
  ⟨_, rfl, World.ownsRow_nil .., h, hC⟩

theorem LS.un_doc (s : LS) (t : Int) (h : LOk s) : ((decide (t < 0) = true ∨ (decide (t < 0) = false ∧ decide (16 ≤ t) = true)) ∧ s.unE t = 2 ∧ s.unL t = [] ∧ s.unS t = s) ∨
    (okT t ∧ (s.wr == t) = true ∧ s.unE t = 0 ∧ s.un1 t = { s with wr := -1 } ∧ s.unL t = (s.un1 t).let_.1 ∧ s.unS t = (s.un1 t).let_.2) ∨
    (okT t ∧ (s.wr == t) = false ∧ decide (0 < s.cnt t) = true ∧ s.unE t = 0 ∧ s.un1 t = { s with C := s.C.set t.toNat (s.cnt t - 1) } ∧ s.unL t = (s.un1 t).let_.1 ∧ s.unS t = (s.un1 t).let_.2) ∨
    (okT t ∧ (s.wr == t) = false ∧ decide (0 < s.cnt t) = false ∧ s.unE t = 6 ∧ s.unL t = [] ∧ s.unS t = s) := by
  unfold LS.unL LS.unS
  by_cases hb : thB t = true
  · right
    have hok := thB_iff.1 hb
    have hc := h.cnt t
    by_cases h1 : s.wr = t
    · left
      have e : s.unE t = 0 := by unfold LS.unE; rw [if_pos hb, if_pos h1]
      simp [e, h1, hok, LS.un1]
    · right
      by_cases h2 : s.cnt t = 0
      · right
        have e : s.unE t = 6 := by unfold LS.unE; rw [if_pos hb, if_neg h1, if_pos h2]
        simp [e, h1, hok, h2]
      · left
        have e : s.unE t = 0 := by unfold LS.unE; rw [if_pos hb, if_neg h1, if_neg h2]
        have h3 : 0 < s.cnt t := by omega
        simp [e, h1, hok, h3, LS.un1]
  · left
    have e : s.unE t = 2 := by unfold LS.unE; rw [if_neg hb]
    rw [thB_iff] at hb
    unfold okT at hb
    refine ⟨?_, e, by simp [e], by simp [e]⟩
    simp only [decide_eq_true_eq, decide_eq_false_iff_not]
    omega

set_option maxRecDepth 100000 in
set_option maxHeartbeats 4000000 in
theorem dunlockc (rc rr rw : Nat) (s : LS) (t : Int) (w : World) (h : DAt w rc rr rw s) :
    Calls Tryz.prog 21 #[.pointer (some ⟨rc, 0, none⟩), .int .i64 t] w (DLetE (s.unL t) (s.unE t) rc rr rw (s.unS t) w) := by
  have c0 := h.c0
  have f0 := h.cfr 0
  have HL := Lib.hid h
  have hI := fun (he : s.unE t = 0) => h.inv.un1 he
  rcases s.un_doc t h.inv.ok with ⟨hb, e1, e2, e3⟩ | ⟨ht, g1, e1, e4, e2, e3⟩ | ⟨ht, g1, g2, e1, e4, e2, e3⟩ | ⟨ht, g1, g2, e1, e2, e3⟩
  · rw [e1, e2, e3]
    clear h e1 e2 e3 hI
    rcases hb with h1 | ⟨h1, h2⟩
    all_goals
      go_enter Tryz.func21, Tryz.ntmps21
      go_wp2
      go_ret2
      exact DLetE.nil HL.out (Chg.refl _ _)
  · have hI := hI e1
    rw [e1, e2, e3, e4]
    rw [e4] at hI
    have HP := Lib.hid (h.putWr (-1) hI)
    have b1 : decide (t < 0) = false := by simp; exact ht.1
    have b2 : decide (16 ≤ t) = false := by simp; exact ht.2
    clear h e1 e2 e3 e4 hI ht
    go_enter Tryz.func21, Tryz.ntmps21
    go_wp2_with fail
    refine (dletc rc rr rw _ _ HP.out.1).mono ?_
    rintro e w2 ⟨v, rfl, ho, hL, hC⟩
    have H2 := Lib.hid (And.intro (own_mono ho HP.out.2.size) (And.intro hL ((HP.out.2.mono (S2 := [rc, rr, rw]) (by simp)).trans hC)))
    clear ho hL hC
    go_wp2
    go_ret2
    exact ⟨v, rfl, H2.out.1, H2.out.2.1, H2.out.2.2⟩
  · have hI := hI e1
    rw [e1, e2, e3, e4]
    rw [e4] at hI
    have b1 : decide (t < 0) = false := by simp; exact ht.1
    have b2 : decide (16 ≤ t) = false := by simp; exact ht.2
    obtain ⟨tn, rfl⟩ : ∃ tn : Nat, t = tn := ⟨t.toNat, by have := ht.1; omega⟩
    have htn : tn < 16 := by have := ht.2; omega
    have hcnt : s.cnt tn = cAt s.C tn := by unfold LS.cnt cntC; rw [if_pos (by omega)]; simp
    rw [Int.toNat_natCast, hcnt] at hI ⊢
    rw [hcnt] at g2
    have cc := h.cC htn
    have fc := h.cfr (1 + tn)
    have hbd := h.inv.ok.pos tn
    obtain ⟨n, hn⟩ : ∃ n, n = cAt s.C tn := ⟨_, rfl⟩
    rw [← hn] at hI hbd cc g2 ⊢
    have HP := Lib.hid ((h.calm (Chg.refl [] w).drew).putC htn (n - 1) hI)
    have hwr : IntKind.i64.wrap (n - 1) = n - 1 := IntWalk.i64_in _ (by omega)
    have hi0 : (0 : Int) ≤ (tn : Int) := by omega
    have hi1 : (tn : Int) < 16 := by omega
    clear h e1 e2 e3 e4 hI ht hcnt hn
    go_enter Tryz.func21, Tryz.ntmps21
    go_wp2
    refine region_still_tail 10 (by kernel_rfl) (by kernel_rfl) ?_
    simp only [List.take_succ_cons, List.take_zero, List.drop_succ_cons, List.drop_zero]
    repeat still_step
    refine wpStill_nil ?_
    go_wp2_with fail
    refine (dletc rc rr rw _ _ HP.out.1).mono ?_
    rintro e w2 ⟨v, rfl, ho, hL, hC⟩
    have hC0 : Chg [rc, rr, rw] w _ := ((Chg.refl [] w).drew.mono (by simp)).trans (HP.out.2.mono (S2 := [rc, rr, rw]) (by simp))
    have H2 := Lib.hid (And.intro (own_mono ho hC0.size) (And.intro hL (hC0.trans hC)))
    clear ho hL hC hC0
    go_wp2
    go_ret2
    exact ⟨v, rfl, H2.out.1, H2.out.2.1, H2.out.2.2⟩
  · rw [e1, e2, e3]
    have b1 : decide (t < 0) = false := by simp; exact ht.1
    have b2 : decide (16 ≤ t) = false := by simp; exact ht.2
    obtain ⟨tn, rfl⟩ : ∃ tn : Nat, t = tn := ⟨t.toNat, by have := ht.1; omega⟩
    have htn : tn < 16 := by have := ht.2; omega
    have hcnt : s.cnt tn = cAt s.C tn := by unfold LS.cnt cntC; rw [if_pos (by omega)]; simp
    rw [hcnt] at g2
    have cc := h.cC htn
    generalize cAt s.C tn = n at *
    clear h e1 e2 e3 hI ht hcnt
    go_enter Tryz.func21, Tryz.ntmps21
    go_wp2
    go_ret2
    exact DLetE.nil HL.out (Chg.refl _ _)

theorem askR_no {L : WL} {t p : Int} (hb : ¬ (thB t = true ∧ prB p = true)) (b : Bool) : askR L t p b = 2 := by
  unfold askR
  rw [thB_iff, prB_iff] at hb
  unfold okT okP at hb
  rw [if_pos (by omega)]
theorem lvL_no {L : WL} {t : Int} (h : askR L t 1 true ≠ 0) : lvL L t = L := by unfold lvL; rw [if_neg h]
theorem chgL_no {L : WL} {t p : Int} (h : askR L t p true ≠ 0) : chgL L t p = L := by unfold chgL; rw [if_neg h]
theorem LS.ch_doc (s : LS) (t p : Int) : ((askR s.R t p true != 0) = true ∧ (askR s.W t p true != 0) = true ∧ s.chE t p = askR s.R t p true) ∨ (((askR s.R t p true != 0) = false ∨ ((askR s.R t p true != 0) = true ∧ (askR s.W t p true != 0) = false)) ∧ s.chE t p = 0) := by
  unfold LS.chE
  by_cases hb : thB t = true ∧ prB p = true
  · rw [if_pos hb, askR_of (thB_iff.1 hb.1) (prB_iff.1 hb.2), askR_of (thB_iff.1 hb.1) (prB_iff.1 hb.2)]
    unfold LS.is
    cases hasR s.R t <;> cases hasR s.W t <;> simp
  · rw [if_neg hb, askR_no hb, askR_no hb]
    simp


set_option maxRecDepth 100000 in
set_option maxHeartbeats 4000000 in
theorem dleavec (rc rr rw : Nat) (s : LS) (t : Int) (w : World) (h : DAt w rc rr rw s) :
    Calls Tryz.prog 24 #[.pointer (some ⟨rc, 0, none⟩), .int .i64 t] w (DLetE (s.lvT t) (s.chE t 1) rc rr rw (s.lvS t) w) := by
  have c17 := h.c17
  have c18 := h.c18
  have hR1 := rleavec rr s.R t w.drew (h.calm (Chg.refl [] w).drew).rd (by have := h.inv.r.few; omega)
  have hW1 := fun (W : World) (hW : RAt W rw s.W) => rleavec rw s.W t W hW (by have := h.inv.w.few; omega)
  have hI := h.inv.lv1 t
  have hd := s.ch_doc t 1
  obtain ⟨a, ha⟩ : ∃ a, a = askR s.R t 1 true := ⟨_, rfl⟩
  obtain ⟨b, hb⟩ : ∃ b, b = askR s.W t 1 true := ⟨_, rfl⟩
  rw [← ha] at hR1
  rw [← hb] at hW1
  rw [← ha, ← hb] at hd
  have HE := Lib.hid (show a ≠ 0 ∧ b ≠ 0 → s.lv1 t = s from fun ⟨h1, h2⟩ => by
    unfold LS.lv1
    rw [lvL_no (by rw [← ha]; exact h1), lvL_no (by rw [← hb]; exact h2)])
  have HR1 := Lib.hid hR1
  have HW1 := Lib.hid hW1
  have HI := Lib.hid hI
  have HL := Lib.hid h
  unfold LS.lvT LS.lvS
  have hI2 : LInv { s with R := lvL s.R t } := ⟨h.inv.ok.lists _ _, hI.r, h.inv.w, h.inv.alone, hI.none⟩
  have HI2 := Lib.hid hI2
  clear h ha hb hR1 hW1 hI hI2
  have run : ∀ (Z : Prop), Z → Z := fun _ h => h
  clear run
  rcases hd with ⟨g1, g2, e1⟩ | ⟨hd, e1⟩
  · rw [e1]
    have ha0 : a ≠ 0 := by simpa using g1
    have hb0 : b ≠ 0 := by simpa using g2
    rw [if_neg ha0, if_neg ha0]
    have HE1 := Lib.hid (HE.out ⟨ha0, hb0⟩)
    clear e1 ha0 hb0
    go_enter Tryz.func24, Tryz.ntmps24
    go_wp2
    go_region_held3 (fun w' => w'.cell? ⟨rc, 17, none⟩ = some (.pointer (some ⟨rr, 0, none⟩)) ∧ w'.cell? ⟨rc, 18, none⟩ = some (.pointer (some ⟨rw, 0, none⟩))) (first | exact ⟨c17, c18⟩ | exact ⟨x17, x18⟩ | exact ⟨y17, y18⟩)
      (first
      | (go_at_call 52; (with_reducible refine HR1.out.mono ?_); rintro e w1 ⟨rfl, hR, hC⟩; have H1 := Lib.hid (show DAt w1 rc rr rw { s with R := lvL s.R t } ∧ Chg [rc, rr, rw] w w1 from ⟨(HL.out.calm (Chg.refl [] w).drew).stepR hR hC HI2.out, ((Chg.refl [] w).drew.mono (by simp)).trans (hC.mono (by simp))⟩); clear hR hC; have x17 := H1.out.1.c17; have x18 := H1.out.1.c18)
      | (go_at_call 52; (with_reducible refine (HW1.out w1 H1.out.1.wt).mono ?_); rintro e w2 ⟨rfl, hR, hC⟩; have H2 := Lib.hid (show DAt w2 rc rr rw (s.lv1 t) ∧ Chg [rc, rr, rw] w w2 from ⟨H1.out.1.stepW hR hC HI.out, H1.out.2.trans (hC.mono (by simp))⟩); clear hR hC; have y17 := H2.out.1.c17; have y18 := H2.out.1.c18))
    clear c17 c18 x17 x18 y17 y18
    go_wp2
    go_ret2
    have h2 := H2.out
    rw [HE1.out] at h2
    exact DLetE.nil h2.1 h2.2
  · rw [e1, if_pos rfl, if_pos rfl]
    clear e1
    rcases hd with g1 | ⟨g1, g2⟩
    all_goals
      go_enter Tryz.func24, Tryz.ntmps24
      go_wp2
      go_region_held3 (fun w' => w'.cell? ⟨rc, 17, none⟩ = some (.pointer (some ⟨rr, 0, none⟩)) ∧ w'.cell? ⟨rc, 18, none⟩ = some (.pointer (some ⟨rw, 0, none⟩))) (first | exact ⟨c17, c18⟩ | exact ⟨x17, x18⟩ | exact ⟨y17, y18⟩)
        (first
        | (go_at_call 52; (with_reducible refine HR1.out.mono ?_); rintro e w1 ⟨rfl, hR, hC⟩; have H1 := Lib.hid (show DAt w1 rc rr rw { s with R := lvL s.R t } ∧ Chg [rc, rr, rw] w w1 from ⟨(HL.out.calm (Chg.refl [] w).drew).stepR hR hC HI2.out, ((Chg.refl [] w).drew.mono (by simp)).trans (hC.mono (by simp))⟩); clear hR hC; have x17 := H1.out.1.c17; have x18 := H1.out.1.c18)
        | (go_at_call 52; (with_reducible refine (HW1.out w1 H1.out.1.wt).mono ?_); rintro e w2 ⟨rfl, hR, hC⟩; have H2 := Lib.hid (show DAt w2 rc rr rw (s.lv1 t) ∧ Chg [rc, rr, rw] w w2 from ⟨H1.out.1.stepW hR hC HI.out, H1.out.2.trans (hC.mono (by simp))⟩); clear hR hC; have y17 := H2.out.1.c17; have y18 := H2.out.1.c18))
      clear c17 c18 x17 x18 y17 y18
      go_wp2_with fail
      refine (dletc rc rr rw _ w2 H2.out.1).mono ?_
      rintro e w3 ⟨v, rfl, ho, hL, hC⟩
      have H3 := Lib.hid (And.intro (own_mono ho H2.out.2.size) (And.intro hL (H2.out.2.trans hC)))
      clear ho hL hC
      go_wp2
      go_ret2
      exact ⟨v, rfl, H3.out.1, H3.out.2.1, H3.out.2.2⟩


set_option maxRecDepth 100000 in
set_option maxHeartbeats 4000000 in
theorem dchangec (rc rr rw : Nat) (s : LS) (t p : Int) (w : World) (h : DAt w rc rr rw s) :
    Calls Tryz.prog 26 #[.pointer (some ⟨rc, 0, none⟩), .int .i64 t, .int .i64 p] w (DLetE (s.chT t p) (s.chE t p) rc rr rw (s.chS t p) w) := by
  have c17 := h.c17
  have c18 := h.c18
  have hR1 := rchangec rr s.R t p w.drew (h.calm (Chg.refl [] w).drew).rd (by have := h.inv.r.few; omega)
  have hW1 := fun (W : World) (hW : RAt W rw s.W) => rchangec rw s.W t p W hW (by have := h.inv.w.few; omega)
  have hI := h.inv.ch1 t p
  have hd := s.ch_doc t p
  obtain ⟨a, ha⟩ : ∃ a, a = askR s.R t p true := ⟨_, rfl⟩
  obtain ⟨b, hb⟩ : ∃ b, b = askR s.W t p true := ⟨_, rfl⟩
  rw [← ha] at hR1
  rw [← hb] at hW1
  rw [← ha, ← hb] at hd
  have HE := Lib.hid (show a ≠ 0 ∧ b ≠ 0 → s.ch1 t p = s from fun ⟨h1, h2⟩ => by
    unfold LS.ch1
    rw [chgL_no (by rw [← ha]; exact h1), chgL_no (by rw [← hb]; exact h2)])
  have HR1 := Lib.hid hR1
  have HW1 := Lib.hid hW1
  have HI := Lib.hid hI
  have HL := Lib.hid h
  unfold LS.chT LS.chS
  have hI2 : LInv { s with R := chgL s.R t p } := ⟨h.inv.ok.lists _ _, hI.r, h.inv.w, h.inv.alone, hI.none⟩
  have HI2 := Lib.hid hI2
  clear h ha hb hR1 hW1 hI hI2
  have run : ∀ (Z : Prop), Z → Z := fun _ h => h
  clear run
  rcases hd with ⟨g1, g2, e1⟩ | ⟨hd, e1⟩
  · rw [e1]
    have ha0 : a ≠ 0 := by simpa using g1
    have hb0 : b ≠ 0 := by simpa using g2
    rw [if_neg ha0, if_neg ha0]
    have HE1 := Lib.hid (HE.out ⟨ha0, hb0⟩)
    clear e1 ha0 hb0
    go_enter Tryz.func26, Tryz.ntmps26
    go_wp2
    go_region_held3 (fun w' => w'.cell? ⟨rc, 17, none⟩ = some (.pointer (some ⟨rr, 0, none⟩)) ∧ w'.cell? ⟨rc, 18, none⟩ = some (.pointer (some ⟨rw, 0, none⟩))) (first | exact ⟨c17, c18⟩ | exact ⟨x17, x18⟩ | exact ⟨y17, y18⟩)
      (first
      | (go_at_call 55; (with_reducible refine HR1.out.mono ?_); rintro e w1 ⟨rfl, hR, hC⟩; have H1 := Lib.hid (show DAt w1 rc rr rw { s with R := chgL s.R t p } ∧ Chg [rc, rr, rw] w w1 from ⟨(HL.out.calm (Chg.refl [] w).drew).stepR hR hC HI2.out, ((Chg.refl [] w).drew.mono (by simp)).trans (hC.mono (by simp))⟩); clear hR hC; have x17 := H1.out.1.c17; have x18 := H1.out.1.c18)
      | (go_at_call 55; (with_reducible refine (HW1.out w1 H1.out.1.wt).mono ?_); rintro e w2 ⟨rfl, hR, hC⟩; have H2 := Lib.hid (show DAt w2 rc rr rw (s.ch1 t p) ∧ Chg [rc, rr, rw] w w2 from ⟨H1.out.1.stepW hR hC HI.out, H1.out.2.trans (hC.mono (by simp))⟩); clear hR hC; have y17 := H2.out.1.c17; have y18 := H2.out.1.c18))
    clear c17 c18 x17 x18 y17 y18
    go_wp2
    go_ret2
    have h2 := H2.out
    rw [HE1.out] at h2
    exact DLetE.nil h2.1 h2.2
  · rw [e1, if_pos rfl, if_pos rfl]
    clear e1
    rcases hd with g1 | ⟨g1, g2⟩
    all_goals
      go_enter Tryz.func26, Tryz.ntmps26
      go_wp2
      go_region_held3 (fun w' => w'.cell? ⟨rc, 17, none⟩ = some (.pointer (some ⟨rr, 0, none⟩)) ∧ w'.cell? ⟨rc, 18, none⟩ = some (.pointer (some ⟨rw, 0, none⟩))) (first | exact ⟨c17, c18⟩ | exact ⟨x17, x18⟩ | exact ⟨y17, y18⟩)
        (first
        | (go_at_call 55; (with_reducible refine HR1.out.mono ?_); rintro e w1 ⟨rfl, hR, hC⟩; have H1 := Lib.hid (show DAt w1 rc rr rw { s with R := chgL s.R t p } ∧ Chg [rc, rr, rw] w w1 from ⟨(HL.out.calm (Chg.refl [] w).drew).stepR hR hC HI2.out, ((Chg.refl [] w).drew.mono (by simp)).trans (hC.mono (by simp))⟩); clear hR hC; have x17 := H1.out.1.c17; have x18 := H1.out.1.c18)
        | (go_at_call 55; (with_reducible refine (HW1.out w1 H1.out.1.wt).mono ?_); rintro e w2 ⟨rfl, hR, hC⟩; have H2 := Lib.hid (show DAt w2 rc rr rw (s.ch1 t p) ∧ Chg [rc, rr, rw] w w2 from ⟨H1.out.1.stepW hR hC HI.out, H1.out.2.trans (hC.mono (by simp))⟩); clear hR hC; have y17 := H2.out.1.c17; have y18 := H2.out.1.c18))
      clear c17 c18 x17 x18 y17 y18
      go_wp2_with fail
      refine (dletc rc rr rw _ w2 H2.out.1).mono ?_
      rintro e w3 ⟨v, rfl, ho, hL, hC⟩
      have H3 := Lib.hid (And.intro (own_mono ho H2.out.2.size) (And.intro hL (H2.out.2.trans hC)))
      clear ho hL hC
      go_wp2
      go_ret2
      exact ⟨v, rfl, H3.out.1, H3.out.2.1, H3.out.2.2⟩


end Go.Proofs.YtpdfeinbbjfcaaaGreat
