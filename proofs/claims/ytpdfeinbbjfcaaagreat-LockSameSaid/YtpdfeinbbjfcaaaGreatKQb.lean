
/- metronomeref15: let: contract. -/
import Derived.Test.YtpdfeinbbjfcaaaGreatKQa
import Derived.Deep.CutBlock
namespace Go.Proofs.YtpdfeinbbjfcaaaGreat
open Go.RowKit

def DLetP (l : List Int) (rc rr rw : Nat) (s' : LS) (w : World) (e : Ending) (w' : World) : Prop :=
  ∃ v, e = .returned v ∧ w'.ownsRow w.heap.size 3 1 v l.length (l.map (Value.int .i64)) ∧ DAt w' rc rr rw s' ∧ Chg [rc, rr, rw] w w'

/-- What decides whether a writer is let in. -/
theorem LS.letW_doc {s : LS} (h : LInv s) : (s.held = true ∧ s.letW = false) ∨ (s.held = false ∧ ordL s.W = [] ∧ s.letW = false) ∨ (s.held = false ∧ (∃ y q, ordL s.W = y :: q ∧ y.1 = fT s.W) ∧ ordL s.R = [] ∧ s.letW = true) ∨
    (s.held = false ∧ ∃ y q x r, ordL s.W = y :: q ∧ ordL s.R = x :: r ∧ decide (x.2 ≤ y.2) = s.letW) := by
  rcases fT_ok h.w with ⟨a1, a2, a3⟩ | ⟨y, q, a1, a2, a3, a4, _⟩
  · cases hh : s.held with
    | true => exact .inl ⟨rfl, by unfold LS.letW; simp [hh]⟩
    | false => exact .inr (.inl ⟨rfl, a3, by unfold LS.letW; simp [a1]⟩)
  · have hn : fT s.W ≠ -1 := by rw [a2]; unfold okT at a4; omega
    cases hh : s.held with
    | true => exact .inl ⟨rfl, by unfold LS.letW; simp [hh]⟩
    | false =>
      right; right
      rcases fT_ok h.r with ⟨b1, b2, b3⟩ | ⟨x, r, b1, b2, b3, b4, b5, _⟩
      · left
        have := fP_nonneg h.w
        exact ⟨rfl, ⟨y, q, a1, a2.symm⟩, b3, by unfold LS.letW; rw [b2]; simp [hh, hn, this]⟩
      · right
        exact ⟨rfl, y, q, x, r, a1, b1, by unfold LS.letW; rw [b3, a3, hh, decide_eq_false hn]; simp⟩
theorem LS.letR_doc {s : LS} (h : LInv s) : (decide (s.wr < 0) = false ∧ s.letR = false) ∨ (decide (s.wr < 0) = true ∧ ordL s.R = [] ∧ s.letR = false) ∨ (decide (s.wr < 0) = true ∧ ∃ x r, ordL s.R = x :: r ∧ okT x.1 ∧ okP x.2 ∧ s.mayR x.1 x.2 = s.letR) := by
  have hw := h.ok.wr
  rcases fT_ok h.r with ⟨b1, b2, b3⟩ | ⟨x, r, b1, b2, b3, b4, b5, _⟩
  · by_cases hneg : s.wr < 0
    · exact .inr (.inl ⟨decide_eq_true hneg, b3, by unfold LS.letR; simp [b1]⟩)
    · exact .inl ⟨decide_eq_false hneg, by unfold LS.letR; simp [b1]⟩
  · by_cases hneg : s.wr < 0
    · right; right
      have hn : x.1 ≠ -1 := by unfold okT at b4; omega
      exact ⟨decide_eq_true hneg, x, r, b1, b4, b5, by unfold LS.letR; rw [b2, b3, decide_eq_false hn]; simp⟩
    · refine .inl ⟨decide_eq_false hneg, ?_⟩
      have hn : ¬ s.wr = -1 := by omega
      unfold LS.letR LS.mayR
      simp [hn]

theorem head_of {w : World} {v : Value} {x : Int × Int} {r : WL} (h : IsPairs w v (x :: r)) : ∃ g o m cap, v = .slice (some ⟨g, o, none⟩) m cap ∧ 0 < m ∧ w.cell? ⟨g, o, none⟩ = some (.int .i64 x.1) ∧ w.cell? ⟨g, o + 1, none⟩ = some (.int .i64 x.2) := by
  obtain ⟨g, o, cap, rfl, hg⟩ := h.addr (by simp)
  have y := hg 0 _ rfl
  rw [Nat.zero_mul, Nat.add_zero] at y
  exact ⟨g, o, _, cap, rfl, by simp, y.1, y.2⟩


set_option maxRecDepth 100000 in
set_option maxHeartbeats 16000000 in
theorem dletc (rc rr rw : Nat) (s : LS) (w : World) (h : DAt w rc rr rw s) :
    Calls Tryz.prog 48 #[.pointer (some ⟨rc, 0, none⟩)] w (DLetP s.let_.1 rc rr rw s.let_.2 w) := by
  obtain ⟨i0, hi, hz0, hz1, hz2⟩ := info_parts infoInt
  obtain ⟨K0, hK⟩ : ∃ K0, K0 = s.R.length + s.W.length := ⟨_, rfl⟩
  have hK32 : K0 ≤ 32 := by
    have h1 := h.inv.r.few
    have h2 := h.inv.w.few
    omega
  have HK0 := Lib.hid hK
  have HL0 := Lib.hid h
  clear h hK
  go_enter Tryz.func48, Tryz.ntmps48
  go_wp2
  go_loopw [3] (fun v wr => ∃ (k : Nat) (pre : List Int) (s' : LS), LetK s pre k s' ∧ (∃ a c, v = .slice a pre.length c) ∧ wr.ownsRow w.heap.size 3 1 v pre.length (pre.map (Value.int .i64)) ∧ DAt wr rc rr rw s' ∧ Chg [rc, rr, rw] w wr) (fun v _ => K0 - lenOf v)
  case atStart => exact ⟨_, [], s, LetK.start s, ⟨none, 0, rfl⟩, World.ownsRow_nil .., HL0.out, Chg.refl _ _⟩
  case round =>
    obtain ⟨k, pre, s', hk, ⟨va, vc, rfl⟩, ho, hL, hC⟩ := hrel
    have hB : w.heap.size ≤ wr.heap.size := hC.size
    have hsum : pre.length + k = K0 := by rw [HK0.out]; exact hk.sum
    have HK := Lib.hid hk
    have HO := Lib.hid (And.intro ho (And.intro hL hC))
    have c17 := hL.c17
    have c18 := hL.c18
    have HW1 := Lib.hid (rorderc rr s'.R wr.drew (hL.calm (Chg.refl [] wr).drew).rd (by have := hL.inv.r.few; omega))
    clear ho hL hC hk
    go_wp2
    go_region_held3 (fun w' => w'.cell? ⟨rc, 17, none⟩ = some (.pointer (some ⟨rr, 0, none⟩)) ∧ w'.cell? ⟨rc, 18, none⟩ = some (.pointer (some ⟨rw, 0, none⟩))) (first | exact ⟨c17, c18⟩ | exact ⟨x17, x18⟩ | exact ⟨y17, y18⟩)
      (first
      | (go_at_call 61; (with_reducible refine HW1.out.mono ?_); rintro e w1 ⟨v4, rfl, ho4, hC4⟩; have HG4 := Lib.hid (show ∀ k ∈ v4.ownBlock.toList, wr.heap.size ≤ k from own_ge ho4); have H4 := Lib.hid (And.intro (IsPairs.of_own ho4) (show Chg [] wr w1 from ⟨hC4.os, hC4.tape, hC4.output, hC4.size, hC4.block⟩)); clear ho4 hC4; have x17 := (HO.out.2.1.calm H4.out.2).c17; have x18 := (HO.out.2.1.calm H4.out.2).c18)
      | (go_at_call 61; (with_reducible refine (rorderc rw s'.W w1 (HO.out.2.1.calm H4.out.2).wt (by have := HO.out.2.1.inv.w.few; omega)).mono ?_); rintro e w2 ⟨v5, rfl, ho5, hC5⟩; have H5 := Lib.hid (And.intro (IsPairs.of_own ho5) (And.intro hC5 (H4.out.2.trans hC5))); clear ho5 hC5; have y17 := (HO.out.2.1.calm H5.out.2.2).c17; have y18 := (HO.out.2.1.calm H5.out.2.2).c18))
    clear c17 c18 x17 x18 y17 y18
    have hWd := LS.letW_doc HO.out.2.1.inv
    have hRd := LS.letR_doc HO.out.2.1.inv
    have HR := Lib.hid hRd
    have hH := fun (W : World) (hW : Chg [] wr W) => dheldc rc rr rw s' W (HO.out.2.1.calm hW)
    obtain ⟨bW, hbW⟩ : ∃ b, b = s'.letW := ⟨_, rfl⟩
    rw [← hbW] at hWd
    have HbW := Lib.hid hbW
    have HWd := Lib.hid hWd
    have HH := Lib.hid hH
    clear hRd hbW hWd hH HW1
    go_upto_region 3 with fail
    go_cut [39] from 6 to 114 (fun b wc => b = .bool bW ∧ Chg [] w2 wc)
    case first => as_aux_lemma =>
      have hW := fun n : Nat => HH.out (w2.drewN n) (H5.out.2.2.drewN n)
      have hp4 := H4.out.1
      have hp5 := H5.out.1
      rcases HWd.out with ⟨e1, rfl⟩ | ⟨e1, e2, rfl⟩ | ⟨e1, ⟨y, q, e2, -⟩, e3, rfl⟩ | ⟨e1, y, q, x, r, e2, e3, e4⟩
      · rw [e1] at hW
        have HQ := Lib.hid hW
        clear hW hp4 hp5 e1
        go_wp2
        go_quiet ((go_at_call 30; exact Calls.quiet_of_same ((HQ.out _).mono fun _ _ ⟨a, b⟩ => ⟨a, b.symm⟩)))
        go_wp2
        go_meet
        case rel => exact ⟨rfl, (Chg.refl _ _).drewN _⟩
      · rw [e1] at hW
        rw [e2] at hp5
        obtain ⟨a5, c5, rfl⟩ := hp5.slice
        have HQ := Lib.hid hW
        clear hW hp4 hp5 e1 e2
        rw [List.length_nil]
        go_wp2
        go_quiet ((go_at_call 30; exact Calls.quiet_of_same ((HQ.out _).mono fun _ _ ⟨a, b⟩ => ⟨a, b.symm⟩)))
        go_wp2
        go_meet
        case rel => exact ⟨rfl, (Chg.refl _ _).drewN _⟩
      · rw [e1] at hW
        rw [e2] at hp5
        rw [e3] at hp4
        obtain ⟨a4, c4, rfl⟩ := hp4.slice
        obtain ⟨g, o, m, cap, rfl, hm, y1, y2⟩ := head_of hp5
        have hm' : (0 : Int) < (m : Int) := by omega
        have HQ := Lib.hid hW
        clear hW hp4 hp5 e1 e2 e3
        rw [List.length_nil]
        go_wp2
        go_quiet ((go_at_call 30; exact Calls.quiet_of_same ((HQ.out _).mono fun _ _ ⟨a, b⟩ => ⟨a, b.symm⟩)))
        go_wp2
        go_meet
        case rel => exact ⟨rfl, (Chg.refl _ _).drewN _⟩
      · rw [e1] at hW
        rw [e2] at hp5
        rw [e3] at hp4
        obtain ⟨g4, o4, m4, cap4, rfl, hm4, x1, x2⟩ := head_of hp4
        obtain ⟨g, o, m, cap, rfl, hm, y1, y2⟩ := head_of hp5
        have x2' := cell_kept' x2 H5.out.2.1 (by simp)
        have hm' : (0 : Int) < (m : Int) := by omega
        have q4 : ((m4 : Int) == 0) = false := by simp; omega
        have HQ := Lib.hid hW
        clear hW hp4 hp5 e1 e2 e3 x1 x2
        go_wp2
        go_quiet ((go_at_call 30; exact Calls.quiet_of_same ((HQ.out _).mono fun _ _ ⟨a, b⟩ => ⟨a, b.symm⟩)))
        go_wp2
        go_meet
        case rel => exact ⟨rfl, (Chg.refl _ _).drewN _⟩
    case rest => as_aux_lemma =>
      obtain ⟨rfl, hC⟩ := hcut
      have H6 := Lib.hid (And.intro hC (H5.out.2.2.trans hC))
      clear hC
      cases bW with
      | true =>
        have hl := HbW.out.symm
        obtain ⟨hn, hh, -⟩ := LS.letW_yes hl
        obtain ⟨ht, -⟩ := fT_mem HO.out.2.1.inv.w hn
        have hp5 := H5.out.1
        have ho5 : ∃ q, ordL s'.W = (fT s'.W, fP s'.W) :: q := by
          rcases fT_ok HO.out.2.1.inv.w with ⟨h1, _⟩ | ⟨x, r, h0, h1, h2, _⟩
          · exact absurd h1 hn
          · exact ⟨r, by rw [h0, h1, h2]⟩
        obtain ⟨q, e2⟩ := ho5
        rw [e2] at hp5
        obtain ⟨g, o, m, cap, rfl, hm, y1, -⟩ := head_of hp5
        have y1 := cell_kept' y1 H6.out.1 (by simp)
        have hd := HO.out.2.1.calm H6.out.2
        have hI := HO.out.2.1.inv.inW hl
        obtain ⟨k', hkk, hK'⟩ := HK.out.w HO.out.2.1.inv hl
        have hlv := lvL_take HO.out.2.1.inv.w hn
        have c0 := hd.c0
        have f0 := hd.cfr 0
        obtain ⟨tw, htw⟩ : ∃ x, x = fT s'.W := ⟨_, rfl⟩
        have hI2 : LInv { s' with wr := tw } := by rw [htw]; exact ⟨⟨hI.ok.len, hI.ok.pos, hI.ok.wr⟩, HO.out.2.1.inv.r, HO.out.2.1.inv.w, hI.alone, hI.none⟩
        rw [← htw] at y1 hK' hlv
        have HP := Lib.hid (hd.putWr tw hI2)
        have HI := Lib.hid (show LInv ({ s' with wr := tw, W := takeL s'.W }) from by rw [htw]; exact hI)
        have hin : s'.inW = { s' with wr := tw, W := takeL s'.W } := by unfold LS.inW; rw [htw]
        rw [hin] at hK'
        have HK' := Lib.hid (And.intro hK' hlv)
        clear hl hn hh ht hp5 e2 hd hI hI2 hK' hlv htw hin
        go_wp2
        have z0 := HP.out.1.c0
        have z18 := HP.out.1.c18
        simp only at z0
        refine region_still_tail 8 (by kernel_rfl) (by kernel_rfl) ?_
        simp only [List.take_succ_cons, List.take_zero, List.drop_succ_cons, List.drop_zero]
        repeat still_step
        refine wpStill_nil ?_
        go_wp2_with fail
        refine (rleavec rw s'.W tw _ (HP.out.1.calm (Chg.refl [] _).drew).wt (by have := HO.out.2.1.inv.w.few; omega)).mono ?_
        rintro e w7 ⟨rfl, hR, hC⟩
        have H7 := Lib.hid (show DAt w7 rc rr rw { s' with wr := tw, W := takeL s'.W } ∧ Chg [rc, rr, rw] wr w7 from by
          rw [HK'.out.2.1] at hR
          exact ⟨(HP.out.1.calm (Chg.refl [] _).drew).stepW hR hC HI.out, ((H6.out.2.mono (by simp)).trans (HP.out.2.drew.mono (S2 := [rc, rr, rw]) (by simp))).trans (hC.mono (by simp))⟩)
        clear hR hC z0 z18
        generalize askR s'.W tw 1 true = ra
        have c0' := H7.out.1.c0
        simp only at c0'
        have ho6 := own_kept HO.out.1 H7.out.2 (fun j hj => own_notin HO.out.1 (HL0.out.lt j hj))
        have hB6 : w.heap.size ≤ w7.heap.size := Nat.le_trans hB H7.out.2.size
        have HO6 := Lib.hid ho6
        have hd1 : pre.length + 1 ≤ maxLen := by unfold maxLen; omega
        have hd2 : (pre.length + 1) * 8 ≤ 140737488355328 := by omega
        clear ho6
        go_wp2_with (at_builtin; refine wpList_push rfl _ _ 56 rfl w.heap.size 3 i0 (.int .i64 0) 1 8 Tryz.underlying56 hi hz0 hz1 hz2 rfl (by decide) (.slice va pre.length vc) pre.length _ rfl HO6.out [.int .i64 tw] rfl rfl (by simp [Value.oneCell']) hd1 hd2 hB6 ?_; intro v2 w8 ho2 hC2 hloc hnn; obtain ⟨va2, vc2, rfl⟩ := own_slice ho2)
        have H8 := Lib.hid (show w8.ownsRow w.heap.size 3 1 (.slice va2 (pre.length + 1) vc2) (pre ++ [tw]).length ((pre ++ [tw]).map (Value.int .i64)) ∧ DAt w8 rc rr rw { s' with wr := tw, W := takeL s'.W } ∧ Chg [rc, rr, rw] w w8 from by
          refine ⟨by simpa using ho2, H7.out.1.kept hC2 (fun j hj => ⟨fun hm => ?_, ?_⟩), ((HO.out.2.2.trans H7.out.2).trans' hC2 (fun j hj => .inr (own_ge HO6.out j hj)))⟩
          · have := own_ge HO6.out j hj
            have := HL0.out.lt j hm
            omega
          · obtain ⟨cs, hcs⟩ := own_cells HO6.out j hj
            exact NotW.of hcs (fun cs fr e => by cases e))
        clear ho2 hC2 hloc hnn
        go_wp2
        go_roundw
        case rel => exact ⟨k', pre ++ [tw], _, HK'.out.1, ⟨va2, vc2, by simp⟩, H8.out.1, H8.out.2.1, H8.out.2.2⟩
        case measure => simp [lenOf]; omega
      | false =>
        have c0 := (HO.out.2.1.calm H6.out.2).c0
        obtain ⟨bR, hbR⟩ : ∃ b, b = s'.letR := ⟨_, rfl⟩
        have hR := HR.out
        rw [← hbR] at hR
        have HbR := Lib.hid hbR
        have HRd := Lib.hid hR
        clear hbR hR
        go_upto_region 7 with fail
        go_cut [84] from 6 to 114 (fun b wd => b = .bool bR ∧ Chg [] wc wd)
        case first => as_aux_lemma =>
          rcases HRd.out with ⟨e1, rfl⟩ | ⟨e1, e2, rfl⟩ | ⟨e1, x, r, e2, ht, hp, e3⟩
          · go_wp2
            go_quiet (fail)
            go_wp2
            go_meet
            case rel => exact ⟨rfl, (Chg.refl _ _).drewN _⟩
          · have hp4 := H4.out.1
            rw [e2] at hp4
            obtain ⟨a4, c4, rfl⟩ := hp4.slice
            clear hp4 e2
            rw [List.length_nil]
            go_wp2
            go_quiet (fail)
            go_wp2
            go_meet
            case rel => exact ⟨rfl, (Chg.refl _ _).drewN _⟩
          · have hp4 := H4.out.1
            rw [e2] at hp4
            obtain ⟨g, o, m, cap, rfl, hm, x1, x2⟩ := head_of hp4
            have x1 := cell_kept' x1 (H5.out.2.1.trans H6.out.1) (by simp)
            have x2 := cell_kept' x2 (H5.out.2.1.trans H6.out.1) (by simp)
            have hm' : (0 : Int) < (m : Int) := by omega
            have HM := Lib.hid (dmayc rc rr rw s' x.1 x.2 wc.drew (HO.out.2.1.calm H6.out.2.drew) ht hp.1)
            rw [e3] at HM
            obtain ⟨x1v, x2v⟩ := x
            simp only at x1 x2 HM
            clear hp4 e2 e3 ht hp
            go_wp2
            refine region_still_tail 20 (by kernel_rfl) (by kernel_rfl) ?_
            simp only [List.take_succ_cons, List.take_zero, List.drop_succ_cons, List.drop_zero]
            repeat still_step
            refine wpStill_nil ?_
            go_wp2_with fail
            refine HM.out.mono ?_
            rintro e wd ⟨rfl, hC⟩
            have HCd := Lib.hid ((Chg.refl [] wc).drew.trans hC)
            clear hC
            go_wp2
            go_meet
            case rel => exact ⟨rfl, HCd.out⟩
        case rest => as_aux_lemma =>
          obtain ⟨rfl, hC⟩ := hcut
          have H7 := Lib.hid (And.intro hC (H6.out.2.trans hC))
          clear hC c0
          cases bR with
          | true =>
            have hl := HbR.out.symm
            obtain ⟨hn, hwr, -⟩ := LS.letR_yes hl
            obtain ⟨ht, pm, hmem⟩ := fT_mem HO.out.2.1.inv.r hn
            have hp4 := H4.out.1
            have ho4 : ∃ q, ordL s'.R = (fT s'.R, fP s'.R) :: q := by
              rcases fT_ok HO.out.2.1.inv.r with ⟨h1, _⟩ | ⟨x, r, h0, h1, h2, _⟩
              · exact absurd h1 hn
              · exact ⟨r, by rw [h0, h1, h2]⟩
            obtain ⟨q, e2⟩ := ho4
            rw [e2] at hp4
            obtain ⟨g, o, m, cap, rfl, hm, y1, -⟩ := head_of hp4
            have y1 := cell_kept' y1 ((H5.out.2.1.trans H6.out.1).trans H7.out.1) (by simp)
            have hd := HO.out.2.1.calm H7.out.2
            have hI := HO.out.2.1.inv.inR hl
            obtain ⟨k', hkk, hK'⟩ := HK.out.r HO.out.2.1.inv HbW.out.symm hl
            have hlv := lvL_take HO.out.2.1.inv.r hn
            have hc0 : s'.cnt (fT s'.R) = 0 := HO.out.2.1.inv.none _ hmem
            obtain ⟨tn, htn⟩ : ∃ tn : Nat, fT s'.R = (tn : Int) := ⟨(fT s'.R).toNat, by have := ht.1; omega⟩
            rw [htn] at y1 hK' hlv hc0 ht
            have hin : s'.inR = { s' with R := takeL s'.R, C := s'.C.set tn (s'.cnt tn + 1) } := by unfold LS.inR; rw [htn]; rfl
            rw [hin, hc0] at hI hK'
            have htn16 : tn < 16 := by have := ht.2; omega
            have hc1 : cAt s'.C tn = 0 := by rw [← hc0]; unfold LS.cnt cntC; rw [if_pos (by omega)]; simp
            have cc := hd.cC htn16
            rw [hc1] at cc
            have f1 := hd.cfr (1 + tn)
            have hgg : wr.heap.size ≤ g := HG4.out g (by simp [Value.ownBlock])
            have hrcl := HO.out.2.1.lt rc (by simp)
            have hrrl := HO.out.2.1.lt rr (by simp)
            obtain ⟨W7, hW7e⟩ : ∃ W7, W7 = (wc.setCell ⟨rc, 1 + tn, none⟩ (.int .i64 1)).drew := ⟨_, rfl⟩
            have hC1 : Chg [rc] wc W7 := by rw [hW7e]; exact ((Chg.refl [rc] wc).setCell _ _ (by simp)).drew
            have hb7 : W7.heap[rc]? = some (.cells (dcells rr rw { s' with C := s'.C.set tn 1 }) 49 (0, 0)) := by
              rw [hW7e, ← dcells_set hd.inv.ok.len htn16]
              exact blk_setCell hd.head _
            have hR7 := hd.rd.kept hC1 (fun k hk => by simp at hk; subst hk; exact ⟨hd.nc.1, hd.nc.2.2⟩)
            have hW7 := hd.wt.kept hC1 (fun k hk => by simp at hk; subst hk; exact ⟨hd.nc.2.1, hd.nc.2.2⟩)
            have z17 : W7.cell? ⟨rc, 17, none⟩ = some (.pointer (some ⟨rr, 0, none⟩)) := by
              refine cellB hb7 ?_
              have hl := hd.inv.ok.len
              unfold dcells
              rw [List.getElem?_toArray, List.getElem?_cons_succ, List.getElem?_append_right (by rw [List.length_map]; simp; omega), List.length_map, List.length_set, hl]
              rfl
            have zy := cell_kept' y1 hC1 (by simp; omega)
            have HP := Lib.hid (And.intro hb7 (And.intro hR7 (And.intro hW7 (And.intro hd.nc (And.intro hC1 (And.intro hd.ne (And.intro hR7.notW hI)))))))
            have HK' := Lib.hid (And.intro hK' (And.intro hlv.1 (And.intro hgg (And.intro hrcl (And.intro hrrl zy)))))
            have HWE := Lib.hid hW7e
            have hi0 : (0 : Int) ≤ (tn : Int) := by omega
            have hi1 : (tn : Int) < 16 := by omega
            have Z17 := Lib.hid z17
            have ZY := Lib.hid zy
            clear hl hn hwr ht hmem hp4 e2 hd hI hlv hc0 htn hin hc1 hK' hC1 hb7 hR7 hW7 hgg hrcl hrrl z17 zy hW7e
            go_wp2
            refine region_still_tail 13 (by kernel_rfl) (by kernel_rfl) ?_
            simp only [List.take_succ_cons, List.take_zero, List.drop_succ_cons, List.drop_zero]
            repeat still_step
            refine wpStill_nil ?_
            go_wp2
            rw [← HWE.out]
            have z17 := Z17.out
            have zy := ZY.out
            refine region_still_tail 8 (by kernel_rfl) (by kernel_rfl) ?_
            simp only [List.take_succ_cons, List.take_zero, List.drop_succ_cons, List.drop_zero]
            repeat still_step
            refine wpStill_nil ?_
            go_wp2_with fail
            refine (rleavec rr s'.R tn _ (HP.out.2.1.calm (Chg.refl [] _).drew) (by have := HO.out.2.1.inv.r.few; omega)).mono ?_
            rintro e w8 ⟨rfl, hR, hC⟩
            have hgw := cell_kept' (cell_kept' zy (Chg.refl [] W7).drew (by simp)) hC (by have := HK'.out.2.2.1; have := HK'.out.2.2.2.2.1; simp; omega)
            have H8 := Lib.hid (show DAt w8 rc rr rw { s' with R := takeL s'.R, C := s'.C.set tn (0 + 1) } ∧ Chg [rc, rr, rw] wr w8 from by
              rw [HK'.out.2.1] at hR
              obtain ⟨p1, p2, p3, p4, p5, p6, p7, p8⟩ := HP.out
              refine ⟨⟨hC.blk p1 (by simp; exact p4.1), hR, (p3.calm (Chg.refl [] _).drew).kept hC (fun k hk => by simp at hk; subst hk; exact ⟨p6, (p2.calm (Chg.refl [] _).drew).notW⟩), p8, p6⟩, ((((H7.out.2.mono (by simp)).trans (p5.mono (S2 := [rc, rr, rw]) (by simp))).drew).trans (hC.mono (by simp)))⟩)
            clear hR hC
            generalize askR s'.R tn 1 true = ra
            have ho6 := own_kept HO.out.1 H8.out.2 (fun j hj => own_notin HO.out.1 (HL0.out.lt j hj))
            have hB6 : w.heap.size ≤ w8.heap.size := Nat.le_trans hB H8.out.2.size
            have HO6 := Lib.hid ho6
            have hd1 : pre.length + 1 ≤ maxLen := by unfold maxLen; omega
            have hd2 : (pre.length + 1) * 8 ≤ 140737488355328 := by omega
            clear ho6
            go_wp2_with (at_builtin; refine wpList_push rfl _ _ 56 rfl w.heap.size 3 i0 (.int .i64 0) 1 8 Tryz.underlying56 hi hz0 hz1 hz2 rfl (by decide) (.slice va pre.length vc) pre.length _ rfl HO6.out [.int .i64 tn] rfl rfl (by simp [Value.oneCell']) hd1 hd2 hB6 ?_; intro v2 w9 ho2 hC2 hloc hnn; obtain ⟨va2, vc2, rfl⟩ := own_slice ho2)
            have H9 := Lib.hid (show w9.ownsRow w.heap.size 3 1 (.slice va2 (pre.length + 1) vc2) (pre ++ [(tn : Int)]).length ((pre ++ [(tn : Int)]).map (Value.int .i64)) ∧ DAt w9 rc rr rw { s' with R := takeL s'.R, C := s'.C.set tn (0 + 1) } ∧ Chg [rc, rr, rw] w w9 from by
              refine ⟨by simpa using ho2, H8.out.1.kept hC2 (fun j hj => ⟨fun hm => ?_, ?_⟩), ((HO.out.2.2.trans H8.out.2).trans' hC2 (fun j hj => .inr (own_ge HO6.out j hj)))⟩
              · have := own_ge HO6.out j hj
                have := HL0.out.lt j hm
                omega
              · obtain ⟨cs, hcs⟩ := own_cells HO6.out j hj
                exact NotW.of hcs (fun cs fr e => by cases e))
            clear ho2 hC2 hloc hnn
            go_wp2
            go_roundw
            case rel => exact ⟨k', pre ++ [(tn : Int)], _, HK'.out.1, ⟨va2, vc2, by simp⟩, H9.out.1, H9.out.2.1, H9.out.2.2⟩
            case measure => simp [lenOf]; omega
          | false =>
            go_wp2
            go_ret
            have hd := HK.out.done HbW.out.symm HbR.out.symm
            rw [hd]
            exact ⟨_, rfl, own_kept HO.out.1 H7.out.2 (by simp), HO.out.2.1.calm H7.out.2, HO.out.2.2.trans (H7.out.2.mono (by simp))⟩

end Go.Proofs.YtpdfeinbbjfcaaaGreat
