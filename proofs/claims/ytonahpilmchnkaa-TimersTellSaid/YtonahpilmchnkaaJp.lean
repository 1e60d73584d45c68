
/- TimersTell: the walk. -/
import Derived.Test.YtonahpilmchnkaaJn
import Derived.Test.YtonahpilmchnkaaJo
import Derived.Test.YtonahpilmchnkaaBools
import Derived.Deep.CutRange
namespace Go.Proofs.Ytonahpilmchnkaa
open Go.RowKit

theorem isDue_ways (at_ iv k : Int) : ((k == at_) = true ∧ decide (isDue at_ iv k) = true) ∨ ((k == at_) = false ∧ decide (0 < iv) = false ∧ decide (isDue at_ iv k) = false) ∨
    ((k == at_) = false ∧ decide (0 < iv) = true ∧ decide (at_ < k) = false ∧ decide (isDue at_ iv k) = false) ∨
    ((k == at_) = false ∧ decide (0 < iv) = true ∧ decide (at_ < k) = true ∧ (Int.tmod (k - at_) iv == 0) = true ∧ decide (isDue at_ iv k) = true) ∨
    ((k == at_) = false ∧ decide (0 < iv) = true ∧ decide (at_ < k) = true ∧ (Int.tmod (k - at_) iv == 0) = false ∧ decide (isDue at_ iv k) = false) := by
  by_cases h1 : k = at_
  · exact .inl ⟨by simpa using h1, decide_eq_true (.inl h1)⟩
  · have e1 : (k == at_) = false := by simpa using h1
    by_cases h2 : 0 < iv
    · by_cases h3 : at_ < k
      · have hq : Int.tmod (k - at_) iv = (k - at_) % iv := Int.tmod_eq_emod_of_nonneg (by omega)
        by_cases h4 : (k - at_) % iv = 0
        · exact .inr (.inr (.inr (.inl ⟨e1, decide_eq_true h2, decide_eq_true h3, by rw [hq]; simpa using h4, decide_eq_true (.inr ⟨h2, h3, h4⟩)⟩)))
        · exact .inr (.inr (.inr (.inr ⟨e1, decide_eq_true h2, decide_eq_true h3, by rw [hq]; simpa using h4, decide_eq_false (fun h => h.elim h1 (fun g => h4 g.2.2))⟩)))
      · exact .inr (.inr (.inl ⟨e1, decide_eq_true h2, decide_eq_false h3, decide_eq_false (fun h => h.elim h1 (fun g => h3 g.2.1))⟩))
    · exact .inr (.inl ⟨e1, decide_eq_false h2, decide_eq_false (fun h => h.elim h1 (fun g => h2 g.1))⟩)

theorem tell_ways {at_ iv now : Int} {s : TS} {due told : Int} {out B : Bool} (h : TellI at_ iv now s due told out) (hB : B = decide (isDue at_ iv now)) (hv : 0 ≤ iv) (hv1 : iv ≤ 1073741824) (hnow : 0 ≤ now) (hnow1 : now < 1000) :
    (B = false ∧ out = false ∧ TellI at_ iv (now + 1) (s.dueS 1 now) due told false ∧ s.dueL 1 now = []) ∨ (B = false ∧ out = true ∧ TellI at_ iv (now + 1) (s.dueS 1 now) due told true ∧ s.dueL 1 now = []) ∨
    (B = true ∧ out = false ∧ TellI at_ iv (now + 1) (s.dueS 1 now) (due + 1) told true ∧ s.dueL 1 now = [0]) ∨ (B = true ∧ out = true ∧ TellI at_ iv (now + 1) (s.dueS 1 now) (due + 1) told true ∧ s.dueL 1 now = []) := by
  obtain ⟨h1, h2⟩ := tell_due h hv hv1 hnow hnow1
  subst hB
  by_cases hd : isDue at_ iv now <;> cases out <;> simp [hd] at h1 h2 ⊢ <;> exact ⟨h1, h2⟩
theorem tell_bounds {at_ iv now : Int} {s : TS} {due told : Int} {out : Bool} (h : TellI at_ iv now s due told out) : 0 ≤ told ∧ told ≤ due ∧ due ≤ now := by
  obtain ⟨e, he, ho, hE, hd, hz, hc, ht, hdn⟩ := h.ent
  have := (h.inv.num 0 e he).1
  refine ⟨ht, ?_, hdn⟩
  rw [hd]
  split <;> omega
/-- What At answers. -/
theorem tell_at {at_ iv now : Int} {s : TS} {due told : Int} {out : Bool} (h : TellI at_ iv (now + 1) s due told out) :
    ∃ e : TE, s.atV 0 = .tuple #[e.val, .bool true] ∧ e.out = out ∧ ((decide (now < at_) = true ∧ e.armed = true) ∨ (decide (now < at_) = false ∧ decide (0 < iv) = true ∧ e.armed = true) ∨ (decide (now < at_) = false ∧ decide (0 < iv) = false ∧ e.armed = false)) := by
  obtain ⟨e, he, ho, hE, _⟩ := h.ent
  have hin : inT s 0 := ⟨Int.le_refl _, by rw [h.n]; decide⟩
  refine ⟨e, ?_, ho, ?_⟩
  · unfold TS.atV
    rw [if_pos hin, show (0 : Int).toNat = 0 from rfl, he]
  · rw [hE.on]
    by_cases h1 : now < at_
    · exact .inl ⟨decide_eq_true h1, decide_eq_true (.inl (by omega))⟩
    · by_cases h2 : 0 < iv
      · exact .inr (.inl ⟨decide_eq_false h1, decide_eq_true h2, decide_eq_true (.inr h2)⟩)
      · exact .inr (.inr ⟨decide_eq_false h1, decide_eq_false h2, decide_eq_false (by omega)⟩)

set_option maxRecDepth 100000 in
set_option maxHeartbeats 8000000 in
theorem timersTell_any (at_ iv : Int) (v2 : Value) (R : List Bool) (w : World) (h0 : IsBools w v2 R) :
    Calls Try.prog 3 #[.int .i64 at_, .int .i64 iv, v2] w fun e w' => e = .returned (.bool true) ∧ Chg [] w w' := by
  obtain ⟨a0, cap0, rfl⟩ : ∃ a cap, v2 = .slice a R.length cap := by
    rcases h0 with ⟨rfl, a, cap, rfl⟩ | ⟨b, o, cap, rfl, _⟩
    · exact ⟨a, cap, rfl⟩
    · exact ⟨_, cap, rfl⟩
  obtain ⟨N, hN⟩ : ∃ N, N = R.length := ⟨_, rfl⟩
  rw [← hN] at h0 ⊢
  have H0 := Lib.hid (And.intro h0 hN)
  clear h0 hN
  have hways : decide (at_ < 0) = true ∨ (decide (at_ < 0) = false ∧ decide (1073741824 < at_) = true) ∨ (decide (at_ < 0) = false ∧ decide (1073741824 < at_) = false ∧ decide (iv < 0) = true) ∨
      (decide (at_ < 0) = false ∧ decide (1073741824 < at_) = false ∧ decide (iv < 0) = false ∧ decide (1073741824 < iv) = true) ∨
      (decide (at_ < 0) = false ∧ decide (1073741824 < at_) = false ∧ decide (iv < 0) = false ∧ decide (1073741824 < iv) = false ∧ decide ((1000 : Int) < (N : Int)) = true) ∨
      (decide (at_ < 0) = false ∧ decide (1073741824 < at_) = false ∧ decide (iv < 0) = false ∧ decide (1073741824 < iv) = false ∧ decide ((1000 : Int) < (N : Int)) = false) := by
    simp only [decide_eq_true_eq, decide_eq_false_iff_not]
    omega
  rcases hways with d1 | ⟨d1, d2⟩ | ⟨d1, d2, d3⟩ | ⟨d1, d2, d3, d4⟩ | ⟨d1, d2, d3, d4, d5⟩ | ⟨d1, d2, d3, d4, d5⟩
  iterate 5
    · go_enter Try.func3, Try.ntmps3
      go_wp2_with fail
      refine (knownc w).mono ?_
      rintro e w' ⟨rfl, hC⟩
      have HC := Lib.hid hC
      clear hC
      go_wp2
      go_ret
      exact ⟨rfl, HC.out⟩
  · have hN1 : N ≤ 1000 := by simp at d5; omega
    have ha : 0 ≤ at_ ∧ at_ ≤ 1073741824 := by simp at d1 d2; omega
    have hv : 0 ≤ iv ∧ iv ≤ 1073741824 := by simp at d3 d4; omega
    have HT := Lib.hid (tell_start ha.1 ha.2 hv.1 hv.2)
    go_enter Try.func3, Try.ntmps3
    go_wp2_with fail
    refine (pnewc 1 w (by decide)).mono ?_
    rintro e w0 hN0
    obtain ⟨b, bs, rfl, h0⟩ := KT.new (by decide) hN0
    have HK0 := Lib.hid (show KT w b bs (fun _ => vs0) (ts0 1) w0 from h0)
    clear hN0 h0
    go_wp2_with fail
    refine (parmc b bs _ (ts0 1) 0 1 at_ iv w0 HK0.out.at_ (fun i e he ha => (HK0.out.inv.on i e he ha).2.1) (cc3 HK0.out.cnt)).mono ?_
    rintro e w1 ⟨rfl, hN1'⟩
    obtain ⟨vs1, hk1⟩ := HK0.out.next HT.out.inv (fun k hk => Int.lt_of_le_of_lt (HT.out.cnt k hk) (by decide)) hN1'
    have HK1 := Lib.hid hk1
    clear hN1' hk1
    rw [show TS.armE (ts0 1) 0 1 at_ iv = 0 from if_pos ⟨⟨Int.le_refl _, by decide⟩, .inr rfl, ⟨ha.1, by omega⟩, ⟨hv.1, by omega⟩⟩]
    go_wp2_with fail
    go_loopw [9, 10, 11, 12] (fun d t o n wr => ∃ (k : Nat) (due told : Int) (out : Bool), k ≤ N ∧ n = .int .i64 k ∧ d = .int .i64 due ∧ t = .int .i64 told ∧ o = .bool out ∧ ∃ vs s, KT w b bs vs s wr ∧ TellI at_ iv k s due told out) (fun _ _ _ n _ => N - (intOf n).toNat)
    case atStart => exact ⟨0, 0, 0, false, by omega, rfl, rfl, rfl, rfl, vs1, _, HK1.out, HT.out⟩
    case round =>
      obtain ⟨k, due, told, out, hk, rfl, rfl, rfl, rfl, vs, s, hK, hI⟩ := hrel
      by_cases hlt : k < N
      · have hB := isDue_ways at_ iv k
        obtain ⟨B, hBe⟩ : ∃ B, B = decide (isDue at_ iv k) := ⟨_, rfl⟩
        rw [← hBe] at hB
        have HK := Lib.hid (And.intro hK (And.intro hI hBe))
        clear hK hI hBe
        go_upto_region 10 with fail
        go_cut [13] from 52 to 143 (fun x wx => x = .bool B ∧ wx = wr)
        case first =>
          have hN2 : (k : Int) ≤ 1000 := by omega
          have hz0 : (0 : Int) ≤ (k : Int) := by omega
          rcases hB with ⟨e1, hb⟩ | ⟨e1, e2, hb⟩ | ⟨e1, e2, e3, hb⟩ | ⟨e1, e2, e3, e4, hb⟩ | ⟨e1, e2, e3, e4, hb⟩
          iterate 3
            · go_wp2_with fail
              go_meet
              case rel => exact ⟨by rw [hb], rfl⟩
          iterate 2
            · have ez : (iv == 0) = false := by simp at e2 ⊢; omega
              have ez2 : ¬ iv = 0 := by simp at e2; omega
              go_wp2_with fail
              go_meet
              case rel => exact ⟨by rw [hb], rfl⟩
        case rest =>
          obtain ⟨rfl, rfl⟩ := hcut
          clear hB
          obtain ⟨tk, htk⟩ : ∃ tk, R[k]? = some tk := ⟨_, List.getElem?_eq_getElem (by have := H0.out.2; omega)⟩
          obtain ⟨g, o, cp, hg, hd⟩ : ∃ b o cap, Value.slice a0 N cap0 = .slice (some ⟨b, o, none⟩) N cap ∧ ∀ j x, R[j]? = some x → w.cell? ⟨b, o + j, none⟩ = some (.bool x) := by
            rcases H0.out.1 with ⟨e, _⟩ | ⟨b, o, cap, h1, h2⟩
            · rw [e] at htk; simp at htk
            · exact ⟨b, o, cap, by rw [h1, ← H0.out.2], h2⟩
          cases hg
          have hcell := hd k tk htk
          have hbd := tell_bounds HK.out.2.1
          have hz0 : (0 : Int) ≤ (k : Int) := by omega
          have hk1 : (k : Int) < 1000 := by omega
          have HD := Lib.hid (And.intro hcell htk)
          have HP := Lib.hid (pduec b bs vs s 1 k wc HK.out.1.at_ HK.out.1.inv HK.out.1.cnt)
          clear hcell htk hd
          go_wp2_with fail
          refine HP.out.mono ?_
          rintro e w2 hN
          rcases tell_ways HK.out.2.1 HK.out.2.2 hv.1 hv.2 hz0 hk1 with ⟨rfl, rfl, hI2, hL⟩ | ⟨rfl, rfl, hI2, hL⟩ | ⟨rfl, rfl, hI2, hL⟩ | ⟨rfl, rfl, hI2, hL⟩
          · obtain ⟨a2, cap2, vs2, rfl, _, hk2⟩ := HK.out.1.due hI2.inv (fun q hq => Int.lt_of_le_of_lt (hI2.cnt q hq) (by omega)) hN
            rw [hL]
            obtain ⟨e2, hav, heo, hways⟩ := tell_at hI2
            have hbd2 := tell_bounds hI2
            have HI2 := Lib.hid hI2
            have H2 := Lib.hid hk2
            have HA := Lib.hid (patc b bs vs2 _ 0 w2 hk2.at_)
            clear hk2 hN hI2 hL
            go_wp2_with fail
            refine HA.out.mono ?_
            rintro e3 w3 ⟨rfl, hC3⟩
            have H3 := Lib.hid (H2.out.calm hC3)
            clear hC3
            rw [hav]
            unfold TE.val TE.cells
            rw [heo]
            go_upto_region 18 with fail
            go_cut [122] from 52 to 143 (fun x wx => x = .bool false ∧ KT w b bs vs2 (s.dueS 1 k) wx)
            case first =>
              rcases hways with ⟨q1, q2⟩ | ⟨q1, q2, q3⟩ | ⟨q1, q2, q3⟩
              iterate 3
                · go_wp2_with fail
                  go_meet
                  case rel => exact ⟨by simp [*], H3.out.calm ((Chg.refl _ _).alloc _)⟩
            case rest =>
              obtain ⟨rfl, hk4⟩ := hcut
              clear hways
              have d0 := cell_kept' HD.out.1 hk4.chg (by simp)
              have H4 := Lib.hid hk4
              clear hk4
              cases tk
              iterate 2
                · go_wp2_with fail
                  go_roundw
                  case rel => exact ⟨k + 1, _, _, _, by omega, by go_num, by first | rfl | go_num, by first | rfl | go_num, rfl, vs2, _, H4.out, HI2.out⟩
                  case measure => simp [intOf]; omega
          · obtain ⟨a2, cap2, vs2, rfl, _, hk2⟩ := HK.out.1.due hI2.inv (fun q hq => Int.lt_of_le_of_lt (hI2.cnt q hq) (by omega)) hN
            rw [hL]
            obtain ⟨e2, hav, heo, hways⟩ := tell_at hI2
            have hbd2 := tell_bounds hI2
            have HI2 := Lib.hid hI2
            have H2 := Lib.hid hk2
            have HA := Lib.hid (patc b bs vs2 _ 0 w2 hk2.at_)
            clear hk2 hN hI2 hL
            go_wp2_with fail
            refine HA.out.mono ?_
            rintro e3 w3 ⟨rfl, hC3⟩
            have H3 := Lib.hid (H2.out.calm hC3)
            clear hC3
            rw [hav]
            unfold TE.val TE.cells
            rw [heo]
            go_upto_region 18 with fail
            go_cut [122] from 52 to 143 (fun x wx => x = .bool false ∧ KT w b bs vs2 (s.dueS 1 k) wx)
            case first =>
              rcases hways with ⟨q1, q2⟩ | ⟨q1, q2, q3⟩ | ⟨q1, q2, q3⟩
              iterate 3
                · go_wp2_with fail
                  go_meet
                  case rel => exact ⟨by simp [*], H3.out.calm ((Chg.refl _ _).alloc _)⟩
            case rest =>
              obtain ⟨rfl, hk4⟩ := hcut
              clear hways
              have d0 := cell_kept' HD.out.1 hk4.chg (by simp)
              have H4 := Lib.hid hk4
              clear hk4
              cases tk
              · go_wp2_with fail
                go_roundw
                case rel => exact ⟨k + 1, _, _, _, by omega, by go_num, by first | rfl | go_num, by first | rfl | go_num, rfl, vs2, _, H4.out, HI2.out⟩
                case measure => simp [intOf]; omega
              · obtain ⟨c, hV, hsum, hc0, hc1, hI3⟩ := tell_taken HI2.out (by omega)
                have HI3 := Lib.hid hI3
                clear hI3
                go_wp2_with fail
                refine (ptakenc b bs vs2 (s.dueS 1 k) 0 _ H4.out.at_).mono ?_
                rintro e4 w4 ⟨rfl, hN4⟩
                rw [hV]
                obtain ⟨vs4, hk5⟩ := H4.out.next HI3.out.inv (fun q hq => Int.lt_of_le_of_lt (HI3.out.cnt q hq) (by omega)) hN4
                have H5 := Lib.hid hk5
                clear hk5 hN4
                have hne : (told + 1 + c != due) = false := by simp; omega
                go_wp2_with fail
                go_roundw
                case rel => exact ⟨k + 1, due, due, false, by omega, by go_num, by first | rfl | go_num, by rw [← hsum], rfl, vs4, _, H5.out, HI3.out⟩
                case measure => simp [intOf]; omega
          · obtain ⟨a2, cap2, vs2, rfl, _, hk2⟩ := HK.out.1.due hI2.inv (fun q hq => Int.lt_of_le_of_lt (hI2.cnt q hq) (by omega)) hN
            rw [hL]
            obtain ⟨e2, hav, heo, hways⟩ := tell_at hI2
            have hbd2 := tell_bounds hI2
            have HI2 := Lib.hid hI2
            have H2 := Lib.hid hk2
            have HA := Lib.hid (patc b bs vs2 _ 0 w2 hk2.at_)
            clear hk2 hN hI2 hL
            go_wp2_with fail
            refine HA.out.mono ?_
            rintro e3 w3 ⟨rfl, hC3⟩
            have H3 := Lib.hid (H2.out.calm hC3)
            clear hC3
            rw [hav]
            unfold TE.val TE.cells
            rw [heo]
            go_upto_region 18 with fail
            go_cut [122] from 52 to 143 (fun x wx => x = .bool false ∧ KT w b bs vs2 (s.dueS 1 k) wx)
            case first =>
              rcases hways with ⟨q1, q2⟩ | ⟨q1, q2, q3⟩ | ⟨q1, q2, q3⟩
              iterate 3
                · go_wp2_with fail
                  go_meet
                  case rel => exact ⟨by simp [*], H3.out.calm ((Chg.refl _ _).alloc _)⟩
            case rest =>
              obtain ⟨rfl, hk4⟩ := hcut
              clear hways
              have d0 := cell_kept' HD.out.1 hk4.chg (by simp)
              have H4 := Lib.hid hk4
              clear hk4
              cases tk
              · go_wp2_with fail
                go_roundw
                case rel => exact ⟨k + 1, _, _, _, by omega, by go_num, by first | rfl | go_num, by first | rfl | go_num, rfl, vs2, _, H4.out, HI2.out⟩
                case measure => simp [intOf]; omega
              · obtain ⟨c, hV, hsum, hc0, hc1, hI3⟩ := tell_taken HI2.out (by omega)
                have HI3 := Lib.hid hI3
                clear hI3
                go_wp2_with fail
                refine (ptakenc b bs vs2 (s.dueS 1 k) 0 _ H4.out.at_).mono ?_
                rintro e4 w4 ⟨rfl, hN4⟩
                rw [hV]
                obtain ⟨vs4, hk5⟩ := H4.out.next HI3.out.inv (fun q hq => Int.lt_of_le_of_lt (HI3.out.cnt q hq) (by omega)) hN4
                have H5 := Lib.hid hk5
                clear hk5 hN4
                have hne : (told + 1 + c != due + 1) = false := by simp; omega
                go_wp2_with fail
                go_roundw
                case rel => exact ⟨k + 1, due + 1, due + 1, false, by omega, by go_num, by first | rfl | go_num, by rw [← hsum], rfl, vs4, _, H5.out, HI3.out⟩
                case measure => simp [intOf]; omega
          · obtain ⟨a2, cap2, vs2, rfl, _, hk2⟩ := HK.out.1.due hI2.inv (fun q hq => Int.lt_of_le_of_lt (hI2.cnt q hq) (by omega)) hN
            rw [hL]
            obtain ⟨e2, hav, heo, hways⟩ := tell_at hI2
            have hbd2 := tell_bounds hI2
            have HI2 := Lib.hid hI2
            have H2 := Lib.hid hk2
            have HA := Lib.hid (patc b bs vs2 _ 0 w2 hk2.at_)
            clear hk2 hN hI2 hL
            go_wp2_with fail
            refine HA.out.mono ?_
            rintro e3 w3 ⟨rfl, hC3⟩
            have H3 := Lib.hid (H2.out.calm hC3)
            clear hC3
            rw [hav]
            unfold TE.val TE.cells
            rw [heo]
            go_upto_region 18 with fail
            go_cut [122] from 52 to 143 (fun x wx => x = .bool false ∧ KT w b bs vs2 (s.dueS 1 k) wx)
            case first =>
              rcases hways with ⟨q1, q2⟩ | ⟨q1, q2, q3⟩ | ⟨q1, q2, q3⟩
              iterate 3
                · go_wp2_with fail
                  go_meet
                  case rel => exact ⟨by simp [*], H3.out.calm ((Chg.refl _ _).alloc _)⟩
            case rest =>
              obtain ⟨rfl, hk4⟩ := hcut
              clear hways
              have d0 := cell_kept' HD.out.1 hk4.chg (by simp)
              have H4 := Lib.hid hk4
              clear hk4
              cases tk
              · go_wp2_with fail
                go_roundw
                case rel => exact ⟨k + 1, _, _, _, by omega, by go_num, by first | rfl | go_num, by first | rfl | go_num, rfl, vs2, _, H4.out, HI2.out⟩
                case measure => simp [intOf]; omega
              · obtain ⟨c, hV, hsum, hc0, hc1, hI3⟩ := tell_taken HI2.out (by omega)
                have HI3 := Lib.hid hI3
                clear hI3
                go_wp2_with fail
                refine (ptakenc b bs vs2 (s.dueS 1 k) 0 _ H4.out.at_).mono ?_
                rintro e4 w4 ⟨rfl, hN4⟩
                rw [hV]
                obtain ⟨vs4, hk5⟩ := H4.out.next HI3.out.inv (fun q hq => Int.lt_of_le_of_lt (HI3.out.cnt q hq) (by omega)) hN4
                have H5 := Lib.hid hk5
                clear hk5 hN4
                have hne : (told + 1 + c != due + 1) = false := by simp; omega
                go_wp2_with fail
                go_roundw
                case rel => exact ⟨k + 1, due + 1, due + 1, false, by omega, by go_num, by first | rfl | go_num, by rw [← hsum], rfl, vs4, _, H5.out, HI3.out⟩
                case measure => simp [intOf]; omega
      · have hkN : k = N := by omega
        subst hkN
        have HK := Lib.hid hK
        clear hK hI
        go_wp2_with fail
        refine (knownc wr).mono ?_
        rintro e w' ⟨rfl, hC⟩
        have HC := Lib.hid (HK.out.chg.trans hC)
        clear hC
        go_wp2
        go_ret
        exact ⟨rfl, HC.out⟩

end Go.Proofs.Ytonahpilmchnkaa
