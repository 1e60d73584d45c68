
/- metronomeref18.Same: contract. -/
import Derived.Test.YtiiafhlckmkcnaaGreatYi
import Derived.Test.YtiiafhlckmkcnaaGreatVe
import Derived.Lib.QuietBelow
import Derived.BigQuiet
namespace Go.Proofs.YtiiafhlckmkcnaaGreat
open Go.RowKit Go.Sort

theorem chg_regrown (w : World) (d : Nat) (os : Array Obj) : Chg [] w (grow (redrawn w d) os) := by
  have h := below_regrown w d os
  exact ⟨h.os, h.tape, h.output, h.size, fun k hk _ => h.block k hk⟩
theorem rsame_regrown (b1 b2 : Nat) (L M : WL) (w : World) (h1 : RAt w b1 L) (h2 : RAt w b2 M) (hl1 : L.length ≤ 999999) (hl2 : M.length ≤ 999999) (d : Nat) (os : Array Obj) :
    Calls Tryz.prog 29 #[.pointer (some ⟨b1, 0, none⟩), .pointer (some ⟨b2, 0, none⟩)] (grow (redrawn w d) os) fun e w'' => e = .returned (.bool (decide (L = M))) ∧ ∃ p : Regrown, w'' = grow (redrawn w p.d) p.os := by
  refine Calls.regrown_of ((rsame b1 b2 L M _ (h1.calm (chg_regrown w d os)) (h2.calm (chg_regrown w d os)) (by omega) (by omega)).mono ?_)
  rintro e w' ⟨rfl, hC⟩
  exact ⟨rfl, hC.below (Nat.le_refl _)⟩

set_option maxRecDepth 100000 in
set_option maxHeartbeats 4000000 in
theorem dqsame_no (rc rr rw : Nat) (v : Value) (s : QS) (rc2 rr2 rw2 : Nat) (v2 : Value) (t : QS) (w : World) (h : DQ w rc rr rw v s) (g : DQ w rc2 rr2 rw2 v2 t)
    (hne : (s.room != t.room) = true ∨ ((s.room != t.room) = false ∧ ((s.ord.length : Int) != t.ord.length) = true) ∨ ((s.room != t.room) = false ∧ ((s.ord.length : Int) != t.ord.length) = false ∧ decide (s.S = t.S) = false) ∨ ((s.room != t.room) = false ∧ ((s.ord.length : Int) != t.ord.length) = false ∧ decide (s.S = t.S) = true ∧ decide (s.R = t.R) = false)) :
    Calls Tryz.prog 9 #[.pointer (some ⟨rc, 0, none⟩), .pointer (some ⟨rc2, 0, none⟩)] w fun e w' => e = .returned (.bool false) ∧ Chg [] w w' := by
  have HO := Lib.hid (dqorderc rc rr rw v s w h)
  have HO2 := Lib.hid (fun (W : World) (hC : Chg [] w W) => dqorderc rc2 rr2 rw2 v2 t W (g.calm hC))
  have HSS := Lib.hid (fun (W : World) (hC : Chg [] w W) => rsame_regrown rr rr2 s.S t.S W (h.calm hC).sd (g.calm hC).sd h.fewS.1 g.fewS.1)
  have HRR := Lib.hid (fun (W : World) (hC : Chg [] w W) => rsame_regrown rw rw2 s.R t.R W (h.calm hC).rv (g.calm hC).rv h.fewS.2 g.fewS.2)
  have HH := Lib.hid (And.intro h g)
  obtain ⟨n, hn⟩ : ∃ n, n = s.ord.length := ⟨_, rfl⟩
  obtain ⟨m, hm⟩ : ∃ m, m = t.ord.length := ⟨_, rfl⟩
  rw [← hn, ← hm] at hne
  obtain ⟨r1, hr1⟩ : ∃ r1, r1 = s.room := ⟨_, rfl⟩
  obtain ⟨r2, hr2⟩ : ∃ r2, r2 = t.room := ⟨_, rfl⟩
  rw [← hr1, ← hr2] at hne
  obtain ⟨bS, hbS⟩ : ∃ b, b = decide (s.S = t.S) := ⟨_, rfl⟩
  obtain ⟨bR, hbR⟩ : ∃ b, b = decide (s.R = t.R) := ⟨_, rfl⟩
  rw [← hbS, ← hbR] at hne
  simp only [← hbS] at HSS
  simp only [← hbR] at HRR
  have HN := Lib.hid (And.intro hn (And.intro hm (And.intro hr1 hr2)))
  clear h g hn hm hr1 hr2 hbS hbR
  rcases hne with b1 | ⟨b1, b2⟩ | ⟨b1, b2, rfl⟩ | ⟨b1, b2, rfl, rfl⟩
  all_goals
    as_aux_lemma =>
    go_enter Tryz.func9, Tryz.ntmps9
    go_wp2_with fail
    refine HO.out.mono ?_
    rintro e w1 ⟨x1, rfl, ho1, hC1⟩
    obtain ⟨a1, c1, rfl⟩ := own_slice ho1
    rw [← HN.out.1] at ho1 ⊢
    go_wp2_with fail
    refine (HO2.out w1 hC1).mono ?_
    rintro e w2 ⟨x2, rfl, ho2, hC2⟩
    obtain ⟨a2, c2, rfl⟩ := own_slice ho2
    rw [← HN.out.2.1] at ho2 ⊢
    have HC := Lib.hid (And.intro (hC1.trans hC2) (And.intro (own_kept ho1 hC2 (by simp)) ho2))
    clear ho1 ho2 hC1 hC2
    have k0 := (HH.out.1.calm HC.out.1).c0
    have l0 := (HH.out.2.calm HC.out.1).c0
    rw [← HN.out.2.2.1] at k0
    rw [← HN.out.2.2.2] at l0
    have K0 := fun d os => cell_regrown k0 d os
    have K2 := fun d os => cell_regrown (HH.out.1.calm HC.out.1).c2 d os
    have K3 := fun d os => cell_regrown (HH.out.1.calm HC.out.1).c3 d os
    have L0 := fun d os => cell_regrown l0 d os
    have L2 := fun d os => cell_regrown (HH.out.2.calm HC.out.1).c2 d os
    have L3 := fun d os => cell_regrown (HH.out.2.calm HC.out.1).c3 d os
    have KS := Lib.hid (HSS.out _ HC.out.1)
    have KR := Lib.hid (HRR.out _ HC.out.1)
    clear k0 l0
    go_wp2
    refine wp_region_quiet_below (by kernel_rfl) (by kernel_rfl) ?_
    repeat (first
      | go_big_quiet_step (first | (with_reducible exact KS.out _ _) | (with_reducible exact KR.out _ _)))
    refine wpQuiet_nil ?_
    intro _ hw'
    obtain ⟨⟨dq, osq⟩, hw''⟩ := hw'
    subst hw''
    go_wp2
    go_ret
    exact ⟨rfl, HC.out.1.trans (chg_regrown _ _ _)⟩

set_option maxRecDepth 100000 in
set_option maxHeartbeats 8000000 in
theorem dqsame_yes (rc rr rw : Nat) (v : Value) (s : QS) (rc2 rr2 rw2 : Nat) (v2 : Value) (t : QS) (w : World) (h : DQ w rc rr rw v s) (g : DQ w rc2 rr2 rw2 v2 t)
    (hne : (s.room != t.room) = false ∧ ((s.ord.length : Int) != t.ord.length) = false ∧ decide (s.S = t.S) = true ∧ decide (s.R = t.R) = true) :
    Calls Tryz.prog 9 #[.pointer (some ⟨rc, 0, none⟩), .pointer (some ⟨rc2, 0, none⟩)] w fun e w' => e = .returned (.bool (decide (s.ord = t.ord) && heldEq s.S s.M t.M)) ∧ Chg [] w w' := by
  have hl : s.ord.length = t.ord.length := by have h1 := hne.2.1; rw [bne_eq_false_iff_eq] at h1; omega
  have hI := h.inv
  obtain ⟨B, hB⟩ : ∃ B, B = (decide (s.ord = t.ord) && heldEq s.S s.M t.M) := ⟨_, rfl⟩
  rw [← hB]
  have HWt := Lib.hid (fun (W : World) (hC : Chg [] w W) (i : Int) => dqwaitc rc rr rw v s i W (h.calm hC))
  have HO := Lib.hid (dqorderc rc rr rw v s w h)
  have HO2 := Lib.hid (fun (W : World) (hC : Chg [] w W) => dqorderc rc2 rr2 rw2 v2 t W (g.calm hC))
  have HSS := Lib.hid (fun (W : World) (hC : Chg [] w W) => rsame_regrown rr rr2 s.S t.S W (h.calm hC).sd (g.calm hC).sd h.fewS.1 g.fewS.1)
  have HRR := Lib.hid (fun (W : World) (hC : Chg [] w W) => rsame_regrown rw rw2 s.R t.R W (h.calm hC).rv (g.calm hC).rv h.fewS.2 g.fewS.2)
  have HH := Lib.hid (And.intro h g)
  obtain ⟨n, hn⟩ : ∃ n, n = s.ord.length := ⟨_, rfl⟩
  obtain ⟨m, hm⟩ : ∃ m, m = t.ord.length := ⟨_, rfl⟩
  rw [← hn, ← hm] at hne
  obtain ⟨r1, hr1⟩ : ∃ r1, r1 = s.room := ⟨_, rfl⟩
  obtain ⟨r2, hr2⟩ : ∃ r2, r2 = t.room := ⟨_, rfl⟩
  rw [← hr1, ← hr2] at hne
  obtain ⟨bS, hbS⟩ : ∃ b, b = decide (s.S = t.S) := ⟨_, rfl⟩
  obtain ⟨bR, hbR⟩ : ∃ b, b = decide (s.R = t.R) := ⟨_, rfl⟩
  rw [← hbS, ← hbR] at hne
  simp only [← hbS] at HSS
  simp only [← hbR] at HRR
  have HN := Lib.hid (And.intro hn (And.intro hm (And.intro hr1 hr2)))
  have hnm : m = n := by omega
  have hm32 : m ≤ 32 := by rw [hm]; exact g.inv.few32
  have HL := Lib.hid (And.intro hI (And.intro hB hl))
  clear h g hn hm hr1 hr2 hbS hbR hI hB hl
  obtain ⟨b1, b2, rfl, rfl⟩ := hne
  subst hnm
  go_enter Tryz.func9, Tryz.ntmps9
  go_wp2_with fail
  refine HO.out.mono ?_
  rintro e w1 ⟨x1, rfl, ho1, hC1⟩
  obtain ⟨a1, c1, rfl⟩ := own_slice ho1
  rw [← HN.out.1] at ho1 ⊢
  go_wp2_with fail
  refine (HO2.out w1 hC1).mono ?_
  rintro e w2 ⟨x2, rfl, ho2, hC2⟩
  obtain ⟨a2, c2, rfl⟩ := own_slice ho2
  rw [← HN.out.2.1] at ho2 ⊢
  have HC := Lib.hid (And.intro (hC1.trans hC2) (And.intro (own_kept ho1 hC2 (by simp)) ho2))
  clear ho1 ho2 hC1 hC2
  have k0 := (HH.out.1.calm HC.out.1).c0
  have l0 := (HH.out.2.calm HC.out.1).c0
  rw [← HN.out.2.2.1] at k0
  rw [← HN.out.2.2.2] at l0
  have K0 := fun d os => cell_regrown k0 d os
  have K2 := fun d os => cell_regrown (HH.out.1.calm HC.out.1).c2 d os
  have K3 := fun d os => cell_regrown (HH.out.1.calm HC.out.1).c3 d os
  have L0 := fun d os => cell_regrown l0 d os
  have L2 := fun d os => cell_regrown (HH.out.2.calm HC.out.1).c2 d os
  have L3 := fun d os => cell_regrown (HH.out.2.calm HC.out.1).c3 d os
  have KS := Lib.hid (HSS.out _ HC.out.1)
  have KR := Lib.hid (HRR.out _ HC.out.1)
  clear k0 l0
  go_wp2
  refine wp_region_quiet_below (by kernel_rfl) (by kernel_rfl) ?_
  repeat (first
    | go_big_quiet_step (first | (with_reducible exact KS.out _ _) | (with_reducible exact KR.out _ _)))
  refine wpQuiet_nil ?_
  intro _ hw'
  obtain ⟨⟨dq, osq⟩, hw''⟩ := hw'
  subst hw''
  have HW : Hid (Chg [] w (grow (redrawn w2 dq) osq)) := Lib.hid (HC.out.1.trans (chg_regrown _ _ _))
  have HP1 := Lib.hid (IsPairs.of_own (HN.out.1 ▸ own_kept HC.out.2.1 (chg_regrown w2 dq osq) (by simp)))
  have HP2 := Lib.hid (IsPairs.of_own (HN.out.2.1 ▸ own_kept HC.out.2.2 (chg_regrown w2 dq osq) (by simp)))
  generalize grow (redrawn w2 dq) osq = W at *
  clear K0 K2 K3 L0 L2 L3 KS KR HC
  go_wp2
  go_loopw [7] (fun i wr => ∃ k : Nat, k ≤ m ∧ i = .int .i64 k ∧ s.ord.take k = t.ord.take k ∧ ∃ q, wr = W.drewN q) (fun i _ => m - (intOf i).toNat)
  case atStart => exact ⟨0, by omega, rfl, by simp, 0, rfl⟩
  case round =>
    obtain ⟨k, hk, rfl, htk, q, rfl⟩ := hrel
    have HK := Lib.hid htk
    clear htk
    by_cases hlt : k < m
    · obtain ⟨x, hkt⟩ : ∃ x, s.ord[k]? = some x := ⟨_, List.getElem?_eq_getElem (by have h1 := HN.out.1; omega)⟩
      obtain ⟨y, hku⟩ : ∃ y, t.ord[k]? = some y := ⟨_, List.getElem?_eq_getElem (by have h1 := HN.out.2.1; omega)⟩
      obtain ⟨t1, t2⟩ := x
      obtain ⟨u1, u2⟩ := y
      obtain ⟨g1, o1, cap1, e1, hd1⟩ := HP1.out.addr (by rintro e; rw [e] at hkt; simp at hkt)
      obtain ⟨g2, o2, cap2, e2, hd2⟩ := HP2.out.addr (by rintro e; rw [e] at hku; simp at hku)
      injection e1 with e1 _ e3
      injection e2 with e2 _ e4
      subst e3
      subst e4
      subst e1
      subst e2
      obtain ⟨d1, d1'⟩ := hd1 k _ hkt
      obtain ⟨d2, d2'⟩ := hd2 k _ hku
      have HT := Lib.hid (And.intro hkt hku)
      clear hkt hku hd1 hd2
      by_cases htu : t1 = u1 ∧ t2 = u2
      · obtain ⟨rfl, rfl⟩ := htu
        have hneq : neqP t1 t2 t1 t2 = false := by simp [neqP]
        go_wp2
        go_quiet (fail)
        go_wp2
        go_roundw
        case rel => exact ⟨k + 1, by omega, by go_num, by rw [List.take_add_one, List.take_add_one, HK.out, HT.out.1, HT.out.2], q + nq, rfl⟩
        case measure => simp [intOf]; omega
      · have hneq : neqP t1 t2 u1 u2 = true := decide_eq_true htu
        have hB : B = false := by
          rw [HL.out.2.1]
          have : decide (s.ord = t.ord) = false := by
            apply decide_eq_false
            intro e
            have h1 := HT.out.1
            rw [e, HT.out.2] at h1
            have h1 := Option.some.inj h1
            exact htu ⟨(congrArg Prod.fst h1).symm, (congrArg Prod.snd h1).symm⟩
          rw [this]
          rfl
        have HD := Lib.hid hB
        clear hB htu
        go_wp2
        go_quiet (fail)
        go_wp2
        go_ret
        exact ⟨ret_bool HD.out.symm, (HW.out.drewN _).drewN _⟩
    · have hkm : k = m := by omega
      have hO : s.ord = t.ord := by
        have h1 := HK.out
        rwa [List.take_of_length_le (by have h2 := HN.out.1; omega), List.take_of_length_le (by have h2 := HN.out.2.1; omega)] at h1
      have HO3 := Lib.hid hO
      have HW1 := Lib.hid (HW.out.drewN q)
      clear hO hkm HK HW HP1 HP2
      go_wp2
      clear hlt hk
      generalize W.drewN q = V at *
      go_loopw [8] (fun i wr => ∃ k : Nat, k ≤ 16 ∧ i = .int .i64 k ∧ s.heldK t k = true ∧ Chg [] w wr) (fun i _ => 16 - (intOf i).toNat)
      case atStart => exact ⟨0, by omega, rfl, rfl, HW1.out⟩
      case round =>
        obtain ⟨k, hk, rfl, htk, hC⟩ := hrel
        have HK := Lib.hid htk
        have HC2 := Lib.hid hC
        clear htk hC HW1
        by_cases hlt : k < 16
        · have q1 := (HH.out.1.calm HC2.out).cM hlt
          have q2 := (HH.out.2.calm HC2.out).cM hlt
          have HQ := Lib.hid (HWt.out _ HC2.out k)
          have HS := Lib.hid (QS.heldK_succ s t k)
          obtain ⟨x1, x2, hx⟩ : ∃ x1 x2, mAt s.M k = (x1, x2) := ⟨_, _, rfl⟩
          obtain ⟨y1, y2, hy⟩ : ∃ y1 y2, mAt t.M k = (y1, y2) := ⟨_, _, rfl⟩
          simp only [hx] at q1 HS
          simp only [hy] at q2 HS
          obtain ⟨q1, q1'⟩ := q1
          obtain ⟨q2, q2'⟩ := q2
          cases hr : hasR s.S k with
          | false =>
            simp only [hr] at HQ HS
            have hkk := HS.out
            clear hr hx hy
            go_wp2_with (go_at_call 30; refine HQ.out.mono ?_; rintro e w' ⟨rfl, rfl⟩)
            go_quiet (fail)
            go_wp2
            go_roundw
            case rel => exact ⟨k + 1, by omega, by go_num, by rw [HS.out, HK.out]; rfl, HC2.out.drewN _⟩
            case measure => simp [intOf]; omega
          | true =>
            simp only [hr] at HQ HS
            clear hr hx hy
            by_cases htu : x1 = y1 ∧ x2 = y2
            · obtain ⟨rfl, rfl⟩ := htu
              have hneq : neqP x1 x2 x1 x2 = false := by simp [neqP]
              go_wp2_with (go_at_call 30; refine HQ.out.mono ?_; rintro e w' ⟨rfl, rfl⟩)
              go_quiet (fail)
              go_wp2
              go_roundw
              case rel => exact ⟨k + 1, by omega, by go_num, by rw [HS.out, HK.out, eqbM_self]; rfl, HC2.out.drewN _⟩
              case measure => simp [intOf]; omega
            · have hneq : neqP x1 x2 y1 y2 = true := decide_eq_true htu
              have hB : B = false := by
                rw [HL.out.2.1, ← QS.heldK_16 HL.out.1 t]
                cases hf : s.heldK t 16 with
                | false => simp
                | true =>
                  exfalso
                  have h1 : s.heldK t (k + 1) = true := by
                    unfold QS.heldK at hf ⊢
                    rw [List.all_eq_true] at hf ⊢
                    intro i hi
                    rw [List.mem_range] at hi
                    exact hf i (List.mem_range.2 (by omega))
                  rw [HS.out] at h1
                  simp at h1
                  have h2 := eqbM_iff.1 h1.2
                  exact htu ⟨congrArg Prod.fst h2, congrArg Prod.snd h2⟩
              have HD := Lib.hid hB
              clear hB htu
              go_wp2_with (go_at_call 30; refine HQ.out.mono ?_; rintro e w' ⟨rfl, rfl⟩)
              go_quiet (fail)
              go_wp2
              go_ret
              exact ⟨ret_bool HD.out.symm, HC2.out.drewN _⟩
        · have hk16 : k = 16 := by omega
          subst hk16
          have hB : B = true := by
            rw [HL.out.2.1, ← QS.heldK_16 HL.out.1 t, HK.out, HO3.out]
            simp
          have HD := Lib.hid hB
          clear hB
          go_wp2
          go_ret
          exact ⟨ret_bool HD.out.symm, HC2.out⟩

theorem dqsamec (rc rr rw : Nat) (v : Value) (s : QS) (rc2 rr2 rw2 : Nat) (v2 : Value) (t : QS) (w : World) (h : DQ w rc rr rw v s) (g : DQ w rc2 rr2 rw2 v2 t) :
    Calls Tryz.prog 9 #[.pointer (some ⟨rc, 0, none⟩), .pointer (some ⟨rc2, 0, none⟩)] w fun e w' => e = .returned (.bool (s.eqv t)) ∧ Chg [] w w' := by
  have key : ((s.room != t.room) = false ∧ ((s.ord.length : Int) != t.ord.length) = false ∧ decide (s.S = t.S) = true ∧ decide (s.R = t.R) = true) ∨ (s.eqv t = false ∧ ((s.room != t.room) = true ∨ ((s.room != t.room) = false ∧ ((s.ord.length : Int) != t.ord.length) = true) ∨ ((s.room != t.room) = false ∧ ((s.ord.length : Int) != t.ord.length) = false ∧ decide (s.S = t.S) = false) ∨ ((s.room != t.room) = false ∧ ((s.ord.length : Int) != t.ord.length) = false ∧ decide (s.S = t.S) = true ∧ decide (s.R = t.R) = false))) := by
    unfold QS.eqv
    cases h1 : (s.room != t.room) with
    | true =>
      refine .inr ⟨?_, .inl rfl⟩
      rw [decide_eq_false (p := s.room = t.room) (by simpa using h1)]
      simp
    | false =>
      cases h2 : ((s.ord.length : Int) != t.ord.length) with
      | true =>
        refine .inr ⟨?_, .inr (.inl ⟨rfl, rfl⟩)⟩
        rw [decide_eq_false (p := s.ord = t.ord) (by intro e; rw [e] at h2; simp at h2)]
        simp
      | false =>
        cases h3 : decide (s.S = t.S) with
        | false => exact .inr ⟨by simp, .inr (.inr (.inl ⟨rfl, rfl, rfl⟩))⟩
        | true =>
          cases h4 : decide (s.R = t.R) with
          | false => exact .inr ⟨by simp, .inr (.inr (.inr ⟨rfl, rfl, rfl, rfl⟩))⟩
          | true => exact .inl ⟨rfl, rfl, rfl, rfl⟩
  rcases key with hy | ⟨e, hn⟩
  · have e : s.eqv t = (decide (s.ord = t.ord) && heldEq s.S s.M t.M) := by
      unfold QS.eqv
      rw [hy.2.2.1, hy.2.2.2, decide_eq_true (p := s.room = t.room) (by simpa using hy.1)]
      simp
    rw [e]
    exact dqsame_yes rc rr rw v s rc2 rr2 rw2 v2 t w h g hy
  · rw [e]
    exact dqsame_no rc rr rw v s rc2 rr2 rw2 v2 t w h g hn

end Go.Proofs.YtiiafhlckmkcnaaGreat
