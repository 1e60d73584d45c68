/- metronomelaw16.CondWakes answers true, whatever the steps. -/
import Derived.Test.YtjdefbkppjdokaaCTwo
import Derived.Test.YtjdefbkppjdokaaCKnown
namespace Go.Proofs.Ytjdefbkppjdokaa
open Go.RowKit

theorem muB_dec (L : WL) : decide ((0 : Int) < (L.length : Int)) = muB L := by
  unfold muB
  by_cases h : L.length = 0
  · simp [h]
  · rw [decide_eq_true (by omega : (0 : Int) < (L.length : Int)), decide_eq_false h]; rfl
theorem muM_same {L L2 : WL} {M : Int} (h1 : muB L = true) (h2 : muB L2 = true) : muM L2 M = muM L M := by
  unfold muB at h1 h2
  have a : ¬ L.length = 0 := by simpa using h1
  have b : ¬ L2.length = 0 := by simpa using h2
  unfold muM
  rw [if_neg a, if_neg b]
theorem cwR_zero {L : WL} {M t p m : Int} (h : cwR L M t p m = 0) (h1 : muB L = true) : m = M := by
  unfold muB at h1
  have a : ¬ L.length = 0 := by simpa using h1
  rcases cw_cases L M t p m with e | e | e | e | e | e | e <;> omega
theorem muM_yes {L : WL} {M : Int} (h : muB L = true) : muM L M = M := by
  unfold muB at h
  have a : ¬ L.length = 0 := by simpa using h
  unfold muM
  rw [if_neg a]

theorem IsInts.of_own' {w : World} {B n : Nat} {e : TypeId} {v : Value} {ts : List Int} (hn : n = ts.length) (h : w.ownsRow B e 1 v n (ts.map (Value.int .i64))) : IsInts w v ts := by
  subst hn; exact .of_own h


set_option maxRecDepth 100000 in
set_option maxHeartbeats 8000000 in
theorem condWakes_any (v : Value) (R : List (Nat → Int)) (w : World) (hv : IsRows 4 w v R) :
    Calls Try.prog 3 #[v] w fun e w' => e = .returned (.bool true) ∧ Chg [] w w' := by
  obtain ⟨a, cap, rfl⟩ := hv.slice
  have HV := Lib.hid hv
  clear hv
  go_enter Try.func3, Try.ntmps3
  go_wp2_with fail
  refine (known16 w).mono ?_
  rintro e w0 ⟨rfl, hC0⟩
  have H0 := Lib.hid hC0
  clear hC0
  go_wp2_with fail
  refine (cnewc w0).mono ?_
  rintro e w1 ⟨cb, ab, mb, rfl, hcb, hab, hmb, hW1, hC1⟩
  have hs0 := H0.out.size
  have H1 := Lib.hid (And.intro hW1 (And.intro (H0.out.trans hC1) (show ∀ j ∈ [cb, ab, mb], w.heap.size ≤ j from fun j hj => by simp at hj; omega)))
  clear hcb hab hmb hW1 hC1 hs0 H0
  go_wp2
  go_loopw [4] (fun i wr => ∃ (k : Nat) (L : WL) (M : Int), k ≤ R.length ∧ k ≤ 200 ∧ i = .int .i64 k ∧ CAt wr cb ab mb k L M ∧ Chg [] w wr) (fun i _ => 200 - (intOf i).toNat)
  case atStart => exact ⟨0, [], 0, by omega, by omega, rfl, H1.out.1, H1.out.2.1⟩
  case round =>
    obtain ⟨k, L, M, hk1, hk2, rfl, hT, hG⟩ := hrel
    have HGe := Lib.hid H1.out.2.2
    have HK := Lib.hid (And.intro hT hG)
    clear hT H1
    have hcase : (k < R.length ∧ k < 200) ∨ (¬ k < R.length) ∨ (k < R.length ∧ ¬ k < 200) := by omega
    rcases hcase with ⟨hlt, hlt2⟩ | hlt | ⟨hlt, hlt2⟩
    · have hne : R ≠ [] := fun e => by rw [e] at hlt; simp at hlt
      obtain ⟨g, o, cap', hsl, hcells⟩ := HV.out.addr hne
      cases hsl
      obtain ⟨x, hx⟩ : ∃ x, R[k]? = some x := ⟨_, List.getElem?_eq_getElem hlt⟩
      have hrow := IsRows.row hcells hG hx
      have d0 := hrow 0 (by omega)
      have d1 := hrow 1 (by omega)
      have d2 := hrow 2 (by omega)
      have d3 := hrow 3 (by omega)
      rw [Nat.add_zero] at d0
      clear hcells hrow hx hG hne
      generalize x 0 = kd at *
      generalize x 1 = t at *
      generalize x 2 = p at *
      generalize x 3 = m at *
      obtain ⟨mB, hmB⟩ : ∃ b, b = muB L := ⟨_, rfl⟩
      obtain ⟨mM, hmM⟩ : ∃ z, z = muM L M := ⟨_, rfl⟩
      obtain ⟨n0, hn0⟩ : ∃ n, n = (ordT L).length := ⟨_, rfl⟩
      have hlen : n0 = L.length := by rw [hn0]; unfold ordT; rw [List.length_map, ordT_len HK.out.1.list.lok]
      have hle : n0 ≤ 16 := by rw [hlen]; exact HK.out.1.list.facts.2.2
      have HLen := Lib.hid hlen
      clear hlen
      have hq : ∀ L2 : WL, muB L = true → muB L2 = true → muM L2 M = muM L M := fun L2 => muM_same
      have HQ := Lib.hid hq
      have HF := Lib.hid (And.intro hmB (And.intro hmM hn0))
      clear hq hmB hmM hn0
      have hk7 : (kd = 1 ∧ cwR L M t p m = 0) ∨ (kd = 1 ∧ cwR L M t p m ≠ 0) ∨ (kd = 2 ∧ ordL L = []) ∨ (kd = 2 ∧ ordL L ≠ []) ∨ kd = 3 ∨ kd = 4 ∨ kd = 5 ∨ ((kd == 1) = false ∧ (kd == 2) = false ∧ (kd == 3) = false ∧ (kd == 4) = false ∧ (kd == 5) = false) := by
        by_cases h1 : kd = 1
        · by_cases hr : cwR L M t p m = 0
          · exact .inl ⟨h1, hr⟩
          · exact .inr (.inl ⟨h1, hr⟩)
        · by_cases h2 : kd = 2
          · by_cases ho : ordL L = []
            · exact .inr (.inr (.inl ⟨h2, ho⟩))
            · exact .inr (.inr (.inr (.inl ⟨h2, ho⟩)))
          · by_cases h3 : kd = 3
            · simp [h3]
            · by_cases h4 : kd = 4
              · simp [h4]
              · by_cases h5 : kd = 5
                · simp [h5]
                · simp [h1, h2, h3, h4, h5]
      rcases hk7 with ⟨rfl, hr⟩ | ⟨rfl, hr⟩ | ⟨rfl, ho⟩ | ⟨rfl, ho⟩ | rfl | rfl | rfl | ⟨h1, h2, h3, h4, h5⟩
      · as_aux_lemma =>
        -- Wait, taken
        have hz : mB = true → (m != mM) = false := fun e => by
          have e := HF.out.1.symm.trans e
          have := cwR_zero hr e
          rw [HF.out.2.1, muM_yes e, this]; simp
        have hL2 : (cwL L M t p m).length = n0 + 1 := by unfold cwL; rw [if_pos hr, List.length_append, HLen.out]; rfl
        have hM2 : muB L = true → muB (cwL L M t p m) = true → muM (cwL L M t p m) (cwM L M t p m) = muM L M := fun e e2 => by
          have h := cwR_zero hr e
          have : cwM L M t p m = M := by unfold cwM; rw [if_pos hr, h]
          rw [this]; exact muM_same e e2
        have HR := Lib.hid (And.intro hr (And.intro hL2 hM2))
        have hnn : (((n0 : Int) + 1) != ((n0 : Int) + 1)) = false := by simp
        clear hr hL2 hM2
        cases mB
        all_goals as_aux_lemma =>
          have hz1 : (m != mM) = false ∨ True := .inr trivial
          try replace hz1 := (hz rfl : (m != mM) = false)
          clear hz
          go_wp2_with fail
          refine (clistc cb ab mb k L M _ (HK.out.1.calm ((Chg.refl [] wr).alloc (.cells #[.int .i64 _, .int .i64 t, .int .i64 p, .int .i64 m] 27)))).mono ?_
          rintro e w2 ⟨v0, rfl, ho, hC⟩
          obtain ⟨va0, vc0, rfl⟩ := own_slice ho
          have H2 := Lib.hid (And.intro (hC.blk (heap_alloc_eq wr _) (by simp)) (And.intro (((Chg.refl [] wr).alloc _).trans hC) (own_mono ho ((Chg.refl [] wr).alloc _).size)))
          clear ho hC
          rw [← HF.out.2.2] at H2 ⊢
          go_wp2_with fail
          refine (cmutexc cb ab mb k L M w2 (HK.out.1.calm H2.out.2.1)).mono ?_
          rintro e w3 ⟨rfl, hC⟩
          rw [← HF.out.1, ← HF.out.2.1]
          have hb3 := hC.blk H2.out.1 (by simp)
          have x0 := cellB hb3 (i := 0) rfl
          have x1 := cellB hb3 (i := 1) rfl
          have x2 := cellB hb3 (i := 2) rfl
          have x3 := cellB hb3 (i := 3) rfl
          have H3 := Lib.hid (And.intro (HK.out.1.calm (H2.out.2.1.trans hC)) (And.intro (H2.out.2.1.trans hC) (And.intro (own_kept H2.out.2.2 hC (by simp)) hb3)))
          clear hC hb3 H2
          go_wp2_with fail
          refine (cwaitc cb ab mb k L M t p m w3 H3.out.1 (by omega)).mono ?_
          rintro e w4 ⟨rfl, hW, hC⟩
          rw [HR.out.1]
          have hb4 := hC.blk H3.out.2.2.2 (by have := HK.out.1.lt; simp; omega)
          have HW := Lib.hid (And.intro hW (And.intro (HK.out.2.trans' ((H3.out.2.1.mono (by simp)).trans (hC.mono (by simp)) : Chg [cb, ab, mb] wr _) (fun j hj => .inr (HGe.out j (by simp at hj ⊢; omega)))) hb4))
          have HI := Lib.hid HR.out.2.2
          have hl4 := HR.out.2.1
          generalize cwL L M t p m = L2 at *
          generalize cwM L M t p m = M2 at *
          have HN2 := Lib.hid hl4
          clear hW hC hb4 x0 x1 x2 x3 hl4
          go_wp2_with (first | fail | (go_at_call 12; go_in))
          refine (clenc cb ab mb _ L2 M2 w4 HW.out.1).mono ?_
          rintro e w5 ⟨rfl, hC⟩
          rw [HN2.out, show ((n0 + 1 : Nat) : Int) = (n0 : Int) + 1 from by omega]
          have x3 := cellB (hC.blk HW.out.2.2 (by simp)) (i := 3) rfl
          have HZ := Lib.hid (And.intro (HW.out.1.calm hC) (HW.out.2.1.trans hC))
          clear hC HW
          go_wp2_with (first | fail | (go_at_call 12; go_in))
          clear x3 HN2 HR
          obtain ⟨b2, hb2⟩ : ∃ b, b = muB L2 := ⟨_, rfl⟩
          obtain ⟨z2, hz2⟩ : ∃ z, z = muM L2 M2 := ⟨_, rfl⟩
          obtain ⟨n2, hn2⟩ : ∃ n : Int, n = (L2.length : Int) := ⟨_, rfl⟩
          have hd : decide ((0 : Int) < n2) = b2 := by rw [hn2, hb2]; exact muB_dec L2
          have hMu := cmutexc cb ab mb _ L2 M2 _ HZ.out.1
          have hLn := fun (W : World) (h : CAt W cb ab mb (k + 1) L2 M2) => clenc cb ab mb (k + 1) L2 M2 W h
          simp only [← hn2] at hLn
          rw [← hb2, ← hz2] at hMu
          have hx := HI.out
          rw [← hb2, ← hz2] at hx
          have HMu := Lib.hid (And.intro hMu hLn)
          clear hMu hLn hb2 hz2 hn2 HI
          cases b2
          all_goals
            have hx1 : (z2 != mM) = false ∨ True := .inr trivial
            try replace hx1 : (z2 != mM) = false := by rw [hx HF.out.1.symm rfl, ← HF.out.2.1]; simp
            clear hx
            go_wp2_with fail
            refine HMu.out.1.mono ?_
            rintro e wa ⟨rfl, hCa⟩
            have HA := Lib.hid hCa
            clear hCa
            go_wp2_with fail
            refine (HMu.out.2 wa (HZ.out.1.calm HA.out)).mono ?_
            rintro e wb ⟨rfl, hCb⟩
            have HBb := Lib.hid (HA.out.trans hCb)
            clear hCb
            go_wp2
            go_roundw
            case rel => exact ⟨k + 1, L2, M2, by omega, by omega, by go_num, by rw [Int.natCast_add]; exact HZ.out.1.calm HBb.out, HZ.out.2.trans HBb.out⟩
            case measure => simp [intOf]; omega
      · as_aux_lemma =>
        -- Wait, refused
        have hL2 : cwL L M t p m = L := by unfold cwL; rw [if_neg hr]
        have hM2 : cwM L M t p m = M := by unfold cwM; rw [if_neg hr]
        obtain ⟨r, hrr⟩ : ∃ r, r = cwR L M t p m := ⟨_, rfl⟩
        rw [← hrr] at hr
        have hr1 : (r == 0) = false := by simpa using hr
        have hr2 : (r != 0) = true := by simpa using hr
        have HR := Lib.hid (And.intro hrr (And.intro hL2 hM2))
        clear hr hrr hL2 hM2
        cases mB
        all_goals as_aux_lemma =>
          go_wp2_with fail
          refine (clistc cb ab mb k L M _ (HK.out.1.calm ((Chg.refl [] wr).alloc (.cells #[.int .i64 _, .int .i64 t, .int .i64 p, .int .i64 m] 27)))).mono ?_
          rintro e w2 ⟨v0, rfl, ho, hC⟩
          obtain ⟨va0, vc0, rfl⟩ := own_slice ho
          have H2 := Lib.hid (And.intro (hC.blk (heap_alloc_eq wr _) (by simp)) (And.intro (((Chg.refl [] wr).alloc _).trans hC) (own_mono ho ((Chg.refl [] wr).alloc _).size)))
          clear ho hC
          rw [← HF.out.2.2] at H2 ⊢
          go_wp2_with fail
          refine (cmutexc cb ab mb k L M w2 (HK.out.1.calm H2.out.2.1)).mono ?_
          rintro e w3 ⟨rfl, hC⟩
          rw [← HF.out.1, ← HF.out.2.1]
          have hb3 := hC.blk H2.out.1 (by simp)
          have x0 := cellB hb3 (i := 0) rfl
          have x1 := cellB hb3 (i := 1) rfl
          have x2 := cellB hb3 (i := 2) rfl
          have x3 := cellB hb3 (i := 3) rfl
          have H3 := Lib.hid (And.intro (HK.out.1.calm (H2.out.2.1.trans hC)) (And.intro (H2.out.2.1.trans hC) (And.intro (own_kept H2.out.2.2 hC (by simp)) hb3)))
          clear hC hb3 H2
          go_wp2_with fail
          refine (cwaitc cb ab mb k L M t p m w3 H3.out.1 (by omega)).mono ?_
          rintro e w4 ⟨rfl, hW, hC⟩
          rw [← HR.out.1]
          rw [HR.out.2.1, HR.out.2.2] at hW
          have HW := Lib.hid (And.intro hW (And.intro (HK.out.2.trans' ((H3.out.2.1.mono (by simp)).trans (hC.mono (by simp)) : Chg [cb, ab, mb] wr _) (fun j hj => .inr (HGe.out j (by simp at hj ⊢; omega)))) (own_kept H3.out.2.2.1 hC (fun j hj => own_notin H3.out.2.2.1 (by have := HK.out.1.lt; simp at hj; omega)))))
          clear hW hC x0 x1 x2 x3
          go_wp2_with (first | fail | (go_at_call 12; go_in))
          refine (clistc cb ab mb _ L M w4 HW.out.1).mono ?_
          rintro e w5 ⟨v4, rfl, ho4, hC⟩
          have H5 := Lib.hid (And.intro (IsInts.of_own ho4) (And.intro (own_kept HW.out.2.2 hC (by simp)) (And.intro (HW.out.1.calm hC) (HW.out.2.1.trans hC))))
          clear ho4 hC
          go_wp2_with fail
          refine (sameInts_any v4 _ (ordT L) (ordT L) w5 H5.out.1 (IsInts.of_own' HF.out.2.2 H5.out.2.1) (by have := HF.out.2.2; omega) (by have := HF.out.2.2; omega)).mono ?_
          rintro e w6 ⟨rfl, hC⟩
          rw [show decide (ordT L = ordT L) = true from decide_eq_true rfl]
          obtain ⟨L2, hL2⟩ : ∃ X, X = L := ⟨_, rfl⟩
          obtain ⟨M2, hM2⟩ : ∃ X, X = M := ⟨_, rfl⟩
          have HZ : Hid (CAt w6 cb ab mb (k + 1) L2 M2 ∧ Chg [] w w6) := by rw [hL2, hM2]; exact ⟨H5.out.2.2.1.calm hC, H5.out.2.2.2.trans hC⟩
          have HI : Hid (muB L = true → muB L2 = true → muM L2 M2 = muM L M) := by rw [hL2, hM2]; exact HQ.out L
          clear hC hL2 hM2 HW
          obtain ⟨b2, hb2⟩ : ∃ b, b = muB L2 := ⟨_, rfl⟩
          obtain ⟨z2, hz2⟩ : ∃ z, z = muM L2 M2 := ⟨_, rfl⟩
          obtain ⟨n2, hn2⟩ : ∃ n : Int, n = (L2.length : Int) := ⟨_, rfl⟩
          have hd : decide ((0 : Int) < n2) = b2 := by rw [hn2, hb2]; exact muB_dec L2
          have hMu := cmutexc cb ab mb _ L2 M2 _ HZ.out.1
          have hLn := fun (W : World) (h : CAt W cb ab mb (k + 1) L2 M2) => clenc cb ab mb (k + 1) L2 M2 W h
          simp only [← hn2] at hLn
          rw [← hb2, ← hz2] at hMu
          have hx := HI.out
          rw [← hb2, ← hz2] at hx
          have HMu := Lib.hid (And.intro hMu hLn)
          clear hMu hLn hb2 hz2 hn2 HI
          cases b2
          all_goals
            have hx1 : (z2 != mM) = false ∨ True := .inr trivial
            try replace hx1 : (z2 != mM) = false := by rw [hx HF.out.1.symm rfl, ← HF.out.2.1]; simp
            clear hx
            go_wp2_with fail
            refine HMu.out.1.mono ?_
            rintro e wa ⟨rfl, hCa⟩
            have HA := Lib.hid hCa
            clear hCa
            go_wp2_with fail
            refine (HMu.out.2 wa (HZ.out.1.calm HA.out)).mono ?_
            rintro e wb ⟨rfl, hCb⟩
            have HBb := Lib.hid (HA.out.trans hCb)
            clear hCb
            go_wp2
            go_roundw
            case rel => exact ⟨k + 1, L2, M2, by omega, by omega, by go_num, by rw [Int.natCast_add]; exact HZ.out.1.calm HBb.out, HZ.out.2.trans HBb.out⟩
            case measure => simp [intOf]; omega
      · as_aux_lemma =>
        -- Signal, nobody
        have hT : takeL L = L := by unfold takeL; rw [ho]
        obtain rfl : n0 = 0 := by rw [HF.out.2.2]; unfold ordT; rw [ho]; rfl
        have HO := Lib.hid (And.intro ho hT)
        clear ho hT
        cases mB
        all_goals as_aux_lemma =>
          go_wp2_with fail
          refine (clistc cb ab mb k L M _ (HK.out.1.calm ((Chg.refl [] wr).alloc (.cells #[.int .i64 _, .int .i64 t, .int .i64 p, .int .i64 m] 27)))).mono ?_
          rintro e w2 ⟨v0, rfl, ho, hC⟩
          obtain ⟨va0, vc0, rfl⟩ := own_slice ho
          have H2 := Lib.hid (And.intro (hC.blk (heap_alloc_eq wr _) (by simp)) (And.intro (((Chg.refl [] wr).alloc _).trans hC) (own_mono ho ((Chg.refl [] wr).alloc _).size)))
          clear ho hC
          rw [← HF.out.2.2] at H2 ⊢
          go_wp2_with fail
          refine (cmutexc cb ab mb k L M w2 (HK.out.1.calm H2.out.2.1)).mono ?_
          rintro e w3 ⟨rfl, hC⟩
          rw [← HF.out.1, ← HF.out.2.1]
          have hb3 := hC.blk H2.out.1 (by simp)
          have x0 := cellB hb3 (i := 0) rfl
          have x1 := cellB hb3 (i := 1) rfl
          have x2 := cellB hb3 (i := 2) rfl
          have x3 := cellB hb3 (i := 3) rfl
          have H3 := Lib.hid (And.intro (HK.out.1.calm (H2.out.2.1.trans hC)) (And.intro (H2.out.2.1.trans hC) (And.intro (own_kept H2.out.2.2 hC (by simp)) hb3)))
          clear hC hb3 H2
          go_wp2_with fail
          refine (csignalc cb ab mb k L M w3 H3.out.1).mono ?_
          rintro e w4 ⟨rfl, hW, hC⟩
          rw [HO.out.1]
          rw [HO.out.2] at hW
          simp only [headT, headB]
          obtain ⟨L2, hL2⟩ : ∃ X, X = L := ⟨_, rfl⟩
          obtain ⟨M2, hM2⟩ : ∃ X, X = M := ⟨_, rfl⟩
          have HW : Hid (CAt w4 cb ab mb (k + 1) L2 M2 ∧ Chg [] w w4) := by rw [hL2, hM2]; exact ⟨hW.mono (by omega), HK.out.2.trans' ((H3.out.2.1.mono (by simp)).trans (hC.mono (by simp)) : Chg [cb, ab, mb] wr _) (fun j hj => .inr (HGe.out j (by simp at hj ⊢; omega)))⟩
          have HI : Hid (muB L = true → muB L2 = true → muM L2 M2 = muM L M) := by rw [hL2, hM2]; exact HQ.out L
          clear hW hC hL2 hM2 x0 x1 x2 x3
          go_wp2
          go_quiet (fail)
          have HZ : Hid (CAt (w4.drewN nq) cb ab mb (k + 1) L2 M2 ∧ Chg [] w (w4.drewN nq)) := ⟨HW.out.1.calm ((Chg.refl [] w4).drewN nq), HW.out.2.drewN nq⟩
          obtain ⟨b2, hb2⟩ : ∃ b, b = muB L2 := ⟨_, rfl⟩
          obtain ⟨z2, hz2⟩ : ∃ z, z = muM L2 M2 := ⟨_, rfl⟩
          obtain ⟨n2, hn2⟩ : ∃ n : Int, n = (L2.length : Int) := ⟨_, rfl⟩
          have hd : decide ((0 : Int) < n2) = b2 := by rw [hn2, hb2]; exact muB_dec L2
          have hMu := cmutexc cb ab mb _ L2 M2 _ HZ.out.1
          have hLn := fun (W : World) (h : CAt W cb ab mb (k + 1) L2 M2) => clenc cb ab mb (k + 1) L2 M2 W h
          simp only [← hn2] at hLn
          rw [← hb2, ← hz2] at hMu
          have hx := HI.out
          rw [← hb2, ← hz2] at hx
          have HMu := Lib.hid (And.intro hMu hLn)
          clear hMu hLn hb2 hz2 hn2 HI
          cases b2
          all_goals
            have hx1 : (z2 != mM) = false ∨ True := .inr trivial
            try replace hx1 : (z2 != mM) = false := by rw [hx HF.out.1.symm rfl, ← HF.out.2.1]; simp
            clear hx
            go_wp2_with fail
            refine HMu.out.1.mono ?_
            rintro e wa ⟨rfl, hCa⟩
            have HA := Lib.hid hCa
            clear hCa
            go_wp2_with fail
            refine (HMu.out.2 wa (HZ.out.1.calm HA.out)).mono ?_
            rintro e wb ⟨rfl, hCb⟩
            have HBb := Lib.hid (HA.out.trans hCb)
            clear hCb
            go_wp2
            go_roundw
            case rel => exact ⟨k + 1, L2, M2, by omega, by omega, by go_num, by rw [Int.natCast_add]; exact HZ.out.1.calm HBb.out, HZ.out.2.trans HBb.out⟩
            case measure => simp [intOf]; omega
      · as_aux_lemma =>
        -- Signal, somebody
        obtain ⟨x, r, ho'⟩ : ∃ x r, ordL L = x :: r := by
          cases h : ordL L with
          | nil => exact absurd h ho
          | cons x r => exact ⟨x, r, rfl⟩
        obtain ⟨t0, p0⟩ := x
        have hT : ordT (takeL L) = r.map (·.1) := by unfold ordT; rw [ord_take HK.out.1.list.lok, ho']; rfl
        have hoT : ordT L = t0 :: r.map (·.1) := by unfold ordT; rw [ho']; rfl
        have hn1 : 1 ≤ n0 := by rw [HF.out.2.2, hoT]; simp
        have hn2 : (1 : Int) ≤ (n0 : Int) := by omega
        have hn00 : 0 < n0 := by omega
        have htt : (t0 != t0) = false := by simp
        have HO := Lib.hid (And.intro ho' (And.intro hT hoT))
        clear ho ho' hT hoT
        cases mB
        all_goals as_aux_lemma =>
          go_wp2_with fail
          refine (clistc cb ab mb k L M _ (HK.out.1.calm ((Chg.refl [] wr).alloc (.cells #[.int .i64 _, .int .i64 t, .int .i64 p, .int .i64 m] 27)))).mono ?_
          rintro e w2 ⟨v0, rfl, ho, hC⟩
          obtain ⟨va0, vc0, rfl⟩ := own_slice ho
          have H2 := Lib.hid (And.intro (hC.blk (heap_alloc_eq wr _) (by simp)) (And.intro (((Chg.refl [] wr).alloc _).trans hC) (own_mono ho ((Chg.refl [] wr).alloc _).size)))
          clear ho hC
          rw [← HF.out.2.2] at H2 ⊢
          go_wp2_with fail
          refine (cmutexc cb ab mb k L M w2 (HK.out.1.calm H2.out.2.1)).mono ?_
          rintro e w3 ⟨rfl, hC⟩
          rw [← HF.out.1, ← HF.out.2.1]
          have hb3 := hC.blk H2.out.1 (by simp)
          have x0 := cellB hb3 (i := 0) rfl
          have x1 := cellB hb3 (i := 1) rfl
          have x2 := cellB hb3 (i := 2) rfl
          have x3 := cellB hb3 (i := 3) rfl
          have H3 := Lib.hid (And.intro (HK.out.1.calm (H2.out.2.1.trans hC)) (And.intro (H2.out.2.1.trans hC) (And.intro (own_kept H2.out.2.2 hC (by simp)) hb3)))
          clear hC hb3 H2
          obtain ⟨g0, cap0, cur, hva, hge0, hgb, hcap, hcm, _, hcur⟩ := own_blk H3.out.2.2.1 (by omega)
          simp only [Value.slice.injEq] at hva
          obtain ⟨rfl, -, rfl⟩ := hva
          have hx1 : cur[0]? = some (.int .i64 t0) := own_take hcur 0 _ (by rw [HO.out.2.2]; rfl)
          obtain ⟨A, hA, hA2⟩ : ∃ A, (if vc0 = 1 then (some ⟨g0, 0, none⟩ : Option Addr) else some ⟨g0, 1, none⟩) = some A ∧ ∀ W : World, W.heap[g0]? = some (.cells cur 3 (0, 0)) → IsInts W (.slice (some A) (n0 - 1) (vc0 - 1)) (r.map (·.1)) := by
            by_cases h1 : vc0 = 1
            · refine ⟨⟨g0, 0, none⟩, by rw [if_pos h1], fun W hW => .inl ⟨?_, some ⟨g0, 0, none⟩, vc0 - 1, by rw [show n0 - 1 = 0 by omega]⟩⟩
              have := HF.out.2.2
              rw [HO.out.2.2, List.length_cons] at this
              exact List.eq_nil_of_length_eq_zero (by omega)
            · refine ⟨⟨g0, 1, none⟩, by rw [if_neg h1], fun W hW => .inr ⟨g0, 1, vc0 - 1, ?_, fun j u hj => ?_⟩⟩
              · have := HF.out.2.2
                rw [HO.out.2.2, List.length_cons] at this
                rw [show n0 - 1 = (r.map (·.1)).length by omega]
              · refine cellB hW (own_take hcur (1 + j) _ ?_)
                rw [HO.out.2.2, List.map_cons, Nat.add_comm 1 j, List.getElem?_cons_succ, List.getElem?_map, hj]
                rfl
          have hg1 : g0 ∉ [ab, mb] := by have := HK.out.1.lt; simp; omega
          have HA2 := Lib.hid (And.intro hA2 (And.intro hgb (And.intro hcur hx1)))
          clear hA2 hgb hcur hx1 hcm
          go_wp2_with fail
          refine (csignalc cb ab mb k L M w3 H3.out.1).mono ?_
          rintro e w4 ⟨rfl, hW, hC⟩
          rw [HO.out.1]
          simp only [headT, headB]
          have hgb4 := hC.blk HA2.out.2.1 hg1
          have c0 : w4.cell? ⟨g0, 0, none⟩ = some (.int .i64 t0) := cellB hgb4 HA2.out.2.2.2
          have HW := Lib.hid (And.intro (hW.mono (show (k : Int) ≤ k + 1 by omega)) (And.intro (HK.out.2.trans' ((H3.out.2.1.mono (by simp)).trans (hC.mono (by simp)) : Chg [cb, ab, mb] wr _) (fun j hj => .inr (HGe.out j (by simp at hj ⊢; omega)))) hgb4))
          have HI := Lib.hid (HQ.out (takeL L))
          have hTT := HO.out.2.1
          generalize takeL L = L2 at *
          have HTT := Lib.hid hTT
          clear hW hC x0 x1 x2 x3 hgb4 hg1 hTT
          obtain ⟨M2, hM2⟩ : ∃ X, X = M := ⟨_, rfl⟩
          rw [← hM2] at HW
          have HI : Hid (muB L = true → muB L2 = true → muM L2 M2 = muM L M) := by rw [hM2]; exact HI.out
          have HWd := Lib.hid (HW.out.1.calm (Chg.refl [] w4).drew)
          go_wp2
          go_region_held3 (fun w' => w'.cell? ⟨g0, 0, none⟩ = some (.int .i64 t0)) (first | exact c0 | exact y0 | exact z0)
            (first
            | (go_at_call 9; refine (clistc cb ab mb _ L2 M2 _ HWd.out).mono ?_; rintro e w5 ⟨v5, rfl, ho5, hC⟩; have H5 := Lib.hid (And.intro (IsInts.of_own ho5) ((Chg.refl [] w4).drew.trans hC)); clear ho5 hC; have hgb5 := H5.out.2.blk HW.out.2.2 (by simp); have y0 : w5.cell? ⟨g0, 0, none⟩ = some (.int .i64 t0) := cellB hgb5 HA2.out.2.2.2)
            | (go_at_call 14; refine (sameInts_any v5 _ (ordT L2) (r.map (·.1)) w5 H5.out.1 (HA2.out.1 w5 hgb5) (by rw [HTT.out]; have := HF.out.2.2; rw [HO.out.2.2, List.length_cons] at this; omega) (by have := HF.out.2.2; rw [HO.out.2.2, List.length_cons] at this; omega)).mono ?_; rintro e w6 ⟨rfl, hC⟩; rw [show decide (ordT L2 = r.map (·.1)) = true from decide_eq_true HTT.out]; have H6 := Lib.hid (H5.out.2.trans hC); have z0 : w6.cell? ⟨g0, 0, none⟩ = some (.int .i64 t0) := cellB (hC.blk hgb5 (by simp)) HA2.out.2.2.2; clear hC))
          have HZ := Lib.hid (And.intro (HW.out.1.calm H6.out) (HW.out.2.1.trans H6.out))
          obtain ⟨b2, hb2⟩ : ∃ b, b = muB L2 := ⟨_, rfl⟩
          obtain ⟨z2, hz2⟩ : ∃ z, z = muM L2 M2 := ⟨_, rfl⟩
          obtain ⟨n2, hn2⟩ : ∃ n : Int, n = (L2.length : Int) := ⟨_, rfl⟩
          have hd : decide ((0 : Int) < n2) = b2 := by rw [hn2, hb2]; exact muB_dec L2
          have hMu := cmutexc cb ab mb _ L2 M2 _ HZ.out.1
          have hLn := fun (W : World) (h : CAt W cb ab mb (k + 1) L2 M2) => clenc cb ab mb (k + 1) L2 M2 W h
          simp only [← hn2] at hLn
          rw [← hb2, ← hz2] at hMu
          have hx := HI.out
          rw [← hb2, ← hz2] at hx
          have HMu := Lib.hid (And.intro hMu hLn)
          clear hMu hLn hb2 hz2 hn2 HI
          cases b2
          all_goals
            have hx1 : (z2 != mM) = false ∨ True := .inr trivial
            try replace hx1 : (z2 != mM) = false := by rw [hx HF.out.1.symm rfl, ← HF.out.2.1]; simp
            clear hx
            go_wp2_with fail
            refine HMu.out.1.mono ?_
            rintro e wa ⟨rfl, hCa⟩
            have HA := Lib.hid hCa
            clear hCa
            go_wp2_with fail
            refine (HMu.out.2 wa (HZ.out.1.calm HA.out)).mono ?_
            rintro e wb ⟨rfl, hCb⟩
            have HBb := Lib.hid (HA.out.trans hCb)
            clear hCb
            go_wp2
            go_roundw
            case rel => exact ⟨k + 1, L2, M2, by omega, by omega, by go_num, by rw [Int.natCast_add]; exact HZ.out.1.calm HBb.out, HZ.out.2.trans HBb.out⟩
            case measure => simp [intOf]; omega
      · as_aux_lemma =>
        -- Broadcast
        cases mB
        all_goals as_aux_lemma =>
          go_wp2_with fail
          refine (clistc cb ab mb k L M _ (HK.out.1.calm ((Chg.refl [] wr).alloc (.cells #[.int .i64 _, .int .i64 t, .int .i64 p, .int .i64 m] 27)))).mono ?_
          rintro e w2 ⟨v0, rfl, ho, hC⟩
          obtain ⟨va0, vc0, rfl⟩ := own_slice ho
          have H2 := Lib.hid (And.intro (hC.blk (heap_alloc_eq wr _) (by simp)) (And.intro (((Chg.refl [] wr).alloc _).trans hC) (own_mono ho ((Chg.refl [] wr).alloc _).size)))
          clear ho hC
          rw [← HF.out.2.2] at H2 ⊢
          go_wp2_with fail
          refine (cmutexc cb ab mb k L M w2 (HK.out.1.calm H2.out.2.1)).mono ?_
          rintro e w3 ⟨rfl, hC⟩
          rw [← HF.out.1, ← HF.out.2.1]
          have hb3 := hC.blk H2.out.1 (by simp)
          have x0 := cellB hb3 (i := 0) rfl
          have x1 := cellB hb3 (i := 1) rfl
          have x2 := cellB hb3 (i := 2) rfl
          have x3 := cellB hb3 (i := 3) rfl
          have H3 := Lib.hid (And.intro (HK.out.1.calm (H2.out.2.1.trans hC)) (And.intro (H2.out.2.1.trans hC) (And.intro (own_kept H2.out.2.2 hC (by simp)) hb3)))
          clear hC hb3 H2
          go_wp2_with fail
          refine (cbroadc cb ab mb k L M w3 H3.out.1).mono ?_
          rintro e w4 ⟨v4, rfl, ho4, hW, hC⟩
          have H4 := Lib.hid (And.intro (IsInts.of_own ho4) (And.intro (own_kept H3.out.2.2.1 hC (fun j hj => own_notin H3.out.2.2.1 (by have := HK.out.1.lt; simp at hj; omega))) (And.intro (hW.mono (show (k : Int) ≤ k + 1 by omega)) (HK.out.2.trans' ((H3.out.2.1.mono (by simp)).trans (hC.mono (by simp)) : Chg [cb, ab, mb] wr _) (fun j hj => .inr (HGe.out j (by simp at hj ⊢; omega)))))))
          clear ho4 hC hW x0 x1 x2 x3
          go_wp2_with fail
          refine (sameInts_any v4 _ (ordT L) (ordT L) w4 H4.out.1 (IsInts.of_own' HF.out.2.2 H4.out.2.1) (by have := HF.out.2.2; omega) (by have := HF.out.2.2; omega)).mono ?_
          rintro e w5 ⟨rfl, hC⟩
          rw [show decide (ordT L = ordT L) = true from decide_eq_true rfl]
          have H5 := Lib.hid (And.intro (H4.out.2.2.1.calm hC) (H4.out.2.2.2.trans hC))
          clear hC
          go_wp2_with fail
          refine (clenc cb ab mb _ [] M w5 H5.out.1).mono ?_
          rintro e w6 ⟨rfl, hC⟩
          rw [show ((([] : WL).length : Nat) : Int) = 0 from rfl]
          obtain ⟨L2, hL2⟩ : ∃ X, X = ([] : WL) := ⟨_, rfl⟩
          obtain ⟨M2, hM2⟩ : ∃ X, X = M := ⟨_, rfl⟩
          have HZ : Hid (CAt w6 cb ab mb (k + 1) L2 M2 ∧ Chg [] w w6) := by rw [hL2, hM2]; exact ⟨H5.out.1.calm hC, H5.out.2.trans hC⟩
          have HI : Hid (muB L = true → muB L2 = true → muM L2 M2 = muM L M) := by rw [hL2, hM2]; exact HQ.out []
          clear hC hL2 hM2
          obtain ⟨b2, hb2⟩ : ∃ b, b = muB L2 := ⟨_, rfl⟩
          obtain ⟨z2, hz2⟩ : ∃ z, z = muM L2 M2 := ⟨_, rfl⟩
          obtain ⟨n2, hn2⟩ : ∃ n : Int, n = (L2.length : Int) := ⟨_, rfl⟩
          have hd : decide ((0 : Int) < n2) = b2 := by rw [hn2, hb2]; exact muB_dec L2
          have hMu := cmutexc cb ab mb _ L2 M2 _ HZ.out.1
          have hLn := fun (W : World) (h : CAt W cb ab mb (k + 1) L2 M2) => clenc cb ab mb (k + 1) L2 M2 W h
          simp only [← hn2] at hLn
          rw [← hb2, ← hz2] at hMu
          have hx := HI.out
          rw [← hb2, ← hz2] at hx
          have HMu := Lib.hid (And.intro hMu hLn)
          clear hMu hLn hb2 hz2 hn2 HI
          cases b2
          all_goals
            have hx1 : (z2 != mM) = false ∨ True := .inr trivial
            try replace hx1 : (z2 != mM) = false := by rw [hx HF.out.1.symm rfl, ← HF.out.2.1]; simp
            clear hx
            go_wp2_with fail
            refine HMu.out.1.mono ?_
            rintro e wa ⟨rfl, hCa⟩
            have HA := Lib.hid hCa
            clear hCa
            go_wp2_with fail
            refine (HMu.out.2 wa (HZ.out.1.calm HA.out)).mono ?_
            rintro e wb ⟨rfl, hCb⟩
            have HBb := Lib.hid (HA.out.trans hCb)
            clear hCb
            go_wp2
            go_roundw
            case rel => exact ⟨k + 1, L2, M2, by omega, by omega, by go_num, by rw [Int.natCast_add]; exact HZ.out.1.calm HBb.out, HZ.out.2.trans HBb.out⟩
            case measure => simp [intOf]; omega
      · as_aux_lemma =>
        -- Leave
        cases mB
        all_goals as_aux_lemma =>
          go_wp2_with fail
          refine (clistc cb ab mb k L M _ (HK.out.1.calm ((Chg.refl [] wr).alloc (.cells #[.int .i64 _, .int .i64 t, .int .i64 p, .int .i64 m] 27)))).mono ?_
          rintro e w2 ⟨v0, rfl, ho, hC⟩
          obtain ⟨va0, vc0, rfl⟩ := own_slice ho
          have H2 := Lib.hid (And.intro (hC.blk (heap_alloc_eq wr _) (by simp)) (And.intro (((Chg.refl [] wr).alloc _).trans hC) (own_mono ho ((Chg.refl [] wr).alloc _).size)))
          clear ho hC
          rw [← HF.out.2.2] at H2 ⊢
          go_wp2_with fail
          refine (cmutexc cb ab mb k L M w2 (HK.out.1.calm H2.out.2.1)).mono ?_
          rintro e w3 ⟨rfl, hC⟩
          rw [← HF.out.1, ← HF.out.2.1]
          have hb3 := hC.blk H2.out.1 (by simp)
          have x0 := cellB hb3 (i := 0) rfl
          have x1 := cellB hb3 (i := 1) rfl
          have x2 := cellB hb3 (i := 2) rfl
          have x3 := cellB hb3 (i := 3) rfl
          have H3 := Lib.hid (And.intro (HK.out.1.calm (H2.out.2.1.trans hC)) (And.intro (H2.out.2.1.trans hC) (And.intro (own_kept H2.out.2.2 hC (by simp)) hb3)))
          clear hC hb3 H2
          go_wp2_with fail
          refine (cleavec cb ab mb k L M t w3 H3.out.1).mono ?_
          rintro e w4 ⟨rfl, hW, hC⟩
          obtain ⟨L2, hL2⟩ : ∃ X, X = lvL L t := ⟨_, rfl⟩
          obtain ⟨M2, hM2⟩ : ∃ X, X = M := ⟨_, rfl⟩
          have HZ : Hid (CAt w4 cb ab mb (k + 1) L2 M2 ∧ Chg [] w w4) := by rw [hL2, hM2]; exact ⟨hW.mono (by omega), HK.out.2.trans' ((H3.out.2.1.mono (by simp)).trans (hC.mono (by simp)) : Chg [cb, ab, mb] wr _) (fun j hj => .inr (HGe.out j (by simp at hj ⊢; omega)))⟩
          have HI : Hid (muB L = true → muB L2 = true → muM L2 M2 = muM L M) := by rw [hL2, hM2]; exact HQ.out _
          generalize askR L t 1 true = re
          clear hW hC hL2 hM2 x0 x1 x2 x3
          obtain ⟨b2, hb2⟩ : ∃ b, b = muB L2 := ⟨_, rfl⟩
          obtain ⟨z2, hz2⟩ : ∃ z, z = muM L2 M2 := ⟨_, rfl⟩
          obtain ⟨n2, hn2⟩ : ∃ n : Int, n = (L2.length : Int) := ⟨_, rfl⟩
          have hd : decide ((0 : Int) < n2) = b2 := by rw [hn2, hb2]; exact muB_dec L2
          have hMu := cmutexc cb ab mb _ L2 M2 _ HZ.out.1
          have hLn := fun (W : World) (h : CAt W cb ab mb (k + 1) L2 M2) => clenc cb ab mb (k + 1) L2 M2 W h
          simp only [← hn2] at hLn
          rw [← hb2, ← hz2] at hMu
          have hx := HI.out
          rw [← hb2, ← hz2] at hx
          have HMu := Lib.hid (And.intro hMu hLn)
          clear hMu hLn hb2 hz2 hn2 HI
          cases b2
          all_goals
            have hx1 : (z2 != mM) = false ∨ True := .inr trivial
            try replace hx1 : (z2 != mM) = false := by rw [hx HF.out.1.symm rfl, ← HF.out.2.1]; simp
            clear hx
            go_wp2_with fail
            refine HMu.out.1.mono ?_
            rintro e wa ⟨rfl, hCa⟩
            have HA := Lib.hid hCa
            clear hCa
            go_wp2_with fail
            refine (HMu.out.2 wa (HZ.out.1.calm HA.out)).mono ?_
            rintro e wb ⟨rfl, hCb⟩
            have HBb := Lib.hid (HA.out.trans hCb)
            clear hCb
            go_wp2
            go_roundw
            case rel => exact ⟨k + 1, L2, M2, by omega, by omega, by go_num, by rw [Int.natCast_add]; exact HZ.out.1.calm HBb.out, HZ.out.2.trans HBb.out⟩
            case measure => simp [intOf]; omega
      · as_aux_lemma =>
        -- Change
        cases mB
        all_goals as_aux_lemma =>
          go_wp2_with fail
          refine (clistc cb ab mb k L M _ (HK.out.1.calm ((Chg.refl [] wr).alloc (.cells #[.int .i64 _, .int .i64 t, .int .i64 p, .int .i64 m] 27)))).mono ?_
          rintro e w2 ⟨v0, rfl, ho, hC⟩
          obtain ⟨va0, vc0, rfl⟩ := own_slice ho
          have H2 := Lib.hid (And.intro (hC.blk (heap_alloc_eq wr _) (by simp)) (And.intro (((Chg.refl [] wr).alloc _).trans hC) (own_mono ho ((Chg.refl [] wr).alloc _).size)))
          clear ho hC
          rw [← HF.out.2.2] at H2 ⊢
          go_wp2_with fail
          refine (cmutexc cb ab mb k L M w2 (HK.out.1.calm H2.out.2.1)).mono ?_
          rintro e w3 ⟨rfl, hC⟩
          rw [← HF.out.1, ← HF.out.2.1]
          have hb3 := hC.blk H2.out.1 (by simp)
          have x0 := cellB hb3 (i := 0) rfl
          have x1 := cellB hb3 (i := 1) rfl
          have x2 := cellB hb3 (i := 2) rfl
          have x3 := cellB hb3 (i := 3) rfl
          have H3 := Lib.hid (And.intro (HK.out.1.calm (H2.out.2.1.trans hC)) (And.intro (H2.out.2.1.trans hC) (And.intro (own_kept H2.out.2.2 hC (by simp)) hb3)))
          clear hC hb3 H2
          go_wp2_with fail
          refine (cchangec cb ab mb k L M t p w3 H3.out.1).mono ?_
          rintro e w4 ⟨rfl, hW, hC⟩
          obtain ⟨L2, hL2⟩ : ∃ X, X = chgL L t p := ⟨_, rfl⟩
          obtain ⟨M2, hM2⟩ : ∃ X, X = M := ⟨_, rfl⟩
          have HZ : Hid (CAt w4 cb ab mb (k + 1) L2 M2 ∧ Chg [] w w4) := by rw [hL2, hM2]; exact ⟨hW.mono (by omega), HK.out.2.trans' ((H3.out.2.1.mono (by simp)).trans (hC.mono (by simp)) : Chg [cb, ab, mb] wr _) (fun j hj => .inr (HGe.out j (by simp at hj ⊢; omega)))⟩
          have HI : Hid (muB L = true → muB L2 = true → muM L2 M2 = muM L M) := by rw [hL2, hM2]; exact HQ.out _
          generalize askR L t p true = re
          clear hW hC hL2 hM2 x0 x1 x2 x3
          obtain ⟨b2, hb2⟩ : ∃ b, b = muB L2 := ⟨_, rfl⟩
          obtain ⟨z2, hz2⟩ : ∃ z, z = muM L2 M2 := ⟨_, rfl⟩
          obtain ⟨n2, hn2⟩ : ∃ n : Int, n = (L2.length : Int) := ⟨_, rfl⟩
          have hd : decide ((0 : Int) < n2) = b2 := by rw [hn2, hb2]; exact muB_dec L2
          have hMu := cmutexc cb ab mb _ L2 M2 _ HZ.out.1
          have hLn := fun (W : World) (h : CAt W cb ab mb (k + 1) L2 M2) => clenc cb ab mb (k + 1) L2 M2 W h
          simp only [← hn2] at hLn
          rw [← hb2, ← hz2] at hMu
          have hx := HI.out
          rw [← hb2, ← hz2] at hx
          have HMu := Lib.hid (And.intro hMu hLn)
          clear hMu hLn hb2 hz2 hn2 HI
          cases b2
          all_goals
            have hx1 : (z2 != mM) = false ∨ True := .inr trivial
            try replace hx1 : (z2 != mM) = false := by rw [hx HF.out.1.symm rfl, ← HF.out.2.1]; simp
            clear hx
            go_wp2_with fail
            refine HMu.out.1.mono ?_
            rintro e wa ⟨rfl, hCa⟩
            have HA := Lib.hid hCa
            clear hCa
            go_wp2_with fail
            refine (HMu.out.2 wa (HZ.out.1.calm HA.out)).mono ?_
            rintro e wb ⟨rfl, hCb⟩
            have HBb := Lib.hid (HA.out.trans hCb)
            clear hCb
            go_wp2
            go_roundw
            case rel => exact ⟨k + 1, L2, M2, by omega, by omega, by go_num, by rw [Int.natCast_add]; exact HZ.out.1.calm HBb.out, HZ.out.2.trans HBb.out⟩
            case measure => simp [intOf]; omega
      · as_aux_lemma =>
        -- nothing
        cases mB
        all_goals as_aux_lemma =>
          go_wp2_with fail
          refine (clistc cb ab mb k L M _ (HK.out.1.calm ((Chg.refl [] wr).alloc (.cells #[.int .i64 _, .int .i64 t, .int .i64 p, .int .i64 m] 27)))).mono ?_
          rintro e w2 ⟨v0, rfl, ho, hC⟩
          obtain ⟨va0, vc0, rfl⟩ := own_slice ho
          have H2 := Lib.hid (And.intro (hC.blk (heap_alloc_eq wr _) (by simp)) (And.intro (((Chg.refl [] wr).alloc _).trans hC) (own_mono ho ((Chg.refl [] wr).alloc _).size)))
          clear ho hC
          rw [← HF.out.2.2] at H2 ⊢
          go_wp2_with fail
          refine (cmutexc cb ab mb k L M w2 (HK.out.1.calm H2.out.2.1)).mono ?_
          rintro e w3 ⟨rfl, hC⟩
          rw [← HF.out.1, ← HF.out.2.1]
          have hb3 := hC.blk H2.out.1 (by simp)
          have x0 := cellB hb3 (i := 0) rfl
          have x1 := cellB hb3 (i := 1) rfl
          have x2 := cellB hb3 (i := 2) rfl
          have x3 := cellB hb3 (i := 3) rfl
          have H3 := Lib.hid (And.intro (HK.out.1.calm (H2.out.2.1.trans hC)) (And.intro (H2.out.2.1.trans hC) (And.intro (own_kept H2.out.2.2 hC (by simp)) hb3)))
          clear hC hb3 H2
          obtain ⟨L2, hL2⟩ : ∃ X, X = L := ⟨_, rfl⟩
          obtain ⟨M2, hM2⟩ : ∃ X, X = M := ⟨_, rfl⟩
          have HZ : Hid (CAt w3 cb ab mb (k + 1) L2 M2 ∧ Chg [] w w3) := by rw [hL2, hM2]; exact ⟨H3.out.1.mono (by omega), HK.out.2.trans H3.out.2.1⟩
          have HI : Hid (muB L = true → muB L2 = true → muM L2 M2 = muM L M) := by rw [hL2, hM2]; exact HQ.out L
          clear hL2 hM2
          obtain ⟨b2, hb2⟩ : ∃ b, b = muB L2 := ⟨_, rfl⟩
          obtain ⟨z2, hz2⟩ : ∃ z, z = muM L2 M2 := ⟨_, rfl⟩
          obtain ⟨n2, hn2⟩ : ∃ n : Int, n = (L2.length : Int) := ⟨_, rfl⟩
          have hd : decide ((0 : Int) < n2) = b2 := by rw [hn2, hb2]; exact muB_dec L2
          have hMu := cmutexc cb ab mb _ L2 M2 _ HZ.out.1
          have hLn := fun (W : World) (h : CAt W cb ab mb (k + 1) L2 M2) => clenc cb ab mb (k + 1) L2 M2 W h
          simp only [← hn2] at hLn
          rw [← hb2, ← hz2] at hMu
          have hx := HI.out
          rw [← hb2, ← hz2] at hx
          have HMu := Lib.hid (And.intro hMu hLn)
          clear hMu hLn hb2 hz2 hn2 HI
          cases b2
          all_goals
            have hx1 : (z2 != mM) = false ∨ True := .inr trivial
            try replace hx1 : (z2 != mM) = false := by rw [hx HF.out.1.symm rfl, ← HF.out.2.1]; simp
            clear hx
            go_wp2_with fail
            refine HMu.out.1.mono ?_
            rintro e wa ⟨rfl, hCa⟩
            have HA := Lib.hid hCa
            clear hCa
            go_wp2_with fail
            refine (HMu.out.2 wa (HZ.out.1.calm HA.out)).mono ?_
            rintro e wb ⟨rfl, hCb⟩
            have HBb := Lib.hid (HA.out.trans hCb)
            clear hCb
            go_wp2
            go_roundw
            case rel => exact ⟨k + 1, L2, M2, by omega, by omega, by go_num, by rw [Int.natCast_add]; exact HZ.out.1.calm HBb.out, HZ.out.2.trans HBb.out⟩
            case measure => simp [intOf]; omega
    all_goals
      clear hG
      go_wp2_with fail
      refine (cbroadc cb ab mb k L M wr HK.out.1).mono ?_
      rintro e w5 ⟨v, rfl, ho, hW, hC⟩
      have H5 := Lib.hid (And.intro hW (HK.out.2.trans' hC (fun j hj => .inr (HGe.out j (by simp at hj ⊢; omega)))))
      clear ho hW hC
      go_wp2_with fail
      refine (cwaitc cb ab mb k [] M 0 1 4611686018427387904 w5 H5.out.1 (by omega)).mono ?_
      rintro e w6 ⟨rfl, hW, hC⟩
      rw [show cwR [] M 0 1 4611686018427387904 = 0 by unfold cwR; rw [show askR [] 0 1 false = 0 by decide, if_neg (by decide), if_neg (by decide), if_neg (by simp)]]
      have H6 := Lib.hid (H5.out.2.trans' hC (fun j hj => .inr (HGe.out j (by simp at hj ⊢; omega))))
      clear hW hC
      go_wp2_with (first | fail | (go_at_call 12; go_in))
      go_ret
      exact ⟨rfl, H6.out⟩

end Go.Proofs.Ytjdefbkppjdokaa
