
/- metronomelaw14.SemCounts answers true, whatever the value and the steps (written by wip/counts14.py). -/
import Derived.Test.YtknngbnkcbcanaaSKnown
import Derived.Test.YtknngbnkcbcanaaRow
import Derived.Test.YtknngbnkcbcanaaOrd
namespace Go.Proofs.Ytknngbnkcbcanaa
open Go.RowKit

theorem IsInts.of_own' {w : World} {B n : Nat} {e : TypeId} {v : Value} {ts : List Int} (hn : n = ts.length) (h : w.ownsRow B e 1 v n (ts.map (Value.int .i64))) : IsInts w v ts := by
  subst hn; exact .of_own h

set_option maxRecDepth 100000 in
set_option maxHeartbeats 8000000 in
theorem semCounts_any (V0 : Int) (v : Value) (R : List (Nat → Int)) (w : World) (hv : IsRows 3 w v R) :
    Calls Try.prog 3 #[.int .i64 V0, v] w fun e w' => e = .returned (.bool true) ∧ Chg [] w w' := by
  obtain ⟨a, cap, rfl⟩ := hv.slice
  have HV := Lib.hid hv
  clear hv
  by_cases hin : 0 ≤ V0 ∧ V0 ≤ 32767
  · obtain ⟨u0, u1⟩ := hin
    go_enter Try.func3, Try.ntmps3
    go_wp2_with fail
    refine (known14 w).mono ?_
    rintro e w0 ⟨rfl, hC0⟩
    have H0 := Lib.hid hC0
    clear hC0
    go_wp2_with fail
    refine (snewc V0 w0 u0 u1).mono ?_
    rintro e w1 ⟨cb, ab, mb, rfl, hcb, hab, hmb, hW1, hC1⟩
    have hs0 := H0.out.size
    have H1 := Lib.hid (And.intro hW1 (And.intro (H0.out.trans hC1) (show ∀ j ∈ [cb, ab, mb], w.heap.size ≤ j from fun j hj => by simp at hj; omega)))
    clear hcb hab hmb hW1 hC1 hs0 H0
    go_wp2_with (first | fail | (go_at_call 9; refine (snumc _ _).mono ?_; rintro e wz ⟨rfl, rfl⟩))
    go_loopw [7, 8] (fun n i wr => ∃ (k : Nat) (L : WL) (V : Int), k ≤ R.length ∧ k ≤ 200 ∧ n = .int .i64 V ∧ i = .int .i64 k ∧ SAt wr cb ab mb (2 * k) L V ∧ 0 ≤ V ∧ V ≤ 32767 ∧ (V = 0 ∨ L = []) ∧ Chg [] w wr) (fun _ i _ => 200 - (intOf i).toNat)
    case atStart => exact ⟨0, [], V0, by omega, by omega, rfl, rfl, H1.out.1, u0, u1, .inr rfl, H1.out.2.1⟩
    case round =>
      clear u0 u1
      obtain ⟨k, L, V, hk1, hk2, rfl, rfl, hT, g0, g1, gI, hG⟩ := hrel
      have HGe := Lib.hid H1.out.2.2
      have HK := Lib.hid (And.intro hT hG)
      clear hT H1
      have hcase : (k < R.length ∧ k < 200) ∨ (¬ k < R.length) ∨ (k < R.length ∧ ¬ k < 200) := by omega
      rcases hcase with ⟨hlt, hlt2⟩ | hlt | ⟨hlt, hlt2⟩
      · have hne : R ≠ [] := fun e => by rw [e] at hlt; simp at hlt
        obtain ⟨g, o, cap', hsl, hcells⟩ := HV.out.addr hne
        cases hsl
        obtain ⟨x, hx⟩ : ∃ x, R[k]? = some x := ⟨_, List.getElem?_eq_getElem hlt⟩
        have hrow := IsRows.row hcells hG hx
        have d0 := hrow 0 (by omega)
        have d1 := hrow 1 (by omega)
        have d2 := hrow 2 (by omega)
        rw [Nat.add_zero] at d0
        clear hcells hrow hx hG hne
        generalize x 0 = kd at *
        generalize x 1 = t at *
        generalize x 2 = p at *
        obtain ⟨n0, hn0⟩ : ∃ n, n = (ordT L).length := ⟨_, rfl⟩
        have hlen : n0 = L.length := by rw [hn0]; unfold ordT; rw [List.length_map, ordT_len HK.out.1.list.lok]
        have hle : n0 ≤ 16 := by rw [hlen]; exact HK.out.1.list.facts.2.2
        have HF := Lib.hid (And.intro hn0 (And.intro hlen gI))
        clear hlen hn0
        have hk8 : (kd = 1 ∧ askR L t p false ≠ 0) ∨ (kd = 1 ∧ askR L t p false = 0 ∧ V ≠ 0) ∨ (kd = 1 ∧ askR L t p false = 0 ∧ V = 0 ∧ L = []) ∨ (kd = 1 ∧ askR L t p false = 0 ∧ V = 0 ∧ L ≠ []) ∨ (kd = 2 ∧ V = 0) ∨ (kd = 2 ∧ V ≠ 0) ∨ (kd = 3 ∧ L ≠ []) ∨ (kd = 3 ∧ L = [] ∧ V = 32767) ∨ (kd = 3 ∧ L = [] ∧ V ≠ 32767) ∨ kd = 4 ∨ kd = 5 ∨ ((kd == 1) = false ∧ (kd == 2) = false ∧ (kd == 3) = false ∧ (kd == 4) = false ∧ (kd == 5) = false) := by
          by_cases h1 : kd = 1
          · by_cases ha : askR L t p false = 0
            · by_cases hv : V = 0
              · by_cases hl : L = []
                · exact .inr (.inr (.inl ⟨h1, ha, hv, hl⟩))
                · exact .inr (.inr (.inr (.inl ⟨h1, ha, hv, hl⟩)))
              · exact .inr (.inl ⟨h1, ha, hv⟩)
            · exact .inl ⟨h1, ha⟩
          · by_cases h2 : kd = 2
            · by_cases hv : V = 0 <;> simp [h2, hv]
            · by_cases h3 : kd = 3
              · by_cases hl : L = [] <;> by_cases hv : V = 32767 <;> simp [h3, hl, hv]
              · by_cases h4 : kd = 4
                · simp [h4]
                · by_cases h5 : kd = 5
                  · simp [h5]
                  · simp [h1, h2, h3, h4, h5]
        clear gI
        rcases hk8 with ⟨rfl, ha⟩ | ⟨rfl, ha, hv⟩ | ⟨rfl, ha, rfl, hl⟩ | ⟨rfl, ha, rfl, hl⟩ | ⟨rfl, rfl⟩ | ⟨rfl, hv⟩ | ⟨rfl, hl⟩ | ⟨rfl, hl, rfl⟩ | ⟨rfl, hl, hv⟩ | rfl | rfl | ⟨h1, h2, h3, h4, h5⟩
        · as_aux_lemma =>
          -- Wait, refused
          obtain ⟨r, hr⟩ : ∃ r, r = askR L t p false := ⟨_, rfl⟩
          have hs : swB L V t p = false ∧ swL L V t p = L ∧ swV L V t p = V := by
            refine ⟨?_, ?_, ?_⟩
            · unfold swB; rw [decide_eq_false ha]; rfl
            · unfold swL putL; rw [if_neg ha]; split <;> rfl
            · unfold swV; rw [if_neg ha]
          rw [← hr] at ha
          have hb : (r == 0) = false := by simpa using ha
          have HS := Lib.hid (And.intro hs hr)
          clear ha hr hs
          go_wp2_with fail
          refine (slistc cb ab mb (2 * k) L _ _ (HK.out.1.calm ((Chg.refl [] wr).alloc (.cells #[.int .i64 _, .int .i64 t, .int .i64 p] 30)))).mono ?_
          rintro e w2 ⟨v0, rfl, ho, hC⟩
          obtain ⟨va0, vc0, rfl⟩ := own_slice ho
          have hb2 := hC.blk (heap_alloc_eq wr _) (by simp)
          have x0 := cellB hb2 (i := 0) rfl
          have x1 := cellB hb2 (i := 1) rfl
          have x2 := cellB hb2 (i := 2) rfl
          have H2 := Lib.hid (And.intro (HK.out.1.calm (((Chg.refl [] wr).alloc _).trans hC)) (And.intro (((Chg.refl [] wr).alloc _).trans hC) (own_mono ho ((Chg.refl [] wr).alloc _).size)))
          clear ho hC hb2
          rw [← HF.out.1] at H2 ⊢
          go_wp2_with fail
          refine (swaitc cb ab mb (2 * k) L _ t p w2 H2.out.1 (by omega) (by omega) (by omega)).mono ?_
          rintro e w3 ⟨rfl, hW, hC⟩
          rw [HS.out.1.1, ← HS.out.2]
          rw [HS.out.1.2.1, HS.out.1.2.2] at hW
          have H3 := Lib.hid (And.intro (hW.mono (show (2 * (k : Int)) + 2 ≤ 2 * (k : Int) + 2 by omega)) (HK.out.2.trans' ((H2.out.2.1.mono (by simp)).trans (hC.mono (by simp)) : Chg [cb, ab, mb] wr _) (fun j hj => .inr (HGe.out j (by simp at hj ⊢; omega)))))
          clear hW hC x0 x1 x2
          go_wp2_with (first | fail | (go_at_call 9; refine (snumc _ _).mono ?_; rintro e wz ⟨rfl, rfl⟩))
          obtain ⟨L2, hL2⟩ : ∃ X, X = L := ⟨_, rfl⟩
          have HI : Hid (V = 0 ∨ L2 = []) := by rw [hL2]; exact HF.out.2.2
          have HZ := H3
          rw [← hL2] at HZ
          clear hL2
          have q1 : (V != V) = false := by simp
          have hp : V = 0 ∨ 0 < V := by omega
          rcases hp with hp | hp
          · have hp1 : ¬ 0 < V := by omega
            have HP := Lib.hid hp
            have hb0 : 0 ≤ V := by omega
            clear hp
            go_wp2_with fail
            refine (svaluec cb ab mb _ L2 _ _ HZ.out.1).mono ?_
            rintro e wa ⟨rfl, hCa⟩
            have HA := Lib.hid hCa
            clear hCa
            go_wp2
            go_roundw
            case rel => exact ⟨k + 1, L2, _, by omega, by omega, rfl, by go_num, (HZ.out.1.calm HA.out).mono (by omega), by omega, by omega, .inl HP.out, HZ.out.2.trans HA.out⟩
            case measure => simp [intOf]; omega
          · have hL2 : L2 = [] := HI.out.resolve_left (by omega)
            have HL2 := Lib.hid hL2
            clear hL2
            go_wp2_with fail
            refine (svaluec cb ab mb _ L2 _ _ HZ.out.1).mono ?_
            rintro e wa ⟨rfl, hCa⟩
            have HA := Lib.hid hCa
            clear hCa
            go_wp2_with fail
            refine (slenc cb ab mb _ L2 _ wa (HZ.out.1.calm HA.out)).mono ?_
            rintro e wb ⟨rfl, hCb⟩
            rw [show ((L2.length : Nat) : Int) = 0 by rw [HL2.out]; rfl]
            have HBb := Lib.hid (HA.out.trans hCb)
            clear hCb
            go_wp2
            go_roundw
            case rel => exact ⟨k + 1, L2, _, by omega, by omega, rfl, by go_num, (HZ.out.1.calm HBb.out).mono (by omega), by omega, by omega, .inr HL2.out, HZ.out.2.trans HBb.out⟩
            case measure => simp [intOf]; omega
        · as_aux_lemma =>
          -- Wait, had at once
          have hL : L = [] := HF.out.2.2.resolve_left hv
          obtain rfl : n0 = 0 := by rw [HF.out.2.1, hL]; rfl
          have hs : swB L V t p = true ∧ swL L V t p = [] ∧ swV L V t p = V - 1 := by
            refine ⟨?_, ?_, ?_⟩
            · unfold swB styB; rw [decide_eq_true ha, decide_eq_false hv]; rfl
            · unfold swL; rw [if_neg hv, hL]
            · unfold swV styV; rw [if_pos ha, if_neg hv]
          have hv1 : 1 ≤ V := by omega
          have HS := Lib.hid (And.intro hs ha)
          clear ha hs hL hv
          go_wp2_with fail
          refine (slistc cb ab mb (2 * k) L _ _ (HK.out.1.calm ((Chg.refl [] wr).alloc (.cells #[.int .i64 _, .int .i64 t, .int .i64 p] 30)))).mono ?_
          rintro e w2 ⟨v0, rfl, ho, hC⟩
          obtain ⟨va0, vc0, rfl⟩ := own_slice ho
          have hb2 := hC.blk (heap_alloc_eq wr _) (by simp)
          have x0 := cellB hb2 (i := 0) rfl
          have x1 := cellB hb2 (i := 1) rfl
          have x2 := cellB hb2 (i := 2) rfl
          have H2 := Lib.hid (And.intro (HK.out.1.calm (((Chg.refl [] wr).alloc _).trans hC)) (And.intro (((Chg.refl [] wr).alloc _).trans hC) (own_mono ho ((Chg.refl [] wr).alloc _).size)))
          clear ho hC hb2
          rw [← HF.out.1] at H2 ⊢
          go_wp2_with fail
          refine (swaitc cb ab mb (2 * k) L _ t p w2 H2.out.1 (by omega) (by omega) (by omega)).mono ?_
          rintro e w3 ⟨rfl, hW, hC⟩
          rw [HS.out.1.1, HS.out.2]
          rw [HS.out.1.2.1, HS.out.1.2.2] at hW
          have H3 := Lib.hid (And.intro (hW.mono (show (2 * (k : Int)) + 2 ≤ 2 * (k : Int) + 2 by omega)) (HK.out.2.trans' ((H2.out.2.1.mono (by simp)).trans (hC.mono (by simp)) : Chg [cb, ab, mb] wr _) (fun j hj => .inr (HGe.out j (by simp at hj ⊢; omega)))))
          clear hW hC x0 x1 x2
          go_wp2_with (first | fail | (go_at_call 9; refine (snumc _ _).mono ?_; rintro e wz ⟨rfl, rfl⟩))
          refine (slenc cb ab mb _ [] _ w3 H3.out.1).mono ?_
          rintro e w4 ⟨rfl, hC⟩
          rw [show ((([] : WL).length : Nat) : Int) = 0 from rfl]
          obtain ⟨L2, hL2⟩ : ∃ X, X = ([] : WL) := ⟨_, rfl⟩
          have HI : Hid (V - 1 = 0 ∨ L2 = []) := .inr hL2
          have HZ := Lib.hid (And.intro (H3.out.1.calm hC) (H3.out.2.trans hC))
          rw [← hL2] at HZ
          clear hL2 hC
          have q1 : ((V - 1) != (V - 1)) = false := by simp
          have hp : (V - 1) = 0 ∨ 0 < (V - 1) := by omega
          rcases hp with hp | hp
          · have hp1 : ¬ 0 < (V - 1) := by omega
            have HP := Lib.hid hp
            have hb0 : 0 ≤ (V - 1) := by omega
            clear hp
            go_wp2_with fail
            refine (svaluec cb ab mb _ L2 _ _ HZ.out.1).mono ?_
            rintro e wa ⟨rfl, hCa⟩
            have HA := Lib.hid hCa
            clear hCa
            go_wp2
            go_roundw
            case rel => exact ⟨k + 1, L2, _, by omega, by omega, rfl, by go_num, (HZ.out.1.calm HA.out).mono (by omega), by omega, by omega, .inl HP.out, HZ.out.2.trans HA.out⟩
            case measure => simp [intOf]; omega
          · have hL2 : L2 = [] := HI.out.resolve_left (by omega)
            have HL2 := Lib.hid hL2
            clear hL2
            go_wp2_with fail
            refine (svaluec cb ab mb _ L2 _ _ HZ.out.1).mono ?_
            rintro e wa ⟨rfl, hCa⟩
            have HA := Lib.hid hCa
            clear hCa
            go_wp2_with fail
            refine (slenc cb ab mb _ L2 _ wa (HZ.out.1.calm HA.out)).mono ?_
            rintro e wb ⟨rfl, hCb⟩
            rw [show ((L2.length : Nat) : Int) = 0 by rw [HL2.out]; rfl]
            have HBb := Lib.hid (HA.out.trans hCb)
            clear hCb
            go_wp2
            go_roundw
            case rel => exact ⟨k + 1, L2, _, by omega, by omega, rfl, by go_num, (HZ.out.1.calm HBb.out).mono (by omega), by omega, by omega, .inr HL2.out, HZ.out.2.trans HBb.out⟩
            case measure => simp [intOf]; omega
        · as_aux_lemma =>
          -- Wait, waits, the first
          have hs : swB L 0 t p = false ∧ swL L 0 t p = L ++ [(t, p)] ∧ swV L 0 t p = 0 := by
            refine ⟨?_, ?_, ?_⟩
            · unfold swB styB; simp
            · unfold swL putL; rw [if_pos rfl, if_pos ha]
            · unfold swV styV; split <;> simp
          have HS := Lib.hid (And.intro hs ha)
          obtain rfl : n0 = 0 := by rw [HF.out.2.1, hl]; rfl
          have hl1 : ((L ++ [(t, p)]).length : Int) = 1 := by rw [hl]; rfl
          have HL1 := Lib.hid hl1
          clear hl1
          clear ha hs hl
          go_wp2_with fail
          refine (slistc cb ab mb (2 * k) L _ _ (HK.out.1.calm ((Chg.refl [] wr).alloc (.cells #[.int .i64 _, .int .i64 t, .int .i64 p] 30)))).mono ?_
          rintro e w2 ⟨v0, rfl, ho, hC⟩
          obtain ⟨va0, vc0, rfl⟩ := own_slice ho
          have hb2 := hC.blk (heap_alloc_eq wr _) (by simp)
          have x0 := cellB hb2 (i := 0) rfl
          have x1 := cellB hb2 (i := 1) rfl
          have x2 := cellB hb2 (i := 2) rfl
          have H2 := Lib.hid (And.intro (HK.out.1.calm (((Chg.refl [] wr).alloc _).trans hC)) (And.intro (((Chg.refl [] wr).alloc _).trans hC) (own_mono ho ((Chg.refl [] wr).alloc _).size)))
          clear ho hC hb2
          rw [← HF.out.1] at H2 ⊢
          go_wp2_with fail
          refine (swaitc cb ab mb (2 * k) L _ t p w2 H2.out.1 (by omega) (by omega) (by omega)).mono ?_
          rintro e w3 ⟨rfl, hW, hC⟩
          rw [HS.out.1.1, HS.out.2]
          rw [HS.out.1.2.1, HS.out.1.2.2] at hW
          have H3 := Lib.hid (And.intro (hW.mono (show (2 * (k : Int)) + 2 ≤ 2 * (k : Int) + 2 by omega)) (HK.out.2.trans' ((H2.out.2.1.mono (by simp)).trans (hC.mono (by simp)) : Chg [cb, ab, mb] wr _) (fun j hj => .inr (HGe.out j (by simp at hj ⊢; omega)))))
          clear hW hC x0 x1 x2
          go_wp2_with (first | fail | (go_at_call 9; refine (snumc _ _).mono ?_; rintro e wz ⟨rfl, rfl⟩))
          obtain ⟨L2, hL2⟩ : ∃ X, X = L ++ [(t, p)] := ⟨_, rfl⟩
          have HI : Hid ((0 : Int) = 0 ∨ L2 = []) := .inl rfl
          refine (slenc cb ab mb _ _ _ w3 H3.out.1).mono ?_
          rintro e w4 ⟨rfl, hC⟩
          rw [HL1.out]
          have HZ := Lib.hid (And.intro (H3.out.1.calm hC) (H3.out.2.trans hC))
          rw [← hL2] at HZ
          clear hL2 hC
          have q1 : ((0 : Int) != (0 : Int)) = false := by simp
          go_wp2_with fail
          refine (svaluec cb ab mb _ L2 _ _ HZ.out.1).mono ?_
          rintro e wa ⟨rfl, hCa⟩
          have HA := Lib.hid hCa
          clear hCa
          go_wp2
          go_roundw
          case rel => exact ⟨k + 1, L2, _, by omega, by omega, rfl, by go_num, (HZ.out.1.calm HA.out).mono (by omega), by omega, by omega, .inl rfl, HZ.out.2.trans HA.out⟩
          case measure => simp [intOf]; omega
        · as_aux_lemma =>
          -- Wait, waits
          have hs : swB L 0 t p = false ∧ swL L 0 t p = L ++ [(t, p)] ∧ swV L 0 t p = 0 := by
            refine ⟨?_, ?_, ?_⟩
            · unfold swB styB; simp
            · unfold swL putL; rw [if_pos rfl, if_pos ha]
            · unfold swV styV; split <;> simp
          have HS := Lib.hid (And.intro hs ha)
          have hn0 : 0 < n0 := by rw [HF.out.2.1]; exact List.length_pos_iff.2 hl
          have hn1 : ((n0 : Int) == 0) = false := by rw [beq_eq_false_iff_ne]; omega
          have hn2 : ¬ n0 = 0 := by omega
          clear ha hs hl
          go_wp2_with fail
          refine (slistc cb ab mb (2 * k) L _ _ (HK.out.1.calm ((Chg.refl [] wr).alloc (.cells #[.int .i64 _, .int .i64 t, .int .i64 p] 30)))).mono ?_
          rintro e w2 ⟨v0, rfl, ho, hC⟩
          obtain ⟨va0, vc0, rfl⟩ := own_slice ho
          have hb2 := hC.blk (heap_alloc_eq wr _) (by simp)
          have x0 := cellB hb2 (i := 0) rfl
          have x1 := cellB hb2 (i := 1) rfl
          have x2 := cellB hb2 (i := 2) rfl
          have H2 := Lib.hid (And.intro (HK.out.1.calm (((Chg.refl [] wr).alloc _).trans hC)) (And.intro (((Chg.refl [] wr).alloc _).trans hC) (own_mono ho ((Chg.refl [] wr).alloc _).size)))
          clear ho hC hb2
          rw [← HF.out.1] at H2 ⊢
          go_wp2_with fail
          refine (swaitc cb ab mb (2 * k) L _ t p w2 H2.out.1 (by omega) (by omega) (by omega)).mono ?_
          rintro e w3 ⟨rfl, hW, hC⟩
          rw [HS.out.1.1, HS.out.2]
          rw [HS.out.1.2.1, HS.out.1.2.2] at hW
          have H3 := Lib.hid (And.intro (hW.mono (show (2 * (k : Int)) + 2 ≤ 2 * (k : Int) + 2 by omega)) (HK.out.2.trans' ((H2.out.2.1.mono (by simp)).trans (hC.mono (by simp)) : Chg [cb, ab, mb] wr _) (fun j hj => .inr (HGe.out j (by simp at hj ⊢; omega)))))
          clear hW hC x0 x1 x2
          go_wp2_with (first | fail | (go_at_call 9; refine (snumc _ _).mono ?_; rintro e wz ⟨rfl, rfl⟩))
          obtain ⟨L2, hL2⟩ : ∃ X, X = L ++ [(t, p)] := ⟨_, rfl⟩
          have HI : Hid ((0 : Int) = 0 ∨ L2 = []) := .inl rfl
          have HZ := H3
          rw [← hL2] at HZ
          clear hL2
          have q1 : ((0 : Int) != (0 : Int)) = false := by simp
          go_wp2_with fail
          refine (svaluec cb ab mb _ L2 _ _ HZ.out.1).mono ?_
          rintro e wa ⟨rfl, hCa⟩
          have HA := Lib.hid hCa
          clear hCa
          go_wp2
          go_roundw
          case rel => exact ⟨k + 1, L2, _, by omega, by omega, rfl, by go_num, (HZ.out.1.calm HA.out).mono (by omega), by omega, by omega, .inl rfl, HZ.out.2.trans HA.out⟩
          case measure => simp [intOf]; omega
        · as_aux_lemma =>
          -- Try, in vain
          go_wp2_with fail
          refine (slistc cb ab mb (2 * k) L _ _ (HK.out.1.calm ((Chg.refl [] wr).alloc (.cells #[.int .i64 _, .int .i64 t, .int .i64 p] 30)))).mono ?_
          rintro e w2 ⟨v0, rfl, ho, hC⟩
          obtain ⟨va0, vc0, rfl⟩ := own_slice ho
          have hb2 := hC.blk (heap_alloc_eq wr _) (by simp)
          have x0 := cellB hb2 (i := 0) rfl
          have x1 := cellB hb2 (i := 1) rfl
          have x2 := cellB hb2 (i := 2) rfl
          have H2 := Lib.hid (And.intro (HK.out.1.calm (((Chg.refl [] wr).alloc _).trans hC)) (And.intro (((Chg.refl [] wr).alloc _).trans hC) (own_mono ho ((Chg.refl [] wr).alloc _).size)))
          clear ho hC hb2
          rw [← HF.out.1] at H2 ⊢
          go_wp2_with fail
          refine (stryc cb ab mb (2 * k) L 0 w2 H2.out.1 (by omega) (by omega)).mono ?_
          rintro e w3 ⟨rfl, hW, hC⟩
          rw [show styB 0 = false from by decide]
          rw [show styV 0 = 0 from by decide] at hW
          obtain ⟨L2, hL2⟩ : ∃ X, X = L := ⟨_, rfl⟩
          have HI : Hid ((0 : Int) = 0 ∨ L2 = []) := .inl rfl
          have HZ := Lib.hid (And.intro (hW.mono (show (2 * (k : Int)) ≤ 2 * (k : Int) + 2 by omega)) (HK.out.2.trans' ((H2.out.2.1.mono (by simp)).trans (hC.mono (by simp)) : Chg [cb, ab, mb] wr _) (fun j hj => .inr (HGe.out j (by simp at hj ⊢; omega)))))
          rw [← hL2] at HZ
          clear hL2 hW hC x0 x1 x2
          have q1 : ((0 : Int) != (0 : Int)) = false := by simp
          go_wp2_with fail
          refine (svaluec cb ab mb _ L2 _ _ HZ.out.1).mono ?_
          rintro e wa ⟨rfl, hCa⟩
          have HA := Lib.hid hCa
          clear hCa
          go_wp2
          go_roundw
          case rel => exact ⟨k + 1, L2, _, by omega, by omega, rfl, by go_num, (HZ.out.1.calm HA.out).mono (by omega), by omega, by omega, .inl rfl, HZ.out.2.trans HA.out⟩
          case measure => simp [intOf]; omega
        · as_aux_lemma =>
          -- Try
          have hv1 : 1 ≤ V := by omega
          have hs : styB V = true ∧ styV V = V - 1 := by
            unfold styB styV
            rw [if_neg hv, decide_eq_false hv]
            exact ⟨rfl, rfl⟩
          have hL := HF.out.2.2.resolve_left hv
          have HS := Lib.hid (And.intro hs hL)
          clear hs hv hL
          go_wp2_with fail
          refine (slistc cb ab mb (2 * k) L _ _ (HK.out.1.calm ((Chg.refl [] wr).alloc (.cells #[.int .i64 _, .int .i64 t, .int .i64 p] 30)))).mono ?_
          rintro e w2 ⟨v0, rfl, ho, hC⟩
          obtain ⟨va0, vc0, rfl⟩ := own_slice ho
          have hb2 := hC.blk (heap_alloc_eq wr _) (by simp)
          have x0 := cellB hb2 (i := 0) rfl
          have x1 := cellB hb2 (i := 1) rfl
          have x2 := cellB hb2 (i := 2) rfl
          have H2 := Lib.hid (And.intro (HK.out.1.calm (((Chg.refl [] wr).alloc _).trans hC)) (And.intro (((Chg.refl [] wr).alloc _).trans hC) (own_mono ho ((Chg.refl [] wr).alloc _).size)))
          clear ho hC hb2
          rw [← HF.out.1] at H2 ⊢
          go_wp2_with fail
          refine (stryc cb ab mb (2 * k) L V w2 H2.out.1 (by omega) (by omega)).mono ?_
          rintro e w3 ⟨rfl, hW, hC⟩
          rw [HS.out.1.1]
          rw [HS.out.1.2] at hW
          obtain ⟨L2, hL2⟩ : ∃ X, X = L := ⟨_, rfl⟩
          have HI : Hid (V - 1 = 0 ∨ L2 = []) := by rw [hL2]; exact .inr HS.out.2
          have HZ := Lib.hid (And.intro (hW.mono (show (2 * (k : Int)) ≤ 2 * (k : Int) + 2 by omega)) (HK.out.2.trans' ((H2.out.2.1.mono (by simp)).trans (hC.mono (by simp)) : Chg [cb, ab, mb] wr _) (fun j hj => .inr (HGe.out j (by simp at hj ⊢; omega)))))
          rw [← hL2] at HZ
          clear hL2 hW hC x0 x1 x2
          have q1 : ((V - 1) != (V - 1)) = false := by simp
          have hp : (V - 1) = 0 ∨ 0 < (V - 1) := by omega
          rcases hp with hp | hp
          · have hp1 : ¬ 0 < (V - 1) := by omega
            have HP := Lib.hid hp
            have hb0 : 0 ≤ (V - 1) := by omega
            clear hp
            go_wp2_with fail
            refine (svaluec cb ab mb _ L2 _ _ HZ.out.1).mono ?_
            rintro e wa ⟨rfl, hCa⟩
            have HA := Lib.hid hCa
            clear hCa
            go_wp2
            go_roundw
            case rel => exact ⟨k + 1, L2, _, by omega, by omega, rfl, by go_num, (HZ.out.1.calm HA.out).mono (by omega), by omega, by omega, .inl HP.out, HZ.out.2.trans HA.out⟩
            case measure => simp [intOf]; omega
          · have hL2 : L2 = [] := HI.out.resolve_left (by omega)
            have HL2 := Lib.hid hL2
            clear hL2
            go_wp2_with fail
            refine (svaluec cb ab mb _ L2 _ _ HZ.out.1).mono ?_
            rintro e wa ⟨rfl, hCa⟩
            have HA := Lib.hid hCa
            clear hCa
            go_wp2_with fail
            refine (slenc cb ab mb _ L2 _ wa (HZ.out.1.calm HA.out)).mono ?_
            rintro e wb ⟨rfl, hCb⟩
            rw [show ((L2.length : Nat) : Int) = 0 by rw [HL2.out]; rfl]
            have HBb := Lib.hid (HA.out.trans hCb)
            clear hCb
            go_wp2
            go_roundw
            case rel => exact ⟨k + 1, L2, _, by omega, by omega, rfl, by go_num, (HZ.out.1.calm HBb.out).mono (by omega), by omega, by omega, .inr HL2.out, HZ.out.2.trans HBb.out⟩
            case measure => simp [intOf]; omega
        · as_aux_lemma =>
          -- Post, somebody wakes
          obtain ⟨x, r, ho'⟩ : ∃ x r, ordL L = x :: r := by
            cases h : ordL L with
            | nil => exact absurd ((ord_nil_iff HK.out.1.list.lok).1 h) hl
            | cons x r => exact ⟨x, r, rfl⟩
          obtain ⟨t0, p0⟩ := x
          have hmem : (t0, p0) ∈ L := (ordL_perm HK.out.1.list.lok).mem_iff.1 (by rw [ho']; simp)
          have ht0 := (HK.out.1.list.facts.2.1 _ hmem).1
          unfold okT at ht0
          have ht1 : 0 ≤ t0 := ht0.1
          have ht2 : ¬ t0 < 0 := by omega
          have hoT : ordT L = t0 :: r.map (·.1) := by unfold ordT; rw [ho']; rfl
          obtain rfl : V = 0 := by
            rcases HF.out.2.2 with h | h
            · exact h
            · exact absurd h hl
          have hs : spT L = t0 ∧ spE L 0 = 0 ∧ spV L 0 = 0 := by
            unfold spT spE spV
            rw [ho']
            exact ⟨rfl, rfl, rfl⟩
          have hn0 : 0 < n0 := by rw [HF.out.2.1]; exact List.length_pos_iff.2 hl
          have htt : (t0 != t0) = false := by simp
          have HS := Lib.hid hs
          have HO := Lib.hid hoT
          clear hs hl ho' hmem ht0 hoT
          go_wp2_with fail
          refine (slistc cb ab mb (2 * k) L _ _ (HK.out.1.calm ((Chg.refl [] wr).alloc (.cells #[.int .i64 _, .int .i64 t, .int .i64 p] 30)))).mono ?_
          rintro e w2 ⟨v0, rfl, ho, hC⟩
          obtain ⟨va0, vc0, rfl⟩ := own_slice ho
          have hb2 := hC.blk (heap_alloc_eq wr _) (by simp)
          have x0 := cellB hb2 (i := 0) rfl
          have x1 := cellB hb2 (i := 1) rfl
          have x2 := cellB hb2 (i := 2) rfl
          have H2 := Lib.hid (And.intro (HK.out.1.calm (((Chg.refl [] wr).alloc _).trans hC)) (And.intro (((Chg.refl [] wr).alloc _).trans hC) (own_mono ho ((Chg.refl [] wr).alloc _).size)))
          clear ho hC hb2
          rw [← HF.out.1] at H2 ⊢
          obtain ⟨g0, cap0, cur, hva, hge0, hgb, hcap, hcm, _, hcur⟩ := own_blk H2.out.2.2 (by omega)
          simp only [Value.slice.injEq] at hva
          obtain ⟨rfl, -, rfl⟩ := hva
          have hx1 : cur[0]? = some (.int .i64 t0) := own_take hcur 0 _ (by rw [HO.out]; rfl)
          have hg1 : g0 ∉ [cb, ab, mb] := by have := HK.out.1.lt; simp; omega
          have HA2 := Lib.hid (And.intro hgb hx1)
          clear hgb hcur hx1 hcm hge0
          go_wp2_with fail
          refine (spostc cb ab mb (2 * k) L _ w2 H2.out.1 (by omega) (by omega)).mono ?_
          rintro e w3 ⟨rfl, hW, hC⟩
          rw [HS.out.1, HS.out.2.1]
          rw [HS.out.2.2] at hW
          have H3 := Lib.hid (And.intro (hW.mono (show (2 * (k : Int)) ≤ 2 * (k : Int) + 2 by omega)) (HK.out.2.trans' ((H2.out.2.1.mono (by simp)).trans (hC.mono (by simp)) : Chg [cb, ab, mb] wr _) (fun j hj => .inr (HGe.out j (by simp at hj ⊢; omega)))))
          have y0 : w3.cell? ⟨g0, 0, none⟩ = some (.int .i64 t0) := cellB (hC.blk HA2.out.1 hg1) HA2.out.2
          clear hW hC x0 x1 x2 hg1
          go_wp2_with (first | fail | (go_at_call 9; refine (snumc _ _).mono ?_; rintro e wz ⟨rfl, rfl⟩))
          obtain ⟨L2, hL2⟩ : ∃ X, X = takeL L := ⟨_, rfl⟩
          have HI : Hid ((0 : Int) = 0 ∨ L2 = []) := .inl rfl
          have HZ := H3
          rw [← hL2] at HZ
          clear hL2 y0
          have q1 : ((0 : Int) != (0 : Int)) = false := by simp
          go_wp2_with fail
          refine (svaluec cb ab mb _ L2 _ _ HZ.out.1).mono ?_
          rintro e wa ⟨rfl, hCa⟩
          have HA := Lib.hid hCa
          clear hCa
          go_wp2
          go_roundw
          case rel => exact ⟨k + 1, L2, _, by omega, by omega, rfl, by go_num, (HZ.out.1.calm HA.out).mono (by omega), by omega, by omega, .inl rfl, HZ.out.2.trans HA.out⟩
          case measure => simp [intOf]; omega
        · as_aux_lemma =>
          -- Post, full
          obtain rfl : n0 = 0 := by rw [HF.out.2.1, hl]; rfl
          have hs : spT L = -1 ∧ spE L 32767 = 5 ∧ takeL L = [] ∧ spV L 32767 = 32767 := by rw [hl]; exact ⟨by decide, by decide, by decide, by decide⟩
          have HS := Lib.hid hs
          clear hs hl
          go_wp2_with fail
          refine (slistc cb ab mb (2 * k) L _ _ (HK.out.1.calm ((Chg.refl [] wr).alloc (.cells #[.int .i64 _, .int .i64 t, .int .i64 p] 30)))).mono ?_
          rintro e w2 ⟨v0, rfl, ho, hC⟩
          obtain ⟨va0, vc0, rfl⟩ := own_slice ho
          have hb2 := hC.blk (heap_alloc_eq wr _) (by simp)
          have x0 := cellB hb2 (i := 0) rfl
          have x1 := cellB hb2 (i := 1) rfl
          have x2 := cellB hb2 (i := 2) rfl
          have H2 := Lib.hid (And.intro (HK.out.1.calm (((Chg.refl [] wr).alloc _).trans hC)) (And.intro (((Chg.refl [] wr).alloc _).trans hC) (own_mono ho ((Chg.refl [] wr).alloc _).size)))
          clear ho hC hb2
          rw [← HF.out.1] at H2 ⊢
          go_wp2_with fail
          refine (spostc cb ab mb (2 * k) L _ w2 H2.out.1 (by omega) (by omega)).mono ?_
          rintro e w3 ⟨rfl, hW, hC⟩
          rw [HS.out.1, HS.out.2.1]
          rw [HS.out.2.2.1, HS.out.2.2.2] at hW
          have H3 := Lib.hid (And.intro (hW.mono (show (2 * (k : Int)) ≤ 2 * (k : Int) + 2 by omega)) (HK.out.2.trans' ((H2.out.2.1.mono (by simp)).trans (hC.mono (by simp)) : Chg [cb, ab, mb] wr _) (fun j hj => .inr (HGe.out j (by simp at hj ⊢; omega)))))
          clear hW hC x0 x1 x2
          go_wp2_with (first | fail | (go_at_call 9; refine (snumc _ _).mono ?_; rintro e wz ⟨rfl, rfl⟩))
          obtain ⟨L2, hL2⟩ : ∃ X, X = ([] : WL) := ⟨_, rfl⟩
          have HI : Hid ((32767 : Int) = 0 ∨ L2 = []) := .inr hL2
          have HZ := H3
          rw [← hL2] at HZ
          clear hL2
          have q1 : ((32767 : Int) != (32767 : Int)) = false := by simp
          have hL2 : L2 = [] := HI.out.resolve_left (by decide)
          have HL2 := Lib.hid hL2
          clear hL2
          go_wp2_with fail
          refine (svaluec cb ab mb _ L2 _ _ HZ.out.1).mono ?_
          rintro e wa ⟨rfl, hCa⟩
          have HA := Lib.hid hCa
          clear hCa
          go_wp2_with fail
          refine (slenc cb ab mb _ L2 _ wa (HZ.out.1.calm HA.out)).mono ?_
          rintro e wb ⟨rfl, hCb⟩
          rw [show ((L2.length : Nat) : Int) = 0 by rw [HL2.out]; rfl]
          have HBb := Lib.hid (HA.out.trans hCb)
          clear hCb
          go_wp2
          go_roundw
          case rel => exact ⟨k + 1, L2, _, by omega, by omega, rfl, by go_num, (HZ.out.1.calm HBb.out).mono (by omega), by omega, by omega, .inr HL2.out, HZ.out.2.trans HBb.out⟩
          case measure => simp [intOf]; omega
        · as_aux_lemma =>
          -- Post, kept
          obtain rfl : n0 = 0 := by rw [HF.out.2.1, hl]; rfl
          have hs : spT L = -1 ∧ spE L V = 0 ∧ takeL L = [] ∧ spV L V = V + 1 := by
            rw [hl]
            unfold spT spE spV
            rw [show headB (ordL []) = false by decide]
            simp only [Bool.false_eq_true, if_false]
            rw [if_neg hv, if_neg hv]
            refine ⟨?_, ?_, ?_, ?_⟩ <;> first | trivial | rfl | decide
          have hv1 : V < 32767 := by omega
          have HS := Lib.hid hs
          clear hs hl hv
          go_wp2_with fail
          refine (slistc cb ab mb (2 * k) L _ _ (HK.out.1.calm ((Chg.refl [] wr).alloc (.cells #[.int .i64 _, .int .i64 t, .int .i64 p] 30)))).mono ?_
          rintro e w2 ⟨v0, rfl, ho, hC⟩
          obtain ⟨va0, vc0, rfl⟩ := own_slice ho
          have hb2 := hC.blk (heap_alloc_eq wr _) (by simp)
          have x0 := cellB hb2 (i := 0) rfl
          have x1 := cellB hb2 (i := 1) rfl
          have x2 := cellB hb2 (i := 2) rfl
          have H2 := Lib.hid (And.intro (HK.out.1.calm (((Chg.refl [] wr).alloc _).trans hC)) (And.intro (((Chg.refl [] wr).alloc _).trans hC) (own_mono ho ((Chg.refl [] wr).alloc _).size)))
          clear ho hC hb2
          rw [← HF.out.1] at H2 ⊢
          go_wp2_with fail
          refine (spostc cb ab mb (2 * k) L _ w2 H2.out.1 (by omega) (by omega)).mono ?_
          rintro e w3 ⟨rfl, hW, hC⟩
          rw [HS.out.1, HS.out.2.1]
          rw [HS.out.2.2.1, HS.out.2.2.2] at hW
          have H3 := Lib.hid (And.intro (hW.mono (show (2 * (k : Int)) ≤ 2 * (k : Int) + 2 by omega)) (HK.out.2.trans' ((H2.out.2.1.mono (by simp)).trans (hC.mono (by simp)) : Chg [cb, ab, mb] wr _) (fun j hj => .inr (HGe.out j (by simp at hj ⊢; omega)))))
          clear hW hC x0 x1 x2
          go_wp2_with (first | fail | (go_at_call 9; refine (snumc _ _).mono ?_; rintro e wz ⟨rfl, rfl⟩))
          obtain ⟨L2, hL2⟩ : ∃ X, X = ([] : WL) := ⟨_, rfl⟩
          have HI : Hid (V + 1 = 0 ∨ L2 = []) := .inr hL2
          have HZ := H3
          rw [← hL2] at HZ
          clear hL2
          have q1 : ((V + 1) != (V + 1)) = false := by simp
          have hL2 : L2 = [] := HI.out.resolve_left (by omega)
          have HL2 := Lib.hid hL2
          have hp : 0 < V + 1 := by omega
          clear hL2
          go_wp2_with fail
          refine (svaluec cb ab mb _ L2 _ _ HZ.out.1).mono ?_
          rintro e wa ⟨rfl, hCa⟩
          have HA := Lib.hid hCa
          clear hCa
          go_wp2_with fail
          refine (slenc cb ab mb _ L2 _ wa (HZ.out.1.calm HA.out)).mono ?_
          rintro e wb ⟨rfl, hCb⟩
          rw [show ((L2.length : Nat) : Int) = 0 by rw [HL2.out]; rfl]
          have HBb := Lib.hid (HA.out.trans hCb)
          clear hCb
          go_wp2
          go_roundw
          case rel => exact ⟨k + 1, L2, _, by omega, by omega, rfl, by go_num, (HZ.out.1.calm HBb.out).mono (by omega), by omega, by omega, .inr HL2.out, HZ.out.2.trans HBb.out⟩
          case measure => simp [intOf]; omega
        · as_aux_lemma =>
          -- Leave
          go_wp2_with fail
          refine (slistc cb ab mb (2 * k) L _ _ (HK.out.1.calm ((Chg.refl [] wr).alloc (.cells #[.int .i64 _, .int .i64 t, .int .i64 p] 30)))).mono ?_
          rintro e w2 ⟨v0, rfl, ho, hC⟩
          obtain ⟨va0, vc0, rfl⟩ := own_slice ho
          have hb2 := hC.blk (heap_alloc_eq wr _) (by simp)
          have x0 := cellB hb2 (i := 0) rfl
          have x1 := cellB hb2 (i := 1) rfl
          have x2 := cellB hb2 (i := 2) rfl
          have H2 := Lib.hid (And.intro (HK.out.1.calm (((Chg.refl [] wr).alloc _).trans hC)) (And.intro (((Chg.refl [] wr).alloc _).trans hC) (own_mono ho ((Chg.refl [] wr).alloc _).size)))
          clear ho hC hb2
          rw [← HF.out.1] at H2 ⊢
          go_wp2_with fail
          refine (sleavec cb ab mb (2 * k) L V t w2 H2.out.1).mono ?_
          rintro e w3 ⟨rfl, hW, hC⟩
          generalize askR L t 1 true = re
          obtain ⟨L2, hL2⟩ : ∃ X, X = lvL L t := ⟨_, rfl⟩
          have HI : Hid (V = 0 ∨ L2 = []) := by
            rw [hL2]
            rcases HF.out.2.2 with h | h
            · exact .inl h
            · right
              have h0 : lvL [] t = [] := by unfold lvL; split <;> rfl
              rw [h, h0]
          have HZ := Lib.hid (And.intro (hW.mono (show (2 * (k : Int)) ≤ 2 * (k : Int) + 2 by omega)) (HK.out.2.trans' ((H2.out.2.1.mono (by simp)).trans (hC.mono (by simp)) : Chg [cb, ab, mb] wr _) (fun j hj => .inr (HGe.out j (by simp at hj ⊢; omega)))))
          rw [← hL2] at HZ
          clear hL2 hW hC x0 x1 x2
          have q1 : (V != V) = false := by simp
          have hp : V = 0 ∨ 0 < V := by omega
          rcases hp with hp | hp
          · have hp1 : ¬ 0 < V := by omega
            have HP := Lib.hid hp
            have hb0 : 0 ≤ V := by omega
            clear hp
            go_wp2_with fail
            refine (svaluec cb ab mb _ L2 _ _ HZ.out.1).mono ?_
            rintro e wa ⟨rfl, hCa⟩
            have HA := Lib.hid hCa
            clear hCa
            go_wp2
            go_roundw
            case rel => exact ⟨k + 1, L2, _, by omega, by omega, rfl, by go_num, (HZ.out.1.calm HA.out).mono (by omega), by omega, by omega, .inl HP.out, HZ.out.2.trans HA.out⟩
            case measure => simp [intOf]; omega
          · have hL2 : L2 = [] := HI.out.resolve_left (by omega)
            have HL2 := Lib.hid hL2
            clear hL2
            go_wp2_with fail
            refine (svaluec cb ab mb _ L2 _ _ HZ.out.1).mono ?_
            rintro e wa ⟨rfl, hCa⟩
            have HA := Lib.hid hCa
            clear hCa
            go_wp2_with fail
            refine (slenc cb ab mb _ L2 _ wa (HZ.out.1.calm HA.out)).mono ?_
            rintro e wb ⟨rfl, hCb⟩
            rw [show ((L2.length : Nat) : Int) = 0 by rw [HL2.out]; rfl]
            have HBb := Lib.hid (HA.out.trans hCb)
            clear hCb
            go_wp2
            go_roundw
            case rel => exact ⟨k + 1, L2, _, by omega, by omega, rfl, by go_num, (HZ.out.1.calm HBb.out).mono (by omega), by omega, by omega, .inr HL2.out, HZ.out.2.trans HBb.out⟩
            case measure => simp [intOf]; omega
        · as_aux_lemma =>
          -- Change
          go_wp2_with fail
          refine (slistc cb ab mb (2 * k) L _ _ (HK.out.1.calm ((Chg.refl [] wr).alloc (.cells #[.int .i64 _, .int .i64 t, .int .i64 p] 30)))).mono ?_
          rintro e w2 ⟨v0, rfl, ho, hC⟩
          obtain ⟨va0, vc0, rfl⟩ := own_slice ho
          have hb2 := hC.blk (heap_alloc_eq wr _) (by simp)
          have x0 := cellB hb2 (i := 0) rfl
          have x1 := cellB hb2 (i := 1) rfl
          have x2 := cellB hb2 (i := 2) rfl
          have H2 := Lib.hid (And.intro (HK.out.1.calm (((Chg.refl [] wr).alloc _).trans hC)) (And.intro (((Chg.refl [] wr).alloc _).trans hC) (own_mono ho ((Chg.refl [] wr).alloc _).size)))
          clear ho hC hb2
          rw [← HF.out.1] at H2 ⊢
          go_wp2_with fail
          refine (schangec cb ab mb (2 * k) L V t p w2 H2.out.1).mono ?_
          rintro e w3 ⟨rfl, hW, hC⟩
          generalize askR L t p true = re
          obtain ⟨L2, hL2⟩ : ∃ X, X = chgL L t p := ⟨_, rfl⟩
          have HI : Hid (V = 0 ∨ L2 = []) := by
            rw [hL2]
            rcases HF.out.2.2 with h | h
            · exact .inl h
            · right
              have h0 : chgL [] t p = [] := by unfold chgL; split <;> rfl
              rw [h, h0]
          have HZ := Lib.hid (And.intro (hW.mono (show (2 * (k : Int)) ≤ 2 * (k : Int) + 2 by omega)) (HK.out.2.trans' ((H2.out.2.1.mono (by simp)).trans (hC.mono (by simp)) : Chg [cb, ab, mb] wr _) (fun j hj => .inr (HGe.out j (by simp at hj ⊢; omega)))))
          rw [← hL2] at HZ
          clear hL2 hW hC x0 x1 x2
          have q1 : (V != V) = false := by simp
          have hp : V = 0 ∨ 0 < V := by omega
          rcases hp with hp | hp
          · have hp1 : ¬ 0 < V := by omega
            have HP := Lib.hid hp
            have hb0 : 0 ≤ V := by omega
            clear hp
            go_wp2_with fail
            refine (svaluec cb ab mb _ L2 _ _ HZ.out.1).mono ?_
            rintro e wa ⟨rfl, hCa⟩
            have HA := Lib.hid hCa
            clear hCa
            go_wp2
            go_roundw
            case rel => exact ⟨k + 1, L2, _, by omega, by omega, rfl, by go_num, (HZ.out.1.calm HA.out).mono (by omega), by omega, by omega, .inl HP.out, HZ.out.2.trans HA.out⟩
            case measure => simp [intOf]; omega
          · have hL2 : L2 = [] := HI.out.resolve_left (by omega)
            have HL2 := Lib.hid hL2
            clear hL2
            go_wp2_with fail
            refine (svaluec cb ab mb _ L2 _ _ HZ.out.1).mono ?_
            rintro e wa ⟨rfl, hCa⟩
            have HA := Lib.hid hCa
            clear hCa
            go_wp2_with fail
            refine (slenc cb ab mb _ L2 _ wa (HZ.out.1.calm HA.out)).mono ?_
            rintro e wb ⟨rfl, hCb⟩
            rw [show ((L2.length : Nat) : Int) = 0 by rw [HL2.out]; rfl]
            have HBb := Lib.hid (HA.out.trans hCb)
            clear hCb
            go_wp2
            go_roundw
            case rel => exact ⟨k + 1, L2, _, by omega, by omega, rfl, by go_num, (HZ.out.1.calm HBb.out).mono (by omega), by omega, by omega, .inr HL2.out, HZ.out.2.trans HBb.out⟩
            case measure => simp [intOf]; omega
        · as_aux_lemma =>
          -- nothing
          go_wp2_with fail
          refine (slistc cb ab mb (2 * k) L _ _ (HK.out.1.calm ((Chg.refl [] wr).alloc (.cells #[.int .i64 _, .int .i64 t, .int .i64 p] 30)))).mono ?_
          rintro e w2 ⟨v0, rfl, ho, hC⟩
          obtain ⟨va0, vc0, rfl⟩ := own_slice ho
          have hb2 := hC.blk (heap_alloc_eq wr _) (by simp)
          have x0 := cellB hb2 (i := 0) rfl
          have x1 := cellB hb2 (i := 1) rfl
          have x2 := cellB hb2 (i := 2) rfl
          have H2 := Lib.hid (And.intro (HK.out.1.calm (((Chg.refl [] wr).alloc _).trans hC)) (And.intro (((Chg.refl [] wr).alloc _).trans hC) (own_mono ho ((Chg.refl [] wr).alloc _).size)))
          clear ho hC hb2
          rw [← HF.out.1] at H2 ⊢
          obtain ⟨L2, hL2⟩ : ∃ X, X = L := ⟨_, rfl⟩
          have HI : Hid (V = 0 ∨ L2 = []) := by rw [hL2]; exact HF.out.2.2
          have HZ := Lib.hid (And.intro (H2.out.1.mono (show (2 * (k : Int)) ≤ 2 * (k : Int) + 2 by omega)) (HK.out.2.trans H2.out.2.1))
          rw [← hL2] at HZ
          clear hL2
          have q1 : (V != V) = false := by simp
          have hp : V = 0 ∨ 0 < V := by omega
          rcases hp with hp | hp
          · have hp1 : ¬ 0 < V := by omega
            have HP := Lib.hid hp
            have hb0 : 0 ≤ V := by omega
            clear hp
            go_wp2_with fail
            refine (svaluec cb ab mb _ L2 _ _ HZ.out.1).mono ?_
            rintro e wa ⟨rfl, hCa⟩
            have HA := Lib.hid hCa
            clear hCa
            go_wp2
            go_roundw
            case rel => exact ⟨k + 1, L2, _, by omega, by omega, rfl, by go_num, (HZ.out.1.calm HA.out).mono (by omega), by omega, by omega, .inl HP.out, HZ.out.2.trans HA.out⟩
            case measure => simp [intOf]; omega
          · have hL2 : L2 = [] := HI.out.resolve_left (by omega)
            have HL2 := Lib.hid hL2
            clear hL2
            go_wp2_with fail
            refine (svaluec cb ab mb _ L2 _ _ HZ.out.1).mono ?_
            rintro e wa ⟨rfl, hCa⟩
            have HA := Lib.hid hCa
            clear hCa
            go_wp2_with fail
            refine (slenc cb ab mb _ L2 _ wa (HZ.out.1.calm HA.out)).mono ?_
            rintro e wb ⟨rfl, hCb⟩
            rw [show ((L2.length : Nat) : Int) = 0 by rw [HL2.out]; rfl]
            have HBb := Lib.hid (HA.out.trans hCb)
            clear hCb
            go_wp2
            go_roundw
            case rel => exact ⟨k + 1, L2, _, by omega, by omega, rfl, by go_num, (HZ.out.1.calm HBb.out).mono (by omega), by omega, by omega, .inr HL2.out, HZ.out.2.trans HBb.out⟩
            case measure => simp [intOf]; omega
      all_goals
        clear hG
        go_wp2
        go_ret
        exact ⟨rfl, HK.out.2⟩
  · have hno : V0 < 0 ∨ 32767 < V0 := by omega
    have HN := Lib.hid hno
    clear hno hin
    go_enter Try.func3, Try.ntmps3
    go_wp2_with fail
    refine (known14 w).mono ?_
    rintro e w0 ⟨rfl, hC0⟩
    have H0 := Lib.hid hC0
    clear hC0
    go_wp2_with fail
    refine (snew_no V0 w0 HN.out).mono ?_
    rintro e w1 ⟨rfl, rfl⟩
    go_wp2_with (first | fail | (go_at_call 9; go_in))
    go_ret
    exact ⟨rfl, H0.out⟩

end Go.Proofs.Ytknngbnkcbcanaa
