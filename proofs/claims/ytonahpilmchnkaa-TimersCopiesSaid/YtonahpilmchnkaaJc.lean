
/- Timers: Arm: contract. -/
import Derived.Test.YtonahpilmchnkaaJb
namespace Go.Proofs.Ytonahpilmchnkaa
open Go.RowKit

theorem TS.rests_n (s : TS) (i : Nat) : (s.rests i).n = s.n := by unfold TS.rests; split <;> rfl
theorem TS.rests_get {s : TS} {i : Nat} {e : TE} (he : s.L[i]? = some e) : (s.rests i).L[i]? = some e.rest := by
  unfold TS.rests
  rw [he]
  exact List.getElem?_set_self (List.getElem?_eq_some_iff.1 he).1
theorem TS.rests_c (s : TS) (i : Nat) (k : Int) : ((s.rests i).W k).c = (s.W k).c := by
  unfold TS.rests
  split
  · rfl
  · split
    · rename_i e _ _
      by_cases h : k = e.clock
      · subst h
        show (updW s.W e.clock _ e.clock).c = _
        rw [updW_same]
        rfl
      · show (updW s.W e.clock _ k).c = _
        rw [updW_other h]
    · rfl

theorem NextT.cw {w w2 : World} {b : Nat} {bs : Int → Nat} {vs : Int → List Value} {s : TS} (h : NextT b bs vs s w w2) {k : Nat} (hk : k < 2) : w2.cell? ⟨b, 1 + k, none⟩ = some (.pointer (some ⟨bs k, 0, none⟩)) := by
  obtain ⟨vs2, hA, _⟩ := h
  exact hA.cw hk
/-- A wheel's Set, behind other steps. -/
theorem NextT.setc {w w2 : World} {b : Nat} {bs : Int → Nat} {vs : Int → List Value} {s : TS} (h : NextT b bs vs s w w2) {k : Int} (hk : isC k) (n t : Int) (hc : (s.W k).c < 4611686018427387904) :
    Calls Try.prog 27 #[.pointer (some ⟨bs k, 0, none⟩), .int .i64 n, .int .i64 t] w2 fun e w3 => e = .returned (.int .i64 (HS.setE n t)) ∧ NextT b bs vs ⟨s.n, s.L, updW s.W k ((s.W k).setS n t)⟩ w w3 := by
  obtain ⟨vs2, hA, hC, hB⟩ := h
  refine (Go.Proofs.Ytonahpilmchnkaa.setc (bs k) (vs2 k) (s.W k) n t w2 (hA.wh k hk) hc).mono ?_
  rintro e w3 ⟨rfl, us, hA3, hC3, hB3⟩
  exact ⟨rfl, NextT.trans hC hB (hA.wheel hk hA3 hC3 hB3)⟩

set_option maxRecDepth 100000 in
set_option maxHeartbeats 4000000 in
theorem parmc (b : Nat) (bs : Int → Nat) (vs : Int → List Value) (s : TS) (id c t v : Int) (w : World) (h : TAt w b bs vs s) (hI : ∀ (i : Nat) e, s.L[i]? = some e → e.armed = true → isC e.clock) (hc : ∀ k, isC k → (s.W k).c < 4611686018427387904) :
    Calls Try.prog 10 #[.pointer (some ⟨b, 0, none⟩), .int .i64 id, .int .i64 c, .int .i64 t, .int .i64 v] w fun e w' => e = .returned (.int .i64 (s.armE id c t v)) ∧ NextT b bs vs (s.armS id c t v) w w' := by
  have HTt := Lib.hid (fun W => ptimec t W)
  have HTv := Lib.hid (fun W => ptimec v W)
  by_cases hok : okArm s id c t v
  · rw [show s.armE id c t v = 0 from if_pos hok, show s.armS id c t v = (s.rests id.toNat).arms id.toNat c t v from if_pos hok]
    obtain ⟨hin, hcl, ht, hv⟩ := hok
    rw [show (∀ W, Calls Try.prog 26 #[.int .i64 t] W fun e w' => e = .returned (.bool (decide (okAt t))) ∧ w' = W) = (∀ W, Calls Try.prog 26 #[.int .i64 t] W fun e w' => e = .returned (.bool true) ∧ w' = W) from by rw [show decide (okAt t) = true from decide_eq_true ht]] at HTt
    rw [show (∀ W, Calls Try.prog 26 #[.int .i64 v] W fun e w' => e = .returned (.bool (decide (okAt v))) ∧ w' = W) = (∀ W, Calls Try.prog 26 #[.int .i64 v] W fun e w' => e = .returned (.bool true) ∧ w' = W) from by rw [show decide (okAt v) = true from decide_eq_true hv]] at HTv
    have HMp := fun W (hW : TAt W b bs vs s) => pmayc b bs vs s id true W hW
    rw [if_pos ⟨hin, rfl⟩] at HMp
    have HSp := pstopc b bs vs s id w h hI
    rw [show s.stopE id = 0 from if_pos hin, show s.stopS id = s.rests id.toNat from if_pos hin] at HSp
    obtain ⟨i, rfl⟩ := Int.eq_ofNat_of_zero_le hin.1
    have hi8 : i < 8 := by have := hin.2; have := h.n8; omega
    obtain ⟨e, he⟩ : ∃ e, s.L[i]? = some e := ⟨_, List.getElem?_eq_getElem (by rw [h.len]; exact hi8)⟩
    rw [Int.toNat_natCast] at HSp ⊢
    have hz : (i : Int) < 8 := by omega
    have hz0 : (0 : Int) ≤ (i : Int) := by omega
    obtain ⟨k, rfl⟩ : ∃ k : Nat, c = (k : Int) := by
      rcases hcl with h1 | h1
      · exact ⟨0, h1⟩
      · exact ⟨1, h1⟩
    have hk2 : k < 2 := by rcases hcl with h1 | h1 <;> omega
    have hkz : (k : Int) < 2 := by omega
    have hkz1 : (k : Int) ≤ 1 := by omega
    have hkz0 : (0 : Int) ≤ (k : Int) := by omega
    have hga := TS.rests_get he
    obtain ⟨s1, hs1⟩ : ∃ s1, s1 = s.rests i := ⟨_, rfl⟩
    have hcc : (s1.W k).c < 4611686018427387904 := by rw [hs1, TS.rests_c]; exact hc k hcl
    rw [← hs1] at HSp hga ⊢
    have hfin : s1.arms i k t v = ⟨s1.n, s1.L.set i (e.rest.arm k t v), updW s1.W k ((s1.W k).setS i t)⟩ := by unfold TS.arms; rw [hga]
    rw [hfin]
    have hst : ∀ (x : HS), HS.setE (i : Int) t = 0 := fun x => if_pos ⟨⟨by omega, by omega⟩, ht⟩
    have HX := Lib.hid (And.intro hga (And.intro hcl (And.intro hcc (And.intro (hst ⟨[], 0⟩) (And.intro (HMp w h) HSp)))))
    clear h hI hc hin hcl ht hv HMp HSp he hga hs1 hcc hfin hst
    go_enter Try.func10, Try.ntmps10
    go_wp2_with (first | (go_at_call 26; (first | (with_reducible refine (HTt.out _).mono ?_) | (with_reducible refine (HTv.out _).mono ?_)); rintro e w' ⟨rfl, rfl⟩) | (go_at_call 25; refine HX.out.2.2.2.2.1.mono ?_; rintro e w' ⟨rfl, rfl⟩) | (go_at_call 17; refine HX.out.2.2.2.2.2.mono ?_; rintro e2 w2 ⟨rfl, hN2⟩; have HN := Lib.hid hN2; obtain ⟨⟨c0, c1, c2, c3⟩, fz⟩ := HN.out.cells4 HX.out.1; have cw := HN.out.cw hk2; have H4 := Lib.hid (HN.out.four HX.out.1 true (k : Int) t v); clear hN2) | (go_at_call 27; refine (H4.out.setc HX.out.2.1 (i : Int) t HX.out.2.2.1).mono ?_; rintro e3 w3 ⟨rfl, hN3⟩; have H5 := Lib.hid hN3; clear hN3))
    go_ret
    exact ⟨rfl, H5.out⟩
  · rw [show s.armE id c t v = 2 from if_neg hok, show s.armS id c t v = s from if_neg hok]
    obtain ⟨B1, hB1⟩ : ∃ B1, B1 = decide (okAt t) := ⟨_, rfl⟩
    obtain ⟨B2, hB2⟩ : ∃ B2, B2 = decide (okAt v) := ⟨_, rfl⟩
    have hways : decide (0 ≤ c) = false ∨ (decide (0 ≤ c) = true ∧ decide (c ≤ 1) = false) ∨ (decide (0 ≤ c) = true ∧ decide (c ≤ 1) = true ∧ B1 = false) ∨ (decide (0 ≤ c) = true ∧ decide (c ≤ 1) = true ∧ B1 = true ∧ B2 = false) ∨ (decide (0 ≤ c) = true ∧ decide (c ≤ 1) = true ∧ B1 = true ∧ B2 = true ∧ ¬ inT s id) := by
      by_cases g1 : 0 ≤ c
      · by_cases g2 : c ≤ 1
        · by_cases g3 : okAt t
          · by_cases g4 : okAt v
            · exact .inr (.inr (.inr (.inr ⟨by simpa using g1, by simpa using g2, by rw [hB1]; simpa using g3, by rw [hB2]; simpa using g4, fun hin => hok ⟨hin, by unfold isC; omega, g3, g4⟩⟩)))
            · exact .inr (.inr (.inr (.inl ⟨by simpa using g1, by simpa using g2, by rw [hB1]; simpa using g3, by rw [hB2]; simpa using g4⟩)))
          · exact .inr (.inr (.inl ⟨by simpa using g1, by simpa using g2, by rw [hB1]; simpa using g3⟩))
        · exact .inr (.inl ⟨by simpa using g1, by simpa using g2⟩)
      · exact .inl (by simpa using g1)
    rw [← hB1] at HTt
    rw [← hB2] at HTv
    have HMf := fun (W : World) (hW : TAt W b bs vs s) => pmayc b bs vs s id false W hW
    rw [if_neg (by simp)] at HMf
    have HMt := fun (W : World) (hW : TAt W b bs vs s) (hn : ¬ inT s id) => pmayc b bs vs s id true W hW
    have HT := Lib.hid (And.intro h (And.intro HMf HMt))
    clear h hI hc hok hB1 hB2 HMf HMt
    rcases hways with d1 | ⟨d1, d2⟩ | ⟨d1, d2, rfl⟩ | ⟨d1, d2, rfl, rfl⟩ | ⟨d1, d2, rfl, rfl, hnin⟩
    iterate 4
      · go_enter Try.func10, Try.ntmps10
        go_wp2_with (first | (go_at_call 26; (first | (with_reducible refine (HTt.out _).mono ?_) | (with_reducible refine (HTv.out _).mono ?_)); rintro e w' ⟨rfl, rfl⟩) | (go_at_call 25; refine (HT.out.2.1 _ HT.out.1).mono ?_; rintro e w' ⟨rfl, rfl⟩))
        go_ret
        exact ⟨rfl, NextT.refl HT.out.1⟩
    · have HM := Lib.hid (HT.out.2.2 w HT.out.1 hnin)
      rw [if_neg (fun h => hnin h.1)] at HM
      clear hnin
      go_enter Try.func10, Try.ntmps10
      go_wp2_with (first | (go_at_call 26; (first | (with_reducible refine (HTt.out _).mono ?_) | (with_reducible refine (HTv.out _).mono ?_)); rintro e w' ⟨rfl, rfl⟩) | (go_at_call 25; refine HM.out.mono ?_; rintro e w' ⟨rfl, rfl⟩))
      go_ret
      exact ⟨rfl, NextT.refl HT.out.1⟩

end Go.Proofs.Ytonahpilmchnkaa
