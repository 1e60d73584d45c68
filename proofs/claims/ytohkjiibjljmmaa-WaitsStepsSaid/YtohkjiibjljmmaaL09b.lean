
/- metronomelaw09.best: it answers true, and takes the head. -/
import Derived.Test.YtohkjiibjljmmaaL09p
namespace Go.Proofs.Ytohkjiibjljmmaa
open Go.RowKit

/-- The array of when they came. -/
def CameAt (w : World) (cb : Nat) (C : CL) : Prop := w.heap[cb]? = some (.cells (C.map (Value.int .i64)).toArray 26 (0, 0))

/-- The array behind a taking. -/
def setHead (L : WL) (C : CL) : CL := match ordL L with | [] => C | x :: _ => C.set x.1.toNat 0

theorem CameAt.cell {w : World} {cb : Nat} {C : CL} (h : CameAt w cb C) (hs : C.length = 16) (k : Nat) (hk : k < 16) : w.cell? ⟨cb, k, none⟩ = some (.int .i64 (cAt C k)) := by
  refine cellB h ?_
  unfold cAt
  simp [List.getD, List.getElem?_eq_getElem (show k < C.length by omega)]

set_option maxRecDepth 100000 in
set_option maxHeartbeats 2000000 in
theorem best_any (ab mb cb : Nat) (N : Int) (L : WL) (C : CL) (w : World) (hW : WAt w ab mb N L) (hC : CameAt w cb C) (hA : Agree L C) (hab : ab ≠ cb) (hmb : mb ≠ cb) :
    Calls Try.prog 12 #[.pointer (some ⟨ab, 0, none⟩), .pointer (some ⟨cb, 0, none⟩)] w fun e w' => e = .returned (.bool true) ∧ WAt w' ab mb N (takeL L) ∧ CameAt w' cb (setHead L C) ∧ Chg [ab, mb, cb] w w' := by
  have HL := Lib.hid hW.lok
  have HA := Lib.hid hA
  have hs := hA.size
  have HW := Lib.hid hW
  have HC := Lib.hid hC
  clear hW hC hA
  go_enter Try.func12, Try.ntmps12
  go_wp2
  go_loopw [5, 6, 7] (fun a b c wr => ∃ k : Nat, k ≤ 16 ∧ a = .int .i64 (bst L C k).1 ∧ b = .int .i64 (bst L C k).2 ∧ c = .int .i64 k ∧ WAt wr ab mb N L ∧ CameAt wr cb C ∧ Chg [] w wr) (fun _ _ c _ => 16 - (intOf c).toNat)
  case atStart => exact ⟨0, by omega, rfl, rfl, rfl, HW.out, HC.out, Chg.refl _ _⟩
  case round =>
    obtain ⟨k, hk, rfl, rfl, rfl, hWk, hCk, hCg⟩ := hrel
    by_cases hlt : k < 16
    · have hP := prioc ab mb N L k wr hWk
      have HK := Lib.hid (And.intro hWk (And.intro hCk hCg))
      have hsp := bst_spec HL.out (C := C) k
      have hst : bst L C (k + 1) = if hasR L k = true ∧ (prioR L k > (bst L C k).2 ∨ (prioR L k = (bst L C k).2 ∧ cAt C k < cAt C (bst L C k).1.toNat)) then ((k : Int), prioR L k) else bst L C k := rfl
      have hp1 : hasR L k = true → 1 ≤ prioR L k := fun ht => by
        obtain ⟨p, hm⟩ := hasR_mem.1 ht
        have h1 : prioR L k = p := prioR_mem HL.out.nodup (x := ((k : Int), p)) hm
        have := (HL.out.ok _ hm).2
        unfold okP at this
        omega
      have hh := HA.out.has k hlt
      have hcs := fun W (h : CameAt W cb C) => h.cell hs k hlt
      have HCS := Lib.hid hcs
      clear hWk hcs hCk hCg
      obtain ⟨bs, hbs⟩ : ∃ bs, bs = hasR L (k : Int) := ⟨_, rfl⟩
      obtain ⟨p, hp⟩ : ∃ p, p = prioR L (k : Int) := ⟨_, rfl⟩
      obtain ⟨c, hc⟩ : ∃ c, c = cAt C k := ⟨_, rfl⟩
      obtain ⟨B, hB⟩ : ∃ B, B = bst L C k := ⟨_, rfl⟩
      obtain ⟨B', hB'⟩ : ∃ B', B' = bst L C (k + 1) := ⟨_, rfl⟩
      rw [← hbs, ← hp, ← hc, ← hB, ← hB'] at hst
      rw [← hbs, ← hp] at hp1 hP
      rw [← hbs, ← hc] at hh
      rw [← hB] at hsp ⊢
      rw [← hc] at HCS
      have HB := Lib.hid hB'
      have HP := Lib.hid hP
      clear hbs hB hB' hP
      obtain ⟨a1, b1⟩ := B
      cases bs with
      | false =>
        have hst : B' = (a1, b1) := by rw [hst]; simp
        subst hst
        have hc0 : c ≤ 0 := by simp at hh; omega
        have hd : decide (0 < c) = false := by simp; omega
        clear hsp hp1 hh hc hp
        go_wp2_with (go_at_call 24; refine HP.out.mono ?_; rintro e w2 ⟨rfl, hC2⟩; have cc := HCS.out w2 (hC2.blk HK.out.2.1 (by simp)))
        go_quiet (fail)
        have HC2 := Lib.hid (Chg.drewN hC2 nq)
        clear hC2 cc
        go_wp2
        go_roundw
        case rel =>
          exact ⟨k + 1, by omega, by rw [← HB.out], by rw [← HB.out], by go_num, HK.out.1.kept HC2.out (by simp) (by simp), HC2.out.blk HK.out.2.1 (by simp), HK.out.2.2.trans HC2.out⟩
        case measure => simp [intOf]; omega
      | true =>
        have hp1 := hp1 rfl
        have hc0 : 0 < c := hh.2 rfl
        have hd : decide (0 < c) = true := by simpa using hc0
        rcases hsp with ⟨_, hab⟩ | ⟨j, hj, hhj, hab, _⟩
        · obtain ⟨rfl, rfl⟩ := Prod.mk.inj hab
          have hst : B' = ((k : Int), p) := by rw [hst, if_pos ⟨rfl, .inl (by show p > (0 : Int); omega)⟩]
          subst hst
          have hg : decide ((0 : Int) < p) = true := by simp; omega
          clear hh hc hp hab
          go_wp2_with (go_at_call 24; refine HP.out.mono ?_; rintro e w2 ⟨rfl, hC2⟩; have cc := HCS.out w2 (hC2.blk HK.out.2.1 (by simp)))
          go_quiet (fail)
          have HC2 := Lib.hid (Chg.drewN hC2 nq)
          clear hC2 cc
          go_wp2
          go_roundw
          case rel =>
            exact ⟨k + 1, by omega, by rw [← HB.out], by rw [← HB.out], by go_num, HK.out.1.kept HC2.out (by simp) (by simp), HC2.out.blk HK.out.2.1 (by simp), HK.out.2.2.trans HC2.out⟩
          case measure => simp [intOf]; omega
        · obtain ⟨rfl, hb1⟩ := Prod.mk.inj hab
          clear hb1 hab hhj
          have hcs := fun W (h : CameAt W cb C) => h.cell hs j (by omega)
          obtain ⟨d, hdj⟩ : ∃ d, d = cAt C j := ⟨_, rfl⟩
          simp only [Int.toNat_natCast] at hst
          rw [← hdj] at hst hcs
          have HCJ := Lib.hid hcs
          clear hcs hdj hh hc hp
          rcases Int.lt_trichotomy b1 p with hbp | hbp | hbp
          · have hst : B' = ((k : Int), p) := by rw [hst, if_pos ⟨trivial, .inl hbp⟩]
            subst hst
            have hg : decide (b1 < p) = true := by simpa using hbp
            go_wp2_with (go_at_call 24; refine HP.out.mono ?_; rintro e w2 ⟨rfl, hC2⟩; have cc := HCS.out w2 (hC2.blk HK.out.2.1 (by simp)))
            go_quiet (fail)
            have HC2 := Lib.hid (Chg.drewN hC2 nq)
            clear hC2 cc
            go_wp2
            go_roundw
            case rel =>
              exact ⟨k + 1, by omega, by rw [← HB.out], by rw [← HB.out], by go_num, HK.out.1.kept HC2.out (by simp) (by simp), HC2.out.blk HK.out.2.1 (by simp), HK.out.2.2.trans HC2.out⟩
            case measure => simp [intOf]; omega
          · subst hbp
            have hg : decide (b1 < b1) = false := by simp
            have hg2 : ((b1 : Int) == b1) = true := by simp
            by_cases hcd : c < d
            · have hst : B' = ((k : Int), b1) := by rw [hst, if_pos ⟨trivial, .inr ⟨rfl, hcd⟩⟩]
              subst hst
              have hg3 : decide (c < d) = true := by simpa using hcd
              go_wp2_with (go_at_call 24; refine HP.out.mono ?_; rintro e w2 ⟨rfl, hC2⟩; have cc := HCS.out w2 (hC2.blk HK.out.2.1 (by simp)); have ccj := HCJ.out w2 (hC2.blk HK.out.2.1 (by simp)))
              go_quiet (fail)
              have HC2 := Lib.hid (Chg.drewN hC2 nq)
              clear hC2 cc
              go_wp2
              go_roundw
              case rel =>
                exact ⟨k + 1, by omega, by rw [← HB.out], by rw [← HB.out], by go_num, HK.out.1.kept HC2.out (by simp) (by simp), HC2.out.blk HK.out.2.1 (by simp), HK.out.2.2.trans HC2.out⟩
              case measure => simp [intOf]; omega
            · have hst : B' = ((j : Int), b1) := by rw [hst, if_neg (fun h => by have := h.2; omega)]
              subst hst
              have hg3 : decide (c < d) = false := by simpa using hcd
              go_wp2_with (go_at_call 24; refine HP.out.mono ?_; rintro e w2 ⟨rfl, hC2⟩; have cc := HCS.out w2 (hC2.blk HK.out.2.1 (by simp)); have ccj := HCJ.out w2 (hC2.blk HK.out.2.1 (by simp)))
              go_quiet (fail)
              have HC2 := Lib.hid (Chg.drewN hC2 nq)
              clear hC2 cc
              go_wp2
              go_roundw
              case rel =>
                exact ⟨k + 1, by omega, by rw [← HB.out], by rw [← HB.out], by go_num, HK.out.1.kept HC2.out (by simp) (by simp), HC2.out.blk HK.out.2.1 (by simp), HK.out.2.2.trans HC2.out⟩
              case measure => simp [intOf]; omega
          · have hst : B' = ((j : Int), b1) := by rw [hst, if_neg (fun h => by have := h.2; omega)]
            subst hst
            have hg : decide (b1 < p) = false := by simp; omega
            have hg2 : ((p : Int) == b1) = false := by simp; omega
            go_wp2_with (go_at_call 24; refine HP.out.mono ?_; rintro e w2 ⟨rfl, hC2⟩; have cc := HCS.out w2 (hC2.blk HK.out.2.1 (by simp)))
            go_quiet (fail)
            have HC2 := Lib.hid (Chg.drewN hC2 nq)
            clear hC2 cc
            go_wp2
            go_roundw
            case rel =>
              exact ⟨k + 1, by omega, by rw [← HB.out], by rw [← HB.out], by go_num, HK.out.1.kept HC2.out (by simp) (by simp), HC2.out.blk HK.out.2.1 (by simp), HK.out.2.2.trans HC2.out⟩
            case measure => simp [intOf]; omega
    · have hk16 : k = 16 := by omega
      have hb16 : bst L C k = bst L C 16 := by rw [hk16]
      rw [hb16]
      clear hk16 hb16
      have HK := Lib.hid (And.intro hWk (And.intro hCk hCg))
      have hT := takec ab mb N L wr hWk
      rcases bst_head HL.out HA.out with ⟨hnil, h1⟩ | ⟨x, r, hcons, h1, hx, hxm⟩
      · rw [h1]
        rw [hnil] at hT
        have HT := Lib.hid hT
        have HN := Lib.hid hnil
        clear hT hnil h1 hWk hCk hCg
        simp only [headT, headB] at HT
        generalize (bst L C 16).2 = b1
        go_wp2_with (go_at_call 14; refine HT.out.mono ?_; rintro e w2 ⟨rfl, hW2, hC2⟩)
        go_ret
        exact ⟨rfl, hW2, by unfold setHead; rw [HN.out]; exact hC2.blk HK.out.2.1 (by simp [hab.symm, hmb.symm]), (HK.out.2.2.mono (by simp)).trans (hC2.mono (by simp))⟩
      · rw [h1]
        rw [hcons] at hT
        have hdel : takeL L = wdel L x.1 := by unfold takeL; rw [hcons]
        rw [hdel] at hT
        obtain ⟨t, p⟩ := x
        simp only [headT, headB] at hT
        have HT := Lib.hid hT
        have HN := Lib.hid hcons
        have HD := Lib.hid hdel
        have hok := hx
        unfold okT at hok
        simp only at hok
        obtain ⟨tn, rfl⟩ : ∃ tn : Nat, t = (tn : Int) := ⟨t.toNat, by omega⟩
        have htn : tn < 16 := by omega
        have hno : hasR (wdel L (tn : Int)) (tn : Int) = false := by
          rw [Bool.eq_false_iff]
          intro h
          obtain ⟨q, hm⟩ := hasR_mem.1 h
          rw [wdel_filter HL.out.nodup] at hm
          have := (List.mem_filter.1 hm).2
          simp at this
        have HNO := Lib.hid hno
        clear hT hcons hdel h1 hWk hCk hCg hx hok hxm hno
        generalize (bst L C 16).2 = b1
        have hg : ((tn : Int) == (tn : Int)) = true := by simp
        go_wp2_with (first
          | (go_at_call 14; refine HT.out.mono ?_; rintro e w2 ⟨rfl, hW2, hC2⟩; have hCk := hC2.blk HK.out.2.1 (by simp [hab.symm, hmb.symm]); have f0 := frozenB hCk tn; have cc := (show CameAt w2 cb C from hCk).cell hs tn htn)
          | (go_at_call 25; refine (hasc ab mb N (wdel L (tn : Int)) (tn : Int) _ (hW2.kept ((Chg.refl [cb] w2).setCell ⟨cb, tn, none⟩ (.int .i64 0) (by simp)) (by simpa using hab) (by simpa using hmb))).mono ?_; rintro e w3 ⟨rfl, hC3⟩; rw [HNO.out]))
        have hb3 := hC3.blk (blk_setCell hCk (i := tn) (.int .i64 0)) (by simp)
        have HC3 := Lib.hid hC3
        have HB3 := Lib.hid hb3
        clear hC3 hb3
        go_wp2
        go_ret
        refine ⟨rfl, ?_, ?_, ?_⟩
        · rw [HD.out]
          exact (hW2.kept ((Chg.refl [cb] w2).setCell ⟨cb, tn, none⟩ (.int .i64 0) (by simp)) (by simpa using hab) (by simpa using hmb)).kept HC3.out (by simp) (by simp)
        · unfold setHead CameAt
          rw [HN.out, HB3.out]
          simp [List.map_set]
        · exact ((HK.out.2.2.mono (by simp)).trans ((hC2.mono (by simp)).setCell ⟨cb, tn, none⟩ (.int .i64 0) (by simp))).trans (HC3.out.mono (by simp))

end Go.Proofs.Ytohkjiibjljmmaa
