/- metronomelaw16.CondSame and CondSteps answer true, whatever the steps. -/
import Derived.Test.YtjdefbkppjdokaaCTwo
import Derived.Test.YtjdefbkppjdokaaCSt
import Derived.Test.YtjdefbkppjdokaaCKnown
namespace Go.Proofs.Ytjdefbkppjdokaa
open Go.RowKit

set_option maxRecDepth 100000 in
set_option maxHeartbeats 4000000 in
theorem condSteps_any (v : Value) (R : List (Nat → Int)) (w : World) (hv : IsRows 4 w v R) :
    Calls Try.prog 5 #[v] w fun e w' => e = .returned (.bool true) ∧ Chg [] w w' := by
  obtain ⟨a, cap, rfl⟩ := hv.slice
  have HV := Lib.hid hv
  clear hv
  go_enter Try.func5, Try.ntmps5
  go_wp2_with fail
  refine (cnewc w).mono ?_
  rintro e w1 ⟨cb, ab, mb, rfl, hcb, hab, hmb, hW1, hC1⟩
  have H1 := Lib.hid (And.intro hW1 (And.intro hC1 (And.intro hcb (And.intro hab hmb))))
  clear hcb hab hmb hW1 hC1
  go_wp2_with fail
  refine (rcnewc w1).mono ?_
  rintro e w2 ⟨rc, rb, rfl, hrc, hrb, hR2, hC2⟩
  have hs := H1.out.2.1.size
  have H2 := Lib.hid (And.intro (CB.mk (H1.out.1.calm hC2) hR2) (And.intro (H1.out.2.1.trans hC2) (show ∀ k ∈ [cb, ab, mb, rc, rb], w.heap.size ≤ k from fun k hk => by have := H1.out.2.2; simp at hk; omega)))
  clear hrc hrb hR2 hC2 hs H1
  go_wp2
  go_loopw [3, 4, 5] (fun x p i wr => ∃ (k cb ab mb rb : Nat) (L : WL) (M : Int), k ≤ R.length ∧ k ≤ 200 ∧ x = .pointer (some ⟨cb, 0, none⟩) ∧ p = .pointer (some ⟨rc, 0, none⟩) ∧ i = .int .i64 k ∧ CB wr cb ab mb rc rb k L M ∧ Chg [] w wr ∧ (∀ j ∈ [cb, ab, mb, rc, rb], w.heap.size ≤ j)) (fun _ _ i _ => 200 - (intOf i).toNat)
  case atStart => exact ⟨0, cb, ab, mb, rb, [], 0, by omega, by omega, rfl, rfl, rfl, H2.out.1, H2.out.2.1, H2.out.2.2⟩
  case round =>
    clear H2
    obtain ⟨k, cb, ab, mb, rb, L, M, hk1, hk2, rfl, rfl, rfl, hT, hG, hge⟩ := hrel
    have HK := Lib.hid (And.intro hT (And.intro hG hge))
    clear hT hge
    have hcase : (k < R.length ∧ k < 200) ∨ (¬ k < R.length) ∨ (k < R.length ∧ ¬ k < 200) := by omega
    rcases hcase with ⟨hlt, hlt2⟩ | hlt | ⟨hlt, hlt2⟩
    · have hne : R ≠ [] := fun e => by rw [e] at hlt; simp at hlt
      obtain ⟨g, o, cap', hsl, hcells⟩ := HV.out.addr hne
      cases hsl
      obtain ⟨x, hx⟩ : ∃ x, R[k]? = some x := ⟨_, List.getElem?_eq_getElem hlt⟩
      have hrow := IsRows.row hcells hG hx
      have d0 := hrow 0 (by omega)
      have d1 := hrow 1 (by omega)
      have d2 := hrow 2 (by omega)
      have d3 := hrow 3 (by omega)
      rw [Nat.add_zero] at d0
      clear hcells hrow hx hG hne
      generalize x 0 = kd at *
      generalize x 1 = t at *
      generalize x 2 = p at *
      generalize x 3 = m at *
      go_wp2_with fail
      refine (cdoc cb ab mb rc rb k L M kd t p m _ HK.out.1 (by omega)).mono ?_
      rintro e w4 ⟨cb', ab', mb', rb', rfl, ha, hr, hW, hC⟩
      have HN := Lib.hid (And.intro hW (cb_step HK.out.2.1 HK.out.2.2 ha hr hC))
      clear ha hr hW hC d0 d1 d2 d3
      go_wp2_with fail
      refine (cstandsc cb' ab' mb' rc rb' _ _ _ _ HN.out.1).mono ?_
      rintro e w5 ⟨rfl, hC⟩
      have HS := Lib.hid hC
      clear hC
      go_wp2
      go_roundw
      case rel => exact ⟨k + 1, cb', ab', mb', rb', _, _, by omega, by omega, rfl, rfl, by go_num, by rw [Int.natCast_add]; exact HN.out.1.calm HS.out, HN.out.2.2.trans HS.out, HN.out.2.1⟩
      case measure => simp [intOf]; omega
    all_goals
      clear hG
      go_wp2_with fail
      refine (known16 wr).mono ?_
      rintro e w8 ⟨rfl, hC8⟩
      have HK8 := Lib.hid (HK.out.2.1.trans hC8)
      clear hC8
      go_wp2
      go_ret
      exact ⟨rfl, HK8.out⟩

set_option maxRecDepth 100000 in
set_option maxHeartbeats 4000000 in
theorem condSame_any (v u : Value) (R S : List (Nat → Int)) (w : World) (hv : IsRows 4 w v R) (hu : IsRows 4 w u S) :
    Calls Try.prog 4 #[v, u] w fun e w' => e = .returned (.bool true) ∧ Chg [] w w' := by
  obtain ⟨a, cap, rfl⟩ := hv.slice
  obtain ⟨b, cap2, rfl⟩ := hu.slice
  have HV := Lib.hid (And.intro hv hu)
  clear hv hu
  go_enter Try.func4, Try.ntmps4
  go_wp2_with fail
  refine (cnewc w).mono ?_
  rintro e w1 ⟨c1, a1, m1, rfl, hcb, hab, hmb, hW1, hC1⟩
  have H1 := Lib.hid (And.intro hW1 (And.intro hC1 (And.intro hcb (And.intro hab hmb))))
  clear hcb hab hmb hW1 hC1
  go_wp2_with fail
  refine (cnewc w1).mono ?_
  rintro e w2 ⟨c2, a2, m2, rfl, hcb, hab, hmb, hW2, hC2⟩
  have H2 := Lib.hid (And.intro (H1.out.1.calm hC2) (And.intro hW2 (And.intro (H1.out.2.1.trans hC2) (And.intro hcb (And.intro hab (And.intro hmb (And.intro H1.out.2.2 (And.intro H1.out.1.lt H1.out.2.1.size))))))))
  clear hcb hab hmb hW2 hC2 H1
  go_wp2_with fail
  refine (rcnewc w2).mono ?_
  rintro e w3 ⟨s1, r1, rfl, hrc, hrb, hR3, hC3⟩
  have H3 := Lib.hid (And.intro (H2.out.1.calm hC3) (And.intro (H2.out.2.1.calm hC3) (And.intro hR3 (And.intro (H2.out.2.2.1.trans hC3) (And.intro hrc (And.intro hrb (And.intro H2.out.2.2.2 (And.intro H2.out.2.1.lt H2.out.2.2.1.size))))))))
  clear hrc hrb hR3 hC3 H2
  go_wp2_with fail
  refine (rcnewc w3).mono ?_
  rintro e w4 ⟨s2, r2, rfl, hrc, hrb, hR4, hC4⟩
  have hl3 := H3.out.2.2.1.lt
  have HT := Lib.hid (And.intro (show CTwo w.heap.size w4 c1 a1 m1 s1 r1 0 [] 0 c2 a2 m2 s2 r2 0 [] 0 from ⟨⟨H3.out.1.calm hC4, H3.out.2.2.1.calm hC4⟩, ⟨H3.out.2.1.calm hC4, hR4⟩,
    fun x hx y hy => by have h1 := H3.out.2.2.2; have h2 := H3.out.2.2.2.1.size; simp at hx hy; omega, fun x hx => by have h1 := H3.out.2.2.2; simp at hx; omega, fun x hx => by have h1 := H3.out.2.2.2; have h2 := H3.out.2.2.2.1.size; simp at hx; omega⟩) (H3.out.2.2.2.1.trans hC4))
  clear hrc hrb hR4 hC4 hl3 H3
  go_wp2
  go_loopw [5, 7, 9, 10] (fun x p ok i wr => ∃ (k c1 a1 m1 r1 : Nat) (L1 : WL) (M1 : Int), k ≤ R.length ∧ k ≤ 60 ∧ x = .pointer (some ⟨c1, 0, none⟩) ∧ p = .pointer (some ⟨s1, 0, none⟩) ∧ ok = .bool true ∧ i = .int .i64 k ∧ CTwo w.heap.size wr c1 a1 m1 s1 r1 k L1 M1 c2 a2 m2 s2 r2 0 [] 0 ∧ Chg [] w wr) (fun _ _ _ i _ => 60 - (intOf i).toNat)
  case atStart => exact ⟨0, c1, a1, m1, r1, [], 0, by omega, by omega, rfl, rfl, rfl, rfl, HT.out.1, HT.out.2⟩
  case round =>
    clear HT
    obtain ⟨k, c1, a1, m1, r1, L1, M1, hk1, hk2, rfl, rfl, rfl, rfl, hT, hG⟩ := hrel
    have HK := Lib.hid (And.intro hT hG)
    clear hT
    have hcase : (k < R.length ∧ k < 60) ∨ (¬ k < R.length) ∨ (k < R.length ∧ ¬ k < 60) := by omega
    rcases hcase with ⟨hlt, hlt2⟩ | hlt | ⟨hlt, hlt2⟩
    · have hne : R ≠ [] := fun e => by rw [e] at hlt; simp at hlt
      obtain ⟨g, o, cap', hsl, hcells⟩ := HV.out.1.addr hne
      cases hsl
      obtain ⟨x, hx⟩ : ∃ x, R[k]? = some x := ⟨_, List.getElem?_eq_getElem hlt⟩
      have hrow := IsRows.row hcells hG hx
      have d0 := hrow 0 (by omega)
      have d1 := hrow 1 (by omega)
      have d2 := hrow 2 (by omega)
      have d3 := hrow 3 (by omega)
      rw [Nat.add_zero] at d0
      clear hcells hrow hx hG hne
      generalize x 0 = kd at *
      generalize x 1 = t at *
      generalize x 2 = p at *
      generalize x 3 = m at *
      go_wp2_with fail
      refine (cdoc c1 a1 m1 s1 r1 k L1 M1 kd t p m _ HK.out.1.A (by omega)).mono ?_
      rintro e w4 ⟨cb', ab', mb', rb', rfl, ha, hr, hW, hC⟩
      have HN := Lib.hid (HK.out.1.step HK.out.2 rfl ha hr hW hC)
      clear ha hr hW hC d0 d1 d2 d3
      go_wp2
      go_roundw
      case rel => exact ⟨k + 1, cb', ab', mb', rb', _, _, by omega, by omega, rfl, rfl, rfl, by go_num, by rw [Int.natCast_add]; exact HN.out.1, HN.out.2⟩
      case measure => simp [intOf]; omega
    all_goals
      obtain ⟨N1, hN1⟩ : ∃ N1 : Int, N1 = (k : Int) := ⟨_, rfl⟩
      rw [← hN1] at HK
      clear hG hN1
      go_wp2
      go_loopw [6, 8, 9, 11] (fun x p ok i wr => ∃ (k2 c2 a2 m2 r2 : Nat) (L2 : WL) (M2 : Int), k2 ≤ S.length ∧ k2 ≤ 60 ∧ x = .pointer (some ⟨c2, 0, none⟩) ∧ p = .pointer (some ⟨s2, 0, none⟩) ∧ ok = .bool true ∧ i = .int .i64 k2 ∧ CTwo w.heap.size wr c2 a2 m2 s2 r2 k2 L2 M2 c1 a1 m1 s1 r1 N1 L1 M1 ∧ Chg [] w wr) (fun _ _ _ i _ => 60 - (intOf i).toNat)
      case atStart => exact ⟨0, c2, a2, m2, r2, [], 0, by omega, by omega, rfl, rfl, rfl, rfl, HK.out.1.swap, HK.out.2⟩
      case round =>
        clear HK
        obtain ⟨k2, c2, a2, m2, r2, L2, M2, hk12, hk22, rfl, rfl, rfl, rfl, hT, hG⟩ := hrel
        have HK := Lib.hid (And.intro hT (And.intro hG (And.intro hT.A.c.list.facts.2.2 hT.C.c.list.facts.2.2)))
        clear hT
        have hcase : (k2 < S.length ∧ k2 < 60) ∨ (¬ k2 < S.length) ∨ (k2 < S.length ∧ ¬ k2 < 60) := by omega
        rcases hcase with ⟨hlt, hlt2⟩ | hlt | ⟨hlt, hlt2⟩
        · have hne : S ≠ [] := fun e => by rw [e] at hlt; simp at hlt
          obtain ⟨g, o, cap', hsl, hcells⟩ := HV.out.2.addr hne
          cases hsl
          obtain ⟨x, hx⟩ : ∃ x, S[k2]? = some x := ⟨_, List.getElem?_eq_getElem hlt⟩
          have hrow := IsRows.row hcells hG hx
          have d0 := hrow 0 (by omega)
          have d1 := hrow 1 (by omega)
          have d2 := hrow 2 (by omega)
          have d3 := hrow 3 (by omega)
          rw [Nat.add_zero] at d0
          clear hcells hrow hx hG hne
          generalize x 0 = kd at *
          generalize x 1 = t at *
          generalize x 2 = p at *
          generalize x 3 = m at *
          go_wp2_with fail
          refine (cdoc c2 a2 m2 s2 r2 k2 L2 M2 kd t p m _ HK.out.1.A (by omega)).mono ?_
          rintro e w4 ⟨cb', ab', mb', rb', rfl, ha, hr, hW, hC⟩
          have HN := Lib.hid (HK.out.1.step HK.out.2.1 rfl ha hr hW hC)
          clear ha hr hW hC d0 d1 d2 d3
          go_wp2
          go_roundw
          case rel => exact ⟨k2 + 1, cb', ab', mb', rb', _, _, by omega, by omega, rfl, rfl, rfl, by go_num, by rw [Int.natCast_add]; exact HN.out.1, HN.out.2⟩
          case measure => simp [intOf]; omega
        all_goals
          clear hG
          go_wp2_with fail
          refine (csamec c1 a1 m1 c2 a2 m2 _ _ L1 L2 M1 M2 wr HK.out.1.C.c HK.out.1.A.c).mono ?_
          rintro e w5 ⟨rfl, hC5⟩
          have HK5 := Lib.hid (And.intro (HK.out.1.calm hC5) (HK.out.2.1.trans hC5))
          clear hC5
          go_wp2_with fail
          refine (rcsamec s1 r1 s2 r2 L1 L2 M1 M2 w5 HK5.out.1.C.r HK5.out.1.A.r (by have := HK.out.2.2; omega) (by have := HK.out.2.2; omega)).mono ?_
          rintro e w6 ⟨rfl, hC6⟩
          have HK6 := Lib.hid (And.intro (HK5.out.1.calm hC6) (HK5.out.2.trans hC6))
          clear hC6
          generalize (decide (muM L1 M1 = muM L2 M2) && decide (L1 = L2)) = dd at *
          have hdd : (dd == dd) = true := by simp
          go_wp2_with fail
          refine (csamec c1 a1 m1 c1 a1 m1 _ _ L1 L1 M1 M1 w6 HK6.out.1.C.c HK6.out.1.C.c).mono ?_
          rintro e w7 ⟨rfl, hC7⟩
          rw [show (decide (muM L1 M1 = muM L1 M1) && decide (L1 = L1)) = true by rw [decide_eq_true rfl, decide_eq_true rfl]; rfl]
          have HK7 := Lib.hid (HK6.out.2.trans hC7)
          clear hC7
          go_wp2_with fail
          refine (known16 w7).mono ?_
          rintro e w8 ⟨rfl, hC8⟩
          have HK8 := Lib.hid (HK7.out.trans hC8)
          clear hC8
          go_wp2
          go_ret
          exact ⟨rfl, HK8.out⟩

end Go.Proofs.Ytjdefbkppjdokaa
