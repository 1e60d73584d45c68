
/- metronomelaw14.SemBarriers answers true, whatever the count and the steps. -/
import Derived.Test.YtknngbnkcbcanaaSKnown
import Derived.Test.YtknngbnkcbcanaaRow
namespace Go.Proofs.Ytknngbnkcbcanaa
open Go.RowKit

set_option maxRecDepth 100000 in
set_option maxHeartbeats 4000000 in
theorem semBarriers_any (V0 : Int) (v : Value) (R : List (Nat → Int)) (w : World) (hv : IsRows 3 w v R) :
    Calls Try.prog 5 #[.int .i64 V0, v] w fun e w' => e = .returned (.bool true) ∧ Chg [] w w' := by
  obtain ⟨a, cap, rfl⟩ := hv.slice
  have HV := Lib.hid hv
  clear hv
  by_cases hin : 1 ≤ V0 ∧ V0 ≤ 16
  · obtain ⟨u0, u1⟩ := hin
    go_enter Try.func5, Try.ntmps5
    go_wp2_with fail
    refine (bnewc V0 w u0 u1).mono ?_
    rintro e w1 ⟨cb, ab, mb, rfl, hcb, hab, hmb, hW1, hC1⟩
    have H1 := Lib.hid (And.intro hW1 (And.intro hC1 (And.intro hcb (And.intro hab hmb))))
    clear hcb hab hmb hW1 hC1
    go_wp2_with fail
    refine (rbnewc V0 w1 u0 u1).mono ?_
    rintro e w2 ⟨rc, rb, rfl, hrc, hrb, hR2, hC2⟩
    have hs := H1.out.2.1.size
    have H2 := Lib.hid (And.intro (PB.mk (H1.out.1.calm hC2) hR2 barNe) (And.intro (H1.out.2.1.trans hC2) (show ∀ k ∈ [cb, ab, mb, rc, rb], w.heap.size ≤ k from fun k hk => by have := H1.out.2.2; simp at hk; omega)))
    clear hrc hrb hR2 hC2 hs H1
    go_wp2_with (first | fail | (go_at_call 9; refine (snumc _ _).mono ?_; rintro e wz ⟨rfl, rfl⟩))
    go_loopw [5, 7, 8] (fun x p i wr => ∃ (k cb ab mb rb : Nat) (L : WL) (V : Int), k ≤ R.length ∧ k ≤ 200 ∧ x = .pointer (some ⟨cb, 0, none⟩) ∧ p = .pointer (some ⟨rc, 0, none⟩) ∧ i = .int .i64 k ∧ BB wr cb ab mb rc rb (4 * k) L V ∧ (L.length : Int) < V ∧ V ≤ 16 ∧ Chg [] w wr ∧ (∀ j ∈ [cb, ab, mb, rc, rb], w.heap.size ≤ j)) (fun _ _ i _ => 200 - (intOf i).toNat)
    case atStart => exact ⟨0, cb, ab, mb, rb, [], V0, by omega, by omega, rfl, rfl, rfl, H2.out.1, by simp; omega, u1, H2.out.2.1, H2.out.2.2⟩
    case round =>
      clear H2 u0 u1
      obtain ⟨k, cb, ab, mb, rb, L, V, hk1, hk2, rfl, rfl, rfl, hT, g0, g1, hG, hge⟩ := hrel
      have HK := Lib.hid (And.intro hT (And.intro hG (And.intro hge (And.intro g0 g1))))
      clear hT hge g0 g1
      have hcase : (k < R.length ∧ k < 200) ∨ (¬ k < R.length) ∨ (k < R.length ∧ ¬ k < 200) := by omega
      rcases hcase with ⟨hlt, hlt2⟩ | hlt | ⟨hlt, hlt2⟩
      · have hne : R ≠ [] := fun e => by rw [e] at hlt; simp at hlt
        obtain ⟨g, o, cap', hsl, hcells⟩ := HV.out.addr hne
        cases hsl
        obtain ⟨x, hx⟩ : ∃ x, R[k]? = some x := ⟨_, List.getElem?_eq_getElem hlt⟩
        have hrow := IsRows.row hcells hG hx
        have d0 := hrow 0 (by omega)
        have d1 := hrow 1 (by omega)
        have d2 := hrow 2 (by omega)
        rw [Nat.add_zero] at d0
        clear hcells hrow hx hG hne
        generalize x 0 = kd at *
        generalize x 1 = t at *
        generalize x 2 = p at *
        go_wp2_with fail
        refine (bdoc cb ab mb rc rb (4 * k) L V kd t p _ HK.out.1 (by omega) HK.out.2.2.2.1 HK.out.2.2.2.2).mono ?_
        rintro e w4 ⟨cb', ab', mb', rb', rfl, ha, hr, hW, hC⟩
        have hin : ((bstL L V kd t p).length : Int) < V ∧ V ≤ 16 := ⟨bstL_in HK.out.2.2.2.1, HK.out.2.2.2.2⟩
        obtain ⟨L2, hL2⟩ : ∃ X, X = bstL L V kd t p := ⟨_, rfl⟩
        obtain ⟨V2, hV2⟩ : ∃ X, X = V := ⟨_, rfl⟩
        rw [← hL2] at hW hin
        rw [← hV2] at hW hin
        have HN := Lib.hid (And.intro hW (And.intro (pb_step HK.out.2.1 HK.out.2.2.1 ha hr hC) (And.intro hin (And.intro hW.c.list.facts.2.2 (And.intro hW.c.list.lok (show (ordT L2).length ≤ 16 by unfold ordT; rw [List.length_map, ordT_len hW.c.list.lok]; exact hW.c.list.facts.2.2))))))
        have hh := hW.r.head
        have c0 := cellB hh (i := 0) rfl
        have c1 := cellB hh (i := 1) rfl
        obtain ⟨a1, cap1, hb1, _⟩ := hW.r.list.src
        have q0 : w4.cell? ⟨rb', 0, none⟩ = some (.slice a1 L2.length cap1) := cellB hb1 (i := 0) rfl
        obtain ⟨n, hn⟩ : ∃ n, n = L2.length := ⟨_, rfl⟩
        rw [← hn] at q0 hb1
        have HB := Lib.hid (And.intro hb1 (And.intro hn hh))
        have HP := Lib.hid (hW.calm (Chg.refl [] w4).drew)
        have e1 : (V2 != V2) = false := by simp
        have e2 : ((n : Int) != (n : Int)) = false := by simp
        clear ha hr hW hC d0 d1 d2 hL2 hV2 hin hh hb1 hn
        go_wp2
        go_region_held3 (fun w' => w'.cell? ⟨rc, 0, none⟩ = some (.int .i64 V2) ∧ w'.cell? ⟨rc, 1, none⟩ = some (.pointer (some ⟨rb', 0, none⟩)) ∧ w'.cell? ⟨rb', 0, none⟩ = some (.slice a1 n cap1)) (first | exact ⟨c0, c1, q0⟩ | exact ⟨x0, x1, x2⟩ | exact ⟨y0, y1, y2⟩ | exact ⟨z0, z1, z2⟩ | exact ⟨t0, t1, t2⟩ | exact ⟨s0, s1, s2⟩)
          (first
          | (go_at_call 25; refine (bcountc cb' ab' mb' _ L2 V2 _ HP.out.c).mono ?_; rintro e w5 ⟨rfl, hC⟩; have H5 := Lib.hid (show Chg [] w4 w5 from ⟨hC.os, hC.tape, hC.output, hC.size, hC.block⟩); clear hC; have x0 := cellB (H5.out.blk HB.out.2.2 (by simp)) (i := 0) rfl; have x1 := cellB (H5.out.blk HB.out.2.2 (by simp)) (i := 1) rfl; have x2 : w5.cell? ⟨rb', 0, none⟩ = some (.slice a1 n cap1) := cellB (H5.out.blk HB.out.1 (by simp)) (i := 0) rfl)
          | (go_at_call 26; refine (blenc cb' ab' mb' _ L2 V2 w5 (HN.out.1.c.calm H5.out)).mono ?_; rintro e w6 ⟨rfl, hC⟩; rw [← HB.out.2.1]; have H6 := Lib.hid (H5.out.trans hC); clear hC; have y0 := cellB (H6.out.blk HB.out.2.2 (by simp)) (i := 0) rfl; have y1 := cellB (H6.out.blk HB.out.2.2 (by simp)) (i := 1) rfl; have y2 : w6.cell? ⟨rb', 0, none⟩ = some (.slice a1 n cap1) := cellB (H6.out.blk HB.out.1 (by simp)) (i := 0) rfl)
          | (go_at_call 27; refine (blistc cb' ab' mb' _ L2 V2 w6 (HN.out.1.c.calm H6.out)).mono ?_; rintro e w7 ⟨v1, rfl, ho1, hC⟩; have HO1 := Lib.hid ho1; have H7 := Lib.hid (H6.out.trans hC); clear hC ho1; have z0 := cellB (H7.out.blk HB.out.2.2 (by simp)) (i := 0) rfl; have z1 := cellB (H7.out.blk HB.out.2.2 (by simp)) (i := 1) rfl; have z2 : w7.cell? ⟨rb', 0, none⟩ = some (.slice a1 n cap1) := cellB (H7.out.blk HB.out.1 (by simp)) (i := 0) rfl)
          | (go_at_call 21; refine (rlistc rb' L2 w7 (HN.out.1.r.calm H7.out).list (by have := HN.out.2.2.2.1; omega) HN.out.2.2.2.2.1).mono ?_; rintro e w8 ⟨v2, rfl, ho2, hC⟩; have HO2 := Lib.hid (And.intro (IsInts.of_own (own_kept HO1.out hC (by simp))) (IsInts.of_own ho2)); have H8 := Lib.hid (H7.out.trans hC); clear hC ho2; have t0 := cellB (H8.out.blk HB.out.2.2 (by simp)) (i := 0) rfl; have t1 := cellB (H8.out.blk HB.out.2.2 (by simp)) (i := 1) rfl; have t2 : w8.cell? ⟨rb', 0, none⟩ = some (.slice a1 n cap1) := cellB (H8.out.blk HB.out.1 (by simp)) (i := 0) rfl)
          | (go_at_call 20; refine (sameInts_any v1 v2 (ordT L2) (ordT L2) w8 HO2.out.1 HO2.out.2 (by have := HN.out.2.2.2.2.2; omega) (by have := HN.out.2.2.2.2.2; omega)).mono ?_; rintro e w9 ⟨rfl, hC⟩; rw [show decide (ordT L2 = ordT L2) = true from decide_eq_true rfl]; have H9 := Lib.hid (H8.out.trans hC); clear hC; have s0 := cellB (H9.out.blk HB.out.2.2 (by simp)) (i := 0) rfl; have s1 := cellB (H9.out.blk HB.out.2.2 (by simp)) (i := 1) rfl; have s2 : w9.cell? ⟨rb', 0, none⟩ = some (.slice a1 n cap1) := cellB (H9.out.blk HB.out.1 (by simp)) (i := 0) rfl))
        clear c0 c1 q0 x0 x1 x2 y0 y1 y2 z0 z1 z2 t0 t1 t2 s0 s1 s2
        go_wp2
        go_roundw
        case rel => exact ⟨k + 1, cb', ab', mb', rb', _, _, by omega, by omega, rfl, rfl, by go_num, (HN.out.1.calm H9.out).mono (by omega), HN.out.2.2.1.1, HN.out.2.2.1.2, HN.out.2.1.2.trans H9.out, HN.out.2.1.1⟩
        case measure => simp [intOf]; omega
      all_goals
        clear hG
        go_wp2_with fail
        refine (known14 wr).mono ?_
        rintro e w8 ⟨rfl, hC8⟩
        have HK8 := Lib.hid (HK.out.2.1.trans hC8)
        clear hC8
        go_wp2
        go_ret
        exact ⟨rfl, HK8.out⟩
  · have hno : V0 < 1 ∨ 16 < V0 := by omega
    have HN := Lib.hid hno
    clear hno hin
    go_enter Try.func5, Try.ntmps5
    go_wp2_with fail
    refine (bnew_no V0 w HN.out).mono ?_
    rintro e w1 ⟨rfl, rfl⟩
    go_wp2_with fail
    refine (rbnew_no V0 w HN.out).mono ?_
    rintro e w1 ⟨rfl, rfl⟩
    go_wp2_with (first | fail | (go_at_call 9; go_in))
    refine (known14 w).mono ?_
    rintro e w8 ⟨rfl, hC8⟩
    go_wp2
    go_ret
    exact ⟨rfl, hC8⟩

end Go.Proofs.Ytknngbnkcbcanaa
