/- metronomeref16: Same. -/
import Derived.Test.YtjdefbkppjdokaaDRa
namespace Go.Proofs.Ytjdefbkppjdokaa
open Go.RowKit

set_option maxRecDepth 100000 in
set_option maxHeartbeats 1000000 in
theorem rcsamec (c1 r1 c2 r2 : Nat) (L1 L2 : WL) (M1 M2 : Int) (w : World) (h1 : RCAt w c1 r1 L1 M1) (h2 : RCAt w c2 r2 L2 M2) (hl1 : L1.length ≤ 999999) (hl2 : L2.length ≤ 999999) :
    Calls Try.prog 22 #[.pointer (some ⟨c1, 0, none⟩), .pointer (some ⟨c2, 0, none⟩)] w fun e w' => e = .returned (.bool (decide (muM L1 M1 = muM L2 M2) && decide (L1 = L2))) ∧ Chg [] w w' := by
  have H := Lib.hid (And.intro h1 (And.intro h2 (And.intro hl1 hl2)))
  have x0 := cellB h1.head (i := 0) rfl
  have y0 := cellB h2.head (i := 0) rfl
  clear h1 h2 hl1 hl2
  by_cases hm : muM L1 M1 = muM L2 M2
  all_goals
    first
      | rw [decide_eq_true hm]
      | rw [decide_eq_false hm]
    have HM := Lib.hid hm
    clear hm
    go_enter Try.func22, Try.ntmps22
    go_wp2_with fail
    refine (rcmutexc c1 r1 L1 M1 w H.out.1).mono ?_
    rintro e w1 ⟨rfl, rfl⟩
    go_wp2_with fail
    refine (rcmutexc c2 r2 L2 M2 w H.out.2.1).mono ?_
    rintro e w2 ⟨rfl, rfl⟩
  · rw [HM.out]
    generalize muM L2 M2 = x
    have hx : (x == x) = true := by simp
    have HS := Lib.hid (rsame r1 r2 L1 L2 w.drew (H.out.1.list.calm (Chg.refl [] w).drew) (H.out.2.1.list.calm (Chg.refl [] w).drew) (by have := H.out.2.2.1; omega) (by have := H.out.2.2.2; omega))
    obtain ⟨d, hd⟩ : ∃ d, d = decide (L1 = L2) := ⟨_, rfl⟩
    rw [← hd] at HS
    have HD := Lib.hid hd
    clear hd
    go_wp2
    refine region_still_tail 12 (by kernel_rfl) (by kernel_rfl) ?_
    simp only [List.take_succ_cons, List.take_zero, List.drop_succ_cons, List.drop_zero]
    repeat still_step
    refine wpStill_nil ?_
    go_wp2_with fail
    refine HS.out.mono ?_
    rintro e w5 ⟨rfl, hC⟩
    have HA := Lib.hid ((Chg.refl [] w).drew.trans hC)
    clear hC
    go_wp2
    go_ret
    exact ⟨by rw [Bool.true_and, ← HD.out]; rfl, HA.out⟩
  · generalize muM L1 M1 = x at *
    generalize muM L2 M2 = y at *
    have hx : (x == y) = false := by simpa using HM.out
    go_wp2
    go_quiet (fail)
    go_wp2
    go_ret
    exact ⟨by simp, (Chg.refl [] w).drewN nq⟩

end Go.Proofs.Ytjdefbkppjdokaa
