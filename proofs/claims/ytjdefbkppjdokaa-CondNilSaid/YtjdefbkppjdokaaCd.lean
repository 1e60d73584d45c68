/- Package cond: Copy, Same: contracts. -/
import Derived.Test.YtjdefbkppjdokaaCc
import Derived.Deep.RegionHeld3
import Derived.OwnWalk
namespace Go.Proofs.Ytjdefbkppjdokaa
open Go.RowKit

set_option maxRecDepth 100000 in
set_option maxHeartbeats 1000000 in
theorem ccopyc (cb ab mb : Nat) (N : Int) (L : WL) (M : Int) (w : World) (h : CAt w cb ab mb N L M) :
    Calls Try.prog 40 #[.pointer (some ⟨cb, 0, none⟩)] w (CCopyP N L M w) := by
  have H := Lib.hid h
  clear h
  go_enter Try.func40, Try.ntmps40
  go_wp2_with fail
  refine (ofc cb ab mb N L M w H.out).mono ?_
  rintro e w1 ⟨rfl, hC⟩
  have hh := (H.out.calm hC).head
  have c0 := cellB hh (i := 0) rfl
  have c1 := cellB hh (i := 1) rfl
  have H1 := Lib.hid (And.intro hC (And.intro hh (H.out.calm hC).list))
  clear hC hh
  go_wp2
  have HP := Lib.hid (H1.out.2.2.kept ((Chg.refl [] w1).drew) (by simp) (by simp))
  go_region_held3 (fun w' => w'.cell? ⟨cb, 0, none⟩ = some (.pointer (some ⟨ab, 0, none⟩)) ∧ w'.cell? ⟨cb, 1, none⟩ = some (.int .i64 M)) (first | exact ⟨c0, c1⟩ | exact ⟨x0, x1⟩ | exact ⟨cellB (blk_alloc hb2 _) rfl, cellB (blk_alloc hb2 _) rfl⟩)
    (first
    | (go_at_call 28; refine (copyc ab mb N L _ HP.out).mono ?_; rintro e w2 ⟨a1, m1, rfl, ha1, hm1, hW2, hC2⟩; have hb2 := (((Chg.refl [] w1).drew).trans hC2).blk H1.out.2.1 (by simp); have x0 := cellB hb2 (i := 0) rfl; have x1 := cellB hb2 (i := 1) rfl))
  have hC3 : Chg [] w2 (w2.alloc (.cells #[.pointer (some ⟨a1, 0, none⟩), .int .i64 M] 53)) := (Chg.refl _ _).alloc _
  have H2 := Lib.hid (And.intro (hW2.kept hC3 (by simp) (by simp)) (And.intro ((H1.out.1.drew.trans hC2).trans hC3) (And.intro (Nat.le_trans H1.out.1.size ha1) (And.intro (Nat.le_trans H1.out.1.size hm1) (H1.out.1.drew.trans hC2).size))))
  clear hW2 hC2 ha1 hm1 hC3 hb2
  go_wp2
  go_ret
  exact ⟨w2.heap.size, a1, m1, rfl, H2.out.2.2.2.2, H2.out.2.2.1, H2.out.2.2.2.1, ⟨heap_alloc_eq w2 _, H2.out.1⟩, H2.out.2.1⟩

set_option maxRecDepth 100000 in
set_option maxHeartbeats 1000000 in
theorem csamec (c1 a1 m1 c2 a2 m2 : Nat) (N1 N2 : Int) (L1 L2 : WL) (M1 M2 : Int) (w : World) (h1 : CAt w c1 a1 m1 N1 L1 M1) (h2 : CAt w c2 a2 m2 N2 L2 M2) :
    Calls Try.prog 21 #[.pointer (some ⟨c1, 0, none⟩), .pointer (some ⟨c2, 0, none⟩)] w fun e w' => e = .returned (.bool (decide (muM L1 M1 = muM L2 M2) && decide (L1 = L2))) ∧ Chg [] w w' := by
  have H := Lib.hid (And.intro h1 h2)
  clear h1 h2
  by_cases hm : muM L1 M1 = muM L2 M2
  all_goals
    first
      | rw [decide_eq_true hm]
      | rw [decide_eq_false hm]
    have HM := Lib.hid hm
    clear hm
    go_enter Try.func21, Try.ntmps21
    go_wp2_with fail
    refine (cmutexc c1 a1 m1 N1 L1 M1 w H.out.1).mono ?_
    rintro e w1 ⟨rfl, hC⟩
    have HA := Lib.hid hC
    clear hC
    go_wp2_with fail
    refine (cmutexc c2 a2 m2 N2 L2 M2 w1 (H.out.2.calm HA.out)).mono ?_
    rintro e w2 ⟨rfl, hC⟩
    have HB := Lib.hid (HA.out.trans hC)
    clear hC HA
  · rw [HM.out]
    generalize muM L2 M2 = x
    have hx : (x == x) = true := by simp
    go_wp2_with fail
    refine (ofc c1 a1 m1 N1 L1 M1 w2 (H.out.1.calm HB.out)).mono ?_
    rintro e w3 ⟨rfl, hC⟩
    have HA := Lib.hid (HB.out.trans hC)
    clear hC HB
    go_wp2_with fail
    refine (ofc c2 a2 m2 N2 L2 M2 w3 (H.out.2.calm HA.out)).mono ?_
    rintro e w4 ⟨rfl, hC⟩
    have HB := Lib.hid (HA.out.trans hC)
    clear hC HA
    go_wp2_with fail
    refine (samec a1 m1 a2 m2 N1 N2 L1 L2 w4 (H.out.1.calm HB.out).list (H.out.2.calm HB.out).list).mono ?_
    rintro e w5 ⟨rfl, hC⟩
    have HA := Lib.hid (HB.out.trans hC)
    clear hC HB
    obtain ⟨d, hd⟩ : ∃ d, d = decide (L1 = L2) := ⟨_, rfl⟩
    rw [← hd]
    have HD := Lib.hid hd
    clear hd
    go_wp2
    go_ret
    exact ⟨by rw [Bool.true_and, ← HD.out]; rfl, HA.out⟩
  · generalize muM L1 M1 = x at *
    generalize muM L2 M2 = y at *
    have hx : (x == y) = false := by simpa using HM.out
    go_wp2
    go_ret
    exact ⟨by simp, HB.out⟩

end Go.Proofs.Ytjdefbkppjdokaa
