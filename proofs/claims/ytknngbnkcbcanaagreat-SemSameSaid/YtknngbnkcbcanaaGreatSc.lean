
/- Package sem: Copy, Same of semaphores. -/
import Derived.Test.YtknngbnkcbcanaaGreatSb
namespace Go.Proofs.YtknngbnkcbcanaaGreat
open Go.RowKit

def PCopyP (T : TypeId) (N : Int) (L : WL) (M : Int) (w : World) (e : Ending) (w' : World) : Prop :=
  ∃ cb ab mb, e = .returned (.pointer (some ⟨cb, 0, none⟩)) ∧ w.heap.size ≤ cb ∧ w.heap.size ≤ ab ∧ w.heap.size ≤ mb ∧ PAt T w' cb ab mb N L M ∧ Chg [] w w'

set_option maxRecDepth 100000 in
set_option maxHeartbeats 1000000 in
theorem scopyc (cb ab mb : Nat) (N : Int) (L : WL) (M : Int) (w : World) (h : SAt w cb ab mb N L M) :
    Calls Tryz.prog 27 #[.pointer (some ⟨cb, 0, none⟩)] w (PCopyP 52 N L M w) := by
  have H := Lib.hid h
  clear h
  go_enter Tryz.func27, Tryz.ntmps27
  go_wp2_with fail
  refine (sofc cb ab mb N L M w H.out).mono ?_
  rintro e w1 ⟨rfl, hC⟩
  have hh := (H.out.calm hC).head
  have c0 := cellB hh (i := 0) rfl
  have c1 := cellB hh (i := 1) rfl
  have H1 := Lib.hid (And.intro hC (And.intro hh (H.out.calm hC).list))
  clear hC hh
  go_wp2
  have HP := Lib.hid (H1.out.2.2.kept ((Chg.refl [] w1).drew) (by simp) (by simp))
  go_region_held3 (fun w' => w'.cell? ⟨cb, 0, none⟩ = some (.pointer (some ⟨ab, 0, none⟩)) ∧ w'.cell? ⟨cb, 1, none⟩ = some (.int .i64 M)) (first | exact ⟨c0, c1⟩ | exact ⟨x0, x1⟩ | exact ⟨cellB (blk_alloc hb2 _) rfl, cellB (blk_alloc hb2 _) rfl⟩)
    (first
    | (go_at_call 51; refine (copyc ab mb N L _ HP.out).mono ?_; rintro e w2 ⟨a1, m1, rfl, ha1, hm1, hW2, hC2⟩; have hb2 := (((Chg.refl [] w1).drew).trans hC2).blk H1.out.2.1 (by simp); have x0 := cellB hb2 (i := 0) rfl; have x1 := cellB hb2 (i := 1) rfl))
  have hC3 : Chg [] w2 (w2.alloc (.cells #[.pointer (some ⟨a1, 0, none⟩), .int .i64 M] 52)) := (Chg.refl _ _).alloc _
  have H2 := Lib.hid (And.intro (hW2.kept hC3 (by simp) (by simp)) (And.intro ((H1.out.1.drew.trans hC2).trans hC3) (And.intro (Nat.le_trans H1.out.1.size ha1) (And.intro (Nat.le_trans H1.out.1.size hm1) (H1.out.1.drew.trans hC2).size))))
  clear hW2 hC2 ha1 hm1 hC3 hb2
  go_wp2
  go_ret
  exact ⟨w2.heap.size, a1, m1, rfl, H2.out.2.2.2.2, H2.out.2.2.1, H2.out.2.2.2.1, ⟨heap_alloc_eq w2 _, H2.out.1, okSem⟩, H2.out.2.1⟩

set_option maxRecDepth 100000 in
set_option maxHeartbeats 1000000 in
theorem ssamec (c1 a1 m1 c2 a2 m2 : Nat) (N1 N2 : Int) (L1 L2 : WL) (V1 V2 : Int) (w : World) (h1 : SAt w c1 a1 m1 N1 L1 V1) (h2 : SAt w c2 a2 m2 N2 L2 V2) :
    Calls Tryz.prog 10 #[.pointer (some ⟨c1, 0, none⟩), .pointer (some ⟨c2, 0, none⟩)] w fun e w' => e = .returned (.bool (decide (V1 = V2) && decide (L1 = L2))) ∧ Chg [] w w' := by
  have H := Lib.hid (And.intro h1 h2)
  clear h1 h2
  by_cases hm : V1 = V2
  · subst hm
    rw [decide_eq_true rfl, Bool.true_and]
    obtain ⟨d, hd⟩ : ∃ d, d = decide (L1 = L2) := ⟨_, rfl⟩
    have HS := Lib.hid (fun (W : World) (hA : WAt W a1 m1 N1 L1) (hB : WAt W a2 m2 N2 L2) => samec a1 m1 a2 m2 N1 N2 L1 L2 W hA hB)
    rw [← hd] at HS ⊢
    have HD := Lib.hid hd
    clear hd
    have hx : (V1 == V1) = true := by simp
    go_enter Tryz.func10, Tryz.ntmps10
    go_wp2_with fail
    refine (sofc c1 a1 m1 N1 L1 V1 w H.out.1).mono ?_
    rintro e w1 ⟨rfl, hC⟩
    have HA := Lib.hid hC
    clear hC
    go_wp2_with fail
    refine (sofc c2 a2 m2 N2 L2 V1 w1 (H.out.2.calm HA.out)).mono ?_
    rintro e w2 ⟨rfl, hC⟩
    have hB := HA.out.trans hC
    have HB := Lib.hid (And.intro ((hB.alloc (.cells #[.pointer (some ⟨a1, 0, none⟩), .int .i64 V1] 52)).alloc (.cells #[.pointer (some ⟨a2, 0, none⟩), .int .i64 V1] 52)) True.intro)
    clear hC HA hB
    go_wp2_with fail
    refine (HS.out _ (H.out.1.calm HB.out.1).list (H.out.2.calm HB.out.1).list).mono ?_
    rintro e w5 ⟨rfl, hC⟩
    have HA := Lib.hid (HB.out.1.trans hC)
    clear hC HB
    go_wp2
    go_ret
    exact ⟨rfl, HA.out⟩
  · rw [decide_eq_false hm, Bool.false_and]
    have hx : (V1 == V2) = false := by simpa using hm
    clear hm
    go_enter Tryz.func10, Tryz.ntmps10
    go_wp2_with fail
    refine (sofc c1 a1 m1 N1 L1 V1 w H.out.1).mono ?_
    rintro e w1 ⟨rfl, hC⟩
    have HA := Lib.hid hC
    clear hC
    go_wp2_with fail
    refine (sofc c2 a2 m2 N2 L2 V2 w1 (H.out.2.calm HA.out)).mono ?_
    rintro e w2 ⟨rfl, hC⟩
    have hB := HA.out.trans hC
    have HB := Lib.hid (And.intro ((hB.alloc (.cells #[.pointer (some ⟨a1, 0, none⟩), .int .i64 V1] 52)).alloc (.cells #[.pointer (some ⟨a2, 0, none⟩), .int .i64 V2] 52)) True.intro)
    clear hC HA hB
    go_wp2
    go_ret
    exact ⟨rfl, HB.out.1⟩

end Go.Proofs.YtknngbnkcbcanaaGreat
