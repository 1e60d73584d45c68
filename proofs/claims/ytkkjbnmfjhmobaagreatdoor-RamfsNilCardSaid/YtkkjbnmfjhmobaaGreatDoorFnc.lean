
/- metronomelaw22.RamfsNil answers true. -/
import Derived.Test.YtkkjbnmfjhmobaaGreatDoorFnb
import Derived.Test.YtkkjbnmfjhmobaaGreatDoorFal
import Derived.Laws.OwnMore
namespace Go.Proofs.YtkkjbnmfjhmobaaGreatDoor
open Go.RowKit

set_option maxRecDepth 100000 in
set_option maxHeartbeats 4000000 in
theorem ramfsNil_any (B : Nat) (w : World) (hB : B ≤ w.heap.size) (hl : LibLt B) (hL : LibW w) : Calls Tryz.prog 3 #[] w fun e w' => e = .returned (.bool true) ∧ Below B w w' := by
  have HL := Lib.hid (And.intro hB (And.intro hl hL))
  clear hB hl hL
  go_enter Tryz.func3, Tryz.ntmps3
  go_wp2_with fail
  refine (nothing22 none w (.inl rfl) (fun a e => by cases e)).mono ?_
  rintro e w1 ⟨rfl, hC⟩
  have H1 := Lib.hid hC
  clear hC
  go_wp2_with fail
  have hC2 : Chg [] w (w1.alloc (.cells Tryz.zeroCells33 33)) := H1.out.trans ((Chg.refl _ _).alloc _)
  have hN : NoF (w1.alloc (.cells Tryz.zeroCells33 33)) (some ⟨w1.heap.size, 0, none⟩) := .inr ⟨_, _, _, _, rfl, heap_alloc_eq w1 _, by kernel_rfl⟩
  refine (nothing22 _ _ hN (fun a e => by cases e; simp)).mono ?_
  rintro e w3 ⟨rfl, hC⟩
  have H3 := Lib.hid (hC2.trans hC)
  clear hC hC2 hN
  go_wp2_with fail
  refine (knew (Nat.le_trans HL.out.1 H3.out.size) HL.out.2.1 (HL.out.2.2.calm H3.out)).mono ?_
  rintro e w4 ⟨fb, rfl, ⟨mb, vs, hF⟩, hB⟩
  have HF := Lib.hid (And.intro hF hB)
  clear hF hB
  go_wp2_with fail
  refine (nSame _ none true _ (ftherec fb mb vs fsNew w4 HF.out.1.at_) (.inl rfl)).mono ?_
  rintro e w' ⟨rfl, rfl⟩
  go_wp2_with fail
  refine (known22 B _ HF.out.1.ge HF.out.1.lt HF.out.1.lib).mono ?_
  rintro e w5 ⟨rfl, b⟩
  have H5 := Lib.hid ((H3.out.belowB HL.out.1 (by simp)).trans (HF.out.2.trans b))
  clear b
  go_wp2_with fail
  exact bodyPost_ret (v := .bool true) (by simp [results, Tryz.results3, go_sem]) rfl ⟨rfl, H5.out⟩

end Go.Proofs.YtkkjbnmfjhmobaaGreatDoor
