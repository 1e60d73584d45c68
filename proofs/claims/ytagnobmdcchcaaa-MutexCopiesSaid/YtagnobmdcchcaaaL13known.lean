
/- metronomelaw13.known: the chapter's rows (written by wip/known13.py). -/
import Derived.Test.YtagnobmdcchcaaaFM
namespace Go.Proofs.Ytagnobmdcchcaaa
open Go.RowKit

theorem OwnK.kept {S : List Nat} {w w' : World} {B : Nat} {v : Value} {l : WL} (h : OwnK w B v l) (hC : Chg S w w') (hS : ∀ k ∈ S, k < B) : OwnK w' B v l := own_kept h hC (fun k hk => own_notin h (hS k hk))
theorem OwnK.pairs {w : World} {B : Nat} {v : Value} {l : WL} (h : OwnK w B v l) : IsPairs w v l := IsPairs.of_own h

set_option maxRecDepth 100000 in
set_option maxHeartbeats 8000000 in
theorem known13 (w : World) : Calls Try.prog 11 #[] w fun e w' => e = .returned (.bool true) ∧ Chg [] w w' := by
  have e1 : eqL 3 1 1 0 3 1 1 0 = true := by decide
  have e2 : eqL (-1) 0 2 0 (-1) 0 2 0 = true := by decide
  go_enter Try.func11, Try.ntmps11
  go_wp2_with fail
  refine (fnewF 1 0 0 true w w (Chg.refl _ _) (by decide)).mono ?_
  rintro e w0 ⟨cb, ab, mb, rfl, hF, hC⟩
  have hF : FM w w0 cb ab mb 0 ⟨1, 0, 0, true, -1, 0, 0, []⟩ := hF
  have H0 := Lib.hid hF
  clear hF hC
  go_wp2_with fail
  refine (fLF 1 5 true 0 H0.out (by omega) (by decide)).mono ?_
  rintro e w1 ⟨rfl, hF⟩
  rw [show (((⟨1, 0, 0, true, -1, 0, 0, []⟩ : MS)).lockB 1 5 5 == true && ((⟨1, 0, 0, true, -1, 0, 0, []⟩ : MS)).lockE 1 5 5 == 0) = true from by decide]
  rw [show ((⟨1, 0, 0, true, -1, 0, 0, []⟩ : MS)).lockS 1 5 5 = (⟨1, 0, 0, true, 1, 1, 0, []⟩ : MS) from rfl] at hF
  have H1 := Lib.hid hF
  clear hF
  go_wp2_with fail
  refine (fLF 1 5 false 35 H1.out (by omega) (by decide)).mono ?_
  rintro e w2 ⟨rfl, hF⟩
  rw [show (((⟨1, 0, 0, true, 1, 1, 0, []⟩ : MS)).lockB 1 5 5 == false && ((⟨1, 0, 0, true, 1, 1, 0, []⟩ : MS)).lockE 1 5 5 == 35) = true from by decide]
  rw [show ((⟨1, 0, 0, true, 1, 1, 0, []⟩ : MS)).lockS 1 5 5 = (⟨1, 0, 0, true, 1, 1, 0, []⟩ : MS) from rfl] at hF
  have H2 := Lib.hid hF
  clear hF
  go_wp2_with fail
  refine (fLF 2 6 false 0 H2.out (by omega) (by decide)).mono ?_
  rintro e w3 ⟨rfl, hF⟩
  rw [show (((⟨1, 0, 0, true, 1, 1, 0, []⟩ : MS)).lockB 2 6 6 == false && ((⟨1, 0, 0, true, 1, 1, 0, []⟩ : MS)).lockE 2 6 6 == 0) = true from by decide]
  rw [show ((⟨1, 0, 0, true, 1, 1, 0, []⟩ : MS)).lockS 2 6 6 = (⟨1, 0, 0, true, 1, 1, 0, [(2, 6)]⟩ : MS) from rfl] at hF
  have H3 := Lib.hid hF
  clear hF
  go_wp2_with fail
  refine (fLF 3 7 false 0 H3.out (by omega) (by decide)).mono ?_
  rintro e w4 ⟨rfl, hF⟩
  rw [show (((⟨1, 0, 0, true, 1, 1, 0, [(2, 6)]⟩ : MS)).lockB 3 7 7 == false && ((⟨1, 0, 0, true, 1, 1, 0, [(2, 6)]⟩ : MS)).lockE 3 7 7 == 0) = true from by decide]
  rw [show ((⟨1, 0, 0, true, 1, 1, 0, [(2, 6)]⟩ : MS)).lockS 3 7 7 = (⟨1, 0, 0, true, 1, 1, 0, [(2, 6), (3, 7)]⟩ : MS) from rfl] at hF
  have H4 := Lib.hid hF
  clear hF
  go_wp2_with fail
  refine (ftryF 4 4 H4.out (by decide)).mono ?_
  rintro e w5 ⟨rfl, hF⟩
  rw [show ((⟨1, 0, 0, true, 1, 1, 0, [(2, 6), (3, 7)]⟩ : MS)).tryE 4 4 = 16 from by decide]
  rw [show ((⟨1, 0, 0, true, 1, 1, 0, [(2, 6), (3, 7)]⟩ : MS)).tryS 4 4 = (⟨1, 0, 0, true, 1, 1, 0, [(2, 6), (3, 7)]⟩ : MS) from rfl] at hF
  have H5 := Lib.hid hF
  clear hF
  go_wp2_with fail
  refine (funlockF 2 H5.out (by decide)).mono ?_
  rintro e w6 ⟨v6, rfl, hO, hF, hC⟩
  rw [show ((⟨1, 0, 0, true, 1, 1, 0, [(2, 6), (3, 7)]⟩ : MS)).unE 2 = 1 from by decide]
  rw [show ((⟨1, 0, 0, true, 1, 1, 0, [(2, 6), (3, 7)]⟩ : MS)).unS 2 = (⟨1, 0, 0, true, 1, 1, 0, [(2, 6), (3, 7)]⟩ : MS) from rfl] at hF
  rw [show ((⟨1, 0, 0, true, 1, 1, 0, [(2, 6), (3, 7)]⟩ : MS)).unW 2 = [] from rfl] at hO
  have H6 := Lib.hid hF
  have O6 := Lib.hid hO
  clear hF hO hC
  go_wp2_with fail
  refine (fendedF 1 H6.out).mono ?_
  rintro e w7 ⟨v7, rfl, hO, hF, hC⟩
  rw [show ((⟨1, 0, 0, true, 1, 1, 0, [(2, 6), (3, 7)]⟩ : MS)).enS 1 = (⟨1, 0, 0, true, 3, 1, 1, [(2, 6)]⟩ : MS) from rfl] at hF
  rw [show ((⟨1, 0, 0, true, 1, 1, 0, [(2, 6), (3, 7)]⟩ : MS)).enW 1 = [(3, 130)] from rfl] at hO
  have H7 := Lib.hid hF
  have O7 := Lib.hid hO
  clear hF hO hC
  go_wp2_with fail
  have hA : Chg [] w7 (w7.alloc (.cells #[.int .i64 3, .int .i64 130] 38)) := (Chg.refl _ _).alloc _
  have hp1 := (O7.out.kept hA (by simp)).pairs
  have hp2 := (own_one w7 (3, 130)).pairs
  have HF7 := Lib.hid (H7.out.calm hA)
  refine (woken13 _ _ [(3, 130)] [(3, 130)] _ hp1 hp2 (by decide) (by decide)).mono ?_
  rintro e w8 ⟨rfl, hC⟩
  rw [show decide (([(3, 130)] : WL) = [(3, 130)]) = true from by decide]
  have H8 := Lib.hid (HF7.out.calm hC)
  clear hC hA hp1 hp2
  go_wp2_with fail
  refine (fatF H8.out).mono ?_
  rintro e w9 ⟨rfl, hF, hC⟩
  have H9 := Lib.hid hF
  clear hF hC
  go_wp2_with fail
  refine (funlockF 3 H9.out (by decide)).mono ?_
  rintro e w10 ⟨v10, rfl, hO, hF, hC⟩
  rw [show ((⟨1, 0, 0, true, 3, 1, 1, [(2, 6)]⟩ : MS)).unE 3 = 0 from by decide]
  rw [show ((⟨1, 0, 0, true, 3, 1, 1, [(2, 6)]⟩ : MS)).unS 3 = (⟨1, 0, 0, true, -1, 0, 2, []⟩ : MS) from rfl] at hF
  rw [show ((⟨1, 0, 0, true, 3, 1, 1, [(2, 6)]⟩ : MS)).unW 3 = [(2, 131)] from rfl] at hO
  have H10 := Lib.hid hF
  have O10 := Lib.hid hO
  clear hF hO hC
  go_wp2_with fail
  have hA : Chg [] w10 (w10.alloc (.cells #[.int .i64 2, .int .i64 131] 38)) := (Chg.refl _ _).alloc _
  have hp1 := (O10.out.kept hA (by simp)).pairs
  have hp2 := (own_one w10 (2, 131)).pairs
  have HF10 := Lib.hid (H10.out.calm hA)
  refine (woken13 _ _ [(2, 131)] [(2, 131)] _ hp1 hp2 (by decide) (by decide)).mono ?_
  rintro e w11 ⟨rfl, hC⟩
  rw [show decide (([(2, 131)] : WL) = [(2, 131)]) = true from by decide]
  have H11 := Lib.hid (HF10.out.calm hC)
  clear hC hA hp1 hp2
  go_wp2_with fail
  refine (fatF H11.out).mono ?_
  rintro e w12 ⟨rfl, hF, hC⟩
  have H12 := Lib.hid hF
  clear hF hC
  go_wp2_with fail
  refine (fLF 4 4 false 131 H12.out (by omega) (by decide)).mono ?_
  rintro e w13 ⟨rfl, hF⟩
  rw [show (((⟨1, 0, 0, true, -1, 0, 2, []⟩ : MS)).lockB 4 4 4 == false && ((⟨1, 0, 0, true, -1, 0, 2, []⟩ : MS)).lockE 4 4 4 == 131) = true from by decide]
  rw [show ((⟨1, 0, 0, true, -1, 0, 2, []⟩ : MS)).lockS 4 4 4 = (⟨1, 0, 0, true, -1, 0, 2, []⟩ : MS) from rfl] at hF
  have H13 := Lib.hid hF
  clear hF
  go_wp2_with fail
  refine (fnewF 0 2 6 false w w13 H13.out.c (by decide)).mono ?_
  rintro e w14 ⟨c2, a2, m2, rfl, hF, hC⟩
  have hF : FM w w14 c2 a2 m2 0 ⟨0, 2, 6, false, -1, 0, 0, []⟩ := hF
  have H14 := Lib.hid hF
  clear hF hC
  go_wp2_with fail
  refine (fLF 1 7 false 22 H14.out (by omega) (by decide)).mono ?_
  rintro e w15 ⟨rfl, hF⟩
  rw [show (((⟨0, 2, 6, false, -1, 0, 0, []⟩ : MS)).lockB 1 7 7 == false && ((⟨0, 2, 6, false, -1, 0, 0, []⟩ : MS)).lockE 1 7 7 == 22) = true from by decide]
  rw [show ((⟨0, 2, 6, false, -1, 0, 0, []⟩ : MS)).lockS 1 7 7 = (⟨0, 2, 6, false, -1, 0, 0, []⟩ : MS) from rfl] at hF
  have H15 := Lib.hid hF
  clear hF
  go_wp2_with fail
  refine (fLF 1 6 true 0 H15.out (by omega) (by decide)).mono ?_
  rintro e w16 ⟨rfl, hF⟩
  rw [show (((⟨0, 2, 6, false, -1, 0, 0, []⟩ : MS)).lockB 1 6 6 == true && ((⟨0, 2, 6, false, -1, 0, 0, []⟩ : MS)).lockE 1 6 6 == 0) = true from by decide]
  rw [show ((⟨0, 2, 6, false, -1, 0, 0, []⟩ : MS)).lockS 1 6 6 = (⟨0, 2, 6, false, 1, 1, 0, []⟩ : MS) from rfl] at hF
  have H16 := Lib.hid hF
  clear hF
  go_wp2_with fail
  refine (fceilF 2 3 H16.out).mono ?_
  rintro e w17 ⟨rfl, hF⟩
  rw [show ((⟨0, 2, 6, false, 1, 1, 0, []⟩ : MS)).ceV 2 3 = 0 from by decide, show ((⟨0, 2, 6, false, 1, 1, 0, []⟩ : MS)).ceE 2 3 = 16 from by decide]
  rw [show ((⟨0, 2, 6, false, 1, 1, 0, []⟩ : MS)).ceS 2 3 = (⟨0, 2, 6, false, 1, 1, 0, []⟩ : MS) from rfl] at hF
  have H17 := Lib.hid hF
  clear hF
  go_wp2_with fail
  refine (fceilF 1 9 H17.out).mono ?_
  rintro e w18 ⟨rfl, hF⟩
  rw [show ((⟨0, 2, 6, false, 1, 1, 0, []⟩ : MS)).ceV 1 9 = 6 from by decide, show ((⟨0, 2, 6, false, 1, 1, 0, []⟩ : MS)).ceE 1 9 = 0 from by decide]
  rw [show ((⟨0, 2, 6, false, 1, 1, 0, []⟩ : MS)).ceS 1 9 = (⟨0, 2, 9, false, 1, 1, 0, []⟩ : MS) from rfl] at hF
  have H18 := Lib.hid hF
  clear hF
  go_wp2
  go_ret
  exact ⟨rfl, H18.out.c⟩

end Go.Proofs.Ytagnobmdcchcaaa
