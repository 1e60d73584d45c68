/- metronomelaw16.CondNil answers true. -/
import Derived.Test.YtjdefbkppjdokaaCNil
namespace Go.Proofs.Ytjdefbkppjdokaa
open Go.RowKit

set_option maxRecDepth 100000 in
set_option maxHeartbeats 4000000 in
theorem condNil_any (w : World) : Calls Try.prog 6 #[] w fun e w' => e = .returned (.bool true) ∧ Chg [] w w' := by
  go_enter Try.func6, Try.ntmps6
  go_wp2_with fail
  refine (cnewc w).mono ?_
  rintro e w0 ⟨cb, ab, mb, rfl, hcb, hab, hmb, hW, hC0⟩
  have H0 := Lib.hid (And.intro hW (And.intro hC0 (And.intro hcb (And.intro hab hmb))))
  clear hW hC0 hcb hab hmb
  go_wp2_with fail
  refine (cwaitc cb ab mb 0 [] 0 15 31 0 w0 H0.out.1 (by omega)).mono ?_
  rintro e w1 ⟨rfl, hW, hC⟩
  rw [show cwR [] 0 15 31 0 = 0 from by decide]
  rw [show cwL [] 0 15 31 0 = [(15, 31)] from by decide, show cwM [] 0 15 31 0 = 0 from by decide] at hW
  have H1 := Lib.hid (And.intro hW (And.intro (H0.out.2.1.trans' hC (by have := H0.out.2.2; simp; omega)) H0.out.2.2))
  clear hW hC
  go_wp2_with fail
  refine (cwaitc cb ab mb _ [(15, 31)] 0 16 1 0 w1 H1.out.1 (by omega)).mono ?_
  rintro e w2 ⟨rfl, hW, hC⟩
  rw [show cwR [(15, 31)] 0 16 1 0 = 2 from by decide]
  rw [show cwL [(15, 31)] 0 16 1 0 = [(15, 31)] from by decide, show cwM [(15, 31)] 0 16 1 0 = 0 from by decide] at hW
  have H2 := Lib.hid (And.intro hW (And.intro (H1.out.2.1.trans' hC (by have := H1.out.2.2; simp; omega)) H1.out.2.2))
  clear hW hC
  go_wp2_with fail
  refine (cwaitc cb ab mb _ [(15, 31)] 0 0 32 0 w2 H2.out.1 (by omega)).mono ?_
  rintro e w3 ⟨rfl, hW, hC⟩
  rw [show cwR [(15, 31)] 0 0 32 0 = 2 from by decide]
  rw [show cwL [(15, 31)] 0 0 32 0 = [(15, 31)] from by decide, show cwM [(15, 31)] 0 0 32 0 = 0 from by decide] at hW
  have H3 := Lib.hid (And.intro hW (And.intro (H2.out.2.1.trans' hC (by have := H2.out.2.2; simp; omega)) H2.out.2.2))
  clear hW hC
  go_wp2_with fail
  refine (cwaitc cb ab mb _ [(15, 31)] 0 0 1 1 w3 H3.out.1 (by omega)).mono ?_
  rintro e w4 ⟨rfl, hW, hC⟩
  rw [show cwR [(15, 31)] 0 0 1 1 = 7 from by decide]
  rw [show cwL [(15, 31)] 0 0 1 1 = [(15, 31)] from by decide, show cwM [(15, 31)] 0 0 1 1 = 0 from by decide] at hW
  have H4 := Lib.hid (And.intro hW (And.intro (H3.out.2.1.trans' hC (by have := H3.out.2.2; simp; omega)) H3.out.2.2))
  clear hW hC
  go_wp2_with fail
  refine (cleavec cb ab mb _ [(15, 31)] 0 0 w4 H4.out.1).mono ?_
  rintro e w5 ⟨rfl, hW, hC⟩
  rw [show askR [(15, 31)] 0 1 true = 6 from by decide]
  rw [show lvL [(15, 31)] 0 = [(15, 31)] from by decide] at hW
  have H5 := Lib.hid (And.intro hW (And.intro (H4.out.2.1.trans' hC (by have := H4.out.2.2; simp; omega)) H4.out.2.2))
  clear hW hC
  go_wp2_with fail
  refine (cchangec cb ab mb _ [(15, 31)] 0 15 0 w5 H5.out.1).mono ?_
  rintro e w6 ⟨rfl, hW, hC⟩
  rw [show askR [(15, 31)] 15 0 true = 2 from by decide]
  rw [show chgL [(15, 31)] 15 0 = [(15, 31)] from by decide] at hW
  have H6 := Lib.hid (And.intro hW (And.intro (H5.out.2.1.trans' hC (by have := H5.out.2.2; simp; omega)) H5.out.2.2))
  clear hW hC
  go_wp2_with fail
  refine (cnewc w6).mono ?_
  rintro e w7 ⟨c1, a1, m1, rfl, h1, h2, h3, hW, hC⟩
  have hs6 := H6.out.2.1.size
  have H7 := Lib.hid (And.intro (H6.out.1.calm hC) (And.intro (H6.out.2.1.trans hC) (And.intro hW (And.intro H6.out.1.lt (And.intro h1 (And.intro h2 (And.intro h3 hs6)))))))
  clear hW hC h1 h2 h3 hs6
  go_wp2_with fail
  refine (cnewc w7).mono ?_
  rintro e w8 ⟨c2, a2, m2, rfl, h1, h2, h3, hW, hC⟩
  have hs7 := H7.out.2.1.size
  have H8 := Lib.hid (And.intro (H7.out.1.calm hC) (And.intro (H7.out.2.1.trans hC) (And.intro (H7.out.2.2.1.calm hC) (And.intro hW (And.intro H7.out.2.2.2 (And.intro h1 (And.intro h2 (And.intro h3 (And.intro hs7 H7.out.2.2.1.lt)))))))))
  clear hW hC h1 h2 h3 hs7
  go_wp2_with fail
  refine (cwaitc c1 a1 m1 0 [] 0 1 5 3 w8 H8.out.2.2.1 (by omega)).mono ?_
  rintro e w9 ⟨rfl, hW, hC⟩
  rw [show cwR [] 0 1 5 3 = 0 from by decide]
  rw [show cwL [] 0 1 5 3 = [(1, 5)] from by decide, show cwM [] 0 1 5 3 = 3 from by decide] at hW
  have H9 := Lib.hid (And.intro (H8.out.1.kept hC (by have := H8.out.2.2.2.2; simp; omega) (by have := H8.out.2.2.2.2; simp; omega) (by have := H8.out.2.2.2.2; simp; omega)) (And.intro (H8.out.2.1.trans' hC (by have := H8.out.2.2.2.2; simp; omega)) (And.intro hW
    (H8.out.2.2.2.1.kept hC (by have := H8.out.2.2.2.2; simp; omega) (by have := H8.out.2.2.2.2; simp; omega) (by have := H8.out.2.2.2.2; simp; omega)))))
  clear hW hC
  go_wp2_with fail
  refine (cwaitc c2 a2 m2 0 [] 0 1 5 4 w9 H9.out.2.2.2 (by omega)).mono ?_
  rintro e w10 ⟨rfl, hW, hC⟩
  rw [show cwR [] 0 1 5 4 = 0 from by decide]
  rw [show cwL [] 0 1 5 4 = [(1, 5)] from by decide, show cwM [] 0 1 5 4 = 4 from by decide] at hW
  have H10 := Lib.hid (And.intro (H9.out.1.kept hC (by have := H8.out.2.2.2.2; simp; omega) (by have := H8.out.2.2.2.2; simp; omega) (by have := H8.out.2.2.2.2; simp; omega)) (And.intro (H9.out.2.1.trans' hC (by have := H8.out.2.2.2.2; simp; omega)) (And.intro hW
    (H9.out.2.2.1.kept hC (by have := H8.out.2.2.2.2; simp; omega) (by have := H8.out.2.2.2.2; simp; omega) (by have := H8.out.2.2.2.2; simp; omega)))))
  clear hW hC
  go_wp2_with fail
  refine (csamec c1 a1 m1 c2 a2 m2 _ _ _ _ _ _ w10 H10.out.2.2.2 H10.out.2.2.1).mono ?_
  rintro e w11 ⟨rfl, hC⟩
  rw [show (decide (muM [(1, 5)] 3 = muM [(1, 5)] 4) && decide (([(1, 5)] : WL) = [(1, 5)])) = false from by decide]
  have H11 := Lib.hid (And.intro (H10.out.1.calm hC) (H10.out.2.1.trans hC))
  clear hC
  go_wp2_with (first | fail | (go_at_call 12; go_in))
  refine (clenc cb ab mb _ [(15, 31)] 0 w11 H11.out.1).mono ?_
  rintro e w12 ⟨rfl, hC⟩
  rw [show ((([(15, 31)] : WL).length : Nat) : Int) = 1 from rfl]
  have H12 := Lib.hid (And.intro (H11.out.1.calm hC) (H11.out.2.trans hC))
  clear hC
  go_wp2_with fail
  refine (nothing16 none w12 (.inl rfl)).mono ?_
  rintro e w13 ⟨rfl, hC⟩
  have H13 := Lib.hid (And.intro (H12.out.1.calm hC) (H12.out.2.trans hC))
  clear hC
  go_wp2_with fail
  have hA : Chg [] w13 (w13.alloc (.cells #[.pointer none, .int .i64 0] 53)) := (Chg.refl _ _).alloc _
  refine (nothing16 (some ⟨w13.heap.size, 0, none⟩) _ (.inr ⟨_, rfl, heap_alloc_eq w13 _⟩)).mono ?_
  rintro e w14 ⟨rfl, hC⟩
  have H14 := Lib.hid (And.intro (H13.out.1.calm (hA.trans hC)) (H13.out.2.trans (hA.trans hC)))
  clear hC hA
  go_wp2_with fail
  refine (ncsame1 cb ab mb _ [(15, 31)] w14 H14.out.1).mono ?_
  rintro e w15 ⟨rfl, hC⟩
  have H15 := Lib.hid (H14.out.2.trans hC)
  clear hC
  go_wp2_with fail
  refine (known16 w15).mono ?_
  rintro e w16 ⟨rfl, hC⟩
  have H16 := Lib.hid (H15.out.trans hC)
  clear hC
  go_wp2
  go_ret
  exact ⟨rfl, H16.out⟩

end Go.Proofs.Ytjdefbkppjdokaa
