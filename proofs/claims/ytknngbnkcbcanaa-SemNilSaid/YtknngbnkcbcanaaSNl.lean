
/- metronomelaw14.SemNil answers true. -/
import Derived.Test.YtknngbnkcbcanaaSNil
namespace Go.Proofs.Ytknngbnkcbcanaa
open Go.RowKit

set_option maxRecDepth 100000 in
set_option maxHeartbeats 8000000 in
theorem semNil_any (w : World) : Calls Try.prog 6 #[] w fun e w' => e = .returned (.bool true) ∧ Chg [] w w' := by
  go_enter Try.func6, Try.ntmps6
  go_wp2_with fail
  refine (snewc 32767 w (by omega) (by omega)).mono ?_
  rintro e w0 ⟨cb, ab, mb, rfl, hcb, hab, hmb, hW, hC⟩
  have H0 := Lib.hid (And.intro hW (And.intro hC (And.intro hcb (And.intro hab hmb))))
  clear hW hC hcb hab hmb
  go_wp2_with fail
  refine (spostc cb ab mb 0 [] 32767 w0 H0.out.1 (by omega) (by omega)).mono ?_
  rintro e w1 ⟨rfl, hW, hC⟩
  rw [show spT [] = -1 from by decide, show spE [] 32767 = 5 from by decide]
  rw [show takeL [] = [] from by decide, show spV [] 32767 = 32767 from by decide] at hW
  have H1 := Lib.hid (And.intro hW (And.intro (H0.out.2.1.trans' hC (by have := H0.out.2.2; simp; omega)) H0.out.2.2))
  clear hW hC
  go_wp2_with fail
  refine (snew_no (-1) w1 (by omega)).mono ?_
  rintro e wq ⟨rfl, rfl⟩
  go_wp2_with fail
  refine (bnewc 1 w1 (by omega) (by omega)).mono ?_
  rintro e w2 ⟨c2, a2, m2, rfl, hcb, hab, hmb, hW, hC⟩
  have hs := H1.out.2.1.size
  have hlt := H1.out.1.lt
  have H2 := Lib.hid (And.intro (H1.out.1.calm hC) (And.intro (H1.out.2.1.trans hC) (And.intro hW (show (∀ x ∈ [cb, ab, mb], ∀ y ∈ [c2, a2, m2], x ≠ y) ∧ (∀ x ∈ [cb, ab, mb], w.heap.size ≤ x) ∧ (∀ x ∈ [c2, a2, m2], w.heap.size ≤ x) from ⟨fun x hx y hy => by simp at hx hy; omega, fun x hx => by have := H1.out.2.2; simp at hx; omega, fun x hx => by simp at hx; omega⟩))))
  clear hW hC hcb hab hmb hs hlt
  go_wp2_with fail
  refine (bwaitc c2 a2 m2 0 [] 1 7 1 w2 H2.out.2.2.1 (by omega) (by omega) (by omega)).mono ?_
  rintro e w3 ⟨vl, rfl, ho, hW, hC⟩
  rw [show askR [] 7 1 false = 0 from by decide]
  rw [show bwO [] 1 7 1 = [7] from by decide] at ho
  rw [show bwL [] 1 7 1 = [] from by decide] at hW
  have hl1 := H2.out.1.lt
  have hl2 := H2.out.2.2.1.lt
  have H3 := Lib.hid (And.intro (H2.out.1.kept hC (fun h => H2.out.2.2.2.1 cb (by simp) _ h rfl) (fun h => H2.out.2.2.2.1 ab (by simp) _ h rfl) (fun h => H2.out.2.2.2.1 mb (by simp) _ h rfl)) (And.intro (H2.out.2.1.trans' hC (fun k hk => .inr (H2.out.2.2.2.2.2 k hk))) (And.intro hW (And.intro H2.out.2.2.2 (And.intro ho (show ∀ k ∈ [cb, ab, mb, c2, a2, m2], k < w2.heap.size from fun k hk => by simp at hk; omega))))))
  obtain ⟨va, vc, rfl⟩ := own_slice ho
  clear hW hC ho hl1 hl2
  go_wp2_with fail
  refine (bwaitc c2 a2 m2 _ [] 1 16 1 w3 H3.out.2.2.1 (by omega) (by omega) (by omega)).mono ?_
  rintro e w4 ⟨v2, rfl, ho, hW, hC⟩
  rw [show askR [] 16 1 false = 2 from by decide]
  rw [show bwL [] 1 16 1 = [] from by decide] at hW
  have H4 := Lib.hid (And.intro (H3.out.1.kept hC (fun h => H2.out.2.2.2.1 cb (by simp) _ h rfl) (fun h => H2.out.2.2.2.1 ab (by simp) _ h rfl) (fun h => H2.out.2.2.2.1 mb (by simp) _ h rfl)) (And.intro (H3.out.2.1.trans' hC (fun k hk => .inr (H2.out.2.2.2.2.2 k hk))) (And.intro hW (And.intro (own_kept H3.out.2.2.2.2.1 hC (fun k hk => own_notin H3.out.2.2.2.2.1 (H3.out.2.2.2.2.2 k (by simp at hk ⊢; omega)))) trivial))))
  obtain ⟨va4, vc4, rfl⟩ := own_slice ho
  clear hW hC ho
  go_wp2_with fail
  refine (swaitc cb ab mb _ [] 32767 0 32 w4 H4.out.1 (by omega) (by omega) (by omega)).mono ?_
  rintro e w5 ⟨rfl, hW, hC⟩
  rw [show swB [] 32767 0 32 = false from by decide, show askR [] 0 32 false = 2 from by decide]
  rw [show swL [] 32767 0 32 = [] from by decide, show swV [] 32767 0 32 = 32767 from by decide] at hW
  have H5 := Lib.hid (And.intro hW (And.intro (H4.out.2.1.trans' hC (fun k hk => .inr (H2.out.2.2.2.2.1 k hk))) (And.intro (H4.out.2.2.1.kept hC (fun h => H2.out.2.2.2.1 _ h c2 (by simp) rfl) (fun h => H2.out.2.2.2.1 _ h a2 (by simp) rfl) (fun h => H2.out.2.2.2.1 _ h m2 (by simp) rfl)) (And.intro (own_kept H4.out.2.2.2.1 hC (fun k hk => own_notin H4.out.2.2.2.1 (H3.out.2.2.2.2.2 k (by simp at hk ⊢; omega)))) trivial))))
  clear hW hC
  go_wp2_with fail
  refine (sleavec cb ab mb _ [] 32767 0 w5 H5.out.1).mono ?_
  rintro e w6 ⟨rfl, hW, hC⟩
  rw [show askR [] 0 1 true = 6 from by decide]
  rw [show lvL [] 0 = [] from by decide] at hW
  have H6 := Lib.hid (And.intro hW (And.intro (H5.out.2.1.trans' hC (fun k hk => .inr (H2.out.2.2.2.2.1 k (by simp at hk ⊢; omega)))) (And.intro (H5.out.2.2.1.kept hC (fun h => H2.out.2.2.2.1 _ (by simp at h ⊢; omega) c2 (by simp) rfl) (fun h => H2.out.2.2.2.1 _ (by simp at h ⊢; omega) a2 (by simp) rfl) (fun h => H2.out.2.2.2.1 _ (by simp at h ⊢; omega) m2 (by simp) rfl)) (And.intro (own_kept H5.out.2.2.2.1 hC (fun k hk => own_notin H5.out.2.2.2.1 (H3.out.2.2.2.2.2 k (by simp at hk ⊢; omega)))) trivial))))
  clear hW hC
  go_wp2_with fail
  refine (bleavec c2 a2 m2 _ [] 1 7 w6 H6.out.2.2.1).mono ?_
  rintro e w7 ⟨rfl, hW, hC⟩
  rw [show askR [] 7 1 true = 6 from by decide]
  rw [show lvL [] 7 = [] from by decide] at hW
  have H7 := Lib.hid (And.intro (H6.out.1.kept hC (fun h => H2.out.2.2.2.1 cb (by simp) _ (by simp at h ⊢; omega) rfl) (fun h => H2.out.2.2.2.1 ab (by simp) _ (by simp at h ⊢; omega) rfl) (fun h => H2.out.2.2.2.1 mb (by simp) _ (by simp at h ⊢; omega) rfl)) (And.intro (H6.out.2.1.trans' hC (fun k hk => .inr (H2.out.2.2.2.2.2 k (by simp at hk ⊢; omega)))) (And.intro hW (own_kept H6.out.2.2.2.1 hC (fun k hk => own_notin H6.out.2.2.2.1 (H3.out.2.2.2.2.2 k (by simp at hk ⊢; omega)))))))
  clear hW hC
  go_wp2_with (first | fail | (go_at_call 9; go_in))
  refine (svaluec cb ab mb _ [] 32767 w7 H7.out.1).mono ?_
  rintro e w8 ⟨rfl, hC⟩
  have H8 := Lib.hid (And.intro (H7.out.1.calm hC) (And.intro (H7.out.2.1.trans hC) (And.intro (H7.out.2.2.1.calm hC) (own_kept H7.out.2.2.2 hC (by simp)))))
  clear hC
  go_wp2_with (first | fail | (go_at_call 9; go_in))
  refine (sameInts_any _ _ [7] [7] _ (IsInts.of_own (own_kept H8.out.2.2.2 ((Chg.refl [] w8).alloc _) (by simp))) (IsInts.of_blk (ts := [7]) (heap_alloc_eq w8 (.cells #[.int .i64 7] 3))) (by simp) (by simp)).mono ?_
  rintro e w9 ⟨rfl, hC⟩
  rw [show decide (([7] : List Int) = [7]) = true from by decide]
  have hC := ((Chg.refl [] w8).alloc (.cells #[.int .i64 7] 3)).trans hC
  have H9 := Lib.hid (And.intro (H8.out.1.calm hC) (And.intro (H8.out.2.1.trans hC) (H8.out.2.2.1.calm hC)))
  clear hC
  go_wp2_with (first | fail | (go_at_call 9; go_in))
  refine (nothing14 none none w9 (.inl rfl) (.inl rfl)).mono ?_
  rintro e w10 ⟨rfl, hC⟩
  have H10 := Lib.hid (And.intro (H9.out.1.calm hC) (And.intro (H9.out.2.1.trans hC) (H9.out.2.2.calm hC)))
  clear hC
  go_wp2_with fail
  have hA : Chg [] w10 ((w10.alloc (.cells #[.pointer none, .int .i64 0] 68)).alloc (.cells #[.pointer none, .int .i64 0] 70)) := ((Chg.refl _ _).alloc _).alloc _
  have hz := heap_alloc_eq (w10.alloc (.cells #[.pointer none, .int .i64 0] 68)) (.cells #[.pointer none, .int .i64 0] 70)
  rw [World.size_alloc] at hz
  refine (nothing14 (some ⟨w10.heap.size, 0, none⟩) (some ⟨w10.heap.size + 1, 0, none⟩) _ (.inr ⟨_, rfl, blk_alloc (heap_alloc_eq w10 _) _⟩) (.inr ⟨_, rfl, hz⟩)).mono ?_
  rintro e w11 ⟨rfl, hC⟩
  have H11 := Lib.hid (And.intro (H10.out.1.calm (hA.trans hC)) (And.intro (H10.out.2.1.trans (hA.trans hC)) (H10.out.2.2.calm (hA.trans hC))))
  clear hC hA hz
  go_wp2_with fail
  refine (nssame1 cb ab mb _ [] 32767 w11 H11.out.1 (by decide)).mono ?_
  rintro e w12 ⟨rfl, hC⟩
  have H12 := Lib.hid (And.intro (H11.out.2.1.trans hC) (H11.out.2.2.calm hC))
  clear hC
  go_wp2_with fail
  refine (nbsame1 c2 a2 m2 _ [] 1 w12 H12.out.2 (by decide)).mono ?_
  rintro e w13 ⟨rfl, hC⟩
  have H13 := Lib.hid (H12.out.1.trans hC)
  clear hC
  go_wp2_with fail
  refine (known14 w13).mono ?_
  rintro e w14 ⟨rfl, hC⟩
  have H14 := Lib.hid (H13.out.trans hC)
  clear hC
  go_wp2
  go_ret
  exact ⟨rfl, H14.out⟩

end Go.Proofs.Ytknngbnkcbcanaa
