
/- metronomelaw07: known: contract. -/
import Derived.Test.YtpaaanjghcloeaaHq
namespace Go.Proofs.Ytpaaanjghcloeaa
open Go.RowKit

/-- A wheel of one's own: made since w. -/
structure KP (w : World) (b : Nat) (vs : List Value) (s : HS) (w' : World) : Prop where
  at_ : HAt w' b vs s
  chg : Chg [] w w'
  own : ∀ x ∈ blocksH b vs, w.heap.size ≤ x
theorem KP.next {w w1 w2 : World} {b : Nat} {vs : List Value} {s s' : HS} (h : KP w b vs s w1) (hN : NextH b vs s' w1 w2) : ∃ vs', KP w b vs' s' w2 := by
  obtain ⟨vs', hA, hC, hB⟩ := hN
  refine ⟨vs', hA, h.chg.trans' hC (fun x hx => .inr (h.own x hx)), fun x hx => ?_⟩
  rcases hB x hx with h1 | h1
  · exact h.own x h1
  · exact Nat.le_trans h.chg.size h1
theorem KP.calm {w w1 w2 : World} {b : Nat} {vs : List Value} {s : HS} (h : KP w b vs s w1) (hC : Chg [] w1 w2) : KP w b vs s w2 := ⟨h.at_.calm hC, h.chg.trans hC, h.own⟩
theorem KP.due {w w1 w2 : World} {b : Nat} {vs : List Value} {s s' : HS} {l : List Int} {e : Ending} (h : KP w b vs s w1) (hN : DueP w1.heap.size b vs s' l w1 e w2) :
    ∃ a cap vs', e = .returned (.slice a l.length cap) ∧ IntsAt w2 a l ∧ KP w b vs' s' w2 := by
  obtain ⟨v, vs', he, ho, hA, hC, hB, _⟩ := hN
  obtain ⟨a, cap, rfl, hI⟩ := IntsAt.of_own ho rfl
  exact ⟨a, cap, vs', he, hI, h.next ⟨vs', hA, hC, hB⟩ |>.elim fun vs'' h2 => ⟨hA, h2.chg, fun x hx => by
    rcases hB x hx with h1 | h1
    · exact h.own x h1
    · exact Nat.le_trans h.chg.size h1⟩⟩

set_option maxRecDepth 100000 in
set_option maxHeartbeats 4000000 in
theorem knownc (w : World) : Calls Try.prog 7 #[] w fun e w' => e = .returned (.bool true) ∧ Chg [] w w' := by
  go_enter Try.func7, Try.ntmps7
  go_wp2_with fail
  refine (newc w).mono ?_
  rintro e w1 ⟨b, rfl, hb, hA, hC⟩
  have H1 := Lib.hid (KP.mk (w := w) hA hC (fun x hx => by rw [blocks0] at hx; simp at hx; omega))
  clear hA hC hb
  go_wp2_with fail
  refine (setc b _ _ 3 10 w1 H1.out.at_ (by decide)).mono ?_
  rintro e w2 ⟨rfl, hN⟩
  obtain ⟨vs2, h2⟩ := H1.out.next hN
  have H2 := Lib.hid h2
  clear hN h2
  have e1 : HS.setE 3 10 = 0 := by kernel_rfl
  rw [e1]
  go_wp2_with fail
  refine (setc b _ _ 1 5 w2 H2.out.at_ (by decide)).mono ?_
  rintro e w3 ⟨rfl, hN⟩
  obtain ⟨vs3, h3⟩ := H2.out.next hN
  have H3 := Lib.hid h3
  clear hN h3
  have e2 : HS.setE 1 5 = 0 := by kernel_rfl
  rw [e2]
  go_wp2_with fail
  refine (setc b _ _ 2 5 w3 H3.out.at_ (by decide)).mono ?_
  rintro e w4 ⟨rfl, hN⟩
  obtain ⟨vs4, h4⟩ := H3.out.next hN
  have H4 := Lib.hid h4
  clear hN h4
  have e3 : HS.setE 2 5 = 0 := by kernel_rfl
  rw [e3]
  go_wp2_with fail
  refine (setc b _ _ 3 5 w4 H4.out.at_ (by decide)).mono ?_
  rintro e w5 ⟨rfl, hN⟩
  obtain ⟨vs5, h5⟩ := H4.out.next hN
  have H5 := Lib.hid h5
  clear hN h5
  have e4 : HS.setE 3 5 = 0 := by kernel_rfl
  rw [e4]
  go_wp2_with fail
  refine (firstc b _ _ w5 H5.out.at_).mono ?_
  rintro e w6 ⟨rfl, hC⟩
  have H6 := Lib.hid (H5.out.calm hC)
  clear hC
  have e5 : firstV (ordH ((((hs0.setS 3 10).setS 1 5).setS 2 5).setS 3 5).M) = .tuple #[.int .i64 1, .int .i64 5, .bool true] := by kernel_rfl
  rw [e5]
  go_wp2_with fail
  refine (duec b _ _ 4 w6 H6.out.at_).mono ?_
  rintro e w7 hD
  obtain ⟨a7, c7, vs7, rfl, hI, h7⟩ := H6.out.due hD
  have H7 := Lib.hid h7
  clear hD hI h7
  have e6 : (((((hs0.setS 3 10).setS 1 5).setS 2 5).setS 3 5).dueL 4).length = 0 := by kernel_rfl
  rw [e6]
  go_wp2_with fail
  refine (duec b _ _ 7 w7 H7.out.at_).mono ?_
  rintro e w8 hD
  obtain ⟨a8, c8, vs8, rfl, hI, h8⟩ := H7.out.due hD
  have H8 := Lib.hid (And.intro h8 hI)
  clear hD hI h8
  have e7 : (((((hs0.setS 3 10).setS 1 5).setS 2 5).setS 3 5).dueS 4).dueL 7 = [1, 2, 3] := by kernel_rfl
  go_wp2_with fail
  have hI2 : IntsAt (w8.alloc (.cells #[.int .i64 1, .int .i64 2, .int .i64 3] 3 (0, 0))) (some ⟨w8.heap.size, 0, none⟩) [1, 2, 3] := .inr ⟨_, rfl, fun j x hj => cellB (heap_alloc_eq w8 _) (by
    rcases j with _ | _ | _ | j <;> simp at hj <;> simp [hj])⟩
  have hI1 := H8.out.2.calm (w' := w8.alloc (.cells #[.int .i64 1, .int .i64 2, .int .i64 3] 3 (0, 0))) ((Chg.refl _ _).alloc _)
  have hs := lsamec a8 (some ⟨w8.heap.size, 0, none⟩) c8 3 _ [1, 2, 3] _ hI1 hI2 (by rw [e7]; simp)
  refine hs.mono ?_
  rintro e w9 ⟨rfl, hC⟩
  have H9 := Lib.hid (H8.out.1.calm (((Chg.refl _ _).alloc _).trans hC))
  clear hs hI1 hI2 hC
  rw [e7]
  have e8 : decide (([1, 2, 3] : List Int) = [1, 2, 3]) = true := by simp
  rw [e8]
  go_wp2_with fail
  refine (lenc b _ _ w9 H9.out.at_).mono ?_
  rintro e w10 ⟨rfl, rfl⟩
  have e9 : (((((((hs0.setS 3 10).setS 1 5).setS 2 5).setS 3 5).dueS 4).dueS 7).M.length : Int) = 0 := by kernel_rfl
  rw [e9]
  go_wp2_with fail
  refine (setc b _ _ 64 1 w9 H9.out.at_ (by decide)).mono ?_
  rintro e w11 ⟨rfl, hN⟩
  obtain ⟨vs11, h11⟩ := H9.out.next hN
  have H11 := Lib.hid h11
  clear hN h11
  have e10 : HS.setE 64 1 = 2 := by kernel_rfl
  rw [e10]
  go_wp2_with fail
  refine (setc b _ _ 0 (-1) w11 H11.out.at_ (by decide)).mono ?_
  rintro e w12 ⟨rfl, hN⟩
  obtain ⟨vs12, h12⟩ := H11.out.next hN
  have H12 := Lib.hid h12
  clear hN h12
  have e11 : HS.setE 0 (-1) = 2 := by kernel_rfl
  rw [e11]
  go_wp2_with fail
  refine (cancelc b _ _ 0 w12 H12.out.at_).mono ?_
  rintro e w13 ⟨rfl, hN⟩
  obtain ⟨vs13, h13⟩ := H12.out.next hN
  have H13 := Lib.hid h13
  clear hN h13
  have e12 : HS.canE (((((((((hs0.setS 3 10).setS 1 5).setS 2 5).setS 3 5).dueS 4).dueS 7).setS 64 1)).setS 0 (-1)) 0 = 6 := by kernel_rfl
  rw [e12]
  go_wp2
  go_ret
  exact ⟨rfl, H13.out.chg⟩

end Go.Proofs.Ytpaaanjghcloeaa
