
/- metronomelaw09.do: kinds 4, 5, 6, the rest; all kinds. -/
import Derived.Test.YtohkjiibjljmmaaDoa
namespace Go.Proofs.Ytohkjiibjljmmaa
open Go.RowKit

/-- The list behind a step. -/
def stepL (L : WL) (k t p : Int) : WL := if k = 1 then putL L t p else if k = 2 then chgL L t p else if k = 3 then lvL L t else if k = 4 then takeL L else if k = 5 then [] else L

set_option maxRecDepth 100000 in
set_option maxHeartbeats 2000000 in
theorem do4 (ab mb rb : Nat) (N : Int) (L : WL) (t p : Int) (w : World) (hW : WAt w ab mb N L) (hR : RAt w rb L) :
    Calls Try.prog 15 #[.pointer (some ⟨ab, 0, none⟩), .pointer (some ⟨rb, 0, none⟩), .agg #[.int .i64 4, .int .i64 t, .int .i64 p]] w (DoPost ab mb rb N (takeL L) w) := by
  have hC0 : Chg [] w (w.alloc (.cells #[.int .i64 4, .int .i64 t, .int .i64 p] 28)) := (Chg.refl [] w).alloc _
  have H0 := Lib.hid (And.intro (hW.kept hC0 (by simp) (by simp)) (And.intro (hR.calm hC0) (And.intro hC0 (And.intro (hR.ne hW) (And.intro hW.facts.2.2 hW.lok)))))
  clear hW hR hC0
  go_enter Try.func15, Try.ntmps15
  go_wp2_with fail
  refine (takec ab mb N L _ H0.out.1).mono ?_
  rintro e w1 ⟨rfl, hW1, hC1⟩
  have H1 := Lib.hid (And.intro hW1 hC1)
  clear hW1 hC1
  go_wp2_with fail
  refine (rtakec rb L w1 (H0.out.2.1.step H0.out.1 H1.out.2) (by have := H0.out.2.2.2.2.1; omega) H0.out.2.2.2.2.2).mono ?_
  rintro e w2 ⟨rfl, hR2, hC2⟩
  have HF := Lib.hid (bothStep (N := N) (by omega) H0.out.2.2.1 H0.out.2.2.2.1 H1.out.1 (show Chg [ab, mb] (World.drew _) w1 from ⟨H1.out.2.os, H1.out.2.tape, H1.out.2.output, H1.out.2.size, H1.out.2.block⟩) hR2 hC2)
  clear hR2 hC2
  go_wp2
  go_ret3
  exact ⟨ab, mb, rfl, .inl ⟨rfl, rfl⟩, HF.out.1, HF.out.2.1, HF.out.2.2⟩

set_option maxRecDepth 100000 in
set_option maxHeartbeats 2000000 in
theorem do5 (ab mb rb : Nat) (N : Int) (L : WL) (t p : Int) (w : World) (hW : WAt w ab mb N L) (hR : RAt w rb L) :
    Calls Try.prog 15 #[.pointer (some ⟨ab, 0, none⟩), .pointer (some ⟨rb, 0, none⟩), .agg #[.int .i64 5, .int .i64 t, .int .i64 p]] w (DoPost ab mb rb N [] w) := by
  have hC0 : Chg [] w (w.alloc (.cells #[.int .i64 5, .int .i64 t, .int .i64 p] 28)) := (Chg.refl [] w).alloc _
  have hlen : (ordT L).length ≤ 16 := by unfold ordT; rw [List.length_map, ordT_len hW.lok]; exact hW.facts.2.2
  have H0 := Lib.hid (And.intro (hW.kept hC0 (by simp) (by simp)) (And.intro (hR.calm hC0) (And.intro hC0 (And.intro (hR.ne hW) (And.intro hW.facts.2.2 (And.intro hW.lok (And.intro hlen hR.lt)))))))
  clear hW hR hC0 hlen
  go_enter Try.func15, Try.ntmps15
  go_wp2_with fail
  refine (clearc ab mb N L _ H0.out.1).mono ?_
  rintro e w1 ⟨v1, rfl, ho1, hW1, hC1⟩
  have H1 := Lib.hid (And.intro hW1 (And.intro hC1 ho1))
  clear hW1 hC1 ho1
  go_wp2_with fail
  refine (rclearc rb L w1 (H0.out.2.1.step H0.out.1 H1.out.2.1) (by have := H0.out.2.2.2.2.1; omega) H0.out.2.2.2.2.2.1).mono ?_
  rintro e w2 ⟨v2, rfl, ho2, hR2, hC2⟩
  have hF := bothStep (N := N) (by omega) H0.out.2.2.1 H0.out.2.2.2.1 H1.out.1 (show Chg [ab, mb] (World.drew _) w1 from ⟨H1.out.2.1.os, H1.out.2.1.tape, H1.out.2.1.output, H1.out.2.1.size, H1.out.2.1.block⟩) hR2 hC2
  have hk1 := own_kept H1.out.2.2 hC2 (fun k hk => by
    simp at hk
    subst hk
    refine own_notin H1.out.2.2 ?_
    have h1 := H0.out.2.2.1.size
    have h2 := H0.out.2.2.2.2.2.2.2
    omega)
  have HF := Lib.hid (And.intro hF (And.intro hk1 ho2))
  clear hR2 hC2 hF hk1 ho2
  go_wp2_with fail
  refine (sameInts_any v1 v2 (ordT L) (ordT L) w2 (IsInts.of_own HF.out.2.1) (IsInts.of_own HF.out.2.2) (by have := H0.out.2.2.2.2.2.2.1; omega) (by have := H0.out.2.2.2.2.2.2.1; omega)).mono ?_
  rintro e w3 ⟨rfl, hC3⟩
  rw [show decide (ordT L = ordT L) = true from decide_eq_true rfl]
  have HC3 := Lib.hid hC3
  clear hC3
  go_wp2
  go_ret3
  exact ⟨ab, mb, rfl, .inl ⟨rfl, rfl⟩, HF.out.1.1.kept HC3.out (by simp) (by simp), HF.out.1.2.1.calm HC3.out, HF.out.1.2.2.trans (HC3.out.mono (by simp))⟩

set_option maxRecDepth 100000 in
set_option maxHeartbeats 2000000 in
theorem do6 (ab mb rb : Nat) (N : Int) (L : WL) (t p : Int) (w : World) (hW : WAt w ab mb N L) (hR : RAt w rb L) (hN : N < 4611686018427387904) :
    Calls Try.prog 15 #[.pointer (some ⟨ab, 0, none⟩), .pointer (some ⟨rb, 0, none⟩), .agg #[.int .i64 6, .int .i64 t, .int .i64 p]] w (DoPost ab mb rb N L w) := by
  have hC0 : Chg [] w (w.alloc (.cells #[.int .i64 6, .int .i64 t, .int .i64 p] 28)) := (Chg.refl [] w).alloc _
  have hlt := hW.lt
  have H0 := Lib.hid (And.intro (hW.kept hC0 (by simp) (by simp)) (And.intro (hR.calm hC0) (And.intro hC0 hlt)))
  clear hW hR hC0 hlt
  go_enter Try.func15, Try.ntmps15
  go_wp2_with fail
  refine (copyc ab mb N L _ H0.out.1).mono ?_
  rintro e w1 ⟨a1, m1, rfl, ha1, hm1, hW1, hC1⟩
  have hs := H0.out.2.2.1.size
  have H1 := Lib.hid (And.intro hW1 (And.intro (H0.out.1.kept hC1 (by simp) (by simp)) (And.intro (H0.out.2.1.calm hC1) (And.intro (H0.out.2.2.1.trans hC1) (And.intro (Nat.le_trans hs ha1) (Nat.le_trans hs hm1))))))
  clear hW1 hC1 ha1 hm1 hs
  go_wp2_with fail
  refine (samec a1 m1 ab mb N N L L w1 H1.out.1 H1.out.2.1).mono ?_
  rintro e w2 ⟨rfl, hC2⟩
  rw [show decide (L = L) = true from decide_eq_true rfl]
  have hn : ∀ k ∈ [ab, mb], k ≠ a1 ∧ k ≠ m1 := fun k hk => by
    have h1 := H0.out.2.2.2
    have h2 := H1.out.2.2.2.2
    simp at hk
    omega
  have H2 := Lib.hid (And.intro (H1.out.1.kept hC2 (by simp) (by simp)) (And.intro (H1.out.2.1.kept hC2 (by simp) (by simp)) (And.intro (H1.out.2.2.1.calm hC2) (And.intro ((H1.out.2.2.2.1.trans hC2).mono (S2 := [ab, mb]) (by simp)) hn))))
  clear hC2 hn
  go_wp2_with fail
  refine (putc ab mb N L 15 31 w2 H2.out.2.1 hN).mono ?_
  rintro e w3 ⟨rfl, hW, hC⟩
  have H3 := Lib.hid (And.intro (H2.out.1.kept hC (fun h => (H2.out.2.2.2.2 _ h).1 rfl) (fun h => (H2.out.2.2.2.2 _ h).2 rfl)) (And.intro hW (And.intro (H2.out.2.2.1.step H2.out.2.1 hC) (And.intro (H2.out.2.2.2.1.trans hC) H2.out.2.2.2.2))))
  clear hW hC
  go_wp2_with fail
  refine (leavec ab mb (N + 1) (putL L 15 31) 1 w3 H3.out.2.1).mono ?_
  rintro e w4 ⟨rfl, hW, hC⟩
  have H4 := Lib.hid (And.intro (H3.out.1.kept hC (fun h => (H3.out.2.2.2.2 _ h).1 rfl) (fun h => (H3.out.2.2.2.2 _ h).2 rfl)) (And.intro hW (And.intro (H3.out.2.2.1.step H3.out.2.1 hC) (And.intro (H3.out.2.2.2.1.trans hC) H3.out.2.2.2.2))))
  clear hW hC
  go_wp2_with fail
  refine (changec ab mb (N + 1) (lvL (putL L 15 31) 1) 2 30 w4 H4.out.2.1).mono ?_
  rintro e w5 ⟨rfl, hW, hC⟩
  have H5 := Lib.hid (And.intro (H4.out.1.kept hC (fun h => (H4.out.2.2.2.2 _ h).1 rfl) (fun h => (H4.out.2.2.2.2 _ h).2 rfl)) (And.intro hW (And.intro (H4.out.2.2.1.step H4.out.2.1 hC) (And.intro (H4.out.2.2.2.1.trans hC) H4.out.2.2.2.2))))
  clear hW hC
  go_wp2
  go_ret3
  exact ⟨a1, m1, rfl, .inr H1.out.2.2.2.2, H5.out.1.mono (by omega), H5.out.2.2.1, H5.out.2.2.2.1.mono (by simp)⟩

set_option maxRecDepth 100000 in
set_option maxHeartbeats 2000000 in
theorem do0 (ab mb rb : Nat) (N : Int) (L : WL) (k t p : Int) (w : World) (hW : WAt w ab mb N L) (hR : RAt w rb L) (h1 : (k == 1) = false) (h2 : (k == 2) = false) (h3 : (k == 3) = false) (h4 : (k == 4) = false) (h5 : (k == 5) = false) (h6 : (k == 6) = false) :
    Calls Try.prog 15 #[.pointer (some ⟨ab, 0, none⟩), .pointer (some ⟨rb, 0, none⟩), .agg #[.int .i64 k, .int .i64 t, .int .i64 p]] w (DoPost ab mb rb N L w) := by
  have H0 := Lib.hid (And.intro hW hR)
  clear hW hR
  go_enter Try.func15, Try.ntmps15
  go_wp2
  go_ret3
  have hC0 := (Chg.refl [] w).alloc (.cells #[.int .i64 k, .int .i64 t, .int .i64 p] 28)
  exact ⟨ab, mb, rfl, .inl ⟨rfl, rfl⟩, (H0.out.1.kept hC0 (by simp) (by simp)).mono (by omega), H0.out.2.calm hC0, hC0.mono (by simp)⟩

theorem doc (ab mb rb : Nat) (N : Int) (L : WL) (k t p : Int) (w : World) (hW : WAt w ab mb N L) (hR : RAt w rb L) (hN : N < 4611686018427387904) :
    Calls Try.prog 15 #[.pointer (some ⟨ab, 0, none⟩), .pointer (some ⟨rb, 0, none⟩), .agg #[.int .i64 k, .int .i64 t, .int .i64 p]] w (DoPost ab mb rb N (stepL L k t p) w) := by
  unfold stepL
  by_cases h1 : k = 1
  · subst h1; rw [if_pos rfl]; exact do1 ab mb rb N L t p w hW hR hN
  rw [if_neg h1]
  by_cases h2 : k = 2
  · subst h2; rw [if_pos rfl]; exact do2 ab mb rb N L t p w hW hR
  rw [if_neg h2]
  by_cases h3 : k = 3
  · subst h3; rw [if_pos rfl]; exact do3 ab mb rb N L t p w hW hR
  rw [if_neg h3]
  by_cases h4 : k = 4
  · subst h4; rw [if_pos rfl]; exact do4 ab mb rb N L t p w hW hR
  rw [if_neg h4]
  by_cases h5 : k = 5
  · subst h5; rw [if_pos rfl]; exact do5 ab mb rb N L t p w hW hR
  rw [if_neg h5]
  by_cases h6 : k = 6
  · subst h6; exact do6 ab mb rb N L t p w hW hR hN
  exact do0 ab mb rb N L k t p w hW hR (by simpa using h1) (by simpa using h2) (by simpa using h3) (by simpa using h4) (by simpa using h5) (by simpa using h6)

end Go.Proofs.Ytohkjiibjljmmaa
