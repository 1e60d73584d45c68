
/- Package mutex: Same, one of its ways (written by wip/samem2.py). -/
import Derived.Test.YtagnobmdcchcaaaMSa
import Derived.StillTailTactics
namespace Go.Proofs.Ytagnobmdcchcaaa
open Go.RowKit

set_option maxRecDepth 100000 in
set_option maxHeartbeats 16000000 in
theorem msame_s (c1 a1 m1 c2 a2 m2 : Nat) (N1 N2 : Int) (s1 s2 : MS) (w : World) (h1 : MAt w c1 a1 m1 N1 s1) (h2 : MAt w c2 a2 m2 N2 s2) (hk : s1.k = s2.k) (hp : s1.p = s2.p) (hr : s1.rob = s2.rob) (g1 : (s1.c == s2.c) = true) (g2 : (s1.own == s2.own) = true) (g3 : (s1.cnt == s2.cnt) = true) (g4 : (s1.st == s2.st) = false) :
    Calls Try.prog 25 #[.pointer (some ⟨c1, 0, none⟩), .pointer (some ⟨c2, 0, none⟩)] w fun e w' => e = .returned (.bool false) ∧ Chg [] w w' := by
  have hT : ∀ r : Nat, r = c1 ∨ r = c2 → Calls Try.prog 36 #[.pointer (some ⟨r, 0, none⟩)] w fun e w' => e = .returned (.bool true) ∧ w = w' := by
    rintro r (rfl | rfl)
    · exact misc _ a1 m1 N1 s1 w h1
    · exact misc _ a2 m2 N2 s2 w h2
  have HT := Lib.hid hT
  have c10 := cellB h1.head (i := 0) (v := .int .i64 s1.k) rfl
  have c11 := cellB h1.head (i := 1) (v := .int .i64 s1.p) rfl
  have c12 := cellB h1.head (i := 2) (v := .int .i64 s1.c) rfl
  have c13 := cellB h1.head (i := 3) (v := .bool s1.rob) rfl
  have c14 := cellB h1.head (i := 4) (v := .int .i64 s1.own) rfl
  have c15 := cellB h1.head (i := 5) (v := .int .i64 s1.cnt) rfl
  have c16 := cellB h1.head (i := 6) (v := .int .i64 s1.st) rfl
  have c17 := cellB h1.head (i := 7) (v := .pointer (some ⟨a1, 0, none⟩)) rfl
  have c20 := cellB h2.head (i := 0) (v := .int .i64 s2.k) rfl
  have c21 := cellB h2.head (i := 1) (v := .int .i64 s2.p) rfl
  have c22 := cellB h2.head (i := 2) (v := .int .i64 s2.c) rfl
  have c23 := cellB h2.head (i := 3) (v := .bool s2.rob) rfl
  have c24 := cellB h2.head (i := 4) (v := .int .i64 s2.own) rfl
  have c25 := cellB h2.head (i := 5) (v := .int .i64 s2.cnt) rfl
  have c26 := cellB h2.head (i := 6) (v := .int .i64 s2.st) rfl
  have c27 := cellB h2.head (i := 7) (v := .pointer (some ⟨a2, 0, none⟩)) rfl
  rw [← hk] at c20
  rw [← hp] at c21
  rw [← hr] at c23
  have e0 : (s1.k == s1.k) = true := by simp
  have e1 : (s1.p == s1.p) = true := by simp
  have e3 : (s1.rob == s1.rob) = true := by simp
  clear h1 h2 hT hk hp hr
  go_enter Try.func25, Try.ntmps25
  go_wp2_with (go_at_call 36; refine (HT.out _ (by first | exact .inl rfl | exact .inr rfl)).mono ?_; rintro e w' ⟨rfl, rfl⟩)
  simp only [List.append_eq, List.cons_append, List.nil_append]
  go_quiet (fail)
  go_wp2
  go_ret
  exact ⟨rfl, (Chg.refl _ _).drewN _⟩

end Go.Proofs.Ytagnobmdcchcaaa
