
/- Package mutex: Same: contract (written by wip/samem2.py). -/
import Derived.Test.YtagnobmdcchcaaaMSp
import Derived.Test.YtagnobmdcchcaaaMSq
import Derived.Test.YtagnobmdcchcaaaMSr
import Derived.Test.YtagnobmdcchcaaaMSs
import Derived.Test.YtagnobmdcchcaaaMSt
namespace Go.Proofs.Ytagnobmdcchcaaa
open Go.RowKit

theorem msamec (c1 a1 m1 c2 a2 m2 : Nat) (N1 N2 : Int) (s1 s2 : MS) (w : World) (h1 : MAt w c1 a1 m1 N1 s1) (h2 : MAt w c2 a2 m2 N2 s2) (hk : s1.k = s2.k) (hp : s1.p = s2.p) (hr : s1.rob = s2.rob) :
    Calls Try.prog 25 #[.pointer (some ⟨c1, 0, none⟩), .pointer (some ⟨c2, 0, none⟩)] w fun e w' => e = .returned (.bool (s1.eqv s2)) ∧ Chg [] w w' := by
  have hw : (s1.c == s2.c) = false ∨ ((s1.c == s2.c) = true ∧ (s1.own == s2.own) = false) ∨ ((s1.c == s2.c) = true ∧ (s1.own == s2.own) = true ∧ (s1.cnt == s2.cnt) = false) ∨ ((s1.c == s2.c) = true ∧ (s1.own == s2.own) = true ∧ (s1.cnt == s2.cnt) = true ∧ (s1.st == s2.st) = false) ∨ ((s1.c == s2.c) = true ∧ (s1.own == s2.own) = true ∧ (s1.cnt == s2.cnt) = true ∧ (s1.st == s2.st) = true) := by
    cases (s1.c == s2.c) <;> cases (s1.own == s2.own) <;> cases (s1.cnt == s2.cnt) <;> cases (s1.st == s2.st) <;> simp
  rcases hw with g1 | ⟨g1, g2⟩ | ⟨g1, g2, g3⟩ | ⟨g1, g2, g3, g4⟩ | ⟨g1, g2, g3, g4⟩
  · rw [show s1.eqv s2 = false by unfold MS.eqv; rw [g1]; rfl]
    exact msame_p c1 a1 m1 c2 a2 m2 N1 N2 s1 s2 w h1 h2 hk hp g1
  · rw [show s1.eqv s2 = false by unfold MS.eqv; rw [g1, g2]; rfl]
    exact msame_q c1 a1 m1 c2 a2 m2 N1 N2 s1 s2 w h1 h2 hk hp hr g1 g2
  · rw [show s1.eqv s2 = false by unfold MS.eqv; rw [g1, g2, g3]; rfl]
    exact msame_r c1 a1 m1 c2 a2 m2 N1 N2 s1 s2 w h1 h2 hk hp hr g1 g2 g3
  · rw [show s1.eqv s2 = false by unfold MS.eqv; rw [g1, g2, g3, g4]; rfl]
    exact msame_s c1 a1 m1 c2 a2 m2 N1 N2 s1 s2 w h1 h2 hk hp hr g1 g2 g3 g4
  · rw [show s1.eqv s2 = decide (s1.L = s2.L) by unfold MS.eqv; rw [g1, g2, g3, g4]; simp]
    exact msame_t c1 a1 m1 c2 a2 m2 N1 N2 s1 s2 w h1 h2 hk hp hr g1 g2 g3 g4

end Go.Proofs.Ytagnobmdcchcaaa
