
/- Package rwlock: Same: contract. -/
import Derived.Test.YtpdfeinbbjfcaaaGreatKg
import Derived.Test.YtpdfeinbbjfcaaaGreatKgn
namespace Go.Proofs.YtpdfeinbbjfcaaaGreat
open Go.RowKit

theorem lsamec (c1 r1 a1 m1 b1 n1 c2 r2 a2 m2 b2 n2 : Nat) (N1 N2 : Int) (s t : LS) (w : World) (h : LAt w c1 r1 a1 m1 b1 n1 N1 s) (g : LAt w c2 r2 a2 m2 b2 n2 N2 t) :
    Calls Tryz.prog 10 #[.pointer (some ⟨c1, 0, none⟩), .pointer (some ⟨c2, 0, none⟩)] w fun e w' => e = .returned (.bool (s.eqv t)) ∧ Chg [] w w' := by
  rcases s.eqv_ways t with ⟨e1, e2⟩ | ⟨e1, e2, e3⟩ | ⟨e1, e2, e3, e4⟩ | ⟨e1, e2, e3, e4⟩
  · rw [e2]
    exact lsameN c1 r1 a1 m1 b1 n1 c2 r2 a2 m2 b2 n2 N1 N2 s t w h g e1
  · rw [e3]
    exact lsameC c1 r1 a1 m1 b1 n1 c2 r2 a2 m2 b2 n2 N1 N2 s t w h g e1 e2
  · rw [e4]
    exact lsameR c1 r1 a1 m1 b1 n1 c2 r2 a2 m2 b2 n2 N1 N2 s t w h g e1 e2 e3
  · exact lsameW c1 r1 a1 m1 b1 n1 c2 r2 a2 m2 b2 n2 N1 N2 s t w h g e1 e2 e3 e4

end Go.Proofs.YtpdfeinbbjfcaaaGreat
