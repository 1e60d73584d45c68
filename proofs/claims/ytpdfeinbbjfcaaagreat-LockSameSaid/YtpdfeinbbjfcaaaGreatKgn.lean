
/- Package rwlock: Same of locks whose writers differ: contract. -/
import Derived.Test.YtpdfeinbbjfcaaaGreatKf
namespace Go.Proofs.YtpdfeinbbjfcaaaGreat
open Go.RowKit

set_option maxRecDepth 100000 in
set_option maxHeartbeats 8000000 in
theorem lsameN (c1 r1 a1 m1 b1 n1 c2 r2 a2 m2 b2 n2 : Nat) (N1 N2 : Int) (s t : LS) (w : World) (h : LAt w c1 r1 a1 m1 b1 n1 N1 s) (g : LAt w c2 r2 a2 m2 b2 n2 N2 t) (e1 : (s.wr == t.wr) = false) :
    Calls Tryz.prog 10 #[.pointer (some ⟨c1, 0, none⟩), .pointer (some ⟨c2, 0, none⟩)] w fun e w' => e = .returned (.bool false) ∧ Chg [] w w' := by
  have hT : ∀ r : Nat, r = c1 ∨ r = c2 → Calls Tryz.prog 37 #[.pointer (some ⟨r, 0, none⟩)] w fun e w' => e = .returned (.bool true) ∧ w = w' := by
    rintro r (rfl | rfl)
    · exact ltherec _ r1 a1 m1 b1 n1 N1 s w h
    · exact ltherec _ r2 a2 m2 b2 n2 N2 t w g
  have HT := Lib.hid hT
  have c0 := cellB h.head (i := 0) (v := .int .i64 s.wr) rfl
  have c1' := cellB h.head (i := 1) (v := .map (some r1)) rfl
  have c2' := cellB h.head (i := 2) (v := .pointer (some ⟨a1, 0, none⟩)) rfl
  have c3 := cellB h.head (i := 3) (v := .pointer (some ⟨b1, 0, none⟩)) rfl
  have d0 := cellB g.head (i := 0) (v := .int .i64 t.wr) rfl
  have d1 := cellB g.head (i := 1) (v := .map (some r2)) rfl
  have d2 := cellB g.head (i := 2) (v := .pointer (some ⟨a2, 0, none⟩)) rfl
  have d3 := cellB g.head (i := 3) (v := .pointer (some ⟨b2, 0, none⟩)) rfl
  clear h g hT
  go_enter Tryz.func10, Tryz.ntmps10
  go_wp2_with (go_at_call 37; refine (HT.out _ (by first | exact .inl rfl | exact .inr rfl)).mono ?_; rintro e w' ⟨rfl, rfl⟩)
  go_quiet (fail)
  go_wp2
  go_ret
  exact ⟨rfl, (Chg.refl _ _).drewN _⟩

end Go.Proofs.YtpdfeinbbjfcaaaGreat
