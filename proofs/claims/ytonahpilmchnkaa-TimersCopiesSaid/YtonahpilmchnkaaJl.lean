
/- Timers: Due, Len: contracts. -/
import Derived.Test.YtonahpilmchnkaaJj
import Derived.Test.YtonahpilmchnkaaJk
namespace Go.Proofs.Ytonahpilmchnkaa
open Go.RowKit

theorem pduec (b : Nat) (bs : Int → Nat) (vs : Int → List Value) (s : TS) (c now : Int) (w : World) (h : TAt w b bs vs s) (hI : TInv s) (hcc : ∀ k, isC k → (s.W k).c < 4611686018427387000) :
    Calls Try.prog 11 #[.pointer (some ⟨b, 0, none⟩), .int .i64 c, .int .i64 now] w fun e w' => PDueP b bs vs (s.dueS c now) (s.dueL c now) w e w' := by
  by_cases hok : isC c ∧ okAt now
  · rw [show s.dueS c now = (s.dueF c now ((s.W c).dueL now)).1 from if_pos hok, show s.dueL c now = (s.dueF c now ((s.W c).dueL now)).2 from if_pos hok]
    exact pduegood b bs vs s c now w h hI hok.1 hok.2 (hcc c hok.1)
  · rw [show s.dueS c now = s from if_neg hok, show s.dueL c now = [] from if_neg hok]
    refine (pduebad b bs vs s c now w h hok).mono ?_
    rintro e w' ⟨rfl, hC⟩
    exact ⟨.slice none 0 0, vs, rfl, World.ownsRow_nil .., h.calm hC, hC.mono (by simp), fun x hx => .inl hx, by simp [Value.ownBlock]⟩

theorem plenc (b : Nat) (bs : Int → Nat) (vs : Int → List Value) (s : TS) (w : World) (h : TAt w b bs vs s) : Calls Try.prog 23 #[.pointer (some ⟨b, 0, none⟩)] w fun e w' => e = .returned (.int .i64 s.n) ∧ w' = w := by
  have c0 := h.cn
  have HI := Lib.hid (pisc b bs vs s w h)
  clear h
  go_enter Try.func23, Try.ntmps23
  go_wp2_with fail
  refine HI.out.mono ?_
  rintro e w' ⟨rfl, rfl⟩
  go_wp2
  go_ret
  exact ⟨rfl, rfl⟩

end Go.Proofs.Ytonahpilmchnkaa
