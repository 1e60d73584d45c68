
/- Timers: Same of two that stand alike: contract. -/
import Derived.Test.YtonahpilmchnkaaGm
import Derived.Test.YtonahpilmchnkaaHk
import Derived.Lib.QuietBelow
namespace Go.Proofs.Ytonahpilmchnkaa
open Go.RowKit Go.Sort

theorem chg_regrown (w : World) (d : Nat) (os : Array Obj) : Chg [] w (grow (redrawn w d) os) := by
  have h := below_regrown w d os
  exact ⟨h.os, h.tape, h.output, h.size, fun k hk _ => h.block k hk⟩
theorem samec_regrown {b1 b2 : Nat} {vs1 vs2 : List Value} {s : HS} {w : World} (h1 : HAt w b1 vs1 s) (h2 : HAt w b2 vs2 s) (d : Nat) (os : Array Obj) :
    Calls Try.prog 41 #[.pointer (some ⟨b1, 0, none⟩), .pointer (some ⟨b2, 0, none⟩)] (grow (redrawn w d) os) fun e w'' => e = .returned (.bool true) ∧ ∃ p : Regrown, w'' = grow (redrawn w p.d) p.os := by
  refine Calls.regrown_of ((samec b1 b2 vs1 vs2 s s _ (h1.calm (chg_regrown w d os)) (h2.calm (chg_regrown w d os))).mono ?_)
  rintro e w' ⟨rfl, hC⟩
  exact ⟨by rw [show sameH (ordH s.M) (ordH s.M) = true from decide_eq_true rfl], hC.below (Nat.le_refl _)⟩

set_option maxRecDepth 100000 in
set_option maxHeartbeats 4000000 in
theorem psameeq (b1 b2 : Nat) (bs1 bs2 : Int → Nat) (vs1 vs2 : Int → List Value) (s : TS) (w : World) (h1 : TAt w b1 bs1 vs1 s) (h2 : TAt w b2 bs2 vs2 s) :
    Calls Try.prog 22 #[.pointer (some ⟨b1, 0, none⟩), .pointer (some ⟨b2, 0, none⟩)] w fun e w' => e = .returned (.bool true) ∧ Chg [] w w' := by
  have H1 := Lib.hid (pisc b1 bs1 vs1 s w h1)
  have H2 := Lib.hid (pisc b2 bs2 vs2 s w h2)
  have c1 := fun d os => cell_regrown h1.cn d os
  have c2 := fun d os => cell_regrown h2.cn d os
  have x1 : ∀ d os, (grow (redrawn w d) os).cell? ⟨b1, 1, none⟩ = some (.pointer (some ⟨bs1 0, 0, none⟩)) := fun d os => cell_regrown (h1.cw (k := 0) (by omega)) d os
  have x2 : ∀ d os, (grow (redrawn w d) os).cell? ⟨b2, 1, none⟩ = some (.pointer (some ⟨bs2 0, 0, none⟩)) := fun d os => cell_regrown (h2.cw (k := 0) (by omega)) d os
  have y1 : ∀ d os, (grow (redrawn w d) os).cell? ⟨b1, 2, none⟩ = some (.pointer (some ⟨bs1 1, 0, none⟩)) := fun d os => cell_regrown (h1.cw (k := 1) (by omega)) d os
  have y2 : ∀ d os, (grow (redrawn w d) os).cell? ⟨b2, 2, none⟩ = some (.pointer (some ⟨bs2 1, 0, none⟩)) := fun d os => cell_regrown (h2.cw (k := 1) (by omega)) d os
  have l1 := fun (d : Nat) (os : Array Obj) => (h1.calm (chg_regrown w d os)).loadL
  have l2 := fun (d : Nat) (os : Array Obj) => (h2.calm (chg_regrown w d os)).loadL
  have k0 := Lib.hid (fun (d : Nat) (os : Array Obj) => samec_regrown (h1.wh 0 (.inl rfl)) (h2.wh 0 (.inl rfl)) d os)
  have k1 := Lib.hid (fun (d : Nat) (os : Array Obj) => samec_regrown (h1.wh 1 (.inr rfl)) (h2.wh 1 (.inr rfl)) d os)
  have hE := fun (W : World) => eqL h1.len h2.len W
  rw [(allEqb_iff h1.len h2.len).2 rfl] at hE
  obtain ⟨A1, hA1⟩ : ∃ A1, A1 = (flatT s.L).toArray := ⟨_, rfl⟩
  simp only [← hA1] at l1 l2 hE
  obtain ⟨n, hnn⟩ : ∃ n, n = (s.n : Int) := ⟨_, rfl⟩
  simp only [← hnn] at c1 c2
  have e0 : (n == n) = true := by simp
  generalize bs1 0 = p10 at *
  generalize bs1 1 = p11 at *
  generalize bs2 0 = p20 at *
  generalize bs2 1 = p21 at *
  clear h1 h2 hA1 hnn
  go_enter Try.func22, Try.ntmps22
  go_wp2_with (go_at_call 28; (first | (with_reducible refine H1.out.mono ?_) | (with_reducible refine H2.out.mono ?_)); rintro e w' ⟨rfl, rfl⟩)
  refine wp_region_quiet_below (by kernel_rfl) (by kernel_rfl) ?_
  repeat (first
    | (go_big_quiet_want; refine quiet_loadL 51 _ rfl b1 rfl _ (fun W hW => by obtain ⟨p, rfl⟩ := hW; exact l1 p.d p.os) ?_; go_simp; go_big_quiet_on)
    | (go_big_quiet_want; refine quiet_loadL 51 _ rfl b2 rfl _ (fun W hW => by obtain ⟨p, rfl⟩ := hW; exact l2 p.d p.os) ?_; go_simp; go_big_quiet_on)
    | go_big_quiet_step (first | (with_reducible exact k0.out _ _) | (with_reducible exact k1.out _ _)))
  refine wpQuiet_nil ?_
  intro _ hw'
  obtain ⟨⟨dq, osq⟩, hw''⟩ := hw'
  subst hw''
  go_wp2
  go_ret
  exact ⟨rfl, chg_regrown _ _ _⟩

end Go.Proofs.Ytonahpilmchnkaa
