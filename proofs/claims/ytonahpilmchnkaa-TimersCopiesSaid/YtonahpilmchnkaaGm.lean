
/- Timers: Same: contracts. -/
import Derived.Test.YtonahpilmchnkaaGl
import Derived.Deep.RegionHeld3
import Derived.Deep.MidRow
import Derived.BigQuiet
namespace Go.Proofs.Ytonahpilmchnkaa
open Go.RowKit

theorem TAt.rangeL {w : World} {b : Nat} {bs : Int → Nat} {vs : Int → List Value} {s : TS} (h : TAt w b bs vs s) : w.rangeAt b 3 (flatT s.L) := fun j v hj => cellB h.head (by
  unfold tcl
  rw [List.getElem?_toArray, show 3 + j = j + 1 + 1 + 1 by omega, List.getElem?_cons_succ, List.getElem?_cons_succ, List.getElem?_cons_succ]
  exact hj)
theorem TAt.loadL {w : World} {b : Nat} {bs : Int → Nat} {vs : Int → List Value} {s : TS} (h : TAt w b bs vs s) : (loadVar 51 ⟨b, 3, none⟩).run Try.prog w = .ok (.agg (flatT s.L).toArray) w :=
  run_loadVar_mid w b 3 51 (flatT s.L) _ h.rangeL Try.underlying51 rfl (by rw [flatT_len, h.len]; kernel_rfl)

theorem TAt.loadC {w : World} {b : Nat} {bs : Int → Nat} {vs : Int → List Value} {s : TS} (h : TAt w b bs vs s) : (loadCells ⟨b, 3, none⟩ 56).run Try.prog w = .ok (flatT s.L).toArray w := by
  have := run_loadCells_list (P := Try.prog) w ⟨b, 3, none⟩ (flatT s.L) (fun j v hv => by rw [Addr.add_mid]; exact h.rangeL j v hv)
  rwa [flatT_len, h.len] at this
theorem quiet_loadL {P : Program} {o : Oper} {a : Act} {C : World → Prop} {K : Act → Prop} (ty : TypeId) (x : Operand) (ho : o.op = .load ty x) (b : Nat) (hx : a.eval x = .pointer (some ⟨b, 3, none⟩)) (A : Value)
    (hl : ∀ w, C w → (loadVar ty ⟨b, 3, none⟩).run P w = .ok A w) (hk : K (a.put o.dst A)) : o.quiet P a C K :=
  ⟨A, fun w hw => by
    unfold Oper.quietAt execOp
    simp only [ho, hx, Instr.loadAt, Instr.sureAddr, Sem.run_bind, Sem.run_pure, Result.andThen_ok, hl w hw]
    exact ⟨rfl, rfl⟩, hk⟩
set_option maxRecDepth 100000 in
set_option maxHeartbeats 4000000 in
/-- Of one number, but not alike. -/
theorem psamene (b1 b2 : Nat) (bs1 bs2 : Int → Nat) (vs1 vs2 : Int → List Value) (s1 s2 : TS) (w : World) (h1 : TAt w b1 bs1 vs1 s1) (h2 : TAt w b2 bs2 vs2 s2) (hn : s1.n = s2.n) (hne : s1.L ≠ s2.L) :
    Calls Try.prog 22 #[.pointer (some ⟨b1, 0, none⟩), .pointer (some ⟨b2, 0, none⟩)] w fun e w' => e = .returned (.bool false) ∧ Chg [] w w' := by
  have H1 := Lib.hid (pisc b1 bs1 vs1 s1 w h1)
  have H2 := Lib.hid (pisc b2 bs2 vs2 s2 w h2)
  have c1 := h1.cn
  have c2 := h2.cn
  have l1 := fun k : Nat => (h1.calm (w' := w.drewN k) ((Chg.refl _ _).drewN k)).loadL
  have l2 := fun k : Nat => (h2.calm (w' := w.drewN k) ((Chg.refl _ _).drewN k)).loadL
  have m1 := fun k : Nat => (h1.calm (w' := w.drewN k) ((Chg.refl _ _).drewN k)).loadC
  have m2 := fun k : Nat => (h2.calm (w' := w.drewN k) ((Chg.refl _ _).drewN k)).loadC
  have hE := fun (W : World) => eqL h1.len h2.len W
  have hB : allEqb s1.L s2.L (List.range 8) = false := by
    cases e : allEqb s1.L s2.L (List.range 8) with
    | false => rfl
    | true => exact absurd ((allEqb_iff h1.len h2.len).1 e) hne
  rw [hB] at hE
  obtain ⟨A1, hA1⟩ : ∃ A1, A1 = (flatT s1.L).toArray := ⟨_, rfl⟩
  obtain ⟨A2, hA2⟩ : ∃ A2, A2 = (flatT s2.L).toArray := ⟨_, rfl⟩
  simp only [← hA1] at l1 m1 hE
  simp only [← hA2] at l2 m2 hE
  rw [← hn] at c2
  obtain ⟨n, hnn⟩ : ∃ n, n = (s1.n : Int) := ⟨_, rfl⟩
  rw [← hnn] at c1 c2
  have e0 : (n == n) = true := by simp
  clear h1 h2 hn hne hB hA1 hA2 hnn
  go_enter Try.func22, Try.ntmps22
  go_wp2_with (go_at_call 28; (first | (with_reducible refine H1.out.mono ?_) | (with_reducible refine H2.out.mono ?_)); rintro e w' ⟨rfl, rfl⟩)
  refine wp_region_quiet_lit (by kernel_rfl) (by kernel_rfl) ?_
  repeat (first
    | (go_big_quiet_want; refine quiet_loadL 51 _ rfl b1 rfl _ (fun W hW => by obtain ⟨k, rfl⟩ := hW; exact l1 k) ?_; go_simp; go_big_quiet_on)
    | (go_big_quiet_want; refine quiet_loadL 51 _ rfl b2 rfl _ (fun W hW => by obtain ⟨k, rfl⟩ := hW; exact l2 k) ?_; go_simp; go_big_quiet_on)
    | go_big_quiet_step (fail))
  refine wpQuiet_nil ?_
  intro _ hw'
  obtain ⟨nq, hw''⟩ := hw'
  subst hw''
  go_wp2
  go_ret
  exact ⟨rfl, (Chg.refl _ _).drewN _⟩

end Go.Proofs.Ytonahpilmchnkaa
