
/- Package ramfs: at: contract. -/
import Derived.Test.YtkkjbnmfjhmobaaDoorFl
namespace Go.Proofs.YtkkjbnmfjhmobaaDoor
open Go.RowKit

def atP (fb : Nat) (f : FS) (d flag : Int) (e : Ending) : Prop :=
  match f.bad d flag with
  | true => e = .panicked (refP 9)
  | false => e = .returned (.tuple #[.pointer (some ⟨fb, 192 + d.toNat * 4, none⟩), .pointer (some ⟨fb, (f.fl d).node.toNat * 3, none⟩)])
theorem FInv.flAt {f : FS} (h : FInv f) {d : Nat} (hd : d < 16) : f.files.getD d fl0 ∈ f.files := by
  have hl := h.lf
  rw [List.getD_eq_getElem?_getD, List.getElem?_eq_getElem (by omega)]
  exact List.getElem_mem _

set_option maxRecDepth 100000 in
set_option maxHeartbeats 4000000 in
theorem fatc (fb : Nat) (mb : Nat → Nat) (vs : Nat → Value) (f : FS) (d flag : Int) (w : World) (h : FAt w fb mb vs f) :
    Calls Tryd.prog 34 #[.pointer (some ⟨fb, 0, none⟩), .int .i64 d, .int .i64 flag] w fun e w' => atP fb f d flag e ∧ Chg [] w w' := by
  by_cases h0 : d < 0
  · have hb : f.bad d flag = true := by unfold FS.bad; simp [h0]
    have hd : decide (d < 0) = true := decide_eq_true h0
    unfold atP
    rw [hb]
    clear h h0 hb
    go_enter Tryd.func34, Tryd.ntmps34
    go_wp2_with (go_at_call 25; refine (notc 9 _).mono ?_; rintro e w' ⟨rfl, rfl⟩)
    exact ⟨rfl, rfl, Chg.refl _ _⟩
  · obtain ⟨n, rfl⟩ := Int.eq_ofNat_of_zero_le (show 0 ≤ d by omega)
    have hd0 : decide ((n : Int) < 0) = false := decide_eq_false (by omega)
    by_cases h1 : 16 ≤ n
    · have hb : f.bad n flag = true := by unfold FS.bad; simp; exact .inl (.inl (.inr (by omega)))
      have hd : decide ((n : Int) ≥ 16) = true := decide_eq_true (by omega)
      unfold atP
      rw [hb]
      clear h h0 hb
      go_enter Tryd.func34, Tryd.ntmps34
      go_wp2_with (go_at_call 25; refine (notc 9 _).mono ?_; rintro e w' ⟨rfl, rfl⟩)
      exact ⟨rfl, rfl, Chg.refl _ _⟩
    · have hn : n < 16 := by omega
      have hnz : (n : Int) < 16 := by omega
      have hd1 : decide ((n : Int) ≥ 16) = false := decide_eq_false (by omega)
      obtain ⟨c0, c1, c2, c3⟩ := h.cF hn
      have hfi := h.inv.file _ (h.inv.flAt hn)
      have hfl : f.fl (n : Int) = f.files.getD n fl0 := rfl
      have hbad : f.bad n flag = (!(f.files.getD n fl0).op || !decide (bits .and .i64 (f.files.getD n fl0).flags flag = flag)) := by unfold FS.bad; rw [hd0, decide_eq_false (show ¬ (16 : Int) ≤ (n : Int) by omega), hfl]; rfl
      unfold atP
      rw [hbad, hfl]
      generalize f.files.getD n fl0 = x at *
      obtain ⟨op, nd, fg, ps⟩ := x
      simp only at *
      clear hbad hfl h h0 h1 c3
      cases op with
      | false =>
        rw [show (!false || !decide (bits .and .i64 fg flag = flag)) = true from rfl]
        clear hfi
        go_enter Tryd.func34, Tryd.ntmps34
        go_wp2_with (go_at_call 25; refine (notc 9 _).mono ?_; rintro e w' ⟨rfl, rfl⟩)
        exact ⟨rfl, rfl, Chg.refl _ _⟩
      | true =>
        obtain ⟨a0, a1, _⟩ := hfi rfl
        obtain ⟨m, rfl⟩ := Int.eq_ofNat_of_zero_le a0
        by_cases hf : bits .and .i64 fg flag = flag
        · rw [show (!true || !decide (bits .and .i64 fg flag = flag)) = false by simp [hf]]
          have hb2 : (bits .and .i64 fg flag != flag) = false := by simp [hf]
          clear hf
          go_enter Tryd.func34, Tryd.ntmps34
          go_wp2_with (go_at_call 25; refine (nofc 9 _).mono ?_; rintro e w' ⟨rfl, rfl⟩)
          go_quiet (fail)
          go_wp2
          go_ret2
          exact ⟨rfl, (Chg.refl _ _).drewN _⟩
        · rw [show (!true || !decide (bits .and .i64 fg flag = flag)) = true by simp [hf]]
          have hb2 : (bits .and .i64 fg flag != flag) = true := by simp [hf]
          clear hf
          go_enter Tryd.func34, Tryd.ntmps34
          go_wp2_with (go_at_call 25; refine (notc 9 _).mono ?_; rintro e w' ⟨rfl, rfl⟩)
          exact ⟨rfl, rfl, Chg.refl _ _⟩

end Go.Proofs.YtkkjbnmfjhmobaaDoor
