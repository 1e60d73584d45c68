
/- Package sem: semaphores: contracts. -/
import Derived.Test.YtknngbnkcbcanaaPa
import Derived.Deep.RegionHeld3
import Derived.OwnWalk
namespace Go.Proofs.Ytknngbnkcbcanaa
open Go.RowKit

abbrev SAt := PAt 68
theorem okSem : okTy 68 := by unfold okTy; decide

@[go_sem] theorem field_sem0 (x y : Value) (w : World) : (Instr.field 68 (.agg #[x, y]) 0).run Try.prog w = .ok (.agg #[x]) w := by kernel_rfl
@[go_sem] theorem field_sem1 (x y : Value) (w : World) : (Instr.field 68 (.agg #[x, y]) 1).run Try.prog w = .ok y w := by kernel_rfl
@[go_sem] theorem field_line0 (x : Value) (w : World) : (Instr.field 66 (.agg #[x]) 0).run Try.prog w = .ok x w := by kernel_rfl

set_option maxRecDepth 100000 in
theorem sofc (cb ab mb : Nat) (N : Int) (L : WL) (M : Int) (w : World) (h : SAt w cb ab mb N L M) :
    Calls Try.prog 34 #[.pointer (some ⟨cb, 0, none⟩)] w fun e w' => e = .returned (.agg #[.pointer (some ⟨ab, 0, none⟩), .int .i64 M]) ∧ Chg [] w w' := by
  have c0 := cellB h.head (i := 0) rfl
  have c1 := cellB h.head (i := 1) rfl
  have hlt := h.lt.1
  clear h
  go_enter Try.func34, Try.ntmps34
  go_wp2
  refine bodyPost_ret (v := .agg #[.pointer (some ⟨ab, 0, none⟩), .int .i64 M]) (by simp [results, Try.results34, go_sem]) rfl ⟨rfl, ?_⟩
  exact (Chg.refl [] w).alloc _

set_option maxRecDepth 100000 in
theorem lnlistc (ab mb : Nat) (N : Int) (L : WL) (w : World) (h : WAt w ab mb N L) :
    Calls Try.prog 35 #[.agg #[.pointer (some ⟨ab, 0, none⟩)]] w (IntsPost (ordT L) w) := by
  have hC : Chg [] w (w.alloc (.cells #[.pointer (some ⟨ab, 0, none⟩)] 66)) := (Chg.refl _ _).alloc _
  have H := Lib.hid (And.intro (h.kept hC (by simp) (by simp)) hC)
  clear h hC
  go_enter Try.func35, Try.ntmps35
  go_wp2_with fail
  refine (listc ab mb N L _ H.out.1).mono ?_
  rintro e w2 ⟨v, rfl, ho, hC2⟩
  have HO := Lib.hid (And.intro (own_mono ho H.out.2.size) hC2)
  clear ho hC2
  go_wp2
  go_ret
  exact ⟨v, rfl, HO.out.1, H.out.2.trans HO.out.2⟩

set_option maxRecDepth 100000 in
theorem lnlenc (ab mb : Nat) (N : Int) (L : WL) (w : World) (h : WAt w ab mb N L) :
    Calls Try.prog 38 #[.agg #[.pointer (some ⟨ab, 0, none⟩)]] w fun e w' => e = .returned (.int .i64 (L.length : Int)) ∧ Chg [] w w' := by
  have hC : Chg [] w (w.alloc (.cells #[.pointer (some ⟨ab, 0, none⟩)] 66)) := (Chg.refl _ _).alloc _
  have H := Lib.hid (And.intro (h.kept hC (by simp) (by simp)) hC)
  clear h hC
  go_enter Try.func38, Try.ntmps38
  go_wp2_with fail
  refine (lenc ab mb N L _ H.out.1).mono ?_
  rintro e w2 ⟨rfl, rfl⟩
  go_wp2
  go_ret
  exact ⟨rfl, H.out.2⟩

set_option maxRecDepth 100000 in
theorem lnleavec (ab mb : Nat) (N : Int) (L : WL) (t : Int) (w : World) (h : WAt w ab mb N L) :
    Calls Try.prog 40 #[.agg #[.pointer (some ⟨ab, 0, none⟩)], .int .i64 t] w fun e w' => e = .returned (.int .i64 (askR L t 1 true)) ∧ WAt w' ab mb N (lvL L t) ∧ Chg [ab, mb] w w' := by
  have hC : Chg [] w (w.alloc (.cells #[.pointer (some ⟨ab, 0, none⟩)] 66)) := (Chg.refl _ _).alloc _
  have H := Lib.hid (And.intro (h.kept hC (by simp) (by simp)) hC)
  clear h hC
  go_enter Try.func40, Try.ntmps40
  go_wp2_with fail
  refine (leavec ab mb N L t _ H.out.1).mono ?_
  rintro e w2 ⟨rfl, hW, hC2⟩
  have HO := Lib.hid (And.intro hW hC2)
  clear hW hC2
  go_wp2
  go_ret
  exact ⟨rfl, HO.out.1, (H.out.2.mono (by simp)).trans HO.out.2⟩

set_option maxRecDepth 100000 in
theorem lnchangec (ab mb : Nat) (N : Int) (L : WL) (t p : Int) (w : World) (h : WAt w ab mb N L) :
    Calls Try.prog 41 #[.agg #[.pointer (some ⟨ab, 0, none⟩)], .int .i64 t, .int .i64 p] w fun e w' => e = .returned (.int .i64 (askR L t p true)) ∧ WAt w' ab mb N (chgL L t p) ∧ Chg [ab, mb] w w' := by
  have hC : Chg [] w (w.alloc (.cells #[.pointer (some ⟨ab, 0, none⟩)] 66)) := (Chg.refl _ _).alloc _
  have H := Lib.hid (And.intro (h.kept hC (by simp) (by simp)) hC)
  clear h hC
  go_enter Try.func41, Try.ntmps41
  go_wp2_with fail
  refine (changec ab mb N L t p _ H.out.1).mono ?_
  rintro e w2 ⟨rfl, hW, hC2⟩
  have HO := Lib.hid (And.intro hW hC2)
  clear hW hC2
  go_wp2
  go_ret
  exact ⟨rfl, HO.out.1, (H.out.2.mono (by simp)).trans HO.out.2⟩

/-- What ask leaves: nobody more waits. -/
theorem put_lv {L : WL} {t p : Int} (h : askR L t p false = 0) : lvL (putL L t p) t = L := by
  have hn : (L.lookup t) = none := by
    unfold askR at h
    split at h
    · omega
    · cases hc : L.lookup t with
      | none => rfl
      | some x => rw [hc] at h; simp at h
  have ht : ¬ (t < 0 ∨ 16 ≤ t) := by
    unfold askR at h
    split at h
    · omega
    · omega
  unfold putL
  rw [if_pos h]
  have h1 : askR (L ++ [(t, p)]) t 1 true = 0 := by
    unfold askR
    rw [if_neg (by omega)]
    rw [List.lookup_append, hn]
    simp
  unfold lvL
  rw [if_pos h1]
  clear h h1 ht
  induction L with
  | nil => simp [wdel]
  | cons y L ih =>
    obtain ⟨k, x⟩ := y
    rw [List.lookup_cons] at hn
    by_cases hc : t = k
    · simp [hc] at hn
    · have hc' : (t == k) = false := by simpa using hc
      rw [hc'] at hn
      simp only [List.cons_append, wdel, hc, if_false, ih hn]

set_option maxRecDepth 100000 in
theorem saskc (ab mb : Nat) (N : Int) (L : WL) (t p : Int) (w : World) (h : WAt w ab mb N L) (hN : N < 4611686018427387904) :
    Calls Try.prog 36 #[.pointer (some ⟨ab, 0, none⟩), .func (.func 37) #[.pointer (some ⟨ab, 0, none⟩)] #[], .int .i64 t, .int .i64 p] w fun e w' => e = .returned (.int .i64 (askR L t p false)) ∧ WAt w' ab mb (N + 1) L ∧ Chg [ab, mb] w w' := by
  by_cases ha : askR L t p false = 0
  · have hp := putc ab mb N L t p w h hN
    have hl := fun (W : World) (hW : WAt W ab mb (N + 1) (putL L t p)) => leavec ab mb (N + 1) (putL L t p) t W hW
    rw [ha] at hp
    rw [put_lv ha] at hl
    rw [ha]
    have H := Lib.hid (And.intro hp hl)
    clear hp hl h ha
    go_enter Try.func36, Try.ntmps36
    go_wp2_with fail
    refine H.out.1.mono ?_
    rintro e w1 ⟨rfl, hW, hC⟩
    have H1 := Lib.hid (And.intro hW hC)
    clear hW hC
    go_wp2_with fail
    refine (H.out.2 w1 H1.out.1).mono ?_
    rintro e w2 ⟨rfl, hW, hC⟩
    have H2 := Lib.hid (And.intro hW hC)
    clear hW hC
    go_wp2
    go_ret
    exact ⟨rfl, H2.out.1, H1.out.2.trans H2.out.2⟩
  · have hp := putc ab mb N L t p w h hN
    have hpl : putL L t p = L := by unfold putL; rw [if_neg ha]
    rw [hpl] at hp
    obtain ⟨r, hr⟩ : ∃ r, r = askR L t p false := ⟨_, rfl⟩
    rw [← hr] at hp ha ⊢
    have hb : (r == 0) = false := by simpa using ha
    have H := Lib.hid hp
    clear hp h ha hr hpl
    go_enter Try.func36, Try.ntmps36
    go_wp2_with fail
    refine H.out.mono ?_
    rintro e w1 ⟨rfl, hW, hC⟩
    have H1 := Lib.hid (And.intro hW hC)
    clear hW hC
    go_wp2
    go_ret
    exact ⟨rfl, H1.out.1, H1.out.2⟩

end Go.Proofs.Ytknngbnkcbcanaa
