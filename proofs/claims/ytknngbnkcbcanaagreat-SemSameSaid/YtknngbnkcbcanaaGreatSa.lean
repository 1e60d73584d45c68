
/- Package sem: semaphores: contracts. -/
import Derived.Test.YtknngbnkcbcanaaGreatPa
import Derived.Deep.RegionHeld3
import Derived.OwnWalk
namespace Go.Proofs.YtknngbnkcbcanaaGreat
open Go.RowKit

abbrev SAt := PAt 52
theorem okSem : okTy 52 := by unfold okTy; decide

@[go_sem] theorem field_sem0 (x y : Value) (w : World) : (Instr.field 52 (.agg #[x, y]) 0).run Tryz.prog w = .ok (.agg #[x]) w := by kernel_rfl
@[go_sem] theorem field_sem1 (x y : Value) (w : World) : (Instr.field 52 (.agg #[x, y]) 1).run Tryz.prog w = .ok y w := by kernel_rfl
@[go_sem] theorem field_line0 (x : Value) (w : World) : (Instr.field 50 (.agg #[x]) 0).run Tryz.prog w = .ok x w := by kernel_rfl

set_option maxRecDepth 100000 in
theorem sofc (cb ab mb : Nat) (N : Int) (L : WL) (M : Int) (w : World) (h : SAt w cb ab mb N L M) :
    Calls Tryz.prog 34 #[.pointer (some ⟨cb, 0, none⟩)] w fun e w' => e = .returned (.agg #[.pointer (some ⟨ab, 0, none⟩), .int .i64 M]) ∧ Chg [] w w' := by
  have c0 := cellB h.head (i := 0) rfl
  have c1 := cellB h.head (i := 1) rfl
  have hlt := h.lt.1
  clear h
  go_enter Tryz.func34, Tryz.ntmps34
  go_wp2
  refine bodyPost_ret (v := .agg #[.pointer (some ⟨ab, 0, none⟩), .int .i64 M]) (by simp [results, Tryz.results34, go_sem]) rfl ⟨rfl, ?_⟩
  exact (Chg.refl [] w).alloc _

set_option maxRecDepth 100000 in
theorem lnlistc (ab mb : Nat) (N : Int) (L : WL) (w : World) (h : WAt w ab mb N L) :
    Calls Tryz.prog 64 #[.agg #[.pointer (some ⟨ab, 0, none⟩)]] w (IntsPost (ordT L) w) := by
  have hC : Chg [] w (w.alloc (.cells #[.pointer (some ⟨ab, 0, none⟩)] 50)) := (Chg.refl _ _).alloc _
  have H := Lib.hid (And.intro (h.kept hC (by simp) (by simp)) hC)
  clear h hC
  go_enter Tryz.func64, Tryz.ntmps64
  go_wp2_with fail
  refine (listc ab mb N L _ H.out.1).mono ?_
  rintro e w2 ⟨v, rfl, ho, hC2⟩
  have HO := Lib.hid (And.intro (own_mono ho H.out.2.size) hC2)
  clear ho hC2
  go_wp2
  go_ret
  exact ⟨v, rfl, HO.out.1, H.out.2.trans HO.out.2⟩

set_option maxRecDepth 100000 in
theorem lnlenc (ab mb : Nat) (N : Int) (L : WL) (w : World) (h : WAt w ab mb N L) :
    Calls Tryz.prog 65 #[.agg #[.pointer (some ⟨ab, 0, none⟩)]] w fun e w' => e = .returned (.int .i64 (L.length : Int)) ∧ Chg [] w w' := by
  have hC : Chg [] w (w.alloc (.cells #[.pointer (some ⟨ab, 0, none⟩)] 50)) := (Chg.refl _ _).alloc _
  have H := Lib.hid (And.intro (h.kept hC (by simp) (by simp)) hC)
  clear h hC
  go_enter Tryz.func65, Tryz.ntmps65
  go_wp2_with fail
  refine (lenc ab mb N L _ H.out.1).mono ?_
  rintro e w2 ⟨rfl, rfl⟩
  go_wp2
  go_ret
  exact ⟨rfl, H.out.2⟩

set_option maxRecDepth 100000 in
theorem lnleavec (ab mb : Nat) (N : Int) (L : WL) (t : Int) (w : World) (h : WAt w ab mb N L) :
    Calls Tryz.prog 47 #[.agg #[.pointer (some ⟨ab, 0, none⟩)], .int .i64 t] w fun e w' => e = .returned (.int .i64 (askR L t 1 true)) ∧ WAt w' ab mb N (lvL L t) ∧ Chg [ab, mb] w w' := by
  have hC : Chg [] w (w.alloc (.cells #[.pointer (some ⟨ab, 0, none⟩)] 50)) := (Chg.refl _ _).alloc _
  have H := Lib.hid (And.intro (h.kept hC (by simp) (by simp)) hC)
  clear h hC
  go_enter Tryz.func47, Tryz.ntmps47
  go_wp2_with fail
  refine (leavec ab mb N L t _ H.out.1).mono ?_
  rintro e w2 ⟨rfl, hW, hC2⟩
  have HO := Lib.hid (And.intro hW hC2)
  clear hW hC2
  go_wp2
  go_ret
  exact ⟨rfl, HO.out.1, (H.out.2.mono (by simp)).trans HO.out.2⟩

set_option maxRecDepth 100000 in
theorem lnchangec (ab mb : Nat) (N : Int) (L : WL) (t p : Int) (w : World) (h : WAt w ab mb N L) :
    Calls Tryz.prog 50 #[.agg #[.pointer (some ⟨ab, 0, none⟩)], .int .i64 t, .int .i64 p] w fun e w' => e = .returned (.int .i64 (askR L t p true)) ∧ WAt w' ab mb N (chgL L t p) ∧ Chg [ab, mb] w w' := by
  have hC : Chg [] w (w.alloc (.cells #[.pointer (some ⟨ab, 0, none⟩)] 50)) := (Chg.refl _ _).alloc _
  have H := Lib.hid (And.intro (h.kept hC (by simp) (by simp)) hC)
  clear h hC
  go_enter Tryz.func50, Tryz.ntmps50
  go_wp2_with fail
  refine (changec ab mb N L t p _ H.out.1).mono ?_
  rintro e w2 ⟨rfl, hW, hC2⟩
  have HO := Lib.hid (And.intro hW hC2)
  clear hW hC2
  go_wp2
  go_ret
  exact ⟨rfl, HO.out.1, (H.out.2.mono (by simp)).trans HO.out.2⟩

/-- What ask leaves: nobody more waits. -/
theorem put_lv {L : WL} {t p : Int} (h : askR L t p false = 0) : lvL (putL L t p) t = L := by
  have hn : (L.lookup t) = none := by
    unfold askR at h
    split at h
    · omega
    · cases hc : L.lookup t with
      | none => rfl
      | some x => rw [hc] at h; simp at h
  have ht : ¬ (t < 0 ∨ 16 ≤ t) := by
    unfold askR at h
    split at h
    · omega
    · omega
  unfold putL
  rw [if_pos h]
  have h1 : askR (L ++ [(t, p)]) t 1 true = 0 := by
    unfold askR
    rw [if_neg (by omega)]
    rw [List.lookup_append, hn]
    simp
  unfold lvL
  rw [if_pos h1]
  clear h h1 ht
  induction L with
  | nil => simp [wdel]
  | cons y L ih =>
    obtain ⟨k, x⟩ := y
    rw [List.lookup_cons] at hn
    by_cases hc : t = k
    · simp [hc] at hn
    · have hc' : (t == k) = false := by simpa using hc
      rw [hc'] at hn
      simp only [List.cons_append, wdel, hc, if_false, ih hn]

set_option maxRecDepth 100000 in
theorem saskc (ab mb : Nat) (N : Int) (L : WL) (t p : Int) (w : World) (h : WAt w ab mb N L) (hN : N < 4611686018427387904) :
    Calls Tryz.prog 41 #[.pointer (some ⟨ab, 0, none⟩), .func (.func 42) #[.pointer (some ⟨ab, 0, none⟩)] #[], .int .i64 t, .int .i64 p] w fun e w' => e = .returned (.int .i64 (askR L t p false)) ∧ WAt w' ab mb (N + 1) L ∧ Chg [ab, mb] w w' := by
  by_cases ha : askR L t p false = 0
  · have hp := putc ab mb N L t p w h hN
    have hl := fun (W : World) (hW : WAt W ab mb (N + 1) (putL L t p)) => leavec ab mb (N + 1) (putL L t p) t W hW
    rw [ha] at hp
    rw [put_lv ha] at hl
    rw [ha]
    have H := Lib.hid (And.intro hp hl)
    clear hp hl h ha
    go_enter Tryz.func41, Tryz.ntmps41
    go_wp2_with fail
    refine H.out.1.mono ?_
    rintro e w1 ⟨rfl, hW, hC⟩
    have H1 := Lib.hid (And.intro hW hC)
    clear hW hC
    go_wp2_with fail
    refine (H.out.2 w1 H1.out.1).mono ?_
    rintro e w2 ⟨rfl, hW, hC⟩
    have H2 := Lib.hid (And.intro hW hC)
    clear hW hC
    go_wp2
    go_ret
    exact ⟨rfl, H2.out.1, H1.out.2.trans H2.out.2⟩
  · have hp := putc ab mb N L t p w h hN
    have hpl : putL L t p = L := by unfold putL; rw [if_neg ha]
    rw [hpl] at hp
    obtain ⟨r, hr⟩ : ∃ r, r = askR L t p false := ⟨_, rfl⟩
    rw [← hr] at hp ha ⊢
    have hb : (r == 0) = false := by simpa using ha
    have H := Lib.hid hp
    clear hp h ha hr hpl
    go_enter Tryz.func41, Tryz.ntmps41
    go_wp2_with fail
    refine H.out.mono ?_
    rintro e w1 ⟨rfl, hW, hC⟩
    have H1 := Lib.hid (And.intro hW hC)
    clear hW hC
    go_wp2
    go_ret
    exact ⟨rfl, H1.out.1, H1.out.2⟩

end Go.Proofs.YtknngbnkcbcanaaGreat
