/- Package cond: Wait, Copy, Same: contracts. -/
import Derived.Test.YtjdefbkppjdokaaCb
namespace Go.Proofs.Ytjdefbkppjdokaa
open Go.RowKit

/-- What Wait answers, and what it leaves. -/
def cwR (L : WL) (M t p m : Int) : Int := if askR L t p false = 2 ∨ m < 0 then 2 else if askR L t p false ≠ 0 then 7 else if L.length ≠ 0 ∧ M ≠ m then 7 else 0
def cwL (L : WL) (M t p m : Int) : WL := if cwR L M t p m = 0 then L ++ [(t, p)] else L
def cwM (L : WL) (M t p m : Int) : Int := if cwR L M t p m = 0 then m else M

theorem askR_vals (L : WL) (t p : Int) : askR L t p false = 2 ∨ askR L t p false = 7 ∨ askR L t p false = 0 := by
  unfold askR
  split
  · exact .inl rfl
  · split
    · exact .inr (.inl rfl)
    · exact .inr (.inr rfl)

theorem cw_cases (L : WL) (M t p m : Int) :
    (askR L t p false = 2 ∧ cwR L M t p m = 2) ∨ (askR L t p false = 7 ∧ m < 0 ∧ cwR L M t p m = 2) ∨ (askR L t p false = 0 ∧ m < 0 ∧ cwR L M t p m = 2) ∨ (askR L t p false = 7 ∧ 0 ≤ m ∧ cwR L M t p m = 7) ∨
      (askR L t p false = 0 ∧ 0 ≤ m ∧ L.length ≠ 0 ∧ M ≠ m ∧ cwR L M t p m = 7) ∨ (askR L t p false = 0 ∧ 0 ≤ m ∧ L.length = 0 ∧ cwR L M t p m = 0) ∨ (askR L t p false = 0 ∧ 0 ≤ m ∧ L.length ≠ 0 ∧ M = m ∧ cwR L M t p m = 0) := by
  unfold cwR
  rcases askR_vals L t p with e | e | e
  · exact .inl ⟨e, if_pos (.inl e)⟩
  · by_cases hm : m < 0
    · exact .inr (.inl ⟨e, hm, if_pos (.inr hm)⟩)
    · exact .inr (.inr (.inr (.inl ⟨e, by omega, by rw [if_neg (by omega), if_pos (by omega)]⟩)))
  · by_cases hm : m < 0
    · exact .inr (.inr (.inl ⟨e, hm, if_pos (.inr hm)⟩))
    · by_cases hL : L.length = 0
      · exact .inr (.inr (.inr (.inr (.inr (.inl ⟨e, by omega, hL, by rw [if_neg (by omega), if_neg (by omega), if_neg (by omega)]⟩)))))
      · by_cases hM : M = m
        · exact .inr (.inr (.inr (.inr (.inr (.inr ⟨e, by omega, hL, hM, by rw [if_neg (by omega), if_neg (by omega), if_neg (by omega)]⟩)))))
        · exact .inr (.inr (.inr (.inr (.inl ⟨e, by omega, hL, hM, by rw [if_neg (by omega), if_neg (by omega), if_pos ⟨hL, hM⟩]⟩))))

def CWaitP (cb ab mb : Nat) (N : Int) (L' : WL) (M' r : Int) (w : World) (e : Ending) (w' : World) : Prop :=
  e = .returned (.int .i64 r) ∧ CAt w' cb ab mb (N + 1) L' M' ∧ Chg [cb, ab, mb] w w'

set_option maxRecDepth 100000 in
set_option maxHeartbeats 1000000 in
theorem cwaitc (cb ab mb : Nat) (N : Int) (L : WL) (M t p m : Int) (w : World) (h : CAt w cb ab mb N L M) (hN : N < 4611686018427387904) :
    Calls Try.prog 11 #[.pointer (some ⟨cb, 0, none⟩), .int .i64 t, .int .i64 p, .int .i64 m] w (CWaitP cb ab mb N (cwL L M t p m) (cwM L M t p m) (cwR L M t p m) w) := by
  unfold cwL cwM
  have H := Lib.hid (And.intro h (And.intro hN h.ne))
  have hcase := cw_cases L M t p m
  have hput := fun (a1 m1 : Nat) (N1 : Int) (W : World) (hW : WAt W a1 m1 N1 L) (hN1 : N1 < 4611686018427387904) => putc a1 m1 N1 L t p W hW hN1
  have hmux := fun (W : World) (hW : CAt W cb ab mb N L M) => cmutexc cb ab mb N L M W hW
  have hpl : askR L t p false = 0 → putL L t p = L ++ [(t, p)] := fun e => by unfold putL; rw [if_pos e]
  clear h hN
  obtain ⟨r, hr⟩ : ∃ r, r = cwR L M t p m := ⟨_, rfl⟩
  rw [← hr] at hcase ⊢
  clear hr
  rcases hcase with ⟨e1, rfl⟩ | ⟨e1, hm, rfl⟩ | ⟨e1, hm, rfl⟩ | ⟨e1, hm, rfl⟩ | ⟨e1, hm, hL, hMm, rfl⟩ | ⟨e1, hm, hL, rfl⟩ | ⟨e1, hm, hL, hMm, rfl⟩
  all_goals first | rw [if_pos rfl, if_pos rfl] | rw [if_neg (by decide), if_neg (by decide)]
  case' inr.inr.inr.inr.inl =>
    unfold muM muB at hmux
    rw [if_neg hL, show (!decide (L.length = 0)) = true by simpa using hL] at hmux
    have hb : (M == m) = false := by simpa using hMm
    clear hL hMm
  case' inr.inr.inr.inr.inr.inl =>
    unfold muM muB at hmux
    rw [if_pos hL, show (!decide (L.length = 0)) = false by simpa using hL] at hmux
    clear hL
  case' inr.inr.inr.inr.inr.inr =>
    unfold muM muB at hmux
    rw [if_neg hL, show (!decide (L.length = 0)) = true by simpa using hL] at hmux
    obtain rfl : m = M := hMm.symm
    have hb : (m == m) = true := by simp
    clear hL
  all_goals
    rw [e1] at hput
    have HP := Lib.hid hput
    have HM := Lib.hid hmux
    have HL := Lib.hid (fun (e : askR L t p false = 0) => hpl e)
    have HE := Lib.hid e1
    clear hput hmux hpl e1
    go_enter Try.func11, Try.ntmps11
    go_wp2_with fail
    refine (ofc cb ab mb N L _ w H.out.1).mono ?_
    rintro e w1 ⟨rfl, hC⟩
    have H1 := Lib.hid hC
    clear hC
    go_wp2_with fail
    refine (HM.out w1 (H.out.1.calm H1.out)).mono ?_
    rintro e w2 ⟨rfl, hC⟩
    have H2 := Lib.hid (H1.out.trans hC)
    clear hC H1
    go_wp2_with fail
    refine (copyc ab mb N L w2 (H.out.1.calm H2.out).list).mono ?_
    rintro e w3 ⟨a1, m1, rfl, ha1, hm1, hW3, hC⟩
    have H3 := Lib.hid (And.intro (H2.out.trans hC) (And.intro hW3 (And.intro (Nat.le_trans H2.out.size ha1) (Nat.le_trans H2.out.size hm1))))
    clear hC ha1 hm1 hW3 H2
    go_wp2_with fail
    refine (HP.out a1 m1 N w3 H3.out.2.1 H.out.2.1).mono ?_
    rintro e w4 ⟨rfl, hW4, hC⟩
    have H4 := Lib.hid (H3.out.1.trans' hC (by have := H3.out.2.2; simp; omega))
    clear hC hW4 H3
    have hh := (H.out.1.calm H4.out).head
    have c1 := cellB hh (i := 1) rfl
    have f1 := frozenB hh 1
  iterate 2
    · skip
      have hS : Chg [cb] w4 (w4.setCell ⟨cb, 1, none⟩ (.int .i64 m)) := (Chg.refl _ _).setCell _ _ (by simp)
      have HS := Lib.hid (And.intro hS (And.intro (blk_setCell (i := 1) hh (.int .i64 m)) ((H.out.1.calm H4.out).list.kept hS (by have := H.out.2.2; simp; omega) (by have := H.out.2.2; simp; omega))))
      clear hh hS
      go_wp2_with fail
      refine (HP.out ab mb N _ HS.out.2.2 H.out.2.1).mono ?_
      rintro e w5 ⟨rfl, hW5, hC5⟩
      rw [HL.out HE.out] at hW5
      have H5 := Lib.hid (And.intro hW5 hC5)
      clear hW5 hC5
      go_wp2
      go_ret
      exact ⟨rfl, ⟨H5.out.2.blk HS.out.2.1 (by have := H.out.2.2; simp; omega), H5.out.1⟩, (H4.out.mono (by simp)).trans ((HS.out.1.mono (by simp)).trans (H5.out.2.mono (by simp)))⟩
  all_goals
    clear hh
    go_wp2
    go_ret
    exact ⟨rfl, (H.out.1.calm H4.out).mono (by omega), H4.out.mono (by simp)⟩

def CCopyP (N : Int) (L : WL) (M : Int) (w : World) (e : Ending) (w' : World) : Prop :=
  ∃ cb ab mb, e = .returned (.pointer (some ⟨cb, 0, none⟩)) ∧ w.heap.size ≤ cb ∧ w.heap.size ≤ ab ∧ w.heap.size ≤ mb ∧ CAt w' cb ab mb N L M ∧ Chg [] w w'

end Go.Proofs.Ytjdefbkppjdokaa
