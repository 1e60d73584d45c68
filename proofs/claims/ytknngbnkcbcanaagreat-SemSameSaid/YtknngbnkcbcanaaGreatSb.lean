
/- Package sem: New, Try, Wait, Post, and what they tell: contracts. -/
import Derived.Test.YtknngbnkcbcanaaGreatSa
import Derived.Test.YtknngbnkcbcanaaGreatOrd
namespace Go.Proofs.YtknngbnkcbcanaaGreat
open Go.RowKit

def SNewP (V : Int) (w : World) (e : Ending) (w' : World) : Prop :=
  ∃ cb ab mb, e = .returned (.tuple #[.pointer (some ⟨cb, 0, none⟩), .int .i64 0]) ∧ w.heap.size ≤ cb ∧ w.heap.size ≤ ab ∧ w.heap.size ≤ mb ∧ SAt w' cb ab mb 0 [] V ∧ Chg [] w w'

set_option maxRecDepth 100000 in
theorem snewc (V : Int) (w : World) (h0 : 0 ≤ V) (h1 : V ≤ 32767) : Calls Tryz.prog 4 #[.int .i64 V] w (SNewP V w) := by
  have d0 : decide (V < 0) = false := by simp; omega
  have d1 : decide (32767 < V) = false := by simp; omega
  go_enter Tryz.func4, Tryz.ntmps4
  go_wp2_with fail
  refine (newc w).mono ?_
  rintro e w1 ⟨ab, mb, rfl, hab, hmb, hW, hC⟩
  have H := Lib.hid (And.intro hW (And.intro hC (And.intro hab hmb)))
  clear hW hC hab hmb
  go_wp2
  go_ret2
  have hC2 : Chg [] w1 (w1.alloc (.cells #[.pointer (some ⟨ab, 0, none⟩), .int .i64 V] 52)) := (Chg.refl _ _).alloc _
  exact ⟨w1.heap.size, ab, mb, rfl, H.out.2.1.size, H.out.2.2.1, H.out.2.2.2, ⟨heap_alloc_eq w1 _, H.out.1.kept hC2 (by simp) (by simp), okSem⟩, H.out.2.1.trans hC2⟩

set_option maxRecDepth 100000 in
theorem snew_no (V : Int) (w : World) (h : V < 0 ∨ 32767 < V) : Calls Tryz.prog 4 #[.int .i64 V] w fun e w' => e = .returned (.tuple #[.pointer none, .int .i64 2]) ∧ w = w' := by
  by_cases h0 : V < 0
  · have d0 : decide (V < 0) = true := by simpa using h0
    clear h h0
    go_enter Tryz.func4, Tryz.ntmps4
    go_wp2
    go_ret2
    exact ⟨rfl, rfl⟩
  · have d0 : decide (V < 0) = false := by simpa using h0
    have d1 : decide (32767 < V) = true := by simp; omega
    clear h h0
    go_enter Tryz.func4, Tryz.ntmps4
    go_wp2
    go_ret2
    exact ⟨rfl, rfl⟩

set_option maxRecDepth 100000 in
theorem svaluec (cb ab mb : Nat) (N : Int) (L : WL) (V : Int) (w : World) (h : SAt w cb ab mb N L V) :
    Calls Tryz.prog 39 #[.pointer (some ⟨cb, 0, none⟩)] w fun e w' => e = .returned (.int .i64 V) ∧ Chg [] w w' := by
  have H := Lib.hid h
  clear h
  go_enter Tryz.func39, Tryz.ntmps39
  go_wp2_with fail
  refine (sofc cb ab mb N L V w H.out).mono ?_
  rintro e w1 ⟨rfl, hC⟩
  go_wp2
  go_ret
  exact ⟨rfl, hC⟩

set_option maxRecDepth 100000 in
theorem slistc (cb ab mb : Nat) (N : Int) (L : WL) (V : Int) (w : World) (h : SAt w cb ab mb N L V) :
    Calls Tryz.prog 38 #[.pointer (some ⟨cb, 0, none⟩)] w (IntsPost (ordT L) w) := by
  have H := Lib.hid h
  clear h
  go_enter Tryz.func38, Tryz.ntmps38
  go_wp2_with fail
  refine (sofc cb ab mb N L V w H.out).mono ?_
  rintro e w1 ⟨rfl, hC⟩
  have HC := Lib.hid hC
  clear hC
  go_wp2_with fail
  refine (lnlistc ab mb N L w1 (H.out.calm HC.out).list).mono ?_
  rintro e w2 ⟨v, rfl, ho, hC2⟩
  have HO := Lib.hid (And.intro (own_mono ho HC.out.size) hC2)
  clear ho hC2
  go_wp2
  go_ret
  exact ⟨v, rfl, HO.out.1, HC.out.trans HO.out.2⟩

set_option maxRecDepth 100000 in
theorem sleavec (cb ab mb : Nat) (N : Int) (L : WL) (V t : Int) (w : World) (h : SAt w cb ab mb N L V) :
    Calls Tryz.prog 23 #[.pointer (some ⟨cb, 0, none⟩), .int .i64 t] w fun e w' => e = .returned (.int .i64 (askR L t 1 true)) ∧ SAt w' cb ab mb N (lvL L t) V ∧ Chg [ab, mb] w w' := by
  have H := Lib.hid h
  clear h
  go_enter Tryz.func23, Tryz.ntmps23
  go_wp2_with fail
  refine (sofc cb ab mb N L V w H.out).mono ?_
  rintro e w1 ⟨rfl, hC⟩
  have HC := Lib.hid hC
  clear hC
  go_wp2_with fail
  refine (lnleavec ab mb N L t w1 (H.out.calm HC.out).list).mono ?_
  rintro e w2 ⟨rfl, hW, hC2⟩
  have H2 := Lib.hid (And.intro hW hC2)
  clear hW hC2
  go_wp2
  go_ret
  exact ⟨rfl, (H.out.calm HC.out).step H2.out.1 H2.out.2, (HC.out.mono (by simp)).trans H2.out.2⟩

set_option maxRecDepth 100000 in
theorem schangec (cb ab mb : Nat) (N : Int) (L : WL) (V t p : Int) (w : World) (h : SAt w cb ab mb N L V) :
    Calls Tryz.prog 25 #[.pointer (some ⟨cb, 0, none⟩), .int .i64 t, .int .i64 p] w fun e w' => e = .returned (.int .i64 (askR L t p true)) ∧ SAt w' cb ab mb N (chgL L t p) V ∧ Chg [ab, mb] w w' := by
  have H := Lib.hid h
  clear h
  go_enter Tryz.func25, Tryz.ntmps25
  go_wp2_with fail
  refine (sofc cb ab mb N L V w H.out).mono ?_
  rintro e w1 ⟨rfl, hC⟩
  have HC := Lib.hid hC
  clear hC
  go_wp2_with fail
  refine (lnchangec ab mb N L t p w1 (H.out.calm HC.out).list).mono ?_
  rintro e w2 ⟨rfl, hW, hC2⟩
  have H2 := Lib.hid (And.intro hW hC2)
  clear hW hC2
  go_wp2
  go_ret
  exact ⟨rfl, (H.out.calm HC.out).step H2.out.1 H2.out.2, (HC.out.mono (by simp)).trans H2.out.2⟩

def styB (V : Int) : Bool := !decide (V = 0)
def styV (V : Int) : Int := if V = 0 then V else V - 1

set_option maxRecDepth 100000 in
theorem stryc (cb ab mb : Nat) (N : Int) (L : WL) (V : Int) (w : World) (h : SAt w cb ab mb N L V) (h0 : 0 ≤ V) (h1 : V ≤ 32767) :
    Calls Tryz.prog 19 #[.pointer (some ⟨cb, 0, none⟩)] w fun e w' => e = .returned (.bool (styB V)) ∧ SAt w' cb ab mb N L (styV V) ∧ Chg [cb] w w' := by
  unfold styB styV
  have H := Lib.hid h
  have hh := h.head
  clear h
  by_cases hz : V = 0
  · subst hz
    rw [if_pos rfl, show (!decide ((0 : Int) = 0)) = false by decide]
    clear hh
    go_enter Tryz.func19, Tryz.ntmps19
    go_wp2_with fail
    refine (sofc cb ab mb N L 0 w H.out).mono ?_
    rintro e w1 ⟨rfl, hC⟩
    go_wp2
    go_ret
    exact ⟨rfl, H.out.calm hC, hC.mono (by simp)⟩
  · have hb : (V == 0) = false := by simpa using hz
    rw [if_neg hz, show (!decide (V = 0)) = true by simpa using hz]
    clear hz
    go_enter Tryz.func19, Tryz.ntmps19
    go_wp2_with fail
    refine (sofc cb ab mb N L V w H.out).mono ?_
    rintro e w1 ⟨rfl, hC⟩
    have hh1 := hC.blk hh (by simp)
    have c1 := cellB hh1 (i := 1) rfl
    have f1 := frozenB hh1 1
    have HP := Lib.hid (And.intro ((H.out.calm hC).put (V - 1)) hC)
    clear hC hh hh1
    go_wp2
    go_ret
    exact ⟨rfl, HP.out.1.1, (HP.out.2.mono (by simp)).trans HP.out.1.2⟩

/-- What Wait answers, and what it leaves. -/
def swB (L : WL) (V t p : Int) : Bool := decide (askR L t p false = 0) && styB V
def swL (L : WL) (V t p : Int) : WL := if V = 0 then putL L t p else L
def swV (L : WL) (V t p : Int) : Int := if askR L t p false = 0 then styV V else V

set_option maxRecDepth 100000 in
set_option maxHeartbeats 1000000 in
theorem swaitc (cb ab mb : Nat) (N : Int) (L : WL) (V t p : Int) (w : World) (h : SAt w cb ab mb N L V) (hN : N < 4611686018427387000) (h0 : 0 ≤ V) (h1 : V ≤ 32767) :
    Calls Tryz.prog 16 #[.pointer (some ⟨cb, 0, none⟩), .int .i64 t, .int .i64 p] w fun e w' => e = .returned (.tuple #[.bool (swB L V t p), .int .i64 (askR L t p false)]) ∧ SAt w' cb ab mb (N + 2) (swL L V t p) (swV L V t p) ∧ Chg [cb, ab, mb] w w' := by
  have hask := fun (W : World) (hW : WAt W ab mb N L) => saskc ab mb N L t p W hW (by omega)
  have hput := fun (W : World) (hW : WAt W ab mb (N + 1) L) => putc ab mb (N + 1) L t p W hW (by omega)
  have hpl : askR L t p false ≠ 0 → putL L t p = L := fun h => by unfold putL; rw [if_neg h]
  have htry := fun (W : World) (hW : SAt W cb ab mb (N + 1) L V) => stryc cb ab mb (N + 1) L V W hW h0 h1
  have H := Lib.hid (And.intro h h.ne)
  clear h
  unfold swB swL swV
  by_cases ha : askR L t p false = 0
  · rw [decide_eq_true ha, if_pos ha, ha]
    rw [ha] at hask hput
    unfold styB styV at htry ⊢
    by_cases hz : V = 0
    · subst hz
      rw [if_pos rfl, if_pos rfl, show (true && !decide ((0 : Int) = 0)) = false by decide]
      rw [if_pos rfl, show (!decide ((0 : Int) = 0)) = false by decide] at htry
      have HA := Lib.hid (And.intro hask (And.intro hput htry))
      clear hask hput htry ha hpl
      go_enter Tryz.func16, Tryz.ntmps16
      go_wp2_with fail
      refine (sofc cb ab mb N L 0 w H.out.1).mono ?_
      rintro e w1 ⟨rfl, hC⟩
      have H1 := Lib.hid hC
      clear hC
      go_wp2_with fail
      refine (HA.out.1 w1 (H.out.1.calm H1.out).list).mono ?_
      rintro e w2 ⟨rfl, hW, hC⟩
      have H2 := Lib.hid (And.intro ((H.out.1.calm H1.out).step hW hC) ((H1.out.mono (by simp)).trans hC))
      clear hW hC
      go_wp2_with fail
      refine (HA.out.2.2 w2 H2.out.1).mono ?_
      rintro e w3 ⟨rfl, hW, hC⟩
      have H3 := Lib.hid (And.intro hW ((H2.out.2.mono (by simp)).trans (hC.mono (by simp)) : Chg [cb, ab, mb] w w3))
      clear hW hC
      go_wp2_with fail
      refine (HA.out.2.1 w3 H3.out.1.list).mono ?_
      rintro e w4 ⟨rfl, hW, hC⟩
      have H4 := Lib.hid (And.intro (H3.out.1.step hW hC) (H3.out.2.trans (hC.mono (by simp))))
      clear hW hC
      go_wp2
      go_ret2
      exact ⟨rfl, by rw [show N + 2 = N + 1 + 1 by omega]; exact H4.out.1, H4.out.2⟩
    · rw [if_neg hz, if_neg hz, show (true && !decide (V = 0)) = true by simpa using hz]
      rw [if_neg hz, show (!decide (V = 0)) = true by simpa using hz] at htry
      have HA := Lib.hid (And.intro hask htry)
      clear hask hput htry ha hpl hz
      go_enter Tryz.func16, Tryz.ntmps16
      go_wp2_with fail
      refine (sofc cb ab mb N L V w H.out.1).mono ?_
      rintro e w1 ⟨rfl, hC⟩
      have H1 := Lib.hid hC
      clear hC
      go_wp2_with fail
      refine (HA.out.1 w1 (H.out.1.calm H1.out).list).mono ?_
      rintro e w2 ⟨rfl, hW, hC⟩
      have H2 := Lib.hid (And.intro ((H.out.1.calm H1.out).step hW hC) ((H1.out.mono (by simp)).trans hC))
      clear hW hC
      go_wp2_with fail
      refine (HA.out.2 w2 H2.out.1).mono ?_
      rintro e w3 ⟨rfl, hW, hC⟩
      have H3 := Lib.hid (And.intro hW ((H2.out.2.mono (by simp)).trans (hC.mono (by simp)) : Chg [cb, ab, mb] w w3))
      clear hW hC
      go_wp2
      go_ret2
      exact ⟨rfl, H3.out.1.mono (by omega), H3.out.2⟩
  · rw [decide_eq_false ha, if_neg ha]
    rw [hpl ha]
    rw [show (if V = 0 then L else L) = L by split <;> rfl, Bool.false_and]
    obtain ⟨r, hr⟩ : ∃ r, r = askR L t p false := ⟨_, rfl⟩
    rw [← hr] at ha ⊢
    rw [← hr] at hask
    have hb : (r != 0) = true := by simpa using ha
    have HA := Lib.hid hask
    clear hask hput htry ha hpl hr
    go_enter Tryz.func16, Tryz.ntmps16
    go_wp2_with fail
    refine (sofc cb ab mb N L V w H.out.1).mono ?_
    rintro e w1 ⟨rfl, hC⟩
    have H1 := Lib.hid hC
    clear hC
    go_wp2_with fail
    refine (HA.out w1 (H.out.1.calm H1.out).list).mono ?_
    rintro e w2 ⟨rfl, hW, hC⟩
    have H2 := Lib.hid (And.intro ((H.out.1.calm H1.out).step hW hC) ((H1.out.mono (by simp)).trans hC))
    clear hW hC
    go_wp2
    go_ret2
    exact ⟨rfl, H2.out.1.mono (by omega), H2.out.2.mono (by simp)⟩

/-- What Post answers, and what it leaves. -/
def spT (L : WL) : Int := if headB (ordL L) = true then headT (ordL L) else -1
def spE (L : WL) (V : Int) : Int := if headB (ordL L) = true then 0 else if V = 32767 then 5 else 0
def spV (L : WL) (V : Int) : Int := if headB (ordL L) = true then V else if V = 32767 then V else V + 1

set_option maxRecDepth 100000 in
set_option maxHeartbeats 1000000 in
theorem spostc (cb ab mb : Nat) (N : Int) (L : WL) (V : Int) (w : World) (h : SAt w cb ab mb N L V) (h0 : 0 ≤ V) (h1 : V ≤ 32767) :
    Calls Tryz.prog 21 #[.pointer (some ⟨cb, 0, none⟩)] w fun e w' => e = .returned (.tuple #[.int .i64 (spT L), .int .i64 (spE L V)]) ∧ SAt w' cb ab mb N (takeL L) (spV L V) ∧ Chg [cb, ab, mb] w w' := by
  have htk := fun (W : World) (hW : WAt W ab mb N L) => takec ab mb N L W hW
  unfold spT spE spV
  have H := Lib.hid (And.intro h h.ne)
  have hh := h.head
  clear h
  obtain ⟨b, hb⟩ : ∃ b, b = headB (ordL L) := ⟨_, rfl⟩
  rw [← hb] at htk ⊢
  have HT := Lib.hid htk
  clear htk hb
  have hcase : b = true ∨ (b = false ∧ V = 32767) ∨ (b = false ∧ V ≠ 32767) := by cases b <;> simp; omega
  rcases hcase with rfl | ⟨rfl, rfl⟩ | ⟨rfl, hv⟩
  · rw [if_pos rfl, if_pos rfl, if_pos rfl]
    go_enter Tryz.func21, Tryz.ntmps21
    go_wp2_with fail
    refine (sofc cb ab mb N L V w H.out.1).mono ?_
    rintro e w1 ⟨rfl, hC⟩
    have c0 := cellB (hC.blk hh (by simp)) (i := 0) rfl
    have H1 := Lib.hid hC
    clear hC hh
    go_wp2_with fail
    refine (HT.out w1 (H.out.1.calm H1.out).list).mono ?_
    rintro e w2 ⟨rfl, hW, hC⟩
    have H2 := Lib.hid (And.intro ((H.out.1.calm H1.out).step hW hC) ((H1.out.mono (by simp)).trans hC))
    clear hW hC
    go_wp2
    go_ret2
    exact ⟨rfl, H2.out.1, H2.out.2.mono (by simp)⟩
  · simp only [Bool.false_eq_true, if_false, if_true]
    go_enter Tryz.func21, Tryz.ntmps21
    go_wp2_with fail
    refine (sofc cb ab mb N L 32767 w H.out.1).mono ?_
    rintro e w1 ⟨rfl, hC⟩
    have c0 := cellB (hC.blk hh (by simp)) (i := 0) rfl
    have H1 := Lib.hid hC
    clear hC hh
    go_wp2_with fail
    refine (HT.out w1 (H.out.1.calm H1.out).list).mono ?_
    rintro e w2 ⟨rfl, hW, hC⟩
    have H2 := Lib.hid (And.intro ((H.out.1.calm H1.out).step hW hC) ((H1.out.mono (by simp)).trans hC))
    have c1 := cellB H2.out.1.head (i := 1) rfl
    clear hW hC
    go_wp2
    go_ret2
    exact ⟨rfl, H2.out.1, H2.out.2.mono (by simp)⟩
  · simp only [Bool.false_eq_true, if_false]; rw [if_neg hv, if_neg hv]
    have hvb : (V == 32767) = false := by simpa using hv
    clear hv
    go_enter Tryz.func21, Tryz.ntmps21
    go_wp2_with fail
    refine (sofc cb ab mb N L V w H.out.1).mono ?_
    rintro e w1 ⟨rfl, hC⟩
    have c0 := cellB (hC.blk hh (by simp)) (i := 0) rfl
    have H1 := Lib.hid hC
    clear hC hh
    go_wp2_with fail
    refine (HT.out w1 (H.out.1.calm H1.out).list).mono ?_
    rintro e w2 ⟨rfl, hW, hC⟩
    have H2 := Lib.hid (And.intro ((H.out.1.calm H1.out).step hW hC) ((H1.out.mono (by simp)).trans hC))
    have c1 := cellB H2.out.1.head (i := 1) rfl
    have f1 := frozenB H2.out.1.head 1
    have HP := Lib.hid (H2.out.1.put (V + 1))
    clear hW hC
    go_wp2
    go_ret2
    exact ⟨rfl, HP.out.1, (H2.out.2.mono (by simp)).trans (HP.out.2.mono (by simp))⟩

end Go.Proofs.YtknngbnkcbcanaaGreat
