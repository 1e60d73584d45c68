
/- metronomeref14: semaphores: New, Wait, Try, Post. -/
import Derived.Test.YtknngbnkcbcanaaGreatSb
namespace Go.Proofs.YtknngbnkcbcanaaGreat
open Go.RowKit

abbrev RSAt := QAt 58
theorem okRSem : okTy 58 := by unfold okTy; decide

def RSNewP (V : Int) (w : World) (e : Ending) (w' : World) : Prop :=
  ∃ rc rb, e = .returned (.pointer (some ⟨rc, 0, none⟩)) ∧ w.heap.size ≤ rc ∧ w.heap.size ≤ rb ∧ RSAt w' rc rb [] V ∧ Chg [] w w'

set_option maxRecDepth 100000 in
theorem rsnewc (V : Int) (w : World) (h0 : 0 ≤ V) (h1 : V ≤ 32767) : Calls Tryz.prog 5 #[.int .i64 V] w (RSNewP V w) := by
  have d0 : decide (V < 0) = false := by simp; omega
  have d1 : decide (32767 < V) = false := by simp; omega
  go_enter Tryz.func5, Tryz.ntmps5
  go_wp2
  go_ret
  have h1 := heap_alloc_eq w (.cells #[.slice none 0 0] 56)
  have h2 := heap_alloc_eq (w.alloc (.cells #[.slice none 0 0] 56)) (.cells #[.int .i64 V, .pointer (some ⟨w.heap.size, 0, none⟩)] 58)
  rw [World.size_alloc] at h2
  exact ⟨w.heap.size + 1, w.heap.size, rfl, by omega, by omega, ⟨h2, ⟨.slice none 0 0, blk_alloc h1 _, World.ownsRow_nil ..⟩, okRSem⟩, ((Chg.refl _ _).alloc _).alloc _⟩

set_option maxRecDepth 100000 in
theorem rsnew_no (V : Int) (w : World) (h : V < 0 ∨ 32767 < V) : Calls Tryz.prog 5 #[.int .i64 V] w fun e w' => e = .returned (.pointer none) ∧ w = w' := by
  by_cases h0 : V < 0
  · have d0 : decide (V < 0) = true := by simpa using h0
    clear h h0
    go_enter Tryz.func5, Tryz.ntmps5
    go_wp2
    go_ret
    exact ⟨rfl, rfl⟩
  · have d0 : decide (V < 0) = false := by simpa using h0
    have d1 : decide (32767 < V) = true := by simp; omega
    clear h h0
    go_enter Tryz.func5, Tryz.ntmps5
    go_wp2
    go_ret
    exact ⟨rfl, rfl⟩

set_option maxRecDepth 100000 in
theorem rstryc (rc rb : Nat) (L : WL) (V : Int) (w : World) (h : RSAt w rc rb L V) (h0 : 0 ≤ V) (h1 : V ≤ 32767) :
    Calls Tryz.prog 20 #[.pointer (some ⟨rc, 0, none⟩)] w fun e w' => e = .returned (.bool (styB V)) ∧ RSAt w' rc rb L (styV V) ∧ Chg [rc] w w' := by
  unfold styB styV
  have H := Lib.hid (And.intro h (h.put (V - 1)))
  have c0 := cellB h.head (i := 0) rfl
  have f0 := frozenB h.head 0
  clear h
  by_cases hz : V = 0
  · subst hz
    rw [if_pos rfl, show (!decide ((0 : Int) = 0)) = false by decide]
    go_enter Tryz.func20, Tryz.ntmps20
    go_wp2
    go_ret
    exact ⟨rfl, H.out.1, (Chg.refl _ _)⟩
  · have hb : (V == 0) = false := by simpa using hz
    rw [if_neg hz, show (!decide (V = 0)) = true by simpa using hz]
    clear hz
    go_enter Tryz.func20, Tryz.ntmps20
    go_wp2
    go_ret
    exact ⟨rfl, H.out.2.1, H.out.2.2⟩

def RSWaitP (rc rb : Nat) (L' : WL) (V' : Int) (b : Bool) (r : Int) (w : World) (e : Ending) (w' : World) : Prop :=
  ∃ rb', e = .returned (.tuple #[.bool b, .int .i64 r]) ∧ RSAt w' rc rb' L' V' ∧ (rb' = rb ∨ w.heap.size ≤ rb') ∧ Chg [rc] w w'

set_option maxRecDepth 100000 in
set_option maxHeartbeats 1000000 in
theorem rswaitc (rc rb : Nat) (L : WL) (V t p : Int) (w : World) (h : RSAt w rc rb L V) (hl : L.length ≤ 999999) (h0 : 0 ≤ V) (h1 : V ≤ 32767) :
    Calls Tryz.prog 17 #[.pointer (some ⟨rc, 0, none⟩), .int .i64 t, .int .i64 p] w (RSWaitP rc rb (swL L V t p) (swV L V t p) (swB L V t p) (askR L t p false) w) := by
  have hput := fun (r1 : Nat) (W : World) (hW : RAt W r1 L) => rputc r1 L t p W hW hl
  have hpl : askR L t p false ≠ 0 → putL L t p = L := fun h => by unfold putL; rw [if_neg h]
  have H := Lib.hid (And.intro h (And.intro hl h.lt))
  have c1 := cellB h.head (i := 1) rfl
  clear h hl
  unfold swL swV swB styB styV
  obtain ⟨r, hr⟩ : ∃ r, r = askR L t p false := ⟨_, rfl⟩
  rw [← hr] at hput hpl ⊢
  clear hr
  have hcase : (r = 0 ∧ V = 0) ∨ (r = 0 ∧ V ≠ 0) ∨ r ≠ 0 := by omega
  rcases hcase with ⟨rfl, rfl⟩ | ⟨rfl, hz⟩ | hr
  case' inl =>
    rw [if_pos rfl, if_pos rfl, if_pos rfl, show (decide ((0 : Int) = 0) && !decide ((0 : Int) = 0)) = false by decide]
    clear hpl
  case' inr.inl =>
    rw [if_neg hz, if_pos rfl, if_neg hz, show (decide ((0 : Int) = 0) && !decide (V = 0)) = true by simpa using hz]
    have hv : 0 < V := by omega
    clear hz hpl
  case' inr.inr =>
    rw [hpl hr, show (if V = 0 then L else L) = L by split <;> rfl, if_neg hr, show (decide (r = 0) && !decide (V = 0)) = false by rw [decide_eq_false hr]; rfl]
    have hb : (r != 0) = true := by simpa using hr
    clear hpl hr
  all_goals
    have HP := Lib.hid hput
    clear hput
    go_enter Tryz.func17, Tryz.ntmps17
    go_wp2_with fail
    refine (rcopyc rb L w H.out.1.list H.out.2.1).mono ?_
    rintro e w1 ⟨r1, rfl, hr1, hR1, hC⟩
    have H1 := Lib.hid (And.intro hC (And.intro hR1 hr1))
    clear hC hR1 hr1
    go_wp2_with fail
    refine (HP.out r1 w1 H1.out.2.1).mono ?_
    rintro e w2 ⟨rfl, hR2, hC⟩
    have H2 := Lib.hid (And.intro (H1.out.1.trans' hC (by have := H1.out.2.2; simp; omega)) (And.intro hR2 H1.out.2.2))
    clear hC hR2 H1
    have c0 := cellB (H.out.1.calm H2.out.1).head (i := 0) rfl
    have c1 := cellB (H.out.1.calm H2.out.1).head (i := 1) rfl
    have f0 := frozenB (H.out.1.calm H2.out.1).head 0
    have f1 := frozenB (H.out.1.calm H2.out.1).head 1
    go_wp2
    go_ret2
  · exact ⟨rb, rfl, H.out.1.calm H2.out.1, .inl rfl, H2.out.1.mono (by simp)⟩
  · exact ⟨rb, rfl, ((H.out.1.calm H2.out.1).put (V - 1)).1, .inl rfl, (H2.out.1.mono (by simp)).trans ((H.out.1.calm H2.out.1).put (V - 1)).2⟩
  · exact ⟨r1, rfl, ((H.out.1.calm H2.out.1).swap H2.out.2.1).1, .inr H2.out.2.2, (H2.out.1.mono (by simp)).trans ((H.out.1.calm H2.out.1).swap H2.out.2.1).2⟩

set_option maxRecDepth 100000 in
set_option maxHeartbeats 1000000 in
theorem rspostc (rc rb : Nat) (L : WL) (V : Int) (w : World) (h : RSAt w rc rb L V) (hl : L.length ≤ 999999) (hok : ListOk L) (h0 : 0 ≤ V) (h1 : V ≤ 32767) :
    Calls Tryz.prog 22 #[.pointer (some ⟨rc, 0, none⟩)] w fun e w' => e = .returned (.tuple #[.int .i64 (spT L), .int .i64 (spE L V)]) ∧ RSAt w' rc rb (takeL L) (spV L V) ∧ Chg [rc, rb] w w' := by
  have htk := rtakec rb L w h.list hl hok
  have H := Lib.hid (And.intro h h.ne)
  have c1 := cellB h.head (i := 1) rfl
  clear h hl hok
  unfold spT spE spV
  obtain ⟨b, hb⟩ : ∃ b, b = headB (ordL L) := ⟨_, rfl⟩
  rw [← hb] at htk ⊢
  have HT := Lib.hid htk
  clear htk hb
  have hcase : b = true ∨ (b = false ∧ V = 32767) ∨ (b = false ∧ V ≠ 32767) := by cases b <;> simp; omega
  rcases hcase with rfl | ⟨rfl, rfl⟩ | ⟨rfl, hv⟩
  case' inl => rw [if_pos rfl, if_pos rfl, if_pos rfl]
  case' inr.inl => simp only [Bool.false_eq_true, if_false, if_true]
  case' inr.inr =>
    simp only [Bool.false_eq_true, if_false]; rw [if_neg hv, if_neg hv]
    have hvb : (V == 32767) = false := by simpa using hv
    clear hv
  all_goals
    go_enter Tryz.func22, Tryz.ntmps22
    go_wp2_with fail
    refine HT.out.mono ?_
    rintro e w2 ⟨rfl, hR, hC⟩
    have H2 := Lib.hid (And.intro (H.out.1.lstep hR hC) hC)
    have c0 := cellB H2.out.1.head (i := 0) rfl
    have f0 := frozenB H2.out.1.head 0
    clear hR hC
    go_wp2
    go_ret2
  · exact ⟨rfl, (H2.out.1.put (V + 1)).1, (H2.out.2.mono (by simp)).trans ((H2.out.1.put (V + 1)).2.mono (by simp))⟩
  · exact ⟨rfl, H2.out.1, H2.out.2.mono (by simp)⟩
  · exact ⟨rfl, H2.out.1, H2.out.2.mono (by simp)⟩

end Go.Proofs.YtknngbnkcbcanaaGreat
