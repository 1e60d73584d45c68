/- metronomeref16: New, Wait, Mutex, Same. -/
import Derived.Test.YtjdefbkppjdokaaRf
import Derived.Test.YtjdefbkppjdokaaCc
namespace Go.Proofs.Ytjdefbkppjdokaa
open Go.RowKit

/-- The reference's condition stands at block rc, its list at block rb. -/
structure RCAt (w : World) (rc rb : Nat) (L : WL) (M : Int) : Prop where
  head : w.heap[rc]? = some (.cells #[.pointer (some ⟨rb, 0, none⟩), .int .i64 M] 63 (0, 0))
  list : RAt w rb L

theorem RCAt.ne {w : World} {rc rb : Nat} {L : WL} {M : Int} (h : RCAt w rc rb L M) : rb ≠ rc := by
  rintro rfl
  obtain ⟨v, h1, _⟩ := h.list
  rw [h.head] at h1
  injection h1 with h1
  injection h1 with _ h2 _
  exact absurd h2 (by decide)
theorem RCAt.notW {w : World} {rc rb : Nat} {L : WL} {M : Int} (h : RCAt w rc rb L M) : NotW w rc ∧ NotW w rb := ⟨NotW.of h.head (fun cs fr e => by cases e), h.list.notW⟩
theorem RCAt.kept {S : List Nat} {w w' : World} {rc rb : Nat} {L : WL} {M : Int} (h : RCAt w rc rb L M) (hC : Chg S w w') (hS : ∀ k ∈ S, k ≠ rc ∧ k ≠ rb ∧ NotW w k) : RCAt w' rc rb L M :=
  ⟨hC.blk h.head (fun hm => (hS _ hm).1 rfl), h.list.kept hC (fun k hk => (hS k hk).2)⟩
theorem RCAt.calm {w w' : World} {rc rb : Nat} {L : WL} {M : Int} (h : RCAt w rc rb L M) (hC : Chg [] w w') : RCAt w' rc rb L M := h.kept hC (by simp)
theorem RCAt.lt {w : World} {rc rb : Nat} {L : WL} {M : Int} (h : RCAt w rc rb L M) : rc < w.heap.size ∧ rb < w.heap.size := ⟨lt_of_blk h.head, h.list.lt⟩

def RCNewP (w : World) (e : Ending) (w' : World) : Prop :=
  ∃ rc rb, e = .returned (.pointer (some ⟨rc, 0, none⟩)) ∧ w.heap.size ≤ rc ∧ w.heap.size ≤ rb ∧ RCAt w' rc rb [] 0 ∧ Chg [] w w'

set_option maxRecDepth 100000 in
theorem rcnewc (w : World) : Calls Try.prog 19 #[] w (RCNewP w) := by
  go_enter Try.func19, Try.ntmps19
  go_wp2
  go_ret
  have h1 := heap_alloc_eq w (.cells #[.slice none 0 0] 61)
  have h2 := heap_alloc_eq (w.alloc (.cells #[.slice none 0 0] 61)) (.cells #[.pointer (some ⟨w.heap.size, 0, none⟩), .int .i64 0] 63)
  rw [World.size_alloc] at h2
  exact ⟨w.heap.size + 1, w.heap.size, rfl, by omega, by omega, ⟨h2, .slice none 0 0, blk_alloc h1 _, World.ownsRow_nil ..⟩, ((Chg.refl _ _).alloc _).alloc _⟩

set_option maxRecDepth 100000 in
theorem rcmutexc (rc rb : Nat) (L : WL) (M : Int) (w : World) (h : RCAt w rc rb L M) :
    Calls Try.prog 42 #[.pointer (some ⟨rc, 0, none⟩)] w fun e w' => e = .returned (.tuple #[.int .i64 (muM L M), .bool (muB L)]) ∧ w = w' := by
  obtain ⟨a, cap, hb, hs⟩ := h.list.src
  have c0 := cellB h.head (i := 0) rfl
  have c1 := cellB h.head (i := 1) rfl
  have d0 : w.cell? ⟨rb, 0, none⟩ = some (.slice a L.length cap) := cellB hb (i := 0) rfl
  clear h hb hs
  unfold muM muB
  by_cases hL : L.length = 0
  · rw [hL] at d0 ⊢
    clear hL
    go_enter Try.func42, Try.ntmps42
    go_wp2
    go_ret2
    exact ⟨rfl, rfl⟩
  · have e1 : ((L.length : Int) == 0) = false := by rw [beq_eq_false_iff_ne]; omega
    rw [if_neg hL, show (!decide (L.length = 0)) = true by simpa using hL]
    generalize L.length = n at *
    clear hL
    go_enter Try.func42, Try.ntmps42
    go_wp2
    go_ret2
    exact ⟨rfl, rfl⟩

def RCWaitP (rc rb : Nat) (L' : WL) (M' r : Int) (w : World) (e : Ending) (w' : World) : Prop :=
  ∃ rb', e = .returned (.int .i64 r) ∧ RCAt w' rc rb' L' M' ∧ (rb' = rb ∨ w.heap.size ≤ rb') ∧ Chg [rc] w w'

set_option maxRecDepth 100000 in
set_option maxHeartbeats 1000000 in
theorem rcwaitc (rc rb : Nat) (L : WL) (M t p m : Int) (w : World) (h : RCAt w rc rb L M) (hl : L.length ≤ 999999) :
    Calls Try.prog 35 #[.pointer (some ⟨rc, 0, none⟩), .int .i64 t, .int .i64 p, .int .i64 m] w (RCWaitP rc rb (cwL L M t p m) (cwM L M t p m) (cwR L M t p m) w) := by
  unfold cwL cwM
  have hcase := cw_cases L M t p m
  have hput := fun (r1 : Nat) (W : World) (hW : RAt W r1 L) => rputc r1 L t p W hW hl
  have hpl : askR L t p false = 0 → putL L t p = L ++ [(t, p)] := fun e => by unfold putL; rw [if_pos e]
  obtain ⟨a, cap, hb, hs⟩ := h.list.src
  obtain ⟨n, hn⟩ : ∃ n, n = L.length := ⟨_, rfl⟩
  rw [← hn] at hcase hb
  have H := Lib.hid (And.intro h (And.intro hl (And.intro hb (And.intro h.ne (And.intro h.lt hn)))))
  clear h hl hb hs hn
  obtain ⟨r, hr⟩ : ∃ r, r = cwR L M t p m := ⟨_, rfl⟩
  rw [← hr] at hcase ⊢
  clear hr
  rcases hcase with ⟨e1, rfl⟩ | ⟨e1, hm, rfl⟩ | ⟨e1, hm, rfl⟩ | ⟨e1, hm, rfl⟩ | ⟨e1, hm, hL, hMm, rfl⟩ | ⟨e1, hm, hL, rfl⟩ | ⟨e1, hm, hL, hMm, rfl⟩
  all_goals first | rw [if_pos rfl, if_pos rfl] | rw [if_neg (by decide), if_neg (by decide)]
  case' inr.inr.inr.inr.inl =>
    have hb : (M == m) = false := by simpa using hMm
    have hn0 : 0 < n := by omega
    clear hL hMm
  case' inr.inr.inr.inr.inr.inl =>
    subst hL
  case' inr.inr.inr.inr.inr.inr =>
    obtain rfl : m = M := hMm.symm
    have hb : (m == m) = true := by simp
    have hn0 : 0 < n := by omega
    clear hL hMm
  all_goals
    rw [e1] at hput
    have HP := Lib.hid hput
    have HL := Lib.hid (fun (e : askR L t p false = 0) => hpl e)
    have HE := Lib.hid e1
    have c0 := cellB H.out.1.head (i := 0) rfl
    clear hput hpl e1
    go_enter Try.func35, Try.ntmps35
    go_wp2_with fail
    refine (rcopyc rb L w H.out.1.list H.out.2.1).mono ?_
    rintro e w1 ⟨r1, rfl, hr1, hR1, hC⟩
    have H1 := Lib.hid (And.intro hC (And.intro hR1 hr1))
    clear hC hR1 hr1
    go_wp2_with fail
    refine (HP.out r1 w1 H1.out.2.1).mono ?_
    rintro e w2 ⟨rfl, hR2, hC⟩
    have H2 := Lib.hid (And.intro (H1.out.1.trans' hC (by have := H1.out.2.2; simp; omega)) (And.intro hR2 H1.out.2.2))
    clear hC hR2 H1
    have c0 := cellB (H.out.1.calm H2.out.1).head (i := 0) rfl
    have c1 := cellB (H.out.1.calm H2.out.1).head (i := 1) rfl
    have d0 : w2.cell? ⟨rb, 0, none⟩ = some (.slice a _ cap) := cellB (H2.out.1.blk H.out.2.2.1 (by simp)) (i := 0) rfl
    have f0 := frozenB (H.out.1.calm H2.out.1).head 0
    have f1 := frozenB (H.out.1.calm H2.out.1).head 1
    go_wp2
    go_ret
  iterate 2
    · rw [HL.out HE.out] at H2
      have hh := (H.out.1.calm H2.out.1).head
      have hne : r1 ≠ rc := by have := H.out.2.2.2.2.1; have := H2.out.2.2; omega
      have hS : Chg [rc] w2 ((w2.setCell ⟨rc, 0, none⟩ (.pointer (some ⟨r1, 0, none⟩))).setCell ⟨rc, 1, none⟩ (.int .i64 m)) := ((Chg.refl _ _).setCell _ _ (by simp)).setCell _ _ (by simp)
      refine ⟨r1, rfl, ⟨blk_setCell (blk_setCell hh _) _, H2.out.2.1.kept hS (fun k hk => ?_)⟩, .inr H2.out.2.2, (H2.out.1.mono (by simp)).trans hS⟩
      simp at hk
      subst hk
      exact ⟨hne.symm, (H.out.1.calm H2.out.1).notW.1⟩
  all_goals
    exact ⟨rb, rfl, H.out.1.calm H2.out.1, .inl rfl, H2.out.1.mono (by simp)⟩

end Go.Proofs.Ytjdefbkppjdokaa
