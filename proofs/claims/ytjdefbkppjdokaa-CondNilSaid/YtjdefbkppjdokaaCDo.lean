/- metronomelaw16.do: one step of both conditions. -/
import Derived.Test.YtjdefbkppjdokaaDRb
import Derived.Test.YtjdefbkppjdokaaCe
import Derived.Test.YtjdefbkppjdokaaIns
import Derived.Deep.RegionHeld3
import Derived.OwnWalk
namespace Go.Proofs.Ytjdefbkppjdokaa
open Go.RowKit

theorem cnumc (z : Int) (w : World) : Calls Try.prog 12 #[.int .i64 z] w fun e w' => e = .returned (.int .i64 z) ∧ w = w' := by
  go_enter Try.func12, Try.ntmps12
  go_wp2
  go_ret
  exact ⟨rfl, rfl⟩

/-- The program's condition and the document's, side by side. -/
structure CB (w : World) (cb ab mb rc rb : Nat) (N : Int) (L : WL) (M : Int) : Prop where
  c : CAt w cb ab mb N L M
  r : RCAt w rc rb L M

theorem blk_ne {w : World} {a b : Nat} {cs ds : Array Value} {T U : TypeId} {fr gr : Nat × Nat} (ha : w.heap[a]? = some (.cells cs T fr)) (hb : w.heap[b]? = some (.cells ds U gr)) (h : T ≠ U) : a ≠ b := by
  rintro rfl
  rw [ha] at hb
  injection hb with hb
  injection hb with _ h2 _
  exact h h2

theorem CAt.sep {w : World} {cb ab mb rc rb : Nat} {N M M2 : Int} {L L2 : WL} (h : CAt w cb ab mb N L M) (g : RCAt w rc rb L2 M2) :
    (cb ≠ rc ∧ cb ≠ rb) ∧ (ab ≠ rc ∧ ab ≠ rb) ∧ (mb ≠ rc ∧ mb ≠ rb) ∧ NotW w cb ∧ NotW w ab ∧ NotW w mb := by
  obtain ⟨v, hr, _⟩ := g.list
  have a1 := h.list.ne_of g.head (by decide)
  have a2 := h.list.ne_of hr (by decide)
  exact ⟨⟨blk_ne h.head g.head (by decide), blk_ne h.head hr (by decide)⟩, ⟨a1.1, a2.1⟩, ⟨a1.2, a2.2⟩, NotW.of h.head (fun cs fr e => by cases e), h.list.notW.1, h.list.notW.2⟩

theorem RCAt.cstep {w w' : World} {cb ab mb rc rb : Nat} {N M M2 : Int} {L L2 : WL} (g : RCAt w rc rb L2 M2) (h : CAt w cb ab mb N L M) (hC : Chg [cb, ab, mb] w w') : RCAt w' rc rb L2 M2 :=
  g.kept hC (fun k hk => by
    have s := h.sep g
    simp at hk
    rcases hk with rfl | rfl | rfl
    · exact ⟨s.1.1, s.1.2, s.2.2.2.1⟩
    · exact ⟨s.2.1.1, s.2.1.2, s.2.2.2.2.1⟩
    · exact ⟨s.2.2.1.1, s.2.2.1.2, s.2.2.2.2.2⟩)
theorem CAt.rstep {w w' : World} {cb ab mb rc rb : Nat} {N M M2 : Int} {L L2 : WL} (h : CAt w cb ab mb N L M) (g : RCAt w rc rb L2 M2) (hC : Chg [rc, rb] w w') : CAt w' cb ab mb N L M :=
  h.kept hC (by have := h.sep g; simp; omega) (by have := h.sep g; simp; omega) (by have := h.sep g; simp; omega)
theorem RCAt.lstep {w w' : World} {rc rb : Nat} {M : Int} {L L' : WL} (g : RCAt w rc rb L M) (hR : RAt w' rb L') (hC : Chg [rb] w w') : RCAt w' rc rb L' M :=
  ⟨hC.blk g.head (by have := g.ne; simp; omega), hR⟩

/-- What a step leaves: the same condition, or a copy of it. -/
def CDoP (cb ab mb rc rb : Nat) (N : Int) (L' : WL) (M' : Int) (w : World) (e : Ending) (w' : World) : Prop :=
  ∃ cb' ab' mb' rb', e = .returned (.tuple #[.pointer (some ⟨cb', 0, none⟩), .pointer (some ⟨rc, 0, none⟩), .bool true]) ∧ ((cb' = cb ∧ ab' = ab ∧ mb' = mb) ∨ (w.heap.size ≤ cb' ∧ w.heap.size ≤ ab' ∧ w.heap.size ≤ mb')) ∧ (rb' = rb ∨ w.heap.size ≤ rb') ∧
    CB w' cb' ab' mb' rc rb' (N + 1) L' M' ∧ Chg [cb, ab, mb, rc, rb] w w'

set_option maxRecDepth 100000 in
set_option maxHeartbeats 2000000 in
theorem cdo1 (cb ab mb rc rb : Nat) (N : Int) (L : WL) (M t p m : Int) (w : World) (h : CB w cb ab mb rc rb N L M) (hN : N < 4611686018427387904) :
    Calls Try.prog 20 #[.pointer (some ⟨cb, 0, none⟩), .pointer (some ⟨rc, 0, none⟩), .agg #[.int .i64 1, .int .i64 t, .int .i64 p, .int .i64 m]] w (CDoP cb ab mb rc rb N (cwL L M t p m) (cwM L M t p m) w) := by
  have hC0 : Chg [] w (w.alloc (.cells #[.int .i64 1, .int .i64 t, .int .i64 p, .int .i64 m] 27)) := (Chg.refl [] w).alloc _
  have hb := heap_alloc_eq w (.cells #[.int .i64 1, .int .i64 t, .int .i64 p, .int .i64 m] 27)
  have c1 := cellB hb (i := 1) rfl
  have c2 := cellB hb (i := 2) rfl
  have c3 := cellB hb (i := 3) rfl
  have hlt := h.c.lt
  have hrl := h.r.lt
  have hf := h.c.list.facts.2.2
  have H0 := Lib.hid (And.intro (h.c.calm hC0) (And.intro (h.r.calm hC0) (And.intro hb (And.intro hC0 (And.intro hlt (And.intro hrl hf))))))
  clear h hb hC0 hlt hrl hf
  go_enter Try.func20, Try.ntmps20
  go_wp2
  generalize (w.alloc (.cells #[.int .i64 1, .int .i64 t, .int .i64 p, .int .i64 m] 27)) = WW at *
  have HP := Lib.hid (H0.out.1.calm ((Chg.refl [] WW).drew))
  have HQ := Lib.hid (H0.out.2.1.calm ((Chg.refl [] WW).drew))
  go_region_held3 (fun w' => w'.cell? ⟨w.heap.size, 1, none⟩ = some (.int .i64 t) ∧ w'.cell? ⟨w.heap.size, 2, none⟩ = some (.int .i64 p) ∧ w'.cell? ⟨w.heap.size, 3, none⟩ = some (.int .i64 m)) (first | exact ⟨c1, c2, c3⟩ | exact ⟨x1, x2, x3⟩ | exact ⟨y1, y2, y3⟩)
    (first
    | (go_at_call 11; refine (cwaitc cb ab mb N L M t p m _ HP.out hN).mono ?_; rintro e w1 ⟨rfl, hW1, hC1⟩; have hb1 := (((Chg.refl [] WW).drew.mono (by simp)).trans hC1).blk H0.out.2.2.1 (by have := H0.out.2.2.2.2.1; simp; omega); have x1 := cellB hb1 (i := 1) rfl; have x2 := cellB hb1 (i := 2) rfl; have x3 := cellB hb1 (i := 3) rfl)
    | (go_at_call 12; refine (cnumc _ _).mono ?_; rintro e w' ⟨rfl, rfl⟩)
    | (go_at_call 35; refine (rcwaitc rc rb L M t p m w1 (HQ.out.cstep HP.out hC1) (by have := H0.out.2.2.2.2.2.2; omega)).mono ?_; rintro e w2 ⟨rb', rfl, hR2, hrb, hC2⟩; have hb2 := hC2.blk hb1 (by have := H0.out.2.2.2.2.2.1; simp; omega); have y1 := cellB hb2 (i := 1) rfl; have y2 := cellB hb2 (i := 2) rfl; have y3 := cellB hb2 (i := 3) rfl))
  have hs := H0.out.2.2.2.1.size
  have hs1 := hC1.size
  have HF := Lib.hid (And.intro (show rb' = rb ∨ w.heap.size ≤ rb' by rcases hrb with h | h; exact .inl h; exact .inr (Nat.le_trans hs (Nat.le_trans hs1 h))) (And.intro (CB.mk (hW1.rstep (HQ.out.cstep HP.out hC1) (hC2.mono (by simp))) hR2) (((H0.out.2.2.2.1.drew.mono (by simp)).trans (hC1.mono (by simp))).trans (hC2.mono (by simp)) : Chg [cb, ab, mb, rc, rb] w w2)))
  clear hW1 hC1 hR2 hC2 hb1 hb2 x1 x2 y1 y2 x3 y3 hrb hs hs1
  go_wp2
  go_ret3
  exact ⟨cb, ab, mb, rb', rfl, .inl ⟨rfl, rfl, rfl⟩, HF.out.1, HF.out.2.1, HF.out.2.2⟩

end Go.Proofs.Ytjdefbkppjdokaa
