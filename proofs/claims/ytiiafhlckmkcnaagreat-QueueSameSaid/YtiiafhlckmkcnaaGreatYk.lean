
/- Layer 18: a queue with the document's, or neither; made, stepped, compared. -/
import Derived.Test.YtiiafhlckmkcnaaGreatYj
namespace Go.Proofs.YtiiafhlckmkcnaaGreat
open Go.RowKit

set_option maxRecDepth 100000 in
theorem uthere0 (w : World) : Calls Tryz.prog 24 #[.pointer none] w fun e w' => e = .returned (.bool false) ∧ w = w' := by
  go_enter Tryz.func24, Tryz.ntmps24
  go_wp2
  go_ret
  exact ⟨rfl, rfl⟩
set_option maxRecDepth 100000 in
theorem usame_nn (w : World) : Calls Tryz.prog 8 #[.pointer none, .pointer none] w fun e w' => e = .returned (.bool true) ∧ Chg [] w w' := by
  go_enter Tryz.func8, Tryz.ntmps8
  go_wp2_with (go_at_call 24; refine (uthere0 _).mono ?_; rintro e w' ⟨rfl, rfl⟩)
  go_ret
  exact ⟨rfl, Chg.refl _ _⟩
set_option maxRecDepth 100000 in
theorem usame_ns (u : UB) (v : Value) (N : Int) (s : QS) (w : World) (h : UAt w u v N s) : Calls Tryz.prog 8 #[.pointer none, .pointer (some ⟨u.q, 0, none⟩)] w fun e w' => e = .returned (.bool false) ∧ Chg [] w w' := by
  have HT := Lib.hid (utherec u v N s w h)
  clear h
  go_enter Tryz.func8, Tryz.ntmps8
  go_wp2_with (go_at_call 24; (first | (with_reducible refine (uthere0 _).mono ?_) | (with_reducible refine HT.out.mono ?_)); rintro e w' ⟨rfl, rfl⟩)
  go_ret
  exact ⟨rfl, Chg.refl _ _⟩
set_option maxRecDepth 100000 in
theorem usame_sn (u : UB) (v : Value) (N : Int) (s : QS) (w : World) (h : UAt w u v N s) : Calls Tryz.prog 8 #[.pointer (some ⟨u.q, 0, none⟩), .pointer none] w fun e w' => e = .returned (.bool false) ∧ Chg [] w w' := by
  have HT := Lib.hid (utherec u v N s w h)
  clear h
  go_enter Tryz.func8, Tryz.ntmps8
  go_wp2_with (go_at_call 24; (first | (with_reducible refine (uthere0 _).mono ?_) | (with_reducible refine HT.out.mono ?_)); rintro e w' ⟨rfl, rfl⟩)
  go_ret
  exact ⟨rfl, Chg.refl _ _⟩
set_option maxRecDepth 100000 in
theorem dsame_nn (w : World) : Calls Tryz.prog 9 #[.pointer none, .pointer none] w fun e w' => e = .returned (.bool true) ∧ Chg [] w w' := by
  go_enter Tryz.func9, Tryz.ntmps9
  go_wp2
  go_ret
  exact ⟨rfl, Chg.refl _ _⟩
set_option maxRecDepth 100000 in
theorem dsame_ns (a : Addr) (w : World) : Calls Tryz.prog 9 #[.pointer none, .pointer (some a)] w fun e w' => e = .returned (.bool false) ∧ Chg [] w w' := by
  go_enter Tryz.func9, Tryz.ntmps9
  go_wp2
  go_ret
  exact ⟨rfl, Chg.refl _ _⟩
set_option maxRecDepth 100000 in
theorem dsame_sn (a : Addr) (w : World) : Calls Tryz.prog 9 #[.pointer (some a), .pointer none] w fun e w' => e = .returned (.bool false) ∧ Chg [] w w' := by
  go_enter Tryz.func9, Tryz.ntmps9
  go_wp2
  go_ret
  exact ⟨rfl, Chg.refl _ _⟩

/-- A queue and the document's, or neither. -/
structure Qc where
  on : Bool
  px : Option Addr
  pr : Option Addr
  bs : List Nat
  N : Int
  s : QS
def Qc.at (c : Qc) (W : World) : Prop :=
  (c.on = false ∧ c.px = none ∧ c.pr = none ∧ c.bs = []) ∨ (c.on = true ∧ ∃ u v rc rr rw vd, c.px = some ⟨UB.q u, 0, none⟩ ∧ c.pr = some ⟨rc, 0, none⟩ ∧ c.bs = blkT u v rc rr rw vd ∧ TQ W u v c.N rc rr rw vd c.s)
theorem Qc.at.calm {c : Qc} {W W' : World} (h : c.at W) (hC : Chg [] W W') : c.at W' := by
  rcases h with h | ⟨h0, u, v, rc, rr, rw_, vd, h1, h2, h3, h4⟩
  · exact .inl h
  · exact .inr ⟨h0, u, v, rc, rr, rw_, vd, h1, h2, h3, h4.calm hC⟩
theorem TQ.notW {w : World} {u : UB} {v : Value} {N : Int} {rc rr rw : Nat} {vd : Value} {s : QS} (h : TQ w u v N rc rr rw vd s) : ∀ k ∈ blkT u v rc rr rw vd, NotW w k := by
  intro k hk
  rcases List.mem_append.1 hk with hk | hk
  · exact h.q.notW k hk
  · obtain ⟨v1, h1, _⟩ := h.d.sd
    obtain ⟨v2, h2, _⟩ := h.d.rv
    rcases List.mem_append.1 hk with hk | hk
    · simp only [List.mem_cons, List.not_mem_nil, or_false] at hk
      rcases hk with rfl | rfl | rfl
      · exact h.d.nc.2.2
      · exact NotW.of h1 (fun cs fr e => by cases e)
      · exact NotW.of h2 (fun cs fr e => by cases e)
    · exact (h.d.rowNe k hk).2
theorem Qc.at.notW {c : Qc} {W : World} (h : c.at W) : ∀ k ∈ c.bs, NotW W k := by
  rcases h with ⟨_, _, _, h⟩ | ⟨h0, u, v, rc, rr, rw_, vd, h1, h2, h3, h4⟩
  · rw [h]; simp
  · rw [h3]; exact h4.notW
theorem TQ.lt {w : World} {u : UB} {v : Value} {N : Int} {rc rr rw : Nat} {vd : Value} {s : QS} (h : TQ w u v N rc rr rw vd s) : ∀ k ∈ blkT u v rc rr rw vd, k < w.heap.size := fun k hk => by
  rcases List.mem_append.1 hk with hk | hk
  · exact h.q.lt k hk
  · exact h.d.lt k hk
theorem Qc.at.lt {c : Qc} {W : World} (h : c.at W) : ∀ k ∈ c.bs, k < W.heap.size := by
  rcases h with ⟨_, _, _, h⟩ | ⟨h0, u, v, rc, rr, rw_, vd, h1, h2, h3, h4⟩
  · rw [h]; simp
  · rw [h3]; exact h4.lt
theorem TQ.kept {S : List Nat} {w w' : World} {u : UB} {v : Value} {N : Int} {rc rr rw : Nat} {vd : Value} {s : QS} (h : TQ w u v N rc rr rw vd s) (hC : Chg S w w') (hS : ∀ k ∈ S, NotW w k ∧ k ∉ blkT u v rc rr rw vd) : TQ w' u v N rc rr rw vd s :=
  ⟨h.q.kept hC (fun k hm hn => (hS k hm).2 (List.mem_append.2 (.inl hn))), h.d.kept hC (fun k hm => ⟨fun hn => (hS k hm).2 (List.mem_append.2 (.inr hn)), (hS k hm).1⟩), h.ap⟩
theorem Qc.at.kept {S : List Nat} {c : Qc} {W W' : World} (h : c.at W) (hC : Chg S W W') (hS : ∀ k ∈ S, NotW W k ∧ k ∉ c.bs) : c.at W' := by
  rcases h with h | ⟨h0, u, v, rc, rr, rw_, vd, h1, h2, h3, h4⟩
  · exact .inl h
  · exact .inr ⟨h0, u, v, rc, rr, rw_, vd, h1, h2, h3, h4.kept hC (fun k hk => ⟨(hS k hk).1, by rw [← h3]; exact (hS k hk).2⟩)⟩
theorem Qc.at.some {c : Qc} {W : World} (h : c.at W) : (c.on = false ∧ c.px = none ∧ c.pr = none) ∨ (c.on = true ∧ ∃ a b, c.px = some a ∧ c.pr = some b) := by
  rcases h with ⟨a, b, c, _⟩ | ⟨h0, u, v, rc, rr, rw_, vd, h1, h2, _⟩
  · exact .inl ⟨a, b, c⟩
  · exact .inr ⟨h0, _, _, h1, h2⟩

/-- Two, apart from each other. -/
structure QQ (B : Nat) (W : World) (a b : Qc) : Prop where
  A : a.at W
  B2 : b.at W
  ab : ∀ x ∈ a.bs, x ∉ b.bs
  ga : ∀ x ∈ a.bs, B ≤ x
  gb : ∀ x ∈ b.bs, B ≤ x
theorem QQ.swap {B : Nat} {W : World} {a b : Qc} (h : QQ B W a b) : QQ B W b a := ⟨h.B2, h.A, fun x hx hy => h.ab x hy hx, h.gb, h.ga⟩
theorem QQ.calm {B : Nat} {W W' : World} {a b : Qc} (h : QQ B W a b) (hC : Chg [] W W') : QQ B W' a b := ⟨h.A.calm hC, h.B2.calm hC, h.ab, h.ga, h.gb⟩
theorem QQ.stepA {B : Nat} {W W' : World} {a b a' : Qc} (h : QQ B W a b) (hB : B ≤ W.heap.size) (ha : a'.at W') (hn : ∀ x ∈ a'.bs, x ∈ a.bs ∨ W.heap.size ≤ x) (hC : Chg a.bs W W') : QQ B W' a' b :=
  ⟨ha, h.B2.kept hC (fun k hk => ⟨h.A.notW k hk, h.ab k hk⟩), fun x hx hy => by rcases hn x hx with h1 | h1; exact h.ab x h1 hy; have := h.B2.lt x hy; omega, fun x hx => by rcases hn x hx with h1 | h1; exact h.ga x h1; omega, h.gb⟩
theorem QQ.chgA {B : Nat} {w W W' : World} {a b : Qc} (h : QQ B W a b) (hB : B = w.heap.size) (hG : Chg [] w W) (hC : Chg a.bs W W') : Chg [] w W' := hG.trans' hC (fun k hk => .inr (by have := h.ga k hk; omega))

def QcDo (c : Qc) (w : World) (e : Ending) (w' : World) : Prop :=
  ∃ c' : Qc, e = .returned (.tuple #[.pointer c'.px, .pointer c'.pr, .bool true]) ∧ c'.on = true ∧ c'.at w' ∧ (∀ x ∈ c'.bs, x ∈ c.bs ∨ w.heap.size ≤ x) ∧ c'.N ≤ c.N + 1 ∧ Chg c.bs w w'
theorem qcdo (c : Qc) (k t p a b : Int) (w : World) (h : c.at w) (hon : c.on = true) (hN : c.N < 4611686018427387900) :
    Calls Tryz.prog 7 #[.pointer c.px, .pointer c.pr, stepV k t p a b] w (QcDo c w) := by
  rcases h with ⟨h0, _⟩ | ⟨h0, u, v, rc, rr, rw_, vd, h1, h2, h3, h4⟩
  · rw [hon] at h0; cases h0
  rw [h1, h2]
  refine (do18c u v c.N rc rr rw_ vd c.s k t p a b w h4 hN).mono ?_
  rintro e w' ⟨u', v', vd', N', rfl, hN', hT, hC, hs⟩
  exact ⟨⟨true, some ⟨u'.q, 0, none⟩, some ⟨rc, 0, none⟩, blkT u' v' rc rr rw_ vd', N', _⟩, rfl, rfl, .inr ⟨rfl, u', v', rc, rr, rw_, vd', rfl, rfl, rfl, hT⟩, by rw [h3]; exact hs, hN', by rw [h3]; exact hC⟩

theorem qnewu (room : Int) (w : World) : Calls Tryz.prog 5 #[.int .i64 room] w fun e w' => ∃ (px : Option Addr) (r : Int), e = .returned (.tuple #[.pointer px, .int .i64 r]) ∧ Chg [] w w' ∧ ((px = none ∧ roomB room = false) ∨ (roomB room = true ∧ ∃ u : UB, px = some ⟨u.q, 0, none⟩ ∧ (∀ k ∈ u.l, w.heap.size ≤ k) ∧ UAt w' u (.slice none 0 0) 0 (qnew room))) := by
  cases hr : roomB room with
  | true =>
    refine (unewc room w hr).mono ?_
    rintro e w' ⟨u, rfl, h1, h2, h3⟩
    exact ⟨_, 0, rfl, h3, .inr ⟨rfl, u, rfl, h1, h2⟩⟩
  | false =>
    refine (unewno room w hr).mono ?_
    rintro e w' ⟨rfl, rfl⟩
    exact ⟨none, 2, rfl, Chg.refl _ _, .inl ⟨rfl, rfl⟩⟩
theorem qnewd (room : Int) (w : World) : Calls Tryz.prog 6 #[.int .i64 room] w fun e w' => ∃ (pr : Option Addr), e = .returned (.pointer pr) ∧ Chg [] w w' ∧ ((pr = none ∧ roomB room = false) ∨ (roomB room = true ∧ ∃ rc rr rw_, pr = some ⟨rc, 0, none⟩ ∧ (∀ k ∈ blkD rc rr rw_ (.slice none 0 0), w.heap.size ≤ k) ∧ DQ w' rc rr rw_ (.slice none 0 0) (qnew room))) := by
  cases hr : roomB room with
  | true =>
    refine (dqnewc room w hr).mono ?_
    rintro e w' ⟨rc, rr, rw_, rfl, h1, h2, h3⟩
    exact ⟨_, rfl, h3, .inr ⟨rfl, rc, rr, rw_, rfl, h1, h2⟩⟩
  | false =>
    refine (dqnewno room w hr).mono ?_
    rintro e w' ⟨rfl, rfl⟩
    exact ⟨none, rfl, Chg.refl _ _, .inl ⟨rfl, rfl⟩⟩
/-- A pair as it is made: the program's queue at world W1 (made from W0 on), the document's at world W3 (made from W2 on). -/
theorem qc_made {room : Int} {px pr : Option Addr} {W0 W1 W2 W3 W4 : World}
    (h1 : (px = none ∧ roomB room = false) ∨ (roomB room = true ∧ ∃ u : UB, px = some ⟨u.q, 0, none⟩ ∧ (∀ k ∈ u.l, W0.heap.size ≤ k) ∧ UAt W1 u (.slice none 0 0) 0 (qnew room))) (hC1 : Chg [] W1 W2)
    (h2 : (pr = none ∧ roomB room = false) ∨ (roomB room = true ∧ ∃ rc rr rw_, pr = some ⟨rc, 0, none⟩ ∧ (∀ k ∈ blkD rc rr rw_ (.slice none 0 0), W2.heap.size ≤ k) ∧ DQ W3 rc rr rw_ (.slice none 0 0) (qnew room))) (hC2 : Chg [] W2 W3) (hC3 : Chg [] W3 W4) :
    ∃ c : Qc, c.px = px ∧ c.pr = pr ∧ c.at W4 ∧ c.N = 0 ∧ c.s = qnew room ∧ (∀ x ∈ c.bs, (W0.heap.size ≤ x ∧ x < W1.heap.size) ∨ (W2.heap.size ≤ x ∧ x < W3.heap.size)) := by
  rcases h1 with ⟨rfl, h⟩ | ⟨h, u, rfl, g1, g2⟩
  · rcases h2 with ⟨rfl, _⟩ | ⟨h', _⟩
    · exact ⟨⟨false, none, none, [], 0, qnew room⟩, rfl, rfl, .inl ⟨rfl, rfl, rfl, rfl⟩, rfl, rfl, fun x hx => by (cases hx)⟩
    · rw [h] at h'; cases h'
  · rcases h2 with ⟨rfl, h'⟩ | ⟨_, rc, rr, rw_, rfl, k1, k2⟩
    · rw [h] at h'; cases h'
    · have hb : ∀ x ∈ blkU u (.slice none 0 0), W0.heap.size ≤ x ∧ x < W1.heap.size := fun x hx => ⟨by
        rcases List.mem_append.1 hx with h1 | h1
        · exact g1 x h1
        · simp [Value.ownBlock] at h1, g2.lt x hx⟩
      have hd : ∀ x ∈ blkD rc rr rw_ (.slice none 0 0), W2.heap.size ≤ x ∧ x < W3.heap.size := fun x hx => ⟨k1 x hx, k2.lt x hx⟩
      have hz := hC1.size
      refine ⟨⟨true, _, _, blkT u (.slice none 0 0) rc rr rw_ (.slice none 0 0), 0, qnew room⟩, rfl, rfl, .inr ⟨rfl, u, _, rc, rr, rw_, _, rfl, rfl, rfl, ⟨g2.calm (hC1.trans (hC2.trans hC3)), k2.calm hC3, fun k hk hm => ?_⟩⟩, rfl, rfl, fun x hx => ?_⟩
      · have h1 := hb k hk; have h2 := hd k hm; omega
      · rcases List.mem_append.1 hx with h1 | h1
        · exact .inl (hb x h1)
        · exact .inr (hd x h1)

/-- What Same tells of two. -/
def qcSame (a b : Qc) : Bool := if a.on = true then (if b.on = true then a.s.eqv b.s else false) else !b.on
theorem qcSame_self (a : Qc) : qcSame a a = true := by
  unfold qcSame
  cases a.on
  · rfl
  · simp [QS.eqv_refl]
theorem qcsameu (a b : Qc) (w : World) (ha : a.at w) (hb : b.at w) : Calls Tryz.prog 8 #[.pointer a.px, .pointer b.px] w fun e w' => e = .returned (.bool (qcSame a b)) ∧ Chg [] w w' := by
  unfold qcSame
  rcases ha with ⟨h0, h1, h2, h3⟩ | ⟨h0, u, v, rc, rr, rw_, vd, h1, h2, h3, h4⟩
  all_goals
    rcases hb with ⟨g0, g1, g2, g3⟩ | ⟨g0, u2, v2, rc2, rr2, rw2, vd2, g1, g2, g3, g4⟩
    all_goals rw [h0, h1, g0, g1]
  · exact usame_nn w
  · exact usame_ns u2 v2 b.N b.s w g4.q
  · exact usame_sn u v a.N a.s w h4.q
  · exact usamec u v a.N a.s u2 v2 b.N b.s w h4.q g4.q
theorem qcsamed (a b : Qc) (w : World) (ha : a.at w) (hb : b.at w) : Calls Tryz.prog 9 #[.pointer a.pr, .pointer b.pr] w fun e w' => e = .returned (.bool (qcSame a b)) ∧ Chg [] w w' := by
  unfold qcSame
  rcases ha with ⟨h0, h1, h2, h3⟩ | ⟨h0, u, v, rc, rr, rw_, vd, h1, h2, h3, h4⟩
  all_goals
    rcases hb with ⟨g0, g1, g2, g3⟩ | ⟨g0, u2, v2, rc2, rr2, rw2, vd2, g1, g2, g3, g4⟩
    all_goals rw [h0, h2, g0, g2]
  · exact dsame_nn w
  · exact dsame_ns _ w
  · exact dsame_sn _ w
  · exact dqsamec rc rr rw_ vd a.s rc2 rr2 rw2 vd2 b.s w h4.d g4.d

end Go.Proofs.YtiiafhlckmkcnaaGreat
