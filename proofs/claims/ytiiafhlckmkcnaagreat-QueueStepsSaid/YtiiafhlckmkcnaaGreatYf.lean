
/- metronomelaw18.do: one step on both (in work). -/
import Derived.Test.YtiiafhlckmkcnaaGreatYe
import Derived.Test.YtiiafhlckmkcnaaGreatUn
import Derived.Test.YtiiafhlckmkcnaaGreatVf
namespace Go.Proofs.YtiiafhlckmkcnaaGreat
open Go.RowKit

/-- A step, plain: kind, thread, priority, message. -/
def QS.doS (s : QS) (x : List Int) : QS :=
  match x with
  | [k, t, p, a, b] => if k = 1 then s.sendS t p (a, b) else if k = 2 then s.rcvS t p else if k = 3 then s.lvS t else if k = 4 then s.chS t p else s
  | _ => s
def blkT (u : UB) (v : Value) (rc rr rw : Nat) (vd : Value) : List Nat := blkU u v ++ blkD rc rr rw vd
/-- What do leaves: both, side by side. -/
def Do18P (u : UB) (v : Value) (N : Int) (rc rr rw : Nat) (vd : Value) (s' : QS) (w : World) (e : Ending) (w' : World) : Prop :=
  ∃ (u' : UB) (v' vd' : Value) (N' : Int), e = .returned (.tuple #[.pointer (some ⟨u'.q, 0, none⟩), .pointer (some ⟨rc, 0, none⟩), .bool true]) ∧ N' ≤ N + 1 ∧ TQ w' u' v' N' rc rr rw vd' s' ∧ Chg (blkT u v rc rr rw vd) w w' ∧
    ∀ k ∈ blkT u' v' rc rr rw vd', k ∈ blkT u v rc rr rw vd ∨ w.heap.size ≤ k
def stepV (k t p a b : Int) : Value := .agg #[.int .i64 k, .int .i64 t, .int .i64 p, .int .i64 a, .int .i64 b]
def stepB (k t p a b : Int) : Obj := .cells #[.int .i64 k, .int .i64 t, .int .i64 p, .int .i64 a, .int .i64 b] 35 (0, 0)

set_option maxRecDepth 100000 in
set_option maxHeartbeats 4000000 in
theorem do18_1 (u : UB) (v : Value) (N : Int) (rc rr rw : Nat) (vd : Value) (s : QS) (t p a b : Int) (w : World) (h : TQ w u v N rc rr rw vd s) (hN : N < 4611686018427387904) :
    Calls Tryz.prog 7 #[.pointer (some ⟨u.q, 0, none⟩), .pointer (some ⟨rc, 0, none⟩), stepV 1 t p a b] w (Do18P u v N rc rr rw vd (s.sendS t p (a, b)) w) := by
  obtain ⟨bs, hbs⟩ : ∃ bs, bs = w.heap.size := ⟨_, rfl⟩
  obtain ⟨w0, hw0⟩ : ∃ w0, w0 = w.alloc (stepB 1 t p a b) := ⟨_, rfl⟩
  have hC0 : Chg [] w w0 := by rw [hw0]; exact (Chg.refl _ _).alloc _
  have hs0 : w0.heap[bs]? = some (stepB 1 t p a b) := by rw [hw0, hbs]; exact heap_alloc_eq w _
  have h0 := h.calm hC0
  have e0 := cellB hs0 (i := 0) (v := .int .i64 1) rfl
  have e1 := cellB hs0 (i := 1) (v := .int .i64 t) rfl
  have e2 := cellB hs0 (i := 2) (v := .int .i64 p) rfl
  have e3 := cellB hs0 (i := 3) (v := .int .i64 a) rfl
  have e4 := cellB hs0 (i := 4) (v := .int .i64 b) rfl
  have hlq := h.q.lt
  have hld := h.d.lt
  have HS := Lib.hid (And.intro h0 (And.intro hs0 (And.intro hC0 (And.intro hlq (And.intro hld hbs)))))
  have HU := Lib.hid (usendc u v N s t p (a, b) w0 h0.q hN)
  have HD := Lib.hid (fun (W : World) (hd : DQ W rc rr rw vd s) => dqsendc rc rr rw vd s t p (a, b) W hd)
  obtain ⟨E, hE⟩ : ∃ E, E = s.askE t p b false := ⟨_, rfl⟩
  obtain ⟨⟨pd, pv, pp, po⟩, hP⟩ : ∃ P, P = s.sendP t p (a, b) := ⟨_, rfl⟩
  simp only at HU HD
  rw [← hE, ← hP] at HU
  simp only [← hE, ← hP] at HD
  have hq := fun W : World => (eqlP ⟨pd, pv, pp, po⟩ ⟨pd, pv, pp, po⟩ W).trans (by rw [PD.eqb_self])
  unfold pdV at hq
  clear h hC0 hs0 h0 hlq hld hE hP hN
  unfold stepV
  unfold stepB at hw0
  go_enter Tryz.func7, Tryz.ntmps7
  go_upto_region 1 with fail
  rw [← hbs, ← hw0]
  clear hbs hw0
  go_wp2_with fail
  refine HU.out.mono ?_
  intro e w1 hS
  obtain ⟨v1, rfl, hU1, hD1, hap1, hC1, hsub1⟩ := HS.out.1.stepQ hS
  have hs1 := hC1.blk HS.out.2.1 (fun hm => by have h1 := HS.out.2.2.2.1 _ hm; have h2 := HS.out.2.2.2.2.2; omega)
  obtain ⟨w1', hw1⟩ : ∃ w1', w1' = w1.alloc (pdB ⟨pd, pv, pp, po⟩) := ⟨_, rfl⟩
  obtain ⟨b9, hb9⟩ : ∃ b9, b9 = w1.heap.size := ⟨_, rfl⟩
  have hC1' : Chg [] w1 w1' := by rw [hw1]; exact (Chg.refl _ _).alloc _
  have hx9 : w1'.heap[b9]? = some (pdB ⟨pd, pv, pp, po⟩) := by rw [hw1, hb9]; exact heap_alloc_eq w1 _
  have hs1' := hC1'.blk hs1 (by simp)
  have e1 := cellB hs1' (i := 1) (v := .int .i64 t) rfl
  have e2 := cellB hs1' (i := 2) (v := .int .i64 p) rfl
  have e3 := cellB hs1' (i := 3) (v := .int .i64 a) rfl
  have e4 := cellB hs1' (i := 4) (v := .int .i64 b) rfl
  have H1 := Lib.hid (And.intro (hU1.calm hC1') (And.intro (hD1.calm hC1') (And.intro hap1 (And.intro hC1 (And.intro hsub1 (And.intro hC1' (And.intro hx9 hb9)))))))
  unfold pdB at hw1
  unfold pdV
  clear hU1 hD1 hap1 hC1 hsub1 hs1 hC1' hx9 hs1' hS
  go_upto_region 4 with fail
  rw [← hb9, ← hw1]
  clear hw1 hb9
  go_wp2_with fail
  refine (HD.out w1' H1.out.2.1).mono ?_
  intro e w2 hS2
  obtain ⟨vd2, rfl, hT2, hC2, hsub2⟩ := TQ.stepD H1.out.1 H1.out.2.2.1 hS2
  obtain ⟨w3, hw3⟩ : ∃ w3, w3 = w2.alloc (pdB ⟨pd, pv, pp, po⟩) := ⟨_, rfl⟩
  obtain ⟨b11, hb11⟩ : ∃ b11, b11 = w2.heap.size := ⟨_, rfl⟩
  have hC3 : Chg [] w2 w3 := by rw [hw3]; exact (Chg.refl _ _).alloc _
  have hx11 : w3.heap[b11]? = some (pdB ⟨pd, pv, pp, po⟩) := by rw [hw3, hb11]; exact heap_alloc_eq w2 _
  have hx9 := hC3.blk (hC2.blk H1.out.2.2.2.2.2.2.1 (fun hm => by
    have h1 := H1.out.2.2.2.2.2.2.2
    have h2 := HS.out.2.2.2.2.1 _ hm
    have h3 := HS.out.2.2.1.size
    have h4 := H1.out.2.2.2.1.size
    omega)) (by simp)
  have hsz1 := H1.out.2.2.2.1.size
  have hsz1' := H1.out.2.2.2.2.2.1.size
  have hsz0 := HS.out.2.2.1.size
  have H2 := Lib.hid (show Do18P u v N rc rr rw vd (s.sendS t p (a, b)) w (.returned (.tuple #[.pointer (some ⟨u.q, 0, none⟩), .pointer (some ⟨rc, 0, none⟩), .bool true])) w3 from
    ⟨u, v1, vd2, N + 1, rfl, Int.le_refl _, hT2.calm hC3,
      ((((HS.out.2.2.1.mono (by simp)).trans (H1.out.2.2.2.1.mono (fun k hk => .inl (List.mem_append.2 (.inl hk))))).trans (H1.out.2.2.2.2.2.1.mono (by simp))).trans (hC2.mono (fun k hk => .inl (List.mem_append.2 (.inr hk))))).trans (hC3.mono (by simp)), fun k hk => by
      rcases List.mem_append.1 hk with h1 | h1
      · rcases H1.out.2.2.2.2.1 k h1 with h2 | h2
        · exact .inl (List.mem_append.2 (.inl h2))
        · exact .inr (by omega)
      · rcases hsub2 k h1 with h2 | h2
        · exact .inl (List.mem_append.2 (.inr h2))
        · exact .inr (by omega)⟩)
  unfold pdV
  unfold pdB at hw3
  clear hS2 hT2 hC2 hsub2 hC3 hsz1 hsz1' hsz0 e0 e1 e2 e3 e4
  go_upto_region 5 with fail
  rw [← hb11, ← hw3]
  clear hw3 hb11
  have c0 := cellB hx9 (i := 0) (v := .bool pd) rfl
  have c1 := cellB hx9 (i := 1) (v := .int .i64 pv) rfl
  have c2 := cellB hx9 (i := 2) (v := .int .i64 pp) rfl
  have c3 := cellB hx9 (i := 3) (v := .int .i64 po) rfl
  have d0 := cellB hx11 (i := 0) (v := .bool pd) rfl
  have d1 := cellB hx11 (i := 1) (v := .int .i64 pv) rfl
  have d2 := cellB hx11 (i := 2) (v := .int .i64 pp) rfl
  have d3 := cellB hx11 (i := 3) (v := .int .i64 po) rfl
  have hEE : (E == E) = true := by simp
  clear hx9 hx11
  go_wp2_with (go_at_call 11; refine (unumc _ _).mono ?_; rintro e w' ⟨rfl, rfl⟩)
  go_ret3
  exact H2.out

set_option maxRecDepth 100000 in
set_option maxHeartbeats 4000000 in
theorem do18_2 (u : UB) (v : Value) (N : Int) (rc rr rw : Nat) (vd : Value) (s : QS) (t p a b : Int) (w : World) (h : TQ w u v N rc rr rw vd s) (hN : N < 4611686018427387904) :
    Calls Tryz.prog 7 #[.pointer (some ⟨u.q, 0, none⟩), .pointer (some ⟨rc, 0, none⟩), stepV 2 t p a b] w (Do18P u v N rc rr rw vd (s.rcvS t p) w) := by
  obtain ⟨bs, hbs⟩ : ∃ bs, bs = w.heap.size := ⟨_, rfl⟩
  obtain ⟨w0, hw0⟩ : ∃ w0, w0 = w.alloc (stepB 2 t p a b) := ⟨_, rfl⟩
  have hC0 : Chg [] w w0 := by rw [hw0]; exact (Chg.refl _ _).alloc _
  have hs0 : w0.heap[bs]? = some (stepB 2 t p a b) := by rw [hw0, hbs]; exact heap_alloc_eq w _
  have h0 := h.calm hC0
  have e0 := cellB hs0 (i := 0) (v := .int .i64 2) rfl
  have e1 := cellB hs0 (i := 1) (v := .int .i64 t) rfl
  have e2 := cellB hs0 (i := 2) (v := .int .i64 p) rfl
  have hlq := h.q.lt
  have hld := h.d.lt
  have HS := Lib.hid (And.intro h0 (And.intro hs0 (And.intro hC0 (And.intro hlq (And.intro hld hbs)))))
  have HU := Lib.hid (urcvc u v N s t p w0 h0.q hN)
  have HD := Lib.hid (fun (W : World) (hd : DQ W rc rr rw vd s) => dqrcvc rc rr rw vd s t p W hd)
  obtain ⟨E, hE⟩ : ∃ E, E = s.askE t p 0 false := ⟨_, rfl⟩
  obtain ⟨⟨pd, pv, pp, po⟩, hP⟩ : ∃ P, P = s.rcvP t p := ⟨_, rfl⟩
  rw [← hE, ← hP] at HU
  simp only [← hE, ← hP] at HD
  have hq := fun W : World => (eqlP ⟨pd, pv, pp, po⟩ ⟨pd, pv, pp, po⟩ W).trans (by rw [PD.eqb_self])
  unfold pdV at hq
  clear h hC0 hs0 h0 hlq hld hE hP hN
  unfold stepV
  unfold stepB at hw0
  go_enter Tryz.func7, Tryz.ntmps7
  go_upto_region 1 with fail
  rw [← hbs, ← hw0]
  clear hbs hw0
  go_wp2_with fail
  refine HU.out.mono ?_
  intro e w1 hS
  obtain ⟨v1, rfl, hU1, hD1, hap1, hC1, hsub1⟩ := HS.out.1.stepQ hS
  have hs1 := hC1.blk HS.out.2.1 (fun hm => by have h1 := HS.out.2.2.2.1 _ hm; have h2 := HS.out.2.2.2.2.2; omega)
  obtain ⟨w1', hw1⟩ : ∃ w1', w1' = w1.alloc (pdB ⟨pd, pv, pp, po⟩) := ⟨_, rfl⟩
  obtain ⟨b9, hb9⟩ : ∃ b9, b9 = w1.heap.size := ⟨_, rfl⟩
  have hC1' : Chg [] w1 w1' := by rw [hw1]; exact (Chg.refl _ _).alloc _
  have hx9 : w1'.heap[b9]? = some (pdB ⟨pd, pv, pp, po⟩) := by rw [hw1, hb9]; exact heap_alloc_eq w1 _
  have hs1' := hC1'.blk hs1 (by simp)
  have e1 := cellB hs1' (i := 1) (v := .int .i64 t) rfl
  have e2 := cellB hs1' (i := 2) (v := .int .i64 p) rfl
  have H1 := Lib.hid (And.intro (hU1.calm hC1') (And.intro (hD1.calm hC1') (And.intro hap1 (And.intro hC1 (And.intro hsub1 (And.intro hC1' (And.intro hx9 hb9)))))))
  unfold pdB at hw1
  unfold pdV
  clear hU1 hD1 hap1 hC1 hsub1 hs1 hC1' hx9 hs1' hS
  go_upto_region 8 with fail
  rw [← hb9, ← hw1]
  clear hw1 hb9
  go_wp2_with fail
  refine (HD.out w1' H1.out.2.1).mono ?_
  intro e w2 hS2
  obtain ⟨vd2, rfl, hT2, hC2, hsub2⟩ := TQ.stepD H1.out.1 H1.out.2.2.1 hS2
  obtain ⟨w3, hw3⟩ : ∃ w3, w3 = w2.alloc (pdB ⟨pd, pv, pp, po⟩) := ⟨_, rfl⟩
  obtain ⟨b11, hb11⟩ : ∃ b11, b11 = w2.heap.size := ⟨_, rfl⟩
  have hC3 : Chg [] w2 w3 := by rw [hw3]; exact (Chg.refl _ _).alloc _
  have hx11 : w3.heap[b11]? = some (pdB ⟨pd, pv, pp, po⟩) := by rw [hw3, hb11]; exact heap_alloc_eq w2 _
  have hx9 := hC3.blk (hC2.blk H1.out.2.2.2.2.2.2.1 (fun hm => by
    have h1 := H1.out.2.2.2.2.2.2.2
    have h2 := HS.out.2.2.2.2.1 _ hm
    have h3 := HS.out.2.2.1.size
    have h4 := H1.out.2.2.2.1.size
    omega)) (by simp)
  have hsz1 := H1.out.2.2.2.1.size
  have hsz1' := H1.out.2.2.2.2.2.1.size
  have hsz0 := HS.out.2.2.1.size
  have H2 := Lib.hid (show Do18P u v N rc rr rw vd (s.rcvS t p) w (.returned (.tuple #[.pointer (some ⟨u.q, 0, none⟩), .pointer (some ⟨rc, 0, none⟩), .bool true])) w3 from
    ⟨u, v1, vd2, N + 1, rfl, Int.le_refl _, hT2.calm hC3,
      ((((HS.out.2.2.1.mono (by simp)).trans (H1.out.2.2.2.1.mono (fun k hk => .inl (List.mem_append.2 (.inl hk))))).trans (H1.out.2.2.2.2.2.1.mono (by simp))).trans (hC2.mono (fun k hk => .inl (List.mem_append.2 (.inr hk))))).trans (hC3.mono (by simp)), fun k hk => by
      rcases List.mem_append.1 hk with h1 | h1
      · rcases H1.out.2.2.2.2.1 k h1 with h2 | h2
        · exact .inl (List.mem_append.2 (.inl h2))
        · exact .inr (by omega)
      · rcases hsub2 k h1 with h2 | h2
        · exact .inl (List.mem_append.2 (.inr h2))
        · exact .inr (by omega)⟩)
  unfold pdV
  unfold pdB at hw3
  clear hS2 hT2 hC2 hsub2 hC3 hsz1 hsz1' hsz0 e0 e1 e2
  go_upto_region 9 with fail
  rw [← hb11, ← hw3]
  clear hw3 hb11
  have c0 := cellB hx9 (i := 0) (v := .bool pd) rfl
  have c1 := cellB hx9 (i := 1) (v := .int .i64 pv) rfl
  have c2 := cellB hx9 (i := 2) (v := .int .i64 pp) rfl
  have c3 := cellB hx9 (i := 3) (v := .int .i64 po) rfl
  have d0 := cellB hx11 (i := 0) (v := .bool pd) rfl
  have d1 := cellB hx11 (i := 1) (v := .int .i64 pv) rfl
  have d2 := cellB hx11 (i := 2) (v := .int .i64 pp) rfl
  have d3 := cellB hx11 (i := 3) (v := .int .i64 po) rfl
  have hEE : (E == E) = true := by simp
  clear hx9 hx11
  go_wp2_with (go_at_call 11; refine (unumc _ _).mono ?_; rintro e w' ⟨rfl, rfl⟩)
  go_ret3
  exact H2.out

set_option maxRecDepth 100000 in
theorem do18_0 (u : UB) (v : Value) (N : Int) (rc rr rw : Nat) (vd : Value) (s : QS) (k t p a b : Int) (w : World) (h : TQ w u v N rc rr rw vd s) (h1 : (k == 1) = false) (h2 : (k == 2) = false) (h3 : (k == 3) = false) (h4 : (k == 4) = false) (h5 : (k == 5) = false) :
    Calls Tryz.prog 7 #[.pointer (some ⟨u.q, 0, none⟩), .pointer (some ⟨rc, 0, none⟩), stepV k t p a b] w (Do18P u v N rc rr rw vd s w) := by
  obtain ⟨bs, hbs⟩ : ∃ bs, bs = w.heap.size := ⟨_, rfl⟩
  obtain ⟨w0, hw0⟩ : ∃ w0, w0 = w.alloc (stepB k t p a b) := ⟨_, rfl⟩
  have hC0 : Chg [] w w0 := by rw [hw0]; exact (Chg.refl _ _).alloc _
  have hs0 : w0.heap[bs]? = some (stepB k t p a b) := by rw [hw0, hbs]; exact heap_alloc_eq w _
  have e0 := cellB hs0 (i := 0) (v := .int .i64 k) rfl
  have HQ := Lib.hid (show Do18P u v N rc rr rw vd s w (.returned (.tuple #[.pointer (some ⟨u.q, 0, none⟩), .pointer (some ⟨rc, 0, none⟩), .bool true])) w0 from
    ⟨u, v, vd, N, rfl, by omega, h.calm hC0, hC0.mono (by simp), fun j hj => .inl hj⟩)
  clear h hC0 hs0
  unfold stepV
  unfold stepB at hw0
  go_enter Tryz.func7, Tryz.ntmps7
  go_upto_region 1 with fail
  rw [← hbs, ← hw0]
  clear hbs hw0
  go_wp2
  go_ret3
  exact HQ.out

end Go.Proofs.YtiiafhlckmkcnaaGreat
