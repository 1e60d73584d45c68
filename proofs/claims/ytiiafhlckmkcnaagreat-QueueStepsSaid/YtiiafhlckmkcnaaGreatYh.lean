
/- metronomelaw18.do: kinds 3 and 4 (two orders). -/
import Derived.Test.YtiiafhlckmkcnaaGreatYg
namespace Go.Proofs.YtiiafhlckmkcnaaGreat
open Go.RowKit

/-- Both on their way, each in a state of its own. -/
structure ST (w0 w : World) (B0 : List Nat) (u : UB) (v : Value) (N : Int) (sU : QS) (rc rr rw : Nat) (vd : Value) (sD : QS) : Prop where
  q : UAt w u v N sU
  d : DQ w rc rr rw vd sD
  ap : ∀ k ∈ blkU u v, k ∉ blkD rc rr rw vd
  c : Chg B0 w0 w
  sub : ∀ k ∈ blkT u v rc rr rw vd, k ∈ B0 ∨ w0.heap.size ≤ k
section
variable {w0 w w1 : World} {B0 : List Nat} {u : UB} {v : Value} {N N' : Int} {rc rr rw : Nat} {vd : Value} {sU sU' sD sD' : QS} {r : Value} {e : Ending}
theorem ST.calm (h : ST w0 w B0 u v N sU rc rr rw vd sD) (hC : Chg [] w w1) : ST w0 w1 B0 u v N sU rc rr rw vd sD := ⟨h.q.calm hC, h.d.calm hC, h.ap, h.c.trans (hC.mono (by simp)), h.sub⟩
theorem ST.stepQ (h : ST w0 w B0 u v N sU rc rr rw vd sD) (hS : StepP u v N' sU' r w e w1) : ∃ v', e = .returned r ∧ ST w0 w1 B0 u v' N' sU' rc rr rw vd sD ∧ Chg (blkU u v) w w1 := by
  obtain ⟨v', he, hU, hC, hB⟩ := hS
  have hz := h.c.size
  have hsub : ∀ k ∈ blkU u v', k ∈ blkU u v ∨ w.heap.size ≤ k := fun k hk => by
    rcases List.mem_append.1 hk with h1 | h1
    · exact .inl (List.mem_append.2 (.inl h1))
    · rcases hB.sub k h1 with h2 | h2
      · exact .inl (List.mem_append.2 (.inr h2))
      · exact .inr h2
  refine ⟨v', he, ⟨hU, h.d.kept hC (fun k hk => ⟨h.ap k hk, h.q.notW k hk⟩), fun k hk hm => ?_, h.c.trans' hC (fun k hk => h.sub k (List.mem_append.2 (.inl hk))), fun k hk => ?_⟩, hC⟩
  · rcases hsub k hk with h1 | h1
    · exact h.ap k h1 hm
    · have := h.d.lt k hm; omega
  · rcases List.mem_append.1 hk with h1 | h1
    · rcases hsub k h1 with h2 | h2
      · exact h.sub k (List.mem_append.2 (.inl h2))
      · exact .inr (by omega)
    · exact h.sub k (List.mem_append.2 (.inr h1))
theorem ST.stepD (h : ST w0 w B0 u v N sU rc rr rw vd sD) (hS : DStepP rc rr rw vd sD' r w e w1) : ∃ vd', e = .returned r ∧ ST w0 w1 B0 u v N sU rc rr rw vd' sD' ∧ Chg (blkD rc rr rw vd) w w1 := by
  obtain ⟨vd', he, hD', hC, hB⟩ := hS
  have hz := h.c.size
  have hsub : ∀ k ∈ blkD rc rr rw vd', k ∈ blkD rc rr rw vd ∨ w.heap.size ≤ k := fun k hk => by
    rcases List.mem_append.1 hk with h1 | h1
    · exact .inl (List.mem_append.2 (.inl h1))
    · rcases hB k h1 with h2 | h2
      · exact .inl (List.mem_append.2 (.inr h2))
      · exact .inr h2
  refine ⟨vd', he, ⟨h.q.kept hC (fun k hk hm => h.ap k hm hk), hD', fun k hk hm => ?_, h.c.trans' hC (fun k hk => h.sub k (List.mem_append.2 (.inr hk))), fun k hk => ?_⟩, hC⟩
  · rcases hsub k hm with h1 | h1
    · exact h.ap k hk h1
    · have := h.q.lt k hk; omega
  · rcases List.mem_append.1 hk with h1 | h1
    · exact h.sub k (List.mem_append.2 (.inl h1))
    · rcases hsub k h1 with h2 | h2
      · exact h.sub k (List.mem_append.2 (.inr h2))
      · exact .inr (by omega)
theorem ST.cell (h : ST w0 w B0 u v N sU rc rr rw vd sD) {b : Nat} {o : Obj} (hb : w0.heap[b]? = some o) (hB : b ∉ B0) : w.heap[b]? = some o := h.c.blk hb hB
end

set_option maxRecDepth 100000 in
set_option maxHeartbeats 4000000 in
theorem do18_3 (u : UB) (v : Value) (N : Int) (rc rr rw : Nat) (vd : Value) (s : QS) (t p a b : Int) (w : World) (h : TQ w u v N rc rr rw vd s) :
    Calls Tryz.prog 7 #[.pointer (some ⟨u.q, 0, none⟩), .pointer (some ⟨rc, 0, none⟩), stepV 3 t p a b] w (Do18P u v N rc rr rw vd (s.lvS t) w) := by
  obtain ⟨bs, hbs⟩ : ∃ bs, bs = w.heap.size := ⟨_, rfl⟩
  obtain ⟨w0, hw0⟩ : ∃ w0, w0 = w.alloc (stepB 3 t p a b) := ⟨_, rfl⟩
  have hC0 : Chg [] w w0 := by rw [hw0]; exact (Chg.refl _ _).alloc _
  have hs0 : w0.heap[bs]? = some (stepB 3 t p a b) := by rw [hw0, hbs]; exact heap_alloc_eq w _
  have e0 := cellB hs0 (i := 0) (v := .int .i64 3) rfl
  have e1 := cellB hs0 (i := 1) (v := .int .i64 t) rfl
  have hT := h.calm (hC0.trans ((Chg.refl [] w0).drew))
  have HT := Lib.hid (show ST w w0.drew (blkT u v rc rr rw vd) u v N s rc rr rw vd s from ⟨hT.q, hT.d, hT.ap, (hC0.trans ((Chg.refl [] w0).drew)).mono (by simp), fun k hk => .inl hk⟩)
  have hnb : bs ∉ blkU u v ∧ bs ∉ blkD rc rr rw vd := ⟨fun hm => by have := h.q.lt _ hm; omega, fun hm => by have := h.d.lt _ hm; omega⟩
  have HS := Lib.hid (And.intro hs0 hnb)
  have HCU := Lib.hid (fun (W : World) (hq : UAt W u v N s) => uleavec u v N s t W hq)
  have HCD := Lib.hid (fun (W : World) (hq : DQ W rc rr rw vd s) => dqleavec rc rr rw vd s t W hq)
  obtain ⟨E, hE⟩ : ∃ E, E = s.askE t 1 0 true := ⟨_, rfl⟩
  simp only [← hE] at HCU HCD
  have hEE : (E == E) = true := by simp
  clear h hC0 hs0 hT hnb hE
  unfold stepV
  unfold stepB at hw0
  go_enter Tryz.func7, Tryz.ntmps7
  go_upto_region 1 with fail
  rw [← hbs, ← hw0]
  clear hbs hw0
  go_wp2
  go_region_held3 (fun w' => w'.cell? ⟨bs, 1, none⟩ = some (.int .i64 t)) (first | exact e1 | exact x1 | exact y1)
    (first
    | (go_at_call 18; refine (HCU.out _ HT.out.q).mono ?_; intro e w1 hS; obtain ⟨v1, rfl, hT1, hC1⟩ := HT.out.stepQ hS; clear hS; have hb1 := hC1.blk HS.out.1 HS.out.2.1; have x1 := cellB hb1 (i := 1) (v := .int .i64 t) rfl)
    | (go_at_call 11; refine (unumc _ _).mono ?_; rintro e w' ⟨rfl, rfl⟩)
    | (go_at_call 19; refine (HCD.out _ hT1.d).mono ?_; intro e w2 hS; obtain ⟨vd2, rfl, hT2, hC2⟩ := hT1.stepD hS; clear hS; have hb2 := hC2.blk hb1 HS.out.2.2; have y1 := cellB hb2 (i := 1) (v := .int .i64 t) rfl))
  have HF := Lib.hid hT2
  clear hT1 hT2 hC1 hC2 hb1 hb2
  go_wp2
  go_ret3
  exact ⟨u, _, _, N + 1, rfl, Int.le_refl _, ⟨HF.out.q, HF.out.d, HF.out.ap⟩, HF.out.c, HF.out.sub⟩

set_option maxRecDepth 100000 in
set_option maxHeartbeats 4000000 in
theorem do18_4 (u : UB) (v : Value) (N : Int) (rc rr rw : Nat) (vd : Value) (s : QS) (t p a b : Int) (w : World) (h : TQ w u v N rc rr rw vd s) :
    Calls Tryz.prog 7 #[.pointer (some ⟨u.q, 0, none⟩), .pointer (some ⟨rc, 0, none⟩), stepV 4 t p a b] w (Do18P u v N rc rr rw vd (s.chS t p) w) := by
  obtain ⟨bs, hbs⟩ : ∃ bs, bs = w.heap.size := ⟨_, rfl⟩
  obtain ⟨w0, hw0⟩ : ∃ w0, w0 = w.alloc (stepB 4 t p a b) := ⟨_, rfl⟩
  have hC0 : Chg [] w w0 := by rw [hw0]; exact (Chg.refl _ _).alloc _
  have hs0 : w0.heap[bs]? = some (stepB 4 t p a b) := by rw [hw0, hbs]; exact heap_alloc_eq w _
  have e0 := cellB hs0 (i := 0) (v := .int .i64 4) rfl
  have e1 := cellB hs0 (i := 1) (v := .int .i64 t) rfl; have e2 := cellB hs0 (i := 2) (v := .int .i64 p) rfl
  have hT := h.calm (hC0.trans ((Chg.refl [] w0).drew))
  have HT := Lib.hid (show ST w w0.drew (blkT u v rc rr rw vd) u v N s rc rr rw vd s from ⟨hT.q, hT.d, hT.ap, (hC0.trans ((Chg.refl [] w0).drew)).mono (by simp), fun k hk => .inl hk⟩)
  have hnb : bs ∉ blkU u v ∧ bs ∉ blkD rc rr rw vd := ⟨fun hm => by have := h.q.lt _ hm; omega, fun hm => by have := h.d.lt _ hm; omega⟩
  have HS := Lib.hid (And.intro hs0 hnb)
  have HCU := Lib.hid (fun (W : World) (hq : UAt W u v N s) => uchc u v N s t p W hq)
  have HCD := Lib.hid (fun (W : World) (hq : DQ W rc rr rw vd s) => dqchangec rc rr rw vd s t p W hq)
  obtain ⟨E, hE⟩ : ∃ E, E = s.askE t p 0 true := ⟨_, rfl⟩
  simp only [← hE] at HCU HCD
  have hEE : (E == E) = true := by simp
  clear h hC0 hs0 hT hnb hE
  unfold stepV
  unfold stepB at hw0
  go_enter Tryz.func7, Tryz.ntmps7
  go_upto_region 1 with fail
  rw [← hbs, ← hw0]
  clear hbs hw0
  go_wp2
  go_region_held3 (fun w' => w'.cell? ⟨bs, 1, none⟩ = some (.int .i64 t) ∧ w'.cell? ⟨bs, 2, none⟩ = some (.int .i64 p)) (first | exact ⟨e1, e2⟩ | exact ⟨x1, x2⟩ | exact ⟨y1, y2⟩)
    (first
    | (go_at_call 20; refine (HCU.out _ HT.out.q).mono ?_; intro e w1 hS; obtain ⟨v1, rfl, hT1, hC1⟩ := HT.out.stepQ hS; clear hS; have hb1 := hC1.blk HS.out.1 HS.out.2.1; have x1 := cellB hb1 (i := 1) (v := .int .i64 t) rfl; have x2 := cellB hb1 (i := 2) (v := .int .i64 p) rfl)
    | (go_at_call 11; refine (unumc _ _).mono ?_; rintro e w' ⟨rfl, rfl⟩)
    | (go_at_call 21; refine (HCD.out _ hT1.d).mono ?_; intro e w2 hS; obtain ⟨vd2, rfl, hT2, hC2⟩ := hT1.stepD hS; clear hS; have hb2 := hC2.blk hb1 HS.out.2.2; have y1 := cellB hb2 (i := 1) (v := .int .i64 t) rfl; have y2 := cellB hb2 (i := 2) (v := .int .i64 p) rfl))
  have HF := Lib.hid hT2
  clear hT1 hT2 hC1 hC2 hb1 hb2
  go_wp2
  go_ret3
  exact ⟨u, _, _, N + 1, rfl, Int.le_refl _, ⟨HF.out.q, HF.out.d, HF.out.ap⟩, HF.out.c, HF.out.sub⟩

/-- One step on both, whatever its kind. -/
theorem do18c (u : UB) (v : Value) (N : Int) (rc rr rw : Nat) (vd : Value) (s : QS) (k t p a b : Int) (w : World) (h : TQ w u v N rc rr rw vd s) (hN : N < 4611686018427387900) :
    Calls Tryz.prog 7 #[.pointer (some ⟨u.q, 0, none⟩), .pointer (some ⟨rc, 0, none⟩), stepV k t p a b] w (Do18P u v N rc rr rw vd (s.doS [k, t, p, a, b]) w) := by
  unfold QS.doS
  simp only
  by_cases h1 : k = 1
  · subst h1
    rw [if_pos rfl]
    exact do18_1 u v N rc rr rw vd s t p a b w h (by omega)
  rw [if_neg h1]
  by_cases h2 : k = 2
  · subst h2
    rw [if_pos rfl]
    exact do18_2 u v N rc rr rw vd s t p a b w h (by omega)
  rw [if_neg h2]
  by_cases h3 : k = 3
  · subst h3
    rw [if_pos rfl]
    exact do18_3 u v N rc rr rw vd s t p a b w h
  rw [if_neg h3]
  by_cases h4 : k = 4
  · subst h4
    rw [if_pos rfl]
    exact do18_4 u v N rc rr rw vd s t p a b w h
  rw [if_neg h4]
  by_cases h5 : k = 5
  · subst h5
    exact do18_5 u v N rc rr rw vd s t p a b w h hN
  exact do18_0 u v N rc rr rw vd s k t p a b w h (by simpa using h1) (by simpa using h2) (by simpa using h3) (by simpa using h4) (by simpa using h5)

end Go.Proofs.YtiiafhlckmkcnaaGreat
