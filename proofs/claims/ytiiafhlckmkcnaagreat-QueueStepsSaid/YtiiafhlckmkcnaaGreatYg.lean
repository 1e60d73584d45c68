
/- metronomelaw18.do: a copy beside the old queue (in work). -/
import Derived.Test.YtiiafhlckmkcnaaGreatYf
namespace Go.Proofs.YtiiafhlckmkcnaaGreat
open Go.RowKit

/-- A step of a queue beside others. -/
theorem UAt.beside {w w1 : World} {u u2 : UB} {v v2 : Value} {N N' N2 : Int} {rc rr rw : Nat} {vd : Value} {s s' s2 : QS} {r : Value} {e : Ending} (h : UAt w u v N s) (hS : StepP u v N' s' r w e w1)
    (hk : TQ w u2 v2 N2 rc rr rw vd s2) (hd : ∀ k ∈ blkU u v, k ∉ blkT u2 v2 rc rr rw vd) :
    ∃ v1, e = .returned r ∧ UAt w1 u v1 N' s' ∧ TQ w1 u2 v2 N2 rc rr rw vd s2 ∧ (∀ k ∈ blkU u v1, k ∉ blkT u2 v2 rc rr rw vd) ∧ Chg (blkU u v) w w1 ∧ (∀ k ∈ blkU u v1, k ∈ blkU u v ∨ w.heap.size ≤ k) := by
  obtain ⟨v', he, hU, hC, hB⟩ := hS
  have hsub : ∀ k ∈ blkU u v', k ∈ blkU u v ∨ w.heap.size ≤ k := fun k hk => by
    rcases List.mem_append.1 hk with h1 | h1
    · exact .inl (List.mem_append.2 (.inl h1))
    · rcases hB.sub k h1 with h2 | h2
      · exact .inl (List.mem_append.2 (.inr h2))
      · exact .inr h2
  refine ⟨v', he, hU, ⟨hk.q.kept hC (fun k hm hn => hd k hm (List.mem_append.2 (.inl hn))), hk.d.kept hC (fun k hm => ⟨fun hn => hd k hm (List.mem_append.2 (.inr hn)), h.notW k hm⟩), hk.ap⟩, fun k hm hn => ?_, hC, hsub⟩
  rcases hsub k hm with h1 | h1
  · exact hd k h1 hn
  · rcases List.mem_append.1 hn with h2 | h2
    · have := hk.q.lt k h2; omega
    · have := hk.d.lt k h2; omega

theorem eqv_copy (s : QS) : s.eqv s = true := QS.eqv_refl s
set_option maxRecDepth 100000 in
set_option maxHeartbeats 4000000 in
theorem do18_5 (u : UB) (v : Value) (N : Int) (rc rr rw : Nat) (vd : Value) (s : QS) (t p a b : Int) (w : World) (h : TQ w u v N rc rr rw vd s) (hN : N < 4611686018427387900) :
    Calls Tryz.prog 7 #[.pointer (some ⟨u.q, 0, none⟩), .pointer (some ⟨rc, 0, none⟩), stepV 5 t p a b] w (Do18P u v N rc rr rw vd s w) := by
  obtain ⟨bs, hbs⟩ : ∃ bs, bs = w.heap.size := ⟨_, rfl⟩
  obtain ⟨w0, hw0⟩ : ∃ w0, w0 = w.alloc (stepB 5 t p a b) := ⟨_, rfl⟩
  have hC0 : Chg [] w w0 := by rw [hw0]; exact (Chg.refl _ _).alloc _
  have hs0 : w0.heap[bs]? = some (stepB 5 t p a b) := by rw [hw0, hbs]; exact heap_alloc_eq w _
  have e0 := cellB hs0 (i := 0) (v := .int .i64 5) rfl
  have HS := Lib.hid (And.intro (h.calm hC0) (And.intro hC0 hN))
  clear h hC0 hs0 hN
  unfold stepV
  unfold stepB at hw0
  go_enter Tryz.func7, Tryz.ntmps7
  go_upto_region 1 with fail
  rw [← hbs, ← hw0]
  clear hbs hw0
  go_wp2_with fail
  refine (ucopyc u v N s w0 HS.out.1.q).mono ?_
  rintro e w1 ⟨u2, v2, rfl, hg, hU, hC1⟩
  have hT := HS.out.1.calm hC1
  have hT2 : TQ w1 u2 v2 N rc rr rw vd s := ⟨hU, hT.d, fun k hk hm => by have h1 := hg k hk; have h2 := HS.out.1.d.lt k hm; omega⟩
  have hd : ∀ k ∈ blkU u v, k ∉ blkT u2 v2 rc rr rw vd := fun k hk hm => by
    rcases List.mem_append.1 hm with h1 | h1
    · have h2 := hg k h1; have h3 := HS.out.1.q.lt k hk; omega
    · exact HS.out.1.ap k hk h1
  have hsm := usamec u2 v2 N s u v N s w1 hU hT.q
  rw [eqv_copy] at hsm
  have HSm := Lib.hid hsm
  have H1 := Lib.hid (And.intro hT.q (And.intro hT2 (And.intro hd (And.intro hC1 hg))))
  clear hT hT2 hd hC1 hg hU hsm e0
  go_wp2_with fail
  refine HSm.out.mono ?_
  rintro e w2 ⟨rfl, hC2⟩
  go_wp2_with fail
  refine (umsgc 99 31 w2).mono ?_
  rintro e w3 ⟨rfl, hC3⟩
  have hC13 := hC2.trans hC3
  have H3 := Lib.hid (And.intro (H1.out.1.calm hC13) (And.intro (H1.out.2.1.calm hC13) hC13))
  clear hC2 hC3 hC13
  go_wp2_with fail
  refine (usendc u v N s 15 31 (99, 31) w3 H3.out.1 (by have := HS.out.2.2; omega)).mono ?_
  intro e w4 hS
  obtain ⟨v4, rfl, hU4, hT4, hd4, hC4, hs4⟩ := H3.out.1.beside hS H3.out.2.1 H1.out.2.2.1
  have H4 := Lib.hid (And.intro hU4 (And.intro hT4 (And.intro hd4 (And.intro hC4 hs4))))
  clear hS hU4 hT4 hd4 hC4 hs4
  go_wp2_with fail
  refine (urcvc u v4 _ _ 14 31 w4 H4.out.1 (by have := HS.out.2.2; omega)).mono ?_
  intro e w5 hS
  obtain ⟨v5, rfl, hU5, hT5, hd5, hC5, hs5⟩ := H4.out.1.beside hS H4.out.2.1 H4.out.2.2.1
  have H5 := Lib.hid (And.intro hU5 (And.intro hT5 (And.intro hd5 (And.intro hC5 hs5))))
  clear hS hU5 hT5 hd5 hC5 hs5
  go_wp2_with fail
  refine (uleavec u v5 _ _ 1 w5 H5.out.1).mono ?_
  intro e w6 hS
  obtain ⟨v6, rfl, hU6, hT6, hd6, hC6, hs6⟩ := H5.out.1.beside hS H5.out.2.1 H5.out.2.2.1
  have hz0 := HS.out.2.1.size
  have hz1 := H1.out.2.2.2.1.size
  have hz3 := H3.out.2.2.size
  have hz4 := H4.out.2.2.2.1.size
  have hC04 : Chg (blkU u v) w w4 := (((HS.out.2.1.trans H1.out.2.2.2.1).trans H3.out.2.2).mono (by simp)).trans H4.out.2.2.2.1
  have hC05 := hC04.trans' H5.out.2.2.2.1 (fun k hk => (H4.out.2.2.2.2 k hk).imp id (fun hh => by omega))
  have hC06 := hC05.trans' hC6 (fun k hk => by
    rcases H5.out.2.2.2.2 k hk with h1 | h1
    · exact (H4.out.2.2.2.2 k h1).imp id (fun hh => by omega)
    · exact .inr (by omega))
  have HF := Lib.hid (show Do18P u v N rc rr rw vd s w (.returned (.tuple #[.pointer (some ⟨u2.q, 0, none⟩), .pointer (some ⟨rc, 0, none⟩), .bool true])) w6 from
    ⟨u2, v2, vd, N, rfl, by omega, hT6, hC06.mono (fun k hk => .inl (List.mem_append.2 (.inl hk))), fun k hk => by
      rcases List.mem_append.1 hk with h1 | h1
      · exact .inr (by have := H1.out.2.2.2.2 k h1; omega)
      · exact .inl (List.mem_append.2 (.inr h1))⟩)
  clear hS hU6 hT6 hd6 hC6 hs6 hC04 hC05 hC06 hz0 hz1 hz3 hz4
  go_wp2
  go_ret3
  exact HF.out

end Go.Proofs.YtiiafhlckmkcnaaGreat
