
/- Queue.Copy: contract. -/
import Derived.Test.YtiiafhlckmkcnaaGreatVc
import Derived.Test.YtiiafhlckmkcnaaGreatWk
import Derived.Deep.RegionHeld3
namespace Go.Proofs.YtiiafhlckmkcnaaGreat
open Go.RowKit

def UCopyP (N : Int) (s : QS) (w : World) (e : Ending) (w' : World) : Prop := ∃ (u' : UB) (v' : Value), e = .returned (.pointer (some ⟨u'.q, 0, none⟩)) ∧ (∀ k ∈ blkU u' v', w.heap.size ≤ k) ∧ UAt w' u' v' N s ∧ Chg [] w w'

theorem uallc' (q : Nat) (w : World) : Calls Tryz.prog 39 #[.pointer (some ⟨q, 0, none⟩)] w fun e w' => ∃ b, e = .returned (.func (.func 70) #[] #[.pointer (some ⟨b, 0, none⟩)]) ∧ w'.heap[b]? = some (.cells #[.pointer (some ⟨q, 0, none⟩)] 24 (0, 0)) ∧ w.heap.size ≤ b ∧ Chg [] w w' :=
  (uallc (some ⟨q, 0, none⟩) w).mono fun e w' ⟨he, hw⟩ => ⟨w.heap.size, he, by rw [hw]; exact heap_alloc_eq w _, Nat.le_refl _, by rw [hw]; exact (Chg.refl _ _).alloc _⟩

set_option maxRecDepth 100000 in
set_option maxHeartbeats 4000000 in
theorem ucopyc (u : UB) (v : Value) (N : Int) (s : QS) (w : World) (h : UAt w u v N s) :
    Calls Tryz.prog 22 #[.pointer (some ⟨u.q, 0, none⟩)] w (UCopyP N s w) := by
  have c0 := cellB h.head (i := 0) (v := .int .i64 s.room) rfl
  have c2 := cellB h.head (i := 2) (v := .pointer (some ⟨u.sa, 0, none⟩)) rfl
  have c3 := cellB h.head (i := 3) (v := .pointer (some ⟨u.ra, 0, none⟩)) rfl
  have c4 := cellB h.head (i := 4) (v := .map (some u.h)) rfl
  have HT := Lib.hid (utherec u v N s w h)
  have HL := Lib.hid h
  have HA := Lib.hid (uallc' u.q w.drew)
  obtain ⟨room, hroom⟩ : ∃ r, r = s.room := ⟨_, rfl⟩
  rw [← hroom] at c0
  have HRm := Lib.hid hroom
  clear h hroom
  go_enter Tryz.func22, Tryz.ntmps22
  go_wp2_with (go_at_call 24; refine HT.out.mono ?_; rintro e w' ⟨rfl, rfl⟩)
  go_region_held3 (fun w' => w'.cell? ⟨u.q, 0, none⟩ = some (.int .i64 room) ∧ w'.cell? ⟨u.q, 2, none⟩ = some (.pointer (some ⟨u.sa, 0, none⟩)) ∧ w'.cell? ⟨u.q, 3, none⟩ = some (.pointer (some ⟨u.ra, 0, none⟩)) ∧ w'.cell? ⟨u.q, 4, none⟩ = some (.map (some u.h))) (first | exact ⟨c0, c2, c3, c4⟩ | exact x1 | exact x2 | exact x3 | exact x4 | exact x5 | exact ⟨HRm.out ▸ cellB (blk_alloc hb5 _) (i := 0) rfl, cellB (blk_alloc hb5 _) (i := 2) rfl, cellB (blk_alloc hb5 _) (i := 3) rfl, cellB (blk_alloc hb5 _) (i := 4) rfl⟩)
    (first
    | (go_at_call 39; (with_reducible refine HA.out.mono ?_); rintro e w1 ⟨bq, rfl, hbq, hge, hC⟩; have H1 := Lib.hid (And.intro hbq (show Chg [] w w1 from ⟨hC.os, hC.tape, hC.output, hC.size, hC.block⟩)); clear hbq hge hC; have hb1 := (HL.out.calm H1.out.2).head; rw [← HRm.out] at hb1; have x1 := show _ ∧ _ ∧ _ ∧ _ from ⟨cellB hb1 (i := 0) rfl, cellB hb1 (i := 2) rfl, cellB hb1 (i := 3) rfl, cellB hb1 (i := 4) rfl⟩; clear hb1; have HCo := Lib.hid (ucollc bq u v N s w1 H1.out.1 (HL.out.calm H1.out.2)))
    | (go_at_call 55; (with_reducible refine HCo.out.mono ?_); rintro e w2 ⟨v2, rfl, ho, hC⟩; obtain ⟨va, vc, rfl⟩ := own_slice ho; have H2 := Lib.hid (And.intro ho (H1.out.2.trans hC)); have HZ := Lib.hid (Nat.le_trans H1.out.2.size (Nat.le_refl _)); clear ho hC; have hb2 := (HL.out.calm H2.out.2).head; rw [← HRm.out] at hb2; have x2 := show _ ∧ _ ∧ _ ∧ _ from ⟨cellB hb2 (i := 0) rfl, cellB hb2 (i := 2) rfl, cellB hb2 (i := 3) rfl, cellB hb2 (i := 4) rfl⟩; clear hb2; have HW1 := Lib.hid (copyc u.sa u.sm N s.S w2 (HL.out.calm H2.out.2).ls))
    | (go_at_call 56; (with_reducible refine HW1.out.mono ?_); rintro e w3 ⟨a3, m3, rfl, ha3, hm3, hW, hC⟩; have H3 := Lib.hid (And.intro hW (And.intro (H2.out.2.trans hC) (And.intro hC (And.intro ha3 hm3)))); clear hW hC ha3 hm3; have hb3 := (HL.out.calm H3.out.2.1).head; rw [← HRm.out] at hb3; have x3 := show _ ∧ _ ∧ _ ∧ _ from ⟨cellB hb3 (i := 0) rfl, cellB hb3 (i := 2) rfl, cellB hb3 (i := 3) rfl, cellB hb3 (i := 4) rfl⟩; clear hb3; have HW2 := Lib.hid (copyc u.ra u.rm N s.R w3 (HL.out.calm H3.out.2.1).lr))
    | (go_at_call 56; (with_reducible refine HW2.out.mono ?_); rintro e w4 ⟨a4, m4, rfl, ha4, hm4, hW, hC⟩; have H4 := Lib.hid (And.intro hW (And.intro (H3.out.2.1.trans hC) (And.intro hC (And.intro ha4 hm4)))); clear hW hC ha4 hm4; have hb4 := (HL.out.calm H4.out.2.1).head; rw [← HRm.out] at hb4; have x4 := show _ ∧ _ ∧ _ ∧ _ from ⟨cellB hb4 (i := 0) rfl, cellB hb4 (i := 2) rfl, cellB hb4 (i := 3) rfl, cellB hb4 (i := 4) rfl⟩; clear hb4; have HM := Lib.hid (umclonec u.h _ w4 (HL.out.calm H4.out.2.1).held))
    | (go_at_call 57; (with_reducible refine HM.out.mono ?_); rintro e w5 ⟨b5, rfl, hb5', hM, hC⟩; have H5 := Lib.hid (And.intro hM (And.intro (H4.out.2.1.trans hC) (And.intro hC hb5'))); clear hM hC hb5'; have hb5 := (HL.out.calm H5.out.2.1).head; have x5 := show _ ∧ _ ∧ _ ∧ _ from ⟨HRm.out ▸ cellB hb5 (i := 0) rfl, cellB hb5 (i := 2) rfl, cellB hb5 (i := 3) rfl, cellB hb5 (i := 4) rfl⟩)
    | fail)
  clear c0 c2 c3 c4 x1 x2 x3 x4 x5 hb5
  go_wp2
  go_ret
  have hA : Chg [] w5 (w5.alloc (.cells #[.int .i64 room, .slice va s.ord.length vc, .pointer (some ⟨a3, 0, none⟩), .pointer (some ⟨a4, 0, none⟩), .map (some b5)] 49)) := (Chg.refl _ _).alloc _
  have g1 := H3.out.1.lt
  have g2 := H4.out.1.lt
  have g3 := H5.out.1.lt
  have p1 := H3.out.2.2.2.1
  have p2 := H3.out.2.2.2.2
  have p3 := H4.out.2.2.2.1
  have p4 := H4.out.2.2.2.2
  have p5 := H5.out.2.2.2
  have s0 := H1.out.2.size
  have s2 := H2.out.2.size
  have s3 := H3.out.2.2.1.size
  have s4 := H4.out.2.2.1.size
  have s5 := H5.out.2.2.1.size
  have hrow := own_kept (own_kept (own_kept (own_kept H2.out.1 H3.out.2.2.1 (by simp)) H4.out.2.2.1 (by simp)) H5.out.2.2.1 (by simp)) hA (by simp)
  have hge := own_ge H2.out.1
  refine ⟨⟨w5.heap.size, b5, a3, m3, a4, m4⟩, .slice va s.ord.length vc, rfl, ?_, ⟨by rw [← HRm.out]; exact heap_alloc_eq w5 _, own_mono hrow (Nat.zero_le _), H5.out.1.kept hA (by simp), ((H3.out.1.kept H4.out.2.2.1 (by simp) (by simp)).kept H5.out.2.2.1 (by simp) (by simp)).kept hA (by simp) (by simp), (H4.out.1.kept H5.out.2.2.1 (by simp) (by simp)).kept hA (by simp) (by simp), HL.out.inv, ?_⟩, H5.out.2.1.trans hA⟩
  · intro k hk
    rcases List.mem_append.1 hk with h1 | h1
    · simp only [UB.l, List.mem_cons, List.not_mem_nil, or_false] at h1
      omega
    · have := hge k h1; omega
  · simp only [UB.l, List.nodup_cons, List.mem_cons, List.not_mem_nil, or_false, not_or, List.nodup_nil, not_false_eq_true, and_true]
    omega

end Go.Proofs.YtiiafhlckmkcnaaGreat
