
/- Package mqueue: Leave, Change: contracts. -/
import Derived.Test.YtiiafhlckmkcnaaGreatUj
namespace Go.Proofs.YtiiafhlckmkcnaaGreat
open Go.RowKit

theorem chgQA {w w' : World} {u : UB} {v : Value} (h : Chg [u.h, u.ra, u.rm] w w') : Chg (blkU u v) w w' := h.mono (fun k hk => .inl (by simp at hk; rcases hk with rfl | rfl | rfl <;> simp [blkU, UB.l]))

set_option maxRecDepth 100000 in
set_option maxHeartbeats 2000000 in
theorem uleavec (u : UB) (v : Value) (N : Int) (s : QS) (t : Int) (w : World) (h : UAt w u v N s) :
    Calls Tryz.prog 18 #[.pointer (some ⟨u.q, 0, none⟩), .int .i64 t] w (StepP u v (N + 1) (s.lvS t) (.int .i64 (s.askE t 1 0 true)) w) := by
  obtain ⟨bq, hbq⟩ : ∃ bq, bq = w.heap.size := ⟨_, rfl⟩
  obtain ⟨w0, hw0⟩ : ∃ w0, w0 = (w.alloc (.cells #[.pointer (some ⟨u.q, 0, none⟩)] 24 (0, 0))).alloc (.cells #[.int .i64 t] 3 (0, 0)) := ⟨_, rfl⟩
  have hC0 : Chg [] w w0 := by rw [hw0]; exact ((Chg.refl _ _).alloc _).alloc _
  have hb2 : BxAt w0 bq (.pointer (some ⟨u.q, 0, none⟩)) 24 := by rw [hw0, hbq]; exact blk_alloc (heap_alloc_eq w _) _
  have hb3 : BxAt w0 (bq + 1) (.int .i64 t) 3 := by rw [hw0, hbq]; have := heap_alloc_eq (w.alloc (.cells #[.pointer (some ⟨u.q, 0, none⟩)] 24 (0, 0))) (.cells #[.int .i64 t] 3 (0, 0)); rwa [World.size_alloc] at this
  have h0 := h.calm hC0
  have hlt := h.lt
  have hnq : bq ∉ u.l := fun hm => by have := hlt _ (List.mem_append.2 (.inl hm)); omega
  have hnt : bq + 1 ∉ u.l := fun hm => by have := hlt _ (List.mem_append.2 (.inl hm)); omega
  have hCh := uchangec u v N s t 1 49 #[.pointer (some ⟨bq + 1, 0, none⟩), .pointer (some ⟨bq, 0, none⟩)] w0 h0 (enters_of Tryz.func49 (by kernel_rfl) rfl)
    (fun W => UAt W u v N (s.lvS t) ∧ Chg (blkU u v) w W)
    (fun hne W hC => by
      have e : s.lvS t = s := by unfold QS.lvS; rw [if_neg hne]
      rw [e]
      exact ⟨h0.calm hC, (hC0.trans hC).mono (by simp)⟩)
    (fun he hh W hC => (ulv1_S u v N s t (bq + 1) bq W (h0.calm hC) (hC.blk hb3 (by simp)) (hC.blk hb2 (by simp)) (askE_ok2 he).1 hh hnt hnq).mono fun e w' ⟨h1, h2, h3⟩ => by
      have e1 : s.lvS t = { s with S := lvL s.S t } := by unfold QS.lvS; rw [if_pos he, if_pos hh]
      rw [e1]
      exact ⟨h1, h2, ((hC0.trans hC).mono (by simp)).trans (chgQS h3)⟩)
    (fun he hh _ W hC => (ulv1_R u v N s t (bq + 1) bq W (h0.calm hC) (hC.blk hb3 (by simp)) (hC.blk hb2 (by simp)) hh hnt hnq).mono fun e w' ⟨h1, h2, h3⟩ => by
      have e1 : s.lvS t = { s with R := lvL s.R t } := by unfold QS.lvS; rw [if_pos he, if_neg (by rw [hh]; decide)]
      rw [e1]
      exact ⟨h1, h2, ((hC0.trans hC).mono (by simp)).trans (chgQA h3)⟩)
  have HC := Lib.hid hCh
  have d2 := cellB hb2 (i := 0) rfl
  have d3 := cellB hb3 (i := 0) rfl
  generalize s.askE t 1 0 true = E at *
  clear hCh hC0 hb2 hb3 h0 h hlt hnq hnt
  go_enter Tryz.func18, Tryz.ntmps18
  go_upto_region 1 with fail
  rw [← hbq, ← hw0]
  clear hbq hw0
  go_wp2_with fail
  refine HC.out.mono ?_
  rintro e w1 ⟨rfl, hU, hC⟩
  have HF := Lib.hid (And.intro hU hC)
  clear hU hC
  go_wp2
  go_ret
  exact ⟨v, rfl, HF.out.1.mono (by omega), HF.out.2, .inl rfl⟩

set_option maxRecDepth 100000 in
set_option maxHeartbeats 2000000 in
theorem uchc (u : UB) (v : Value) (N : Int) (s : QS) (t p : Int) (w : World) (h : UAt w u v N s) :
    Calls Tryz.prog 20 #[.pointer (some ⟨u.q, 0, none⟩), .int .i64 t, .int .i64 p] w (StepP u v (N + 1) (s.chS t p) (.int .i64 (s.askE t p 0 true)) w) := by
  obtain ⟨bq, hbq⟩ : ∃ bq, bq = w.heap.size := ⟨_, rfl⟩
  obtain ⟨w0, hw0⟩ : ∃ w0, w0 = (w.alloc (.cells #[.int .i64 t] 3 (0, 0))).alloc (.cells #[.int .i64 p] 3 (0, 0)) := ⟨_, rfl⟩
  have hC0 : Chg [] w w0 := by rw [hw0]; exact ((Chg.refl _ _).alloc _).alloc _
  have hb2 : BxAt w0 bq (.int .i64 t) 3 := by rw [hw0, hbq]; exact blk_alloc (heap_alloc_eq w _) _
  have hb3 : BxAt w0 (bq + 1) (.int .i64 p) 3 := by rw [hw0, hbq]; have := heap_alloc_eq (w.alloc (.cells #[.int .i64 t] 3 (0, 0))) (.cells #[.int .i64 p] 3 (0, 0)); rwa [World.size_alloc] at this
  have h0 := h.calm hC0
  have hCh := uchangec u v N s t p 52 #[.pointer (some ⟨bq, 0, none⟩), .pointer (some ⟨bq + 1, 0, none⟩)] w0 h0 (enters_of Tryz.func52 (by kernel_rfl) rfl)
    (fun W => UAt W u v N (s.chS t p) ∧ Chg (blkU u v) w W)
    (fun hne W hC => by
      have e : s.chS t p = s := by unfold QS.chS; rw [if_neg hne]
      rw [e]
      exact ⟨h0.calm hC, (hC0.trans hC).mono (by simp)⟩)
    (fun he hh W hC => (uch1_S u v N s t p bq (bq + 1) W (h0.calm hC) (hC.blk hb2 (by simp)) (hC.blk hb3 (by simp))).mono fun e w' ⟨h1, h2, h3⟩ => by
      have e1 : s.chS t p = { s with S := chgL s.S t p } := by unfold QS.chS; rw [if_pos he, if_pos hh]
      rw [e1]
      exact ⟨h1, h2, ((hC0.trans hC).mono (by simp)).trans (chgQS h3)⟩)
    (fun he hh _ W hC => (uch1_R u v N s t p bq (bq + 1) W (h0.calm hC) (hC.blk hb2 (by simp)) (hC.blk hb3 (by simp))).mono fun e w' ⟨h1, h2, h3⟩ => by
      have e1 : s.chS t p = { s with R := chgL s.R t p } := by unfold QS.chS; rw [if_pos he, if_neg (by rw [hh]; decide)]
      rw [e1]
      exact ⟨h1, h2, ((hC0.trans hC).mono (by simp)).trans (chgQA h3)⟩)
  have HC := Lib.hid hCh
  have d2 := cellB hb2 (i := 0) rfl
  have d3 := cellB hb3 (i := 0) rfl
  generalize s.askE t p 0 true = E at *
  clear hCh hC0 hb2 hb3 h0 h
  go_enter Tryz.func20, Tryz.ntmps20
  go_upto_region 1 with fail
  rw [← hbq, ← hw0]
  clear hbq hw0
  go_wp2_with fail
  refine HC.out.mono ?_
  rintro e w1 ⟨rfl, hU, hC⟩
  have HF := Lib.hid (And.intro hU hC)
  clear hU hC
  go_wp2
  go_ret
  exact ⟨v, rfl, HF.out.1.mono (by omega), HF.out.2, .inl rfl⟩

end Go.Proofs.YtiiafhlckmkcnaaGreat
