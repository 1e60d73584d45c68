
/- Package mqueue: Send: contract. -/
import Derived.Test.YtiiafhlckmkcnaaGreatUf
namespace Go.Proofs.YtiiafhlckmkcnaaGreat
open Go.RowKit

theorem QInv.takeR {s : QS} (h : QInv s) : QInv { s with R := takeL s.R } := ⟨h.room, h.few, h.msg, h.ls, h.lr.sub (takeL_sub h.lr), h.len, h.held⟩
theorem QInv.putS {s : QS} (h : QInv s) {t p : Int} {m : Int × Int} (ht : okT t) (hm : 0 ≤ m.2 ∧ m.2 ≤ 31) : QInv { s with S := putL s.S t p, M := s.M.set t.toNat m } :=
  ⟨h.room, h.few, h.msg, h.ls.putL t p, h.lr, by simp [h.len], fun a => by show 0 ≤ (mAt (s.M.set t.toNat m) a).2 ∧ _; rw [mAt_set ht h.len]; split; exact hm; exact h.held a⟩
theorem QInv.addL {s : QS} (h : QInv s) {m : Int × Int} (hm : 0 ≤ m.2 ∧ m.2 ≤ 31) (hf : s.full = false) : QInv { s with L := s.L ++ [m] } :=
  ⟨h.room, by
    have h1 := h.few
    unfold QS.full at hf
    simp at hf
    show ((s.L ++ [m]).length : Int) ≤ s.room
    rw [List.length_append, List.length_cons, List.length_nil]
    omega, h.msg.put hm, h.ls, h.lr, h.len, h.held⟩

theorem res4 {W : World} {b : Nat} {a0 a1 a2 a3 : Value} {T : TypeId} (h : W.heap[b]? = some (.cells #[a0, a1, a2, a3] T (0, 0))) (x0 x1 x2 x3 : Value) :
    ((((W.setCell ⟨b, 0, none⟩ x0).setCell ⟨b, 1, none⟩ x1).setCell ⟨b, 2, none⟩ x2).setCell ⟨b, 3, none⟩ x3).heap[b]? = some (.cells #[x0, x1, x2, x3] T (0, 0)) :=
  blk_setCell (blk_setCell (blk_setCell (blk_setCell h x0) x1) x2) x3
theorem chg4 (W : World) (b : Nat) (x0 x1 x2 x3 : Value) : Chg [b] W ((((W.setCell ⟨b, 0, none⟩ x0).setCell ⟨b, 1, none⟩ x1).setCell ⟨b, 2, none⟩ x2).setCell ⟨b, 3, none⟩ x3) :=
  ((((Chg.refl [b] W).setCell _ _ (by simp)).setCell _ _ (by simp)).setCell _ _ (by simp)).setCell _ _ (by simp)


set_option maxRecDepth 100000 in
set_option maxHeartbeats 4000000 in
theorem usend_no (u : UB) (v : Value) (N : Int) (s : QS) (t p : Int) (m : Int × Int) (w : World) (h : UAt w u v N s) (he : s.askE t p m.2 false ≠ 0) :
    Calls Tryz.prog 14 #[.pointer (some ⟨u.q, 0, none⟩), .int .i64 t, .int .i64 p, msgV m] w (StepP u v (N + 1) (s.sendS t p m) (.tuple #[pdV (s.sendP t p m), .int .i64 (s.askE t p m.2 false)]) w) := by
  obtain ⟨bm, hbm⟩ : ∃ bm, bm = w.heap.size := ⟨_, rfl⟩
  obtain ⟨w0, hw0⟩ : ∃ w0, w0 = (w.alloc (.cells #[.int .i64 m.1, .int .i64 m.2] 33 (0, 0))).alloc pd0B := ⟨_, rfl⟩
  have hC0 : Chg [] w w0 := by rw [hw0]; exact ((Chg.refl _ _).alloc _).alloc _
  have hm0 : w0.heap[bm]? = some (msgB m) := by rw [hw0, hbm]; exact blk_alloc (heap_alloc_eq w _) _
  have hr0 : w0.heap[bm + 1]? = some pd0B := by rw [hw0, hbm]; have := heap_alloc_eq (w.alloc (.cells #[.int .i64 m.1, .int .i64 m.2] 33 (0, 0))) pd0B; rwa [World.size_alloc] at this
  have h0 := h.calm hC0
  have hA := uaskc u v N s t p m.2 false w0 h0
  have hlt := h.lt
  have HS := Lib.hid (And.intro h0 (And.intro hm0 (And.intro hr0 (And.intro hC0 (And.intro hlt hbm)))))
  obtain ⟨QQ, hQQ⟩ : ∃ QQ, QQ = StepP u v (N + 1) (s.sendS t p m) (.tuple #[pdV (s.sendP t p m), .int .i64 (s.askE t p m.2 false)]) w := ⟨_, rfl⟩
  rw [← hQQ]
  have e1 : s.sendS t p m = s := by unfold QS.sendS; rw [if_neg he]
  have e2 : s.sendP t p m = pd0 := by unfold QS.sendP; rw [if_neg he]
  rw [e1, e2] at hQQ
  obtain ⟨E, hE⟩ : ∃ E, E = s.askE t p m.2 false := ⟨_, rfl⟩
  rw [← hE] at he hA hQQ
  have HA := Lib.hid hA
  have HQ := Lib.hid hQQ
  have hb : (E != 0) = true := by simpa using he
  obtain ⟨m1, m2⟩ := m
  have d1 := cellB hm0 (i := 1) (v := .int .i64 m2) rfl
  have hbz := pBuild0
  clear h h0 hm0 hr0 hC0 hlt hA hQQ he e1 e2 hE
  unfold msgV
  unfold pd0B at hw0
  go_enter Tryz.func14, Tryz.ntmps14
  go_upto_region 1 with fail
  rw [← hbm, ← hw0]
  clear hbm hw0
  go_wp2_with fail
  refine HA.out.mono ?_
  rintro e w1 ⟨rfl, hC1⟩
  have hr1 := hC1.blk HS.out.2.2.1 (by simp)
  have r0 := cellB hr1 (i := 0) (v := .bool false) rfl
  have r1 := cellB hr1 (i := 1) (v := .int .i64 0) rfl
  have r2 := cellB hr1 (i := 2) (v := .int .i64 0) rfl
  have r3 := cellB hr1 (i := 3) (v := .int .i64 0) rfl
  have f1 := frozenB hr1
  have HC1 := Lib.hid (And.intro hC1 hr1)
  clear hC1 hr1 d1
  go_wp2
  obtain ⟨W, hW⟩ : ∃ W, W = ((((w1.setCell ⟨bm + 1, 0, none⟩ (.bool false)).setCell ⟨bm + 1, 1, none⟩ (.int .i64 0)).setCell ⟨bm + 1, 2, none⟩ (.int .i64 0)).setCell ⟨bm + 1, 3, none⟩ (.int .i64 0)) := ⟨_, rfl⟩
  have hf : W.heap[bm + 1]? = some (.cells #[.bool false, .int .i64 0, .int .i64 0, .int .i64 0] 58 (0, 0)) := by rw [hW]; exact res4 HC1.out.2 _ _ _ _
  have hCW : Chg [bm + 1] w1 W := by rw [hW]; exact chg4 _ _ _ _ _ _
  rw [← hW]
  have q0 := cellB hf (i := 0) rfl
  have q1 := cellB hf (i := 1) rfl
  have q2 := cellB hf (i := 2) rfl
  have q3 := cellB hf (i := 3) rfl
  refine ⟨rfl, .tuple #[pdV pd0, .int .i64 E], ?_, ?_⟩
  · simp [results, Tryz.results14, go_sem, q0, q1, q2, q3, pdV, pd0]
  · rw [HQ.out]
    have hCC := HS.out.2.2.2.1.trans HC1.out.1
    have hCF : Chg [] w W := hCC.trans' hCW (fun k hk => by simp at hk; subst hk; exact .inr (by have := HS.out.2.2.2.2.2; omega))
    exact ⟨v, rfl, (HS.out.1.calm HC1.out.1).mono (by omega) |>.kept hCW (fun k hk hm => by simp at hk; subst hk; have h1 := HS.out.2.2.2.2.1 _ hm; have h2 := HS.out.2.2.2.2.2; omega), hCF.mono (by simp), .inl rfl⟩


set_option maxRecDepth 100000 in
set_option maxHeartbeats 4000000 in
theorem usend_take (u : UB) (v : Value) (N : Int) (s : QS) (t p : Int) (m : Int × Int) (w : World) (h : UAt w u v N s) (he : s.askE t p m.2 false = 0) (hh : headB (ordL s.R) = true) :
    Calls Tryz.prog 14 #[.pointer (some ⟨u.q, 0, none⟩), .int .i64 t, .int .i64 p, msgV m] w (StepP u v (N + 1) (s.sendS t p m) (.tuple #[pdV (s.sendP t p m), .int .i64 (s.askE t p m.2 false)]) w) := by
  obtain ⟨bm, hbm⟩ : ∃ bm, bm = w.heap.size := ⟨_, rfl⟩
  obtain ⟨w0, hw0⟩ : ∃ w0, w0 = (w.alloc (.cells #[.int .i64 m.1, .int .i64 m.2] 33 (0, 0))).alloc pd0B := ⟨_, rfl⟩
  have hC0 : Chg [] w w0 := by rw [hw0]; exact ((Chg.refl _ _).alloc _).alloc _
  have hm0 : w0.heap[bm]? = some (msgB m) := by rw [hw0, hbm]; exact blk_alloc (heap_alloc_eq w _) _
  have hr0 : w0.heap[bm + 1]? = some pd0B := by rw [hw0, hbm]; have := heap_alloc_eq (w.alloc (.cells #[.int .i64 m.1, .int .i64 m.2] 33 (0, 0))) pd0B; rwa [World.size_alloc] at this
  have h0 := h.calm hC0
  have hA := uaskc u v N s t p m.2 false w0 h0
  have hlt := h.lt
  have HS := Lib.hid (And.intro h0 (And.intro hm0 (And.intro hr0 (And.intro hC0 (And.intro hlt hbm)))))
  obtain ⟨QQ, hQQ⟩ : ∃ QQ, QQ = StepP u v (N + 1) (s.sendS t p m) (.tuple #[pdV (s.sendP t p m), .int .i64 (s.askE t p m.2 false)]) w := ⟨_, rfl⟩
  rw [← hQQ]
  have e1 : s.sendS t p m = { s with R := takeL s.R } := by unfold QS.sendS; rw [if_pos he, if_pos hh]
  have e2 : s.sendP t p m = ⟨true, m.1, m.2, headT (ordL s.R)⟩ := by unfold QS.sendP; rw [if_pos he, if_pos hh]
  rw [e1, e2, he] at hQQ
  clear e1 e2
  rw [he] at hA
  have HA := Lib.hid hA
  have HQ := Lib.hid hQQ
  obtain ⟨m1, m2⟩ := m
  have d1 := cellB hm0 (i := 1) (v := .int .i64 m2) rfl
  have HE := Lib.hid (And.intro (askE_ok he) h.inv)
  clear h h0 hm0 hr0 hC0 hlt hA hQQ he
  unfold msgV
  unfold pd0B at hw0
  go_enter Tryz.func14, Tryz.ntmps14
  go_upto_region 1 with fail
  rw [← hbm, ← hw0]
  clear hbm hw0
  go_wp2_with fail
  refine HA.out.mono ?_
  rintro e w1 ⟨rfl, hC1⟩
  have h1 := HS.out.1.calm hC1
  have c3 := cellB h1.head (i := 3) (v := .pointer (some ⟨u.ra, 0, none⟩)) rfl
  have HT := Lib.hid (takec u.ra u.rm N s.R w1 h1.lr)
  have H1 := Lib.hid (And.intro h1 hC1)
  clear h1 hC1 d1 HA
  go_wp2_with fail
  refine HT.out.mono ?_
  rw [hh]
  clear hh HT
  obtain ⟨o, ho⟩ : ∃ o, o = headT (ordL s.R) := ⟨_, rfl⟩
  rw [← ho] at HQ ⊢
  rintro e w2 ⟨rfl, hW2, hC2⟩
  have hn := H1.out.1.ne
  have hbq := HS.out.2.2.2.2.1
  have hbe := HS.out.2.2.2.2.2
  have l2 : u.ra < w.heap.size ∧ u.rm < w.heap.size := ⟨hbq _ (by simp [blkU, UB.l]), hbq _ (by simp [blkU, UB.l])⟩
  have hm2 := hC2.blk (H1.out.2.blk HS.out.2.1 (by simp)) (by simp; omega)
  have hr2 := hC2.blk (H1.out.2.blk HS.out.2.2.1 (by simp)) (by simp; omega)
  have d0 := cellB hm2 (i := 0) (v := .int .i64 m1) rfl
  have d1 := cellB hm2 (i := 1) (v := .int .i64 m2) rfl
  have r0 := cellB hr2 (i := 0) (v := .bool false) rfl
  have r1 := cellB hr2 (i := 1) (v := .int .i64 0) rfl
  have r2 := cellB hr2 (i := 2) (v := .int .i64 0) rfl
  have r3 := cellB hr2 (i := 3) (v := .int .i64 0) rfl
  have f1 := frozenB hr2
  have HF := Lib.hid (And.intro hW2 (And.intro hC2 (And.intro hr2 hbe)))
  have hbz := pBuild true m1 m2 o
  clear hW2 hC2 hm2 hr2 hn hbq hbe l2 ho c3
  go_wp2
  obtain ⟨W, hW⟩ : ∃ W, W = ((((w2.setCell ⟨bm + 1, 0, none⟩ (.bool true)).setCell ⟨bm + 1, 1, none⟩ (.int .i64 m1)).setCell ⟨bm + 1, 2, none⟩ (.int .i64 m2)).setCell ⟨bm + 1, 3, none⟩ (.int .i64 o)) := ⟨_, rfl⟩
  have hf : W.heap[bm + 1]? = some (.cells #[.bool true, .int .i64 m1, .int .i64 m2, .int .i64 o] 58 (0, 0)) := by rw [hW]; exact res4 HF.out.2.2.1 _ _ _ _
  have hCW : Chg [bm + 1] w2 W := by rw [hW]; exact chg4 _ _ _ _ _ _
  rw [← hW]
  have q0 := cellB hf (i := 0) rfl
  have q1 := cellB hf (i := 1) rfl
  have q2 := cellB hf (i := 2) rfl
  have q3 := cellB hf (i := 3) rfl
  refine ⟨rfl, .tuple #[pdV ⟨true, m1, m2, o⟩, .int .i64 0], ?_, ?_⟩
  · simp [results, Tryz.results14, go_sem, q0, q1, q2, q3, pdV]
  · rw [HQ.out]
    have h2 := H1.out.1.stepR HF.out.1 HF.out.2.1 (Int.le_refl _) H1.out.1.inv.takeR
    have hC02 : Chg (blkU u v) w w2 := ((HS.out.2.2.2.1.trans H1.out.2).mono (by simp)).trans (chgQR HF.out.2.1)
    exact ⟨v, rfl, (h2.mono (by omega)).kept hCW (fun k hk hm => by simp at hk; subst hk; have h1 := HS.out.2.2.2.2.1 _ hm; have h2 := HS.out.2.2.2.2.2; omega), hC02.trans' hCW (fun k hk => by simp at hk; subst hk; exact .inr (by have := HS.out.2.2.2.2.2; omega)), .inl rfl⟩

theorem takeL_none {L : WL} (h : headB (ordL L) = false) : takeL L = L := by
  unfold takeL
  cases ho : ordL L with
  | nil => rfl
  | cons x r => rw [ho] at h; cases h


set_option maxRecDepth 100000 in
set_option maxHeartbeats 4000000 in
theorem usend_put (u : UB) (v : Value) (N : Int) (s : QS) (t p : Int) (m : Int × Int) (w : World) (h : UAt w u v N s) (he : s.askE t p m.2 false = 0) (hh : headB (ordL s.R) = false) (hfl : s.full = false) :
    Calls Tryz.prog 14 #[.pointer (some ⟨u.q, 0, none⟩), .int .i64 t, .int .i64 p, msgV m] w (StepP u v (N + 1) (s.sendS t p m) (.tuple #[pdV (s.sendP t p m), .int .i64 (s.askE t p m.2 false)]) w) := by
  obtain ⟨bm, hbm⟩ : ∃ bm, bm = w.heap.size := ⟨_, rfl⟩
  obtain ⟨w0, hw0⟩ : ∃ w0, w0 = (w.alloc (.cells #[.int .i64 m.1, .int .i64 m.2] 33 (0, 0))).alloc pd0B := ⟨_, rfl⟩
  have hC0 : Chg [] w w0 := by rw [hw0]; exact ((Chg.refl _ _).alloc _).alloc _
  have hm0 : w0.heap[bm]? = some (msgB m) := by rw [hw0, hbm]; exact blk_alloc (heap_alloc_eq w _) _
  have hr0 : w0.heap[bm + 1]? = some pd0B := by rw [hw0, hbm]; have := heap_alloc_eq (w.alloc (.cells #[.int .i64 m.1, .int .i64 m.2] 33 (0, 0))) pd0B; rwa [World.size_alloc] at this
  have h0 := h.calm hC0
  have hA := uaskc u v N s t p m.2 false w0 h0
  have hlt := h.lt
  have HS := Lib.hid (And.intro h0 (And.intro hm0 (And.intro hr0 (And.intro hC0 (And.intro hlt hbm)))))
  obtain ⟨QQ, hQQ⟩ : ∃ QQ, QQ = StepP u v (N + 1) (s.sendS t p m) (.tuple #[pdV (s.sendP t p m), .int .i64 (s.askE t p m.2 false)]) w := ⟨_, rfl⟩
  rw [← hQQ]
  have e1 : s.sendS t p m = { s with L := s.L ++ [m] } := by unfold QS.sendS; rw [if_pos he, if_neg (by rw [hh]; decide), if_neg (by rw [hfl]; decide)]
  have e2 : s.sendP t p m = ⟨true, m.1, m.2, -1⟩ := by unfold QS.sendP; rw [if_pos he, if_neg (by rw [hh]; decide), if_neg (by rw [hfl]; decide)]
  rw [e1, e2, he] at hQQ
  clear e1 e2
  rw [he] at hA
  have HA := Lib.hid hA
  have HQ := Lib.hid hQQ
  obtain ⟨m1, m2⟩ := m
  have d1 := cellB hm0 (i := 1) (v := .int .i64 m2) rfl
  have HE := Lib.hid (And.intro (askE_ok he) h.inv)
  clear h h0 hm0 hr0 hC0 hlt hA hQQ he
  unfold msgV
  unfold pd0B at hw0
  go_enter Tryz.func14, Tryz.ntmps14
  go_upto_region 1 with fail
  rw [← hbm, ← hw0]
  clear hbm hw0
  go_wp2_with fail
  refine HA.out.mono ?_
  rintro e w1 ⟨rfl, hC1⟩
  have h1 := HS.out.1.calm hC1
  have c3 := cellB h1.head (i := 3) (v := .pointer (some ⟨u.ra, 0, none⟩)) rfl
  have HT := Lib.hid (takec u.ra u.rm N s.R w1 h1.lr)
  have H1 := Lib.hid (And.intro h1 hC1)
  clear h1 hC1 d1 HA
  go_wp2_with fail
  refine HT.out.mono ?_
  rw [hh]
  rintro e w2 ⟨rfl, hW2, hC2⟩
  have hn := H1.out.1.ne
  have hbq := HS.out.2.2.2.2.1
  have hbe := HS.out.2.2.2.2.2
  have l2 : u.ra < w.heap.size ∧ u.rm < w.heap.size := ⟨hbq _ (by simp [blkU, UB.l]), hbq _ (by simp [blkU, UB.l])⟩
  have hm2 := hC2.blk (H1.out.2.blk HS.out.2.1 (by simp)) (by simp; omega)
  have hr2 := hC2.blk (H1.out.2.blk HS.out.2.2.1 (by simp)) (by simp; omega)
  have d0 := cellB hm2 (i := 0) (v := .int .i64 m1) rfl
  have d1 := cellB hm2 (i := 1) (v := .int .i64 m2) rfl
  have r0 := cellB hr2 (i := 0) (v := .bool false) rfl
  have r1 := cellB hr2 (i := 1) (v := .int .i64 0) rfl
  have r2 := cellB hr2 (i := 2) (v := .int .i64 0) rfl
  have r3 := cellB hr2 (i := 3) (v := .int .i64 0) rfl
  have f1 := frozenB hr2
  have h2' := H1.out.1.stepR hW2 hC2 (Int.le_refl _) H1.out.1.inv.takeR
  have h2 : UAt w2 u v N s := by
    have e := takeL_none hh
    rw [e] at h2'
    exact h2'
  have hC02 : Chg (blkU u v) w w2 := ((HS.out.2.2.2.1.trans H1.out.2).mono (by simp)).trans (chgQR hC2)
  have HFu := Lib.hid (ufullc u v N s w2 h2)
  have H2 := Lib.hid (And.intro h2 (And.intro hC02 (And.intro hm2 (And.intro hr2 hbe))))
  clear h2 h2' hC02 hW2 hC2 hm2 hr2 hn hbq hbe l2 c3 HT d0 d1 r0 r1 r2 r3 f1
  go_wp2_with fail
  refine HFu.out.mono ?_
  rintro e w3 ⟨rfl, hC3⟩
  rw [hfl]
  have hm3 := hC3.blk H2.out.2.2.1 (by simp)
  have hr3 := hC3.blk H2.out.2.2.2.1 (by simp)
  have d0 := cellB hm3 (i := 0) (v := .int .i64 m1) rfl
  have d1 := cellB hm3 (i := 1) (v := .int .i64 m2) rfl
  have h3 := H2.out.1.calm hC3
  have HPu := Lib.hid (uputc u v s.room s.ord (m1, m2) w3 h3.head h3.row (by have := h3.inv.few32; omega))
  have H3 := Lib.hid (And.intro h3 (And.intro hC3 (And.intro hm3 hr3)))
  unfold msgV at HPu
  clear h3 hm3 hr3 hC3 HFu hh
  go_wp2_with fail
  refine HPu.out.mono ?_
  rintro e w4 ⟨v', rfl, hq4, hrow4, hC4, hs4⟩
  have hnb : ∀ k, w.heap.size ≤ k → k ∉ u.q :: v.ownBlock.toList := fun k hk hm => by
    rcases List.mem_cons.1 hm with rfl | h1
    · have := HS.out.2.2.2.2.1 u.q (by simp [blkU, UB.l]); omega
    · have := HS.out.2.2.2.2.1 k (List.mem_append.2 (.inr h1)); omega
  have hm4 := hC4.blk H3.out.2.2.1 (hnb _ (by have := HS.out.2.2.2.2.2; omega))
  have hr4 := hC4.blk H3.out.2.2.2 (hnb _ (by have := HS.out.2.2.2.2.2; omega))
  have d0 := cellB hm4 (i := 0) (v := .int .i64 m1) rfl
  have d1 := cellB hm4 (i := 1) (v := .int .i64 m2) rfl
  have r0 := cellB hr4 (i := 0) (v := .bool false) rfl
  have r1 := cellB hr4 (i := 1) (v := .int .i64 0) rfl
  have r2 := cellB hr4 (i := 2) (v := .int .i64 0) rfl
  have r3 := cellB hr4 (i := 3) (v := .int .i64 0) rfl
  have f1 := frozenB hr4
  have hL := ordM_put (L := s.L) (m := (m1, m2)) HE.out.1.2.2.1
  have h4 : UAt w4 u v' N { s with L := s.L ++ [(m1, m2)] } := H3.out.1.stepL hq4 (by
    rw [hL]
    have e : (insM (ordM s.L) (m1, m2)).length = s.ord.length + 1 := by
      rw [← hL, ordM_len (HE.out.2.msg.put HE.out.1.2.2.1), List.length_append, HE.out.2.olen]; rfl
    rw [e]
    exact hrow4) hC4 (HE.out.2.addL HE.out.1.2.2.1 hfl)
  have H4 := Lib.hid (And.intro h4 (And.intro (((H2.out.2.1.trans (H3.out.2.1.mono (by simp))).trans (chgQL hC4))) (And.intro hr4 hs4)))
  have hnv := fun (k : Nat) (hk : k ∈ v'.ownBlock.toList) => hs4.sub k hk
  have HV := Lib.hid (And.intro hnv (lt_of_blk (H3.out.2.2.2)))
  have hbz := pBuild true m1 m2 (-1)
  clear hq4 hrow4 hC4 hs4 hL h4 hm4 hr4 hnb hnv
  go_wp2
  obtain ⟨W, hW⟩ : ∃ W, W = ((((w4.setCell ⟨bm + 1, 0, none⟩ (.bool true)).setCell ⟨bm + 1, 1, none⟩ (.int .i64 m1)).setCell ⟨bm + 1, 2, none⟩ (.int .i64 m2)).setCell ⟨bm + 1, 3, none⟩ (.int .i64 (-1))) := ⟨_, rfl⟩
  have hf : W.heap[bm + 1]? = some (.cells #[.bool true, .int .i64 m1, .int .i64 m2, .int .i64 (-1)] 58 (0, 0)) := by rw [hW]; exact res4 H4.out.2.2.1 _ _ _ _
  have hCW : Chg [bm + 1] w4 W := by rw [hW]; exact chg4 _ _ _ _ _ _
  rw [← hW]
  have q0 := cellB hf (i := 0) rfl
  have q1 := cellB hf (i := 1) rfl
  have q2 := cellB hf (i := 2) rfl
  have q3 := cellB hf (i := 3) rfl
  refine ⟨rfl, .tuple #[pdV ⟨true, m1, m2, -1⟩, .int .i64 0], ?_, ?_⟩
  · simp [results, Tryz.results14, go_sem, q0, q1, q2, q3, pdV]
  · rw [HQ.out]
    have hsz := H2.out.2.1.size
    have hsz3 := H3.out.2.1.size
    refine ⟨v', rfl, (H4.out.1.mono (by omega)).kept hCW (fun k hk hm => ?_), H4.out.2.1.trans' hCW (fun k hk => by simp at hk; subst hk; exact .inr (by have := HS.out.2.2.2.2.2; omega)), ?_⟩
    · simp at hk
      subst hk
      have hb := HS.out.2.2.2.2.2
      rcases List.mem_append.1 hm with h1 | h1
      · have := HS.out.2.2.2.2.1 _ (List.mem_append.2 (.inl h1)); omega
      · rcases HV.out.1 _ h1 with h2 | h2
        · have := HS.out.2.2.2.2.1 _ (List.mem_append.2 (.inr h2)); omega
        · have := HV.out.2; omega
    · rcases H4.out.2.2.2 with h1 | ⟨k, h1, h2⟩
      · exact .inl h1
      · exact .inr ⟨k, by omega, h2⟩

set_option maxRecDepth 100000 in
set_option maxHeartbeats 4000000 in
theorem usend_full (u : UB) (v : Value) (N : Int) (s : QS) (t p : Int) (m : Int × Int) (w : World) (h : UAt w u v N s) (hN : N < 4611686018427387904) (he : s.askE t p m.2 false = 0) (hh : headB (ordL s.R) = false) (hfl : s.full = true) :
    Calls Tryz.prog 14 #[.pointer (some ⟨u.q, 0, none⟩), .int .i64 t, .int .i64 p, msgV m] w (StepP u v (N + 1) (s.sendS t p m) (.tuple #[pdV (s.sendP t p m), .int .i64 (s.askE t p m.2 false)]) w) := by
  obtain ⟨bm, hbm⟩ : ∃ bm, bm = w.heap.size := ⟨_, rfl⟩
  obtain ⟨w0, hw0⟩ : ∃ w0, w0 = (w.alloc (.cells #[.int .i64 m.1, .int .i64 m.2] 33 (0, 0))).alloc pd0B := ⟨_, rfl⟩
  have hC0 : Chg [] w w0 := by rw [hw0]; exact ((Chg.refl _ _).alloc _).alloc _
  have hm0 : w0.heap[bm]? = some (msgB m) := by rw [hw0, hbm]; exact blk_alloc (heap_alloc_eq w _) _
  have hr0 : w0.heap[bm + 1]? = some pd0B := by rw [hw0, hbm]; have := heap_alloc_eq (w.alloc (.cells #[.int .i64 m.1, .int .i64 m.2] 33 (0, 0))) pd0B; rwa [World.size_alloc] at this
  have h0 := h.calm hC0
  have hA := uaskc u v N s t p m.2 false w0 h0
  have hlt := h.lt
  have HS := Lib.hid (And.intro h0 (And.intro hm0 (And.intro hr0 (And.intro hC0 (And.intro hlt hbm)))))
  obtain ⟨QQ, hQQ⟩ : ∃ QQ, QQ = StepP u v (N + 1) (s.sendS t p m) (.tuple #[pdV (s.sendP t p m), .int .i64 (s.askE t p m.2 false)]) w := ⟨_, rfl⟩
  rw [← hQQ]
  have e1 : s.sendS t p m = { s with S := putL s.S t p, M := s.M.set t.toNat m } := by unfold QS.sendS; rw [if_pos he, if_neg (by rw [hh]; decide), if_pos hfl]
  have e2 : s.sendP t p m = ⟨false, m.1, m.2, -1⟩ := by unfold QS.sendP; rw [if_pos he, if_neg (by rw [hh]; decide), if_pos hfl]
  rw [e1, e2, he] at hQQ
  clear e1 e2
  have HNN := Lib.hid hN
  clear hN
  rw [he] at hA
  have HA := Lib.hid hA
  have HQ := Lib.hid hQQ
  obtain ⟨m1, m2⟩ := m
  have d1 := cellB hm0 (i := 1) (v := .int .i64 m2) rfl
  have HE := Lib.hid (And.intro (askE_ok he) h.inv)
  clear h h0 hm0 hr0 hC0 hlt hA hQQ he
  unfold msgV
  unfold pd0B at hw0
  go_enter Tryz.func14, Tryz.ntmps14
  go_upto_region 1 with fail
  rw [← hbm, ← hw0]
  clear hbm hw0
  go_wp2_with fail
  refine HA.out.mono ?_
  rintro e w1 ⟨rfl, hC1⟩
  have h1 := HS.out.1.calm hC1
  have c3 := cellB h1.head (i := 3) (v := .pointer (some ⟨u.ra, 0, none⟩)) rfl
  have HT := Lib.hid (takec u.ra u.rm N s.R w1 h1.lr)
  have H1 := Lib.hid (And.intro h1 hC1)
  clear h1 hC1 d1 HA
  go_wp2_with fail
  refine HT.out.mono ?_
  rw [hh]
  rintro e w2 ⟨rfl, hW2, hC2⟩
  have hn := H1.out.1.ne
  have hbq := HS.out.2.2.2.2.1
  have hbe := HS.out.2.2.2.2.2
  have l2 : u.ra < w.heap.size ∧ u.rm < w.heap.size := ⟨hbq _ (by simp [blkU, UB.l]), hbq _ (by simp [blkU, UB.l])⟩
  have hm2 := hC2.blk (H1.out.2.blk HS.out.2.1 (by simp)) (by simp; omega)
  have hr2 := hC2.blk (H1.out.2.blk HS.out.2.2.1 (by simp)) (by simp; omega)
  have d0 := cellB hm2 (i := 0) (v := .int .i64 m1) rfl
  have d1 := cellB hm2 (i := 1) (v := .int .i64 m2) rfl
  have r0 := cellB hr2 (i := 0) (v := .bool false) rfl
  have r1 := cellB hr2 (i := 1) (v := .int .i64 0) rfl
  have r2 := cellB hr2 (i := 2) (v := .int .i64 0) rfl
  have r3 := cellB hr2 (i := 3) (v := .int .i64 0) rfl
  have f1 := frozenB hr2
  have h2' := H1.out.1.stepR hW2 hC2 (Int.le_refl _) H1.out.1.inv.takeR
  have h2 : UAt w2 u v N s := by
    have e := takeL_none hh
    rw [e] at h2'
    exact h2'
  have hC02 : Chg (blkU u v) w w2 := ((HS.out.2.2.2.1.trans H1.out.2).mono (by simp)).trans (chgQR hC2)
  have HFu := Lib.hid (ufullc u v N s w2 h2)
  have H2 := Lib.hid (And.intro h2 (And.intro hC02 (And.intro hm2 (And.intro hr2 hbe))))
  clear h2 h2' hC02 hW2 hC2 hm2 hr2 hn hbq hbe l2 c3 HT d0 d1 r0 r1 r2 r3 f1
  go_wp2_with fail
  refine HFu.out.mono ?_
  rintro e w3 ⟨rfl, hC3⟩
  rw [hfl]
  have hm3 := hC3.blk H2.out.2.2.1 (by simp)
  have hr3 := hC3.blk H2.out.2.2.2.1 (by simp)
  have h3 := H2.out.1.calm hC3
  have c2 := cellB h3.head (i := 2) (v := .pointer (some ⟨u.sa, 0, none⟩)) rfl
  have HPu := Lib.hid (putc u.sa u.sm N s.S t p w3 h3.ls HNN.out)
  have H3 := Lib.hid (And.intro h3 (And.intro hC3 (And.intro hm3 hr3)))
  clear h3 hm3 hr3 hC3 HFu hh
  go_wp2_with fail
  refine HPu.out.mono ?_
  rintro e w4 ⟨rfl, hW4, hC4⟩
  have hn := H3.out.1.ne
  have hla : ∀ k ∈ u.l, k < bm := fun k hk => by have := HS.out.2.2.2.2.1 k (List.mem_append.2 (.inl hk)); have := HS.out.2.2.2.2.2; omega
  have la := hla u.sa (by simp [UB.l])
  have lm := hla u.sm (by simp [UB.l])
  have lh := hla u.h (by simp [UB.l])
  have hm4 := hC4.blk H3.out.2.2.1 (by simp; omega)
  have hr4 := hC4.blk H3.out.2.2.2 (by simp; omega)
  have hq4 := hC4.blk H3.out.1.head (by simp; omega)
  have hmp4 := H3.out.1.held.kept hC4 (by simp; omega)
  obtain ⟨w5, hru, hM5, hC5⟩ := run_update_P (P := Tryz.prog) (w := w4.drew) Tryz.underlying46 Tryz.underlying3 (hmp4.kept ((Chg.refl [] w4).drew) (by simp)) t (msgV (m1, m2))
  have hC5' : Chg [u.h] w4 w5 := ((Chg.refl [u.h] w4).drew).trans hC5
  have hm5 := hC5'.blk hm4 (by simp; omega)
  have hr5 := hC5'.blk hr4 (by simp; omega)
  have hP5 := hM5.perm (heldM_put (p := p) HE.out.1.1 HE.out.1.2.1 HE.out.2.len (by have := HE.out.1.2.2.2; unfold QS.is at this; simp at this; exact this.1))
  have hW5 := hW4.kept hC5' (by simp; omega) (by simp; omega)
  have h5 : UAt w5 u v (N + 1) { s with S := putL s.S t p, M := s.M.set t.toNat (m1, m2) } := H3.out.1.stepS hP5 hW5 ((hC4.mono (by simp)).trans (hC5'.mono (by simp))) (by omega) (HE.out.2.putS HE.out.1.1 HE.out.1.2.2.1)
  have H4 := Lib.hid (And.intro h5 (And.intro ((H2.out.2.1.trans (H3.out.2.1.mono (by simp))).trans (chgQS ((hC4.mono (by simp)).trans (hC5'.mono (by simp))))) (And.intro hr5 hm5)))
  have c4 := cellB hq4 (i := 4) (v := .map (some u.h)) rfl
  have d0 := cellB hm4 (i := 0) (v := .int .i64 m1) rfl
  have d1 := cellB hm4 (i := 1) (v := .int .i64 m2) rfl
  have hbz := pBuild2 m1 m2 (-1)
  have p0 := cellB hm5 (i := 0) (v := .int .i64 m1) rfl
  have p1 := cellB hm5 (i := 1) (v := .int .i64 m2) rfl
  have r0 := cellB hr5 (i := 0) (v := .bool false) rfl
  have r1 := cellB hr5 (i := 1) (v := .int .i64 0) rfl
  have r2 := cellB hr5 (i := 2) (v := .int .i64 0) rfl
  have r3 := cellB hr5 (i := 3) (v := .int .i64 0) rfl
  have f1 := frozenB hr5
  unfold msgV at hru
  clear hW4 hC4 hn hla la lm lh hm4 hr4 hq4 hmp4 hM5 hC5 hC5' hm5 hr5 hP5 hW5 h5 c2
  go_wp2
  go_region
  all_goals go_wp2
  obtain ⟨W, hW⟩ : ∃ W, W = ((((w5.setCell ⟨bm + 1, 0, none⟩ (.bool false)).setCell ⟨bm + 1, 1, none⟩ (.int .i64 m1)).setCell ⟨bm + 1, 2, none⟩ (.int .i64 m2)).setCell ⟨bm + 1, 3, none⟩ (.int .i64 (-1))) := ⟨_, rfl⟩
  have hf : W.heap[bm + 1]? = some (.cells #[.bool false, .int .i64 m1, .int .i64 m2, .int .i64 (-1)] 58 (0, 0)) := by rw [hW]; exact res4 H4.out.2.2.1 _ _ _ _
  have hCW : Chg [bm + 1] w5 W := by rw [hW]; exact chg4 _ _ _ _ _ _
  rw [← hW]
  have q0 := cellB hf (i := 0) rfl
  have q1 := cellB hf (i := 1) rfl
  have q2 := cellB hf (i := 2) rfl
  have q3 := cellB hf (i := 3) rfl
  refine ⟨rfl, .tuple #[pdV ⟨false, m1, m2, -1⟩, .int .i64 0], ?_, ?_⟩
  · simp [results, Tryz.results14, go_sem, q0, q1, q2, q3, pdV]
  · rw [HQ.out]
    exact ⟨v, rfl, H4.out.1.kept hCW (fun k hk hm => by simp at hk; subst hk; have h1 := HS.out.2.2.2.2.1 _ hm; have h2 := HS.out.2.2.2.2.2; omega), H4.out.2.1.trans' hCW (fun k hk => by simp at hk; subst hk; exact .inr (by have := HS.out.2.2.2.2.2; omega)), .inl rfl⟩

theorem usendc (u : UB) (v : Value) (N : Int) (s : QS) (t p : Int) (m : Int × Int) (w : World) (h : UAt w u v N s) (hN : N < 4611686018427387904) :
    Calls Tryz.prog 14 #[.pointer (some ⟨u.q, 0, none⟩), .int .i64 t, .int .i64 p, msgV m] w (StepP u v (N + 1) (s.sendS t p m) (.tuple #[pdV (s.sendP t p m), .int .i64 (s.askE t p m.2 false)]) w) := by
  by_cases he : s.askE t p m.2 false = 0
  · cases hh : headB (ordL s.R) with
    | true => exact usend_take u v N s t p m w h he hh
    | false =>
      cases hf : s.full with
      | true => exact usend_full u v N s t p m w h hN he hh hf
      | false => exact usend_put u v N s t p m w h he hh hf
  · exact usend_no u v N s t p m w h he

end Go.Proofs.YtiiafhlckmkcnaaGreat
