
/- Package mqueue: Receive: contract. -/
import Derived.Test.YtiiafhlckmkcnaaGreatUg
namespace Go.Proofs.YtiiafhlckmkcnaaGreat
open Go.RowKit

theorem delM_len {L : WL} {x : Int × Int} {r : WL} (h : MsgOk L) (ho : ordM L = x :: r) : (delM L x.2).length + 1 = L.length := by
  have h1 := ordM_len h
  have h2 := ordM_len (h.del x.2)
  rw [ordM_del ho] at h2
  rw [ho, List.length_cons] at h1
  omega
theorem QInv.delL {s : QS} (h : QInv s) {x : Int × Int} {r : WL} (ho : s.ord = x :: r) : QInv { s with L := delM s.L x.2 } :=
  ⟨h.room, by
    have h1 := h.few
    have h2 := delM_len h.msg ho
    show ((delM s.L x.2).length : Int) ≤ s.room
    omega, h.msg.del x.2, h.ls, h.lr, h.len, h.held⟩
theorem QInv.handL {s : QS} (h : QInv s) {x : Int × Int} {r : WL} (ho : s.ord = x :: r) (t : Int) : QInv { s with L := delM s.L x.2 ++ [mAt s.M t], S := takeL s.S } :=
  ⟨h.room, by
    have h1 := h.few
    have h2 := delM_len h.msg ho
    show ((delM s.L x.2 ++ [mAt s.M t]).length : Int) ≤ s.room
    rw [List.length_append, List.length_cons, List.length_nil]
    omega, (h.msg.del x.2).put (h.held t), h.ls.sub (takeL_sub h.ls), h.lr, h.len, h.held⟩
theorem QInv.putR {s : QS} (h : QInv s) (t p : Int) : QInv { s with R := putL s.R t p } := ⟨h.room, h.few, h.msg, h.ls, h.lr.putL t p, h.len, h.held⟩
theorem takeL_del {L : WL} (h : headB (ordL L) = true) : takeL L = wdel L (headT (ordL L)) := by
  unfold takeL
  cases ho : ordL L with
  | nil => rw [ho] at h; cases h
  | cons x r => rfl
theorem head_has {L : WL} (h : headB (ordL L) = true) : hasR L (headT (ordL L)) = true := by
  cases ho : ordL L with
  | nil => rw [ho] at h; cases h
  | cons x r => exact hasR_mem.2 ⟨x.2, ordL_mem (by rw [ho]; simp [headT])⟩


set_option maxRecDepth 100000 in
set_option maxHeartbeats 4000000 in
theorem urcv_no (u : UB) (v : Value) (N : Int) (s : QS) (t p : Int) (w : World) (h : UAt w u v N s) (he : s.askE t p 0 false ≠ 0) :
    Calls Tryz.prog 16 #[.pointer (some ⟨u.q, 0, none⟩), .int .i64 t, .int .i64 p] w (StepP u v (N + 1) (s.rcvS t p) (.tuple #[pdV (s.rcvP t p), .int .i64 (s.askE t p 0 false)]) w) := by
  obtain ⟨br, hbr⟩ : ∃ br, br = w.heap.size := ⟨_, rfl⟩
  obtain ⟨w0, hw0⟩ : ∃ w0, w0 = w.alloc pd0B := ⟨_, rfl⟩
  have hC0 : Chg [] w w0 := by rw [hw0]; exact (Chg.refl _ _).alloc _
  have hr0 : w0.heap[br]? = some pd0B := by rw [hw0, hbr]; exact heap_alloc_eq w _
  have h0 := h.calm hC0
  have hA := uaskc u v N s t p 0 false w0 h0
  have hlt := h.lt
  have HS := Lib.hid (And.intro h0 (And.intro hr0 (And.intro hC0 (And.intro hlt hbr))))
  obtain ⟨QQ, hQQ⟩ : ∃ QQ, QQ = StepP u v (N + 1) (s.rcvS t p) (.tuple #[pdV (s.rcvP t p), .int .i64 (s.askE t p 0 false)]) w := ⟨_, rfl⟩
  rw [← hQQ]
  have e1 : s.rcvS t p = s := by unfold QS.rcvS; rw [if_neg he]
  have e2 : s.rcvP t p = pd0 := by unfold QS.rcvP; rw [if_neg he]
  rw [e1, e2] at hQQ
  obtain ⟨E, hE⟩ : ∃ E, E = s.askE t p 0 false := ⟨_, rfl⟩
  rw [← hE] at he hA hQQ
  have hb : (E != 0) = true := by simpa using he
  have hbz := pBuild0
  clear e1 e2 hE
  have HA := Lib.hid hA
  have HQ := Lib.hid hQQ
  clear h h0 hr0 hC0 hlt hA hQQ he
  unfold pd0B at hw0
  go_enter Tryz.func16, Tryz.ntmps16
  go_upto_region 1 with fail
  rw [← hbr, ← hw0]
  clear hbr hw0
  go_wp2_with fail
  refine HA.out.mono ?_
  rintro e w1 ⟨rfl, hC1⟩
  have hr1 := hC1.blk HS.out.2.1 (by simp)
  have r0 := cellB hr1 (i := 0) (v := .bool false) rfl
  have r1 := cellB hr1 (i := 1) (v := .int .i64 0) rfl
  have r2 := cellB hr1 (i := 2) (v := .int .i64 0) rfl
  have r3 := cellB hr1 (i := 3) (v := .int .i64 0) rfl
  have f1 := frozenB hr1
  have HC1 := Lib.hid (And.intro hC1 hr1)
  clear hC1 hr1
  go_wp2
  obtain ⟨W, hW⟩ : ∃ W, W = ((((w1.setCell ⟨br, 0, none⟩ (.bool false)).setCell ⟨br, 1, none⟩ (.int .i64 0)).setCell ⟨br, 2, none⟩ (.int .i64 0)).setCell ⟨br, 3, none⟩ (.int .i64 0)) := ⟨_, rfl⟩
  have hf : W.heap[br]? = some (.cells #[.bool false, .int .i64 0, .int .i64 0, .int .i64 0] 58 (0, 0)) := by rw [hW]; exact res4 HC1.out.2 _ _ _ _
  have hCW : Chg [br] w1 W := by rw [hW]; exact chg4 _ _ _ _ _ _
  have q0 := cellB hf (i := 0) rfl
  have q1 := cellB hf (i := 1) rfl
  have q2 := cellB hf (i := 2) rfl
  have q3 := cellB hf (i := 3) rfl
  rw [← hW]
  refine ⟨rfl, .tuple #[pdV pd0, .int .i64 E], ?_, ?_⟩
  · simp [results, Tryz.results16, go_sem, q0, q1, q2, q3, pdV, pd0]
  · rw [HQ.out]
    have hCC := HS.out.2.2.1.trans HC1.out.1
    have hCF : Chg [] w W := hCC.trans' hCW (fun k hk => by simp at hk; subst hk; exact .inr (by have := HS.out.2.2.2.2; omega))
    exact ⟨v, rfl, (HS.out.1.calm HC1.out.1).mono (by omega) |>.kept hCW (fun k hk hm => by simp at hk; subst hk; have h1 := HS.out.2.2.2.1 _ hm; have h2 := HS.out.2.2.2.2; omega), hCF.mono (by simp), .inl rfl⟩

set_option maxRecDepth 100000 in
set_option maxHeartbeats 4000000 in
theorem urcv_wait (u : UB) (v : Value) (N : Int) (s : QS) (t p : Int) (w : World) (h : UAt w u v N s) (hN : N < 4611686018427387904) (he : s.askE t p 0 false = 0) (ho : s.ord = []) :
    Calls Tryz.prog 16 #[.pointer (some ⟨u.q, 0, none⟩), .int .i64 t, .int .i64 p] w (StepP u v (N + 1) (s.rcvS t p) (.tuple #[pdV (s.rcvP t p), .int .i64 (s.askE t p 0 false)]) w) := by
  obtain ⟨br, hbr⟩ : ∃ br, br = w.heap.size := ⟨_, rfl⟩
  obtain ⟨w0, hw0⟩ : ∃ w0, w0 = w.alloc pd0B := ⟨_, rfl⟩
  have hC0 : Chg [] w w0 := by rw [hw0]; exact (Chg.refl _ _).alloc _
  have hr0 : w0.heap[br]? = some pd0B := by rw [hw0, hbr]; exact heap_alloc_eq w _
  have h0 := h.calm hC0
  have hA := uaskc u v N s t p 0 false w0 h0
  have hlt := h.lt
  have HS := Lib.hid (And.intro h0 (And.intro hr0 (And.intro hC0 (And.intro hlt hbr))))
  obtain ⟨QQ, hQQ⟩ : ∃ QQ, QQ = StepP u v (N + 1) (s.rcvS t p) (.tuple #[pdV (s.rcvP t p), .int .i64 (s.askE t p 0 false)]) w := ⟨_, rfl⟩
  rw [← hQQ]
  have e1 : s.rcvS t p = { s with R := putL s.R t p } := by unfold QS.rcvS; rw [if_pos he, ho]
  have e2 : s.rcvP t p = ⟨false, 0, 0, -1⟩ := by unfold QS.rcvP; rw [if_pos he, ho]
  rw [e1, e2, he] at hQQ
  rw [he] at hA
  have hbz := pBuild1 (-1)
  obtain ⟨a, cap, hva⟩ := own_slice h.row
  rw [ho, List.length_nil] at hva
  subst hva
  have HNN := Lib.hid (And.intro hN h.inv)
  clear e1 e2 hN
  have HA := Lib.hid hA
  have HQ := Lib.hid hQQ
  clear h h0 hr0 hC0 hlt hA hQQ he
  unfold pd0B at hw0
  go_enter Tryz.func16, Tryz.ntmps16
  go_upto_region 1 with fail
  rw [← hbr, ← hw0]
  clear hbr hw0
  go_wp2_with fail
  refine HA.out.mono ?_
  rintro e w1 ⟨rfl, hC1⟩
  have h1 := HS.out.1.calm hC1
  have hr1 := hC1.blk HS.out.2.1 (by simp)
  have c1 := cellB h1.head (i := 1) (v := .slice a 0 cap) rfl
  have c3 := cellB h1.head (i := 3) (v := .pointer (some ⟨u.ra, 0, none⟩)) rfl
  have HPu := Lib.hid (putc u.ra u.rm N s.R t p w1 h1.lr HNN.out.1)
  have H1 := Lib.hid (And.intro h1 (And.intro hC1 hr1))
  clear h1 hC1 hr1 ho
  go_wp2_with fail
  refine HPu.out.mono ?_
  rintro e w2 ⟨rfl, hW2, hC2⟩
  have hbq := HS.out.2.2.2.1
  have hbe := HS.out.2.2.2.2
  have l2 : u.ra < w.heap.size ∧ u.rm < w.heap.size := ⟨hbq _ (by simp [blkU, UB.l]), hbq _ (by simp [blkU, UB.l])⟩
  have hr2 := hC2.blk H1.out.2.2 (by simp; omega)
  have r0 := cellB hr2 (i := 0) (v := .bool false) rfl
  have r1 := cellB hr2 (i := 1) (v := .int .i64 0) rfl
  have r2 := cellB hr2 (i := 2) (v := .int .i64 0) rfl
  have r3 := cellB hr2 (i := 3) (v := .int .i64 0) rfl
  have f1 := frozenB hr2
  have H2 := Lib.hid (And.intro (H1.out.1.stepR hW2 hC2 (by omega) (HNN.out.2.putR t p)) (And.intro (((HS.out.2.2.1.trans H1.out.2.1).mono (by simp)).trans (chgQR (v := .slice a 0 cap) hC2)) hr2))
  clear hW2 hC2 hbq hbe l2 hr2 c1 c3
  go_wp2
  obtain ⟨W, hW⟩ : ∃ W, W = ((((w2.setCell ⟨br, 0, none⟩ (.bool false)).setCell ⟨br, 1, none⟩ (.int .i64 0)).setCell ⟨br, 2, none⟩ (.int .i64 0)).setCell ⟨br, 3, none⟩ (.int .i64 (-1))) := ⟨_, rfl⟩
  have hf : W.heap[br]? = some (.cells #[.bool false, .int .i64 0, .int .i64 0, .int .i64 (-1)] 58 (0, 0)) := by rw [hW]; exact res4 H2.out.2.2 _ _ _ _
  have hCW : Chg [br] w2 W := by rw [hW]; exact chg4 _ _ _ _ _ _
  have q0 := cellB hf (i := 0) rfl
  have q1 := cellB hf (i := 1) rfl
  have q2 := cellB hf (i := 2) rfl
  have q3 := cellB hf (i := 3) rfl
  rw [← hW]
  refine ⟨rfl, .tuple #[pdV ⟨false, 0, 0, -1⟩, .int .i64 0], ?_, ?_⟩
  · simp [results, Tryz.results16, go_sem, q0, q1, q2, q3, pdV]
  · rw [HQ.out]
    exact ⟨_, rfl, H2.out.1.kept hCW (fun k hk hm => by simp at hk; subst hk; have h1 := HS.out.2.2.2.1 _ hm; have h2 := HS.out.2.2.2.2; omega), H2.out.2.1.trans' hCW (fun k hk => by simp at hk; subst hk; exact .inr (by have := HS.out.2.2.2.2; omega)), .inl rfl⟩


set_option maxRecDepth 100000 in
set_option maxHeartbeats 4000000 in
theorem urcv_got (u : UB) (v : Value) (N : Int) (s : QS) (x : Int × Int) (r : WL) (t p : Int) (w : World) (h : UAt w u v N s) (he : s.askE t p 0 false = 0) (ho : s.ord = x :: r) (hh : headB (ordL s.S) = false) :
    Calls Tryz.prog 16 #[.pointer (some ⟨u.q, 0, none⟩), .int .i64 t, .int .i64 p] w (StepP u v (N + 1) (s.rcvS t p) (.tuple #[pdV (s.rcvP t p), .int .i64 (s.askE t p 0 false)]) w) := by
  obtain ⟨br, hbr⟩ : ∃ br, br = w.heap.size := ⟨_, rfl⟩
  obtain ⟨w0, hw0⟩ : ∃ w0, w0 = w.alloc pd0B := ⟨_, rfl⟩
  have hC0 : Chg [] w w0 := by rw [hw0]; exact (Chg.refl _ _).alloc _
  have hr0 : w0.heap[br]? = some pd0B := by rw [hw0, hbr]; exact heap_alloc_eq w _
  have h0 := h.calm hC0
  have hA := uaskc u v N s t p 0 false w0 h0
  have hlt := h.lt
  have HS := Lib.hid (And.intro h0 (And.intro hr0 (And.intro hC0 (And.intro hlt hbr))))
  obtain ⟨QQ, hQQ⟩ : ∃ QQ, QQ = StepP u v (N + 1) (s.rcvS t p) (.tuple #[pdV (s.rcvP t p), .int .i64 (s.askE t p 0 false)]) w := ⟨_, rfl⟩
  rw [← hQQ]
  have e1 : s.rcvS t p = { s with L := delM s.L x.2 } := by unfold QS.rcvS QS.rcv1; rw [if_pos he, ho]; simp only; rw [if_neg (by rw [hh]; decide)]
  have e2 : s.rcvP t p = ⟨true, x.1, x.2, -1⟩ := by unfold QS.rcvP; rw [if_pos he, ho]; simp only; rw [if_neg (by rw [hh]; decide)]
  rw [e1, e2] at hQQ
  clear e1 e2
  rw [he] at hA hQQ
  obtain ⟨x1, x2⟩ := x
  have hbz := pBuild true x1 x2 (-1)
  obtain ⟨n, hn⟩ : ∃ n, n = r.length := ⟨_, rfl⟩
  have hol : s.ord.length = n + 1 := by rw [ho, List.length_cons, hn]
  have hrow := h.row
  rw [hol] at hrow
  obtain ⟨g, cap, cur, hva, _, hg, hnc, _, _, hcur⟩ := own_blk hrow (by omega)
  subst hva
  have HI := Lib.hid (And.intro h.inv (And.intro ho (And.intro hn hol)))
  clear hrow
  have HA := Lib.hid hA
  have HQ := Lib.hid hQQ
  clear h h0 hr0 hC0 hlt hA hQQ he
  unfold pd0B at hw0
  go_enter Tryz.func16, Tryz.ntmps16
  go_upto_region 1 with fail
  rw [← hbr, ← hw0]
  clear hbr hw0
  go_wp2_with fail
  refine HA.out.mono ?_
  rintro e w1 ⟨rfl, hC1⟩
  have h1 := HS.out.1.calm hC1
  have hr1 := hC1.blk HS.out.2.1 (by simp)
  have c1 := cellB h1.head (i := 1) (v := .slice (some ⟨g, 0, none⟩) (n + 1) cap) rfl
  have hg1 := hC1.blk (HS.out.2.2.1.blk hg (by simp)) (by simp)
  have d0 := cellB hg1 (i := 0) (own_take hcur 0 (.int .i64 x1) (by rw [ho, flatW_cons]; rfl))
  have d1 := cellB hg1 (i := 1) (own_take hcur 1 (.int .i64 x2) (by rw [ho, flatW_cons]; rfl))
  have H1 := Lib.hid (And.intro h1 (And.intro hC1 hr1))
  have hne0 : ((n : Int) + 1 == 0) = false := by simp; omega
  have hn1 : (0 : Int) < (n : Int) + 1 := by omega
  clear h1 hC1 hr1 hg1 hg hcur ho hn hol
  go_upto_region 8 with fail
  obtain ⟨bp, hbp⟩ : ∃ bp, bp = w1.heap.size := ⟨_, rfl⟩
  obtain ⟨w2, hw2⟩ : ∃ w2, w2 = w1.alloc (.cells #[.bool true, .int .i64 x1, .int .i64 x2, .int .i64 (-1)] 58 (0, 0)) := ⟨_, rfl⟩
  have hC2 : Chg [] w1 w2 := by rw [hw2]; exact (Chg.refl _ _).alloc _
  have hp2 : w2.heap[bp]? = some (.cells #[.bool true, .int .i64 x1, .int .i64 x2, .int .i64 (-1)] 58 (0, 0)) := by rw [hw2, hbp]; exact heap_alloc_eq w1 _
  rw [← hbp, ← hw2]
  have h2 := H1.out.1.calm hC2
  have hr2 := hC2.blk H1.out.2.2 (by simp)
  have c1 := cellB h2.head (i := 1) (v := .slice (some ⟨g, 0, none⟩) (n + 1) cap) rfl
  have hrow2 := h2.row
  rw [HI.out.2.1, List.length_cons] at hrow2
  have HD := Lib.hid (udelc (.slice (some ⟨g, 0, none⟩) (n + 1) cap) (x1, x2) r w2 hrow2 (by have h1 := HI.out.1.few32; rw [HI.out.2.2.2] at h1; have h3 := HI.out.2.2.1; omega))
  have hlb : br < bp := by have h3 := lt_of_blk H1.out.2.2; omega
  have HLB := Lib.hid hlb
  have H2 := Lib.hid (And.intro h2 (And.intro ((HS.out.2.2.1.trans H1.out.2.1).trans hC2) (And.intro hr2 (And.intro hp2 hlb))))
  clear h2 hC2 hr2 hp2 hrow2 hw2 hbp hlb d0 d1
  go_wp2_with fail
  refine HD.out.mono ?_
  rintro e w3 ⟨v', rfl, hv3, hC3, hs3⟩
  obtain ⟨a3, cap3, rfl⟩ := own_slice hv3
  have hbl : ∀ k, w.heap.size ≤ k → k ∉ (Value.slice (some ⟨g, 0, none⟩) (n + 1) cap).ownBlock.toList := fun k hk hm => by have := HS.out.2.2.2.1 k (List.mem_append.2 (.inr hm)); omega
  have hb0 : w.heap.size ≤ br := by have := HS.out.2.2.2.2; omega
  have hq3 := hC3.blk H2.out.1.head (fun hm => H2.out.1.apart _ hm (by simp [UB.l]))
  have hr3 := hC3.blk H2.out.2.2.1 (hbl _ hb0)
  have hp3 := hC3.blk H2.out.2.2.2.1 (hbl _ (by have := H2.out.2.2.2.2; omega))
  have c1 := cellB hq3 (i := 1) (v := .slice (some ⟨g, 0, none⟩) (n + 1) cap) rfl
  have f1 := frozenB hq3 1
  obtain ⟨w4, hw4⟩ : ∃ w4, w4 = w3.setCell ⟨u.q, 1, none⟩ (.slice a3 r.length cap3) := ⟨_, rfl⟩
  have hC4 : Chg [u.q] w3 w4 := by rw [hw4]; exact (Chg.refl _ _).setCell _ _ (by simp)
  have hlq : u.q < w.heap.size := HS.out.2.2.2.1 u.q (by simp [blkU, UB.l])
  have hq4 : w4.heap[u.q]? = some (.cells (ucells u (.slice a3 r.length cap3) s.room) 49 (0, 0)) := by rw [hw4]; exact blk_setCell hq3 _
  have hr4 := hC4.blk hr3 (by simp; omega)
  have hp4 := hC4.blk hp3 (by simp; have := H2.out.2.2.2.2; omega)
  have hv4 := own_kept hv3 hC4 (fun k hk hm => by simp at hk; subst hk; rw [hs3] at hm; exact H2.out.1.apart _ hm (by simp [UB.l]))
  have hdel : ordM (delM s.L x2) = r := ordM_del (x := (x1, x2)) HI.out.2.1
  have h4 : UAt w4 u (.slice a3 r.length cap3) N { s with L := delM s.L x2 } := H2.out.1.stepL hq4 (by rw [hdel]; exact hv4) ((hC3.mono (fun k hk => .inl (List.mem_cons_of_mem _ hk))).trans (hC4.mono (by simp))) (HI.out.1.delL HI.out.2.1)
  have hC04 : Chg (blkU u (.slice (some ⟨g, 0, none⟩) (n + 1) cap)) w w4 := (H2.out.2.1.mono (by simp)).trans (chgQL ((hC3.mono (fun k hk => .inl (List.mem_cons_of_mem _ hk))).trans (hC4.mono (by simp))))
  have H4 := Lib.hid (And.intro h4 (And.intro hC04 (And.intro hr4 (And.intro hp4 hs3))))
  have HT := Lib.hid (takec u.sa u.sm N s.S w4 h4.ls)
  clear hv3 hC3 hs3 hq3 hr3 hp3 hC4 hlq hq4 hr4 hp4 hv4 hdel hC04 hbl hb0 HD H2 H1
  go_upto_region 9 with fail
  rw [← hw4]
  have c2 := cellB h4.head (i := 2) (v := .pointer (some ⟨u.sa, 0, none⟩)) rfl
  clear hw4 h4 c1 f1
  go_wp2_with fail
  refine HT.out.mono ?_
  rintro e w5 ⟨rfl, hW5, hC5⟩
  rw [hh]
  have l5 : u.sa < br ∧ u.sm < br := by
    have h1 := HS.out.2.2.2.1 u.sa (by simp [blkU, UB.l])
    have h2 := HS.out.2.2.2.1 u.sm (by simp [blkU, UB.l])
    have h3 := HS.out.2.2.2.2
    omega
  have hr5 := hC5.blk H4.out.2.2.1 (by simp; omega)
  have hp5 := hC5.blk H4.out.2.2.2.1 (by have := HLB.out; simp; omega)
  have h5' := H4.out.1.ls
  have h5 : UAt w5 u (.slice a3 r.length cap3) N { s with L := delM s.L x2 } := by
    have e := takeL_none hh
    rw [e] at hW5
    have hn := H4.out.1.ne
    have ha : ∀ k ∈ (Value.slice a3 r.length cap3).ownBlock.toList, k ∉ [u.sa, u.sm] := fun k hk hm => by
      simp at hm
      rcases hm with rfl | rfl
      · exact H4.out.1.apart _ hk (by simp [UB.l])
      · exact H4.out.1.apart _ hk (by simp [UB.l])
    exact ⟨hC5.blk H4.out.1.head (by simp; omega), own_kept H4.out.1.row hC5 (fun k hk hm => ha k hm hk), H4.out.1.held.kept hC5 (by simp; omega), hW5, H4.out.1.lr.kept hC5 (by simp; omega) (by simp; omega), H4.out.1.inv, H4.out.1.dis⟩
  have hC05 : Chg (blkU u (.slice (some ⟨g, 0, none⟩) (n + 1) cap)) w w5 := H4.out.2.1.trans (hC5.mono (fun k hk => .inl (by simp at hk; rcases hk with rfl | rfl <;> simp [blkU, UB.l])))
  have H5 := Lib.hid (And.intro h5 (And.intro hC05 (And.intro hr5 hp5)))
  have r0 := cellB hr5 (i := 0) (v := .bool false) rfl
  have r1 := cellB hr5 (i := 1) (v := .int .i64 0) rfl
  have r2 := cellB hr5 (i := 2) (v := .int .i64 0) rfl
  have r3 := cellB hr5 (i := 3) (v := .int .i64 0) rfl
  have f1 := frozenB hr5
  have p0 := cellB hp5 (i := 0) rfl
  have p1 := cellB hp5 (i := 1) rfl
  have p2 := cellB hp5 (i := 2) rfl
  have p3 := cellB hp5 (i := 3) rfl
  clear hW5 hC5 h5 h5' hC05 hr5 hp5 l5 HT c2
  go_wp2
  obtain ⟨W, hW⟩ : ∃ W, W = ((((w5.setCell ⟨br, 0, none⟩ (.bool true)).setCell ⟨br, 1, none⟩ (.int .i64 x1)).setCell ⟨br, 2, none⟩ (.int .i64 x2)).setCell ⟨br, 3, none⟩ (.int .i64 (-1))) := ⟨_, rfl⟩
  have hf : W.heap[br]? = some (.cells #[.bool true, .int .i64 x1, .int .i64 x2, .int .i64 (-1)] 58 (0, 0)) := by rw [hW]; exact res4 H5.out.2.2.1 _ _ _ _
  have hCW : Chg [br] w5 W := by rw [hW]; exact chg4 _ _ _ _ _ _
  have q0 := cellB hf (i := 0) rfl
  have q1 := cellB hf (i := 1) rfl
  have q2 := cellB hf (i := 2) rfl
  have q3 := cellB hf (i := 3) rfl
  rw [← hW]
  refine ⟨rfl, .tuple #[pdV ⟨true, x1, x2, -1⟩, .int .i64 0], ?_, ?_⟩
  · simp [results, Tryz.results16, go_sem, q0, q1, q2, q3, pdV]
  · rw [HQ.out]
    refine ⟨_, rfl, (H5.out.1.mono (by omega)).kept hCW (fun k hk hm => ?_), H5.out.2.1.trans' hCW (fun k hk => by simp at hk; subst hk; exact .inr (by have := HS.out.2.2.2.2; omega)), .inl H4.out.2.2.2.2⟩
    simp at hk
    subst hk
    have hb := HS.out.2.2.2.2
    unfold blkU at hm
    rw [H4.out.2.2.2.2] at hm
    have := HS.out.2.2.2.1 _ hm
    omega

set_option maxRecDepth 100000 in
set_option maxHeartbeats 4000000 in
theorem urcv_hand (u : UB) (v : Value) (N : Int) (s : QS) (x : Int × Int) (r : WL) (t p : Int) (w : World) (h : UAt w u v N s) (he : s.askE t p 0 false = 0) (ho : s.ord = x :: r) (hh : headB (ordL s.S) = true) :
    Calls Tryz.prog 16 #[.pointer (some ⟨u.q, 0, none⟩), .int .i64 t, .int .i64 p] w (StepP u v (N + 1) (s.rcvS t p) (.tuple #[pdV (s.rcvP t p), .int .i64 (s.askE t p 0 false)]) w) := by
  obtain ⟨br, hbr⟩ : ∃ br, br = w.heap.size := ⟨_, rfl⟩
  obtain ⟨w0, hw0⟩ : ∃ w0, w0 = w.alloc pd0B := ⟨_, rfl⟩
  have hC0 : Chg [] w w0 := by rw [hw0]; exact (Chg.refl _ _).alloc _
  have hr0 : w0.heap[br]? = some pd0B := by rw [hw0, hbr]; exact heap_alloc_eq w _
  have h0 := h.calm hC0
  have hA := uaskc u v N s t p 0 false w0 h0
  have hlt := h.lt
  have HS := Lib.hid (And.intro h0 (And.intro hr0 (And.intro hC0 (And.intro hlt hbr))))
  obtain ⟨QQ, hQQ⟩ : ∃ QQ, QQ = StepP u v (N + 1) (s.rcvS t p) (.tuple #[pdV (s.rcvP t p), .int .i64 (s.askE t p 0 false)]) w := ⟨_, rfl⟩
  rw [← hQQ]
  have e1 : s.rcvS t p = { s with L := delM s.L x.2 ++ [mAt s.M (headT (ordL s.S))], S := takeL s.S } := by unfold QS.rcvS QS.rcv1; rw [if_pos he, ho]; simp only; rw [if_pos hh]
  have e2 : s.rcvP t p = ⟨true, x.1, x.2, headT (ordL s.S)⟩ := by unfold QS.rcvP; rw [if_pos he, ho]; simp only; rw [if_pos hh]
  rw [e1, e2] at hQQ
  clear e1 e2
  rw [he] at hA hQQ
  obtain ⟨x1, x2⟩ := x
  have hbz := pBuild true x1 x2 (-1)
  obtain ⟨n, hn⟩ : ∃ n, n = r.length := ⟨_, rfl⟩
  have hol : s.ord.length = n + 1 := by rw [ho, List.length_cons, hn]
  have hrow := h.row
  rw [hol] at hrow
  obtain ⟨g, cap, cur, hva, _, hg, hnc, _, _, hcur⟩ := own_blk hrow (by omega)
  subst hva
  have HI := Lib.hid (And.intro h.inv (And.intro ho (And.intro hn hol)))
  clear hrow
  have HA := Lib.hid hA
  have HQ := Lib.hid hQQ
  clear h h0 hr0 hC0 hlt hA hQQ he
  unfold pd0B at hw0
  go_enter Tryz.func16, Tryz.ntmps16
  go_upto_region 1 with fail
  rw [← hbr, ← hw0]
  clear hbr hw0
  go_wp2_with fail
  refine HA.out.mono ?_
  rintro e w1 ⟨rfl, hC1⟩
  have h1 := HS.out.1.calm hC1
  have hr1 := hC1.blk HS.out.2.1 (by simp)
  have c1 := cellB h1.head (i := 1) (v := .slice (some ⟨g, 0, none⟩) (n + 1) cap) rfl
  have hg1 := hC1.blk (HS.out.2.2.1.blk hg (by simp)) (by simp)
  have d0 := cellB hg1 (i := 0) (own_take hcur 0 (.int .i64 x1) (by rw [ho, flatW_cons]; rfl))
  have d1 := cellB hg1 (i := 1) (own_take hcur 1 (.int .i64 x2) (by rw [ho, flatW_cons]; rfl))
  have H1 := Lib.hid (And.intro h1 (And.intro hC1 hr1))
  have hne0 : ((n : Int) + 1 == 0) = false := by simp; omega
  have hn1 : (0 : Int) < (n : Int) + 1 := by omega
  clear h1 hC1 hr1 hg1 hg hcur ho hn hol
  go_upto_region 8 with fail
  obtain ⟨bp, hbp⟩ : ∃ bp, bp = w1.heap.size := ⟨_, rfl⟩
  obtain ⟨w2, hw2⟩ : ∃ w2, w2 = w1.alloc (.cells #[.bool true, .int .i64 x1, .int .i64 x2, .int .i64 (-1)] 58 (0, 0)) := ⟨_, rfl⟩
  have hC2 : Chg [] w1 w2 := by rw [hw2]; exact (Chg.refl _ _).alloc _
  have hp2 : w2.heap[bp]? = some (.cells #[.bool true, .int .i64 x1, .int .i64 x2, .int .i64 (-1)] 58 (0, 0)) := by rw [hw2, hbp]; exact heap_alloc_eq w1 _
  rw [← hbp, ← hw2]
  have h2 := H1.out.1.calm hC2
  have hr2 := hC2.blk H1.out.2.2 (by simp)
  have c1 := cellB h2.head (i := 1) (v := .slice (some ⟨g, 0, none⟩) (n + 1) cap) rfl
  have hrow2 := h2.row
  rw [HI.out.2.1, List.length_cons] at hrow2
  have HD := Lib.hid (udelc (.slice (some ⟨g, 0, none⟩) (n + 1) cap) (x1, x2) r w2 hrow2 (by have h1 := HI.out.1.few32; rw [HI.out.2.2.2] at h1; have h3 := HI.out.2.2.1; omega))
  have hlb : br < bp := by have h3 := lt_of_blk H1.out.2.2; omega
  have HLB := Lib.hid hlb
  have H2 := Lib.hid (And.intro h2 (And.intro ((HS.out.2.2.1.trans H1.out.2.1).trans hC2) (And.intro hr2 (And.intro hp2 hlb))))
  clear h2 hC2 hr2 hp2 hrow2 hw2 hbp hlb d0 d1
  go_wp2_with fail
  refine HD.out.mono ?_
  rintro e w3 ⟨v', rfl, hv3, hC3, hs3⟩
  obtain ⟨a3, cap3, rfl⟩ := own_slice hv3
  have hbl : ∀ k, w.heap.size ≤ k → k ∉ (Value.slice (some ⟨g, 0, none⟩) (n + 1) cap).ownBlock.toList := fun k hk hm => by have := HS.out.2.2.2.1 k (List.mem_append.2 (.inr hm)); omega
  have hb0 : w.heap.size ≤ br := by have := HS.out.2.2.2.2; omega
  have hq3 := hC3.blk H2.out.1.head (fun hm => H2.out.1.apart _ hm (by simp [UB.l]))
  have hr3 := hC3.blk H2.out.2.2.1 (hbl _ hb0)
  have hp3 := hC3.blk H2.out.2.2.2.1 (hbl _ (by have := H2.out.2.2.2.2; omega))
  have c1 := cellB hq3 (i := 1) (v := .slice (some ⟨g, 0, none⟩) (n + 1) cap) rfl
  have f1 := frozenB hq3 1
  obtain ⟨w4, hw4⟩ : ∃ w4, w4 = w3.setCell ⟨u.q, 1, none⟩ (.slice a3 r.length cap3) := ⟨_, rfl⟩
  have hC4 : Chg [u.q] w3 w4 := by rw [hw4]; exact (Chg.refl _ _).setCell _ _ (by simp)
  have hlq : u.q < w.heap.size := HS.out.2.2.2.1 u.q (by simp [blkU, UB.l])
  have hq4 : w4.heap[u.q]? = some (.cells (ucells u (.slice a3 r.length cap3) s.room) 49 (0, 0)) := by rw [hw4]; exact blk_setCell hq3 _
  have hr4 := hC4.blk hr3 (by simp; omega)
  have hp4 := hC4.blk hp3 (by simp; have := H2.out.2.2.2.2; omega)
  have hv4 := own_kept hv3 hC4 (fun k hk hm => by simp at hk; subst hk; rw [hs3] at hm; exact H2.out.1.apart _ hm (by simp [UB.l]))
  have hdel : ordM (delM s.L x2) = r := ordM_del (x := (x1, x2)) HI.out.2.1
  have h4 : UAt w4 u (.slice a3 r.length cap3) N { s with L := delM s.L x2 } := H2.out.1.stepL hq4 (by rw [hdel]; exact hv4) ((hC3.mono (fun k hk => .inl (List.mem_cons_of_mem _ hk))).trans (hC4.mono (by simp))) (HI.out.1.delL HI.out.2.1)
  have hC04 : Chg (blkU u (.slice (some ⟨g, 0, none⟩) (n + 1) cap)) w w4 := (H2.out.2.1.mono (by simp)).trans (chgQL ((hC3.mono (fun k hk => .inl (List.mem_cons_of_mem _ hk))).trans (hC4.mono (by simp))))
  have H4 := Lib.hid (And.intro h4 (And.intro hC04 (And.intro hr4 (And.intro hp4 hs3))))
  have HT := Lib.hid (takec u.sa u.sm N s.S w4 h4.ls)
  clear hv3 hC3 hs3 hq3 hr3 hp3 hC4 hlq hq4 hr4 hp4 hv4 hdel hC04 hbl hb0 HD H2 H1
  go_upto_region 9 with fail
  rw [← hw4]
  have c2 := cellB h4.head (i := 2) (v := .pointer (some ⟨u.sa, 0, none⟩)) rfl
  clear hw4 h4 c1 f1
  go_wp2_with fail
  refine HT.out.mono ?_
  rintro e w5 ⟨rfl, hW5, hC5⟩
  rw [hh]
  have l5 : u.sa < br ∧ u.sm < br := by
    have h1 := HS.out.2.2.2.1 u.sa (by simp [blkU, UB.l])
    have h2 := HS.out.2.2.2.1 u.sm (by simp [blkU, UB.l])
    have h3 := HS.out.2.2.2.2
    omega
  have hr5 := hC5.blk H4.out.2.2.1 (by simp; omega)
  have hp5 := hC5.blk H4.out.2.2.2.1 (by have := HLB.out; simp; omega)
  have hn := H4.out.1.ne
  have hq5 := hC5.blk H4.out.1.head (by simp; omega)
  have hrow5 : w5.ownsRow 0 33 2 (.slice a3 r.length cap3) r.length (flatW r) := by
    have h1 := own_kept H4.out.1.row hC5 (fun k hk hm => by
      simp at hk
      rcases hk with rfl | rfl
      · exact H4.out.1.apart _ hm (by simp [UB.l])
      · exact H4.out.1.apart _ hm (by simp [UB.l]))
    rw [show QS.ord { s with L := delM s.L x2 } = r from ordM_del (x := (x1, x2)) HI.out.2.1] at h1
    exact h1
  have hmp5 := H4.out.1.held.kept hC5 (by simp; omega)
  have hls := HI.out.1.ls
  obtain ⟨o, hoo⟩ : ∃ o, o = headT (ordL s.S) := ⟨_, rfl⟩
  have hlk := run_lookup_P1 (P := Tryz.prog) Tryz.underlying46 Tryz.underlying3 (z := .agg #[.int .i64 0, .int .i64 0]) (show (zeroValue 33).run Tryz.prog w5 = .ok (.agg #[.int .i64 0, .int .i64 0]) w5 by kernel_rfl) hmp5 o
  rw [heldM_look hls (by rw [hoo]; exact head_has hh)] at hlk
  simp only [Option.getD_some] at hlk
  obtain ⟨m, hm⟩ : ∃ m, m = mAt s.M o := ⟨_, rfl⟩
  rw [← hm] at hlk
  rw [← hoo] at HQ ⊢
  rw [← hm] at HQ
  have HPu := Lib.hid (uputc u (.slice a3 r.length cap3) s.room r m w5 hq5 hrow5 (by have h1 := HI.out.1.few32; rw [HI.out.2.2.2] at h1; have h3 := HI.out.2.2.1; omega))
  have c4 := cellB hq5 (i := 4) (v := .map (some u.h)) rfl
  have H5 := Lib.hid (And.intro hW5 (And.intro hC5 (And.intro hr5 (And.intro hp5 (And.intro hmp5 (And.intro hoo hm))))))
  clear hW5 hC5 hr5 hp5 hmp5 hoo hm hq5 hrow5 hls HT c2 hn
  have HH := Lib.hid hh
  clear hh
  go_wp2_with fail
  refine HPu.out.mono ?_
  rintro e w6 ⟨v6, rfl, hq6, hrow6, hC6, hs6⟩
  have hown : (Value.slice a3 r.length cap3).ownBlock = (Value.slice (some ⟨g, 0, none⟩) (n + 1) cap).ownBlock := H4.out.2.2.2.2
  have hin : ∀ k ∈ u.l, k ≠ u.q → k ∉ u.q :: (Value.slice a3 r.length cap3).ownBlock.toList := fun k hk hq hm => by
    rcases List.mem_cons.1 hm with h1 | h1
    · exact hq h1
    · exact H4.out.1.apart _ h1 hk
  have hout : ∀ k, w.heap.size ≤ k → k ∉ u.q :: (Value.slice a3 r.length cap3).ownBlock.toList := fun k hk hm => by
    rcases List.mem_cons.1 hm with rfl | h1
    · have := HS.out.2.2.2.1 u.q (by simp [blkU, UB.l]); omega
    · rw [hown] at h1
      have := HS.out.2.2.2.1 k (List.mem_append.2 (.inr h1)); omega
  have hbb : w.heap.size ≤ br ∧ br < bp := ⟨by have := HS.out.2.2.2.2; omega, HLB.out⟩
  have hn := H4.out.1.ne
  have hmp6 := H5.out.2.2.2.2.1.kept hC6 (hin _ (by simp [UB.l]) (by omega))
  obtain ⟨w7, hru, hM7, hC7⟩ := run_delete_P (P := Tryz.prog) Tryz.underlying46 Tryz.underlying3 hmp6 o 3 0
  have hlh : u.h < w.heap.size := HS.out.2.2.2.1 u.h (by simp [blkU, UB.l])
  have hr7 := hC7.blk (hC6.blk H5.out.2.2.1 (hout _ hbb.1)) (by simp; omega)
  have hp7 := hC7.blk (hC6.blk H5.out.2.2.2.1 (hout _ (by omega))) (by simp; omega)
  have hv6 : ∀ k ∈ v6.ownBlock.toList, k ∉ u.l ∧ k ≠ br ∧ k ≠ bp := fun k hk => by
    obtain ⟨cs, hcs⟩ := own_cells hrow6 k hk
    rcases hs6.sub k hk with h1 | h1
    · refine ⟨H4.out.1.apart _ h1, fun e => ?_, fun e => ?_⟩
      · exact hout _ hbb.1 (by rw [← e]; exact List.mem_cons_of_mem _ h1)
      · exact hout bp (by omega) (by rw [← e]; exact List.mem_cons_of_mem _ h1)
    · have h3 := lt_of_blk H5.out.2.2.2.1
      refine ⟨fun h2 => ?_, by omega, by omega⟩
      have h4 := HS.out.2.2.2.1 k (List.mem_append.2 (.inl h2))
      have h5 := H4.out.2.1.size
      have h6 := H5.out.2.1.size
      omega
  obtain ⟨w8, hw8⟩ : ∃ w8, w8 = w7.setCell ⟨bp, 3, none⟩ (.int .i64 o) := ⟨_, rfl⟩
  have hC8 : Chg [bp] w7 w8 := by rw [hw8]; exact (Chg.refl _ _).setCell _ _ (by simp)
  have hC68 : Chg [u.h, bp] w6 w8 := (hC7.mono (by simp)).trans (hC8.mono (by simp))
  have hlu : ∀ k ∈ u.l, k < bp := fun k hk => by have := HS.out.2.2.2.1 k (List.mem_append.2 (.inl hk)); omega
  have lq := hlu u.q (by simp [UB.l])
  have lsa := hlu u.sa (by simp [UB.l])
  have lsm := hlu u.sm (by simp [UB.l])
  have lra := hlu u.ra (by simp [UB.l])
  have lrm := hlu u.rm (by simp [UB.l])
  have lh := hlu u.h (by simp [UB.l])
  have hr8 := hC8.blk hr7 (by simp; omega)
  have hord : ordM (delM s.L x2 ++ [m]) = insM r m := by
    have h1 : ordM (delM s.L x2) = r := ordM_del (x := (x1, x2)) HI.out.2.1
    rw [ordM_put (by rw [H5.out.2.2.2.2.2.2]; exact HI.out.1.held o), h1]
  have hinv : QInv { s with L := delM s.L x2 ++ [m], S := takeL s.S } := by rw [H5.out.2.2.2.2.2.2]; exact HI.out.1.handL HI.out.2.1 o
  have h8 : UAt w8 u v6 N { s with L := delM s.L x2 ++ [m], S := takeL s.S } :=
    ⟨hC68.blk hq6 (by simp; omega), by
      have e : (insM r m).length = r.length + 1 := by
        have h1 := (hinv.olen).trans (show (delM s.L x2 ++ [m]).length = r.length + 1 by
          have h2 := ordM_len (HI.out.1.msg.del x2)
          rw [show ordM (delM s.L x2) = r from ordM_del (x := (x1, x2)) HI.out.2.1] at h2
          rw [List.length_append, ← h2]; rfl)
        rw [show QS.ord { s with L := delM s.L x2 ++ [m], S := takeL s.S } = insM r m from hord] at h1
        exact h1
      rw [show QS.ord { s with L := delM s.L x2 ++ [m], S := takeL s.S } = insM r m from hord, e]
      exact own_kept hrow6 hC68 (fun k hk hm => by
        have h1 := hv6 k hm
        simp at hk
        rcases hk with rfl | rfl
        · exact h1.1 (by simp [UB.l])
        · exact h1.2.2 rfl),
      (hM7.perm (heldM_del HI.out.1.ls (by rw [H5.out.2.2.2.2.2.1]; exact takeL_del HH.out))).kept hC8 (by simp; omega),
      (H5.out.1.kept hC6 (hin _ (by simp [UB.l]) (by omega)) (hin _ (by simp [UB.l]) (by omega))).kept hC68 (by simp; omega) (by simp; omega),
      ((H4.out.1.lr.kept H5.out.2.1 (by simp; omega) (by simp; omega)).kept hC6 (hin _ (by simp [UB.l]) (by omega)) (hin _ (by simp [UB.l]) (by omega))).kept hC68 (by simp; omega) (by simp; omega), hinv, H4.out.1.dis⟩
  have hC08 : Chg (blkU u (.slice (some ⟨g, 0, none⟩) (n + 1) cap)) w w8 := by
    refine ((H4.out.2.1.trans (H5.out.2.1.mono (fun k hk => .inl (by simp at hk; rcases hk with rfl | rfl <;> simp [blkU, UB.l])))).trans (hC6.mono (fun k hk => .inl ?_))).trans' hC68 (fun k hk => ?_)
    · unfold blkU
      rcases List.mem_cons.1 hk with rfl | h1
      · exact List.mem_append.2 (.inl (by simp [UB.l]))
      · rw [hown] at h1; exact List.mem_append.2 (.inr h1)
    · simp at hk
      rcases hk with rfl | rfl
      · exact .inl (by simp [blkU, UB.l])
      · exact .inr (by omega)
  have hsb : SameBlk (.slice (some ⟨g, 0, none⟩) (n + 1) cap) v6 w := by
    rcases hs6 with h1 | ⟨k, h1, h2⟩
    · exact .inl (by rw [h1, hown])
    · exact .inr ⟨k, by have h5 := H4.out.2.1.size; have h6 := H5.out.2.1.size; omega, h2⟩
  have hnb : br ∉ blkU u v6 := fun hm => by
    rcases List.mem_append.1 hm with h1 | h1
    · have := HS.out.2.2.2.1 _ (List.mem_append.2 (.inl h1)); omega
    · exact (hv6 _ h1).2.1 rfl
  have H8 := Lib.hid (And.intro h8 (And.intro hC08 (And.intro hr8 (And.intro hsb (And.intro hnb hbb)))))
  have c4 := cellB hq6 (i := 4) (v := .map (some u.h)) rfl
  have r0 := cellB hr7 (i := 0) (v := .bool false) rfl
  have r1 := cellB hr7 (i := 1) (v := .int .i64 0) rfl
  have r2 := cellB hr7 (i := 2) (v := .int .i64 0) rfl
  have r3 := cellB hr7 (i := 3) (v := .int .i64 0) rfl
  have f1 := frozenB hr7
  have p0 := cellB hp7 (i := 0) rfl
  have p1 := cellB hp7 (i := 1) rfl
  have p2 := cellB hp7 (i := 2) rfl
  have p3 := cellB hp7 (i := 3) rfl
  have f2 := frozenB hp7
  have hbne : ¬ br = bp := by omega
  have hbne' : ¬ bp = br := by omega
  clear hq6 hrow6 hC6 hs6 hown hin hout hbb hn hmp6 hM7 hC7 hlh hr7 hp7 hv6 hC8 hC68 hlu lq lsa lsm lra lrm lh hr8 hord hinv h8 hC08 hsb hnb hlk l5 HPu
  go_wp2
  rw [← hw8]
  obtain ⟨W, hW⟩ : ∃ W, W = ((((w8.setCell ⟨br, 0, none⟩ (.bool true)).setCell ⟨br, 1, none⟩ (.int .i64 x1)).setCell ⟨br, 2, none⟩ (.int .i64 x2)).setCell ⟨br, 3, none⟩ (.int .i64 o)) := ⟨_, rfl⟩
  have hf : W.heap[br]? = some (.cells #[.bool true, .int .i64 x1, .int .i64 x2, .int .i64 o] 58 (0, 0)) := by rw [hW]; exact res4 H8.out.2.2.1 _ _ _ _
  have hCW : Chg [br] w8 W := by rw [hW]; exact chg4 _ _ _ _ _ _
  have q0 := cellB hf (i := 0) rfl
  have q1 := cellB hf (i := 1) rfl
  have q2 := cellB hf (i := 2) rfl
  have q3 := cellB hf (i := 3) rfl
  rw [← hW]
  refine ⟨rfl, .tuple #[pdV ⟨true, x1, x2, o⟩, .int .i64 0], ?_, ?_⟩
  · simp [results, Tryz.results16, go_sem, q0, q1, q2, q3, pdV]
  · rw [HQ.out]
    exact ⟨_, rfl, (H8.out.1.mono (by omega)).kept hCW (fun k hk hm => by simp at hk; subst hk; exact H8.out.2.2.2.2.1 hm), H8.out.2.1.trans' hCW (fun k hk => by simp at hk; subst hk; exact .inr H8.out.2.2.2.2.2.1), H8.out.2.2.2.1⟩

theorem urcvc (u : UB) (v : Value) (N : Int) (s : QS) (t p : Int) (w : World) (h : UAt w u v N s) (hN : N < 4611686018427387904) :
    Calls Tryz.prog 16 #[.pointer (some ⟨u.q, 0, none⟩), .int .i64 t, .int .i64 p] w (StepP u v (N + 1) (s.rcvS t p) (.tuple #[pdV (s.rcvP t p), .int .i64 (s.askE t p 0 false)]) w) := by
  by_cases he : s.askE t p 0 false = 0
  · cases ho : s.ord with
    | nil => exact urcv_wait u v N s t p w h hN he ho
    | cons x r =>
      cases hh : headB (ordL s.S) with
      | true => exact urcv_hand u v N s x r t p w h he ho hh
      | false => exact urcv_got u v N s x r t p w h he ho hh
  · exact urcv_no u v N s t p w h he

end Go.Proofs.YtiiafhlckmkcnaaGreat
