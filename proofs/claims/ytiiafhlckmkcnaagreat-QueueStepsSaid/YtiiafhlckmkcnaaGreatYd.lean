
/- metronomeref18: Receive: contract. -/
import Derived.Test.YtiiafhlckmkcnaaGreatYc
import Derived.Test.YtiiafhlckmkcnaaGreatUh
namespace Go.Proofs.YtiiafhlckmkcnaaGreat
open Go.RowKit

theorem delM_cut {x : Int × Int} : ∀ {L : WL}, x ∈ L → ∃ i y, L[i]? = some y ∧ y.2 = x.2 ∧ (∀ (j : Nat) z, j < i → L[j]? = some z → z.2 ≠ x.2) ∧ delM L x.2 = L.take i ++ L.drop (i + 1)
  | [], h => by cases h
  | a :: l, h => by
    by_cases ha : a.2 = x.2
    · exact ⟨0, a, rfl, ha, fun j z hj => by omega, by unfold delM; rw [List.eraseP_cons_of_pos (by simpa using ha)]; rfl⟩
    · have hx : x ∈ l := by
        rcases List.mem_cons.1 h with rfl | h1
        · exact absurd rfl ha
        · exact h1
      obtain ⟨i, y, h1, h2, h3, h4⟩ := delM_cut hx
      refine ⟨i + 1, y, by simpa using h1, h2, fun j z hj hz => ?_, ?_⟩
      · cases j with
        | zero => simp at hz; subst hz; exact ha
        | succ j => exact h3 j z (by omega) (by simpa using hz)
      · unfold delM at h4 ⊢
        rw [List.eraseP_cons_of_neg (by simpa using ha), h4]
        rfl
theorem cut_way {w4 : World} {rc rr rw g cap i : Nat} {s : QS} {y : Int × Int} (h4 : DQ w4 rc rr rw (.slice (some ⟨g, 0, none⟩) s.L.length cap) s) (hi : s.L[i]? = some y) (hI : QInv { s with L := s.L.take i ++ s.L.drop (i + 1) }) :
    ∃ a1 c1 w5 A a2 c2 w6, (Builtin.append_ #[47, 47] 47 #[.slice none 0 0, .slice (some ⟨g, 0, none⟩) i cap]).run Tryz.prog w4.drew = .ok (.slice a1 (s.L.take i).length c1) w5 ∧
      (if cap = i + 1 then (some ⟨g, 0, none⟩ : Option Addr) else some ⟨g, (i + 1) * 2, none⟩) = some A ∧
      (Builtin.append_ #[47, 47] 47 #[.slice a1 (s.L.take i).length c1, .slice (some A) (s.L.length - (i + 1)) (cap - (i + 1))]).run Tryz.prog w5 = .ok (.slice a2 (s.L.take i ++ s.L.drop (i + 1)).length c2) w6 ∧
      Chg [] w4 w5 ∧ Chg [] w4 w6 ∧
      DQ (w6.setCell ⟨rc, 1, none⟩ (.slice a2 (s.L.take i ++ s.L.drop (i + 1)).length c2)) rc rr rw (.slice a2 (s.L.take i ++ s.L.drop (i + 1)).length c2) { s with L := s.L.take i ++ s.L.drop (i + 1) } ∧
      Chg [rc] w4 (w6.setCell ⟨rc, 1, none⟩ (.slice a2 (s.L.take i ++ s.L.drop (i + 1)).length c2)) ∧
      (∀ k ∈ (Value.slice a2 (s.L.take i ++ s.L.drop (i + 1)).length c2).ownBlock.toList, w4.heap.size ≤ k) ∧ s.L.length ≤ cap ∧ cap ≤ maxLen := by
  have hil : i < s.L.length := (List.getElem?_eq_some_iff.1 hi).1
  have hf := h4.few
  obtain ⟨g', cap', cur, e, _, hgb, hnc, hcm, _, hcur⟩ := own_blk h4.row (by omega)
  injection e with e1 e2 e3
  injection e1 with e1
  injection e1 with e1
  subst e1
  subst e3
  have hcell : ∀ j u, (flatW s.L)[j]? = some u → w4.drew.cell? ⟨g, j, none⟩ = some u := fun j u hj => cellB (w := w4.drew) hgb (own_take hcur j u hj)
  have hadd : ∀ o j : Nat, ((⟨g, o, none⟩ : Addr).add j) = ⟨g, o + j, none⟩ := fun o j => by unfold Addr.add; split <;> simp_all
  have hs1 : SrcAt w4.drew (.slice (some ⟨g, 0, none⟩) i cap) (s.L.take i).length (flatW (s.L.take i)) := .inr ⟨⟨g, 0, none⟩, cap, by rw [List.length_take, Nat.min_eq_left (by omega)], fun j u hj => by
    rw [hadd, Nat.zero_add]
    refine hcell j u ?_
    have e : flatW s.L = flatW (s.L.take i) ++ flatW (s.L.drop i) := by rw [← flatW_app2, List.take_append_drop]
    rw [e, List.getElem?_append_left (List.getElem?_eq_some_iff.1 hj).1]
    exact hj⟩
  obtain ⟨v1, w5, hr1, ho1, hC1⟩ := run_freshM hs1 (by rw [List.length_take]; omega)
  obtain ⟨A, hA, hs2⟩ : ∃ A, (if cap = i + 1 then (⟨g, 0, none⟩ : Addr) else ⟨g, (i + 1) * 2, none⟩) = A ∧ SrcAt w5 (.slice (some A) (s.L.length - (i + 1)) (cap - (i + 1))) (s.L.drop (i + 1)).length (flatW (s.L.drop (i + 1))) := by
    refine ⟨_, rfl, .inr ⟨_, cap - (i + 1), by rw [List.length_drop], fun j u hj => ?_⟩⟩
    have hjl := (List.getElem?_eq_some_iff.1 hj).1
    rw [flatW_len, List.length_drop] at hjl
    rw [if_neg (by omega), hadd]
    have e : flatW s.L = flatW (s.L.take (i + 1)) ++ flatW (s.L.drop (i + 1)) := by rw [← flatW_app2, List.take_append_drop]
    have hlen : (flatW (s.L.take (i + 1))).length = (i + 1) * 2 := by rw [flatW_len, List.length_take, Nat.min_eq_left (by omega)]
    have := hcell ((i + 1) * 2 + j) u (by rw [e, ← hlen, List.getElem?_append_right (by omega), Nat.add_sub_cancel_left]; exact hj)
    exact SrcAt.calm.cell_calm this hC1
  obtain ⟨v2, w6, hr2, ho2, hC2, _⟩ := run_moreM (B := w4.drew.heap.size) ho1 hs2 (by rw [List.length_take, List.length_drop]; omega) hC1.size
  have hC0 : Chg [] w4 w5 := ((Chg.refl [] w4).drew).trans hC1
  have hC3 : Chg [] w4 w6 := hC0.trans' hC2 (fun k hk => .inr (own_ge ho1 k hk))
  have hfin := h4.putL (L := s.L.take i ++ s.L.drop (i + 1)) (hC3.mono (by simp)) (own_mono ho2 (Nat.zero_le _)) hI
  obtain ⟨a1, c1, e1⟩ := own_slice ho1
  obtain ⟨a2, c2, e2⟩ := own_slice ho2
  subst e1
  subst e2
  exact ⟨a1, c1, w5, A, a2, c2, w6, hr1, by rw [← hA]; split <;> rfl, hr2, hC0, hC3, hfin.1, (hC3.mono (by simp)).trans ((Chg.refl _ _).setCell _ _ (by simp)), fun k hk => own_ge ho2 k hk, hnc, hcm⟩

theorem headT_ok {L : WL} (h : ListOk L) (hh : headB (ordL L) = true) : okT (headT (ordL L)) := by
  cases ho : ordL L with
  | nil => rw [ho] at hh; cases hh
  | cons x r =>
    have hx : x ∈ ordL L := by rw [ho]; simp
    unfold ordL at hx
    obtain ⟨_, _, h2⟩ := List.mem_flatMap.1 hx
    exact (h.ok x (List.mem_filter.1 h2).1).1
theorem more_way {w8 WC : World} {rc rr rw b : Nat} {v : Value} {s : QS} {m : Int × Int} (h8 : DQ w8 rc rr rw v s) (hI : QInv { s with L := s.L ++ [m] }) (hC : Chg [] w8 WC) (hb : WC.heap[b]? = some (.cells #[.int .i64 m.1, .int .i64 m.2] 33 (0, 0))) :
    ∃ va vc w9, (Builtin.append_ #[47, 47] 47 #[v, .slice (some ⟨b, 0, none⟩) 1 1]).run Tryz.prog WC = .ok (.slice va (s.L.length + 1) vc) w9 ∧ Chg v.ownBlock.toList w8 w9 ∧
      DQ (w9.setCell ⟨rc, 1, none⟩ (.slice va (s.L.length + 1) vc)) rc rr rw (.slice va (s.L.length + 1) vc) { s with L := s.L ++ [m] } ∧ Chg (rc :: v.ownBlock.toList) w8 (w9.setCell ⟨rc, 1, none⟩ (.slice va (s.L.length + 1) vc)) ∧
      ∀ k ∈ (Value.slice va (s.L.length + 1) vc).ownBlock.toList, k ∈ v.ownBlock.toList ∨ w8.heap.size ≤ k := by
  have hx : SrcAt WC (.slice (some ⟨b, 0, none⟩) 1 1) [m].length (flatW [m]) := .inr ⟨_, 1, rfl, fun j u hj => by
    have hadd : ((⟨b, 0, none⟩ : Addr).add j) = ⟨b, 0 + j, none⟩ := by unfold Addr.add; split <;> simp_all
    rw [hadd, Nat.zero_add]
    exact cellB hb (by rw [List.getElem?_toArray]; exact hj)⟩
  obtain ⟨v2, w9, hr, ho2, hC2, hv⟩ := run_moreM (own_kept h8.row hC (by simp)) hx (by have := h8.few; simp; omega) (Nat.zero_le _)
  have hlen : (s.L ++ [m]).length = s.L.length + 1 := by simp
  obtain ⟨va, vc, e⟩ := own_slice ho2
  have hC9 : Chg v.ownBlock.toList w8 w9 := (hC.mono (by simp)).trans hC2
  have hfin := h8.putL (L := s.L ++ [m]) hC9 ho2 hI
  rw [hlen] at e
  subst e
  refine ⟨va, vc, w9, hr, hC9, hfin.1, hfin.2, fun k hk => ?_⟩
  rcases hv with h1 | ⟨j, h1, h2⟩
  · rw [h1] at hk; exact .inl hk
  · rw [h2] at hk; simp at hk; subst hk; exact .inr (Nat.le_trans hC.size h1)


set_option maxRecDepth 100000 in
set_option maxHeartbeats 4000000 in
theorem dqrcv_no (rc rr rw : Nat) (v : Value) (s : QS) (t p : Int) (w : World) (h : DQ w rc rr rw v s) (he : s.askE t p 0 false ≠ 0) : Calls Tryz.prog 17 #[.pointer (some ⟨rc, 0, none⟩), .int .i64 t, .int .i64 p] w (DStepP rc rr rw v (s.rcvS t p) (.tuple #[pdV (s.rcvP t p), .int .i64 (s.askE t p 0 false)]) w) := by
  obtain ⟨bm, hbm⟩ : ∃ bm, bm = w.heap.size := ⟨_, rfl⟩
  obtain ⟨w0, hw0⟩ : ∃ w0, w0 = w.alloc pd0B := ⟨_, rfl⟩
  have hC0 : Chg [] w w0 := by rw [hw0]; exact (Chg.refl _ _).alloc _
  have hr0 : w0.heap[bm]? = some pd0B := by rw [hw0, hbm]; exact heap_alloc_eq w _
  have h0 := h.calm hC0
  have hA := dqaskc rc t p w0
  have hWt := dqwaitc rc rr rw v s t w0 h0
  have hlt := h.lt
  have HS := Lib.hid (And.intro h0 (And.intro hr0 (And.intro hC0 (And.intro hlt hbm))))
  obtain ⟨QQ, hQQ⟩ : ∃ QQ, QQ = DStepP rc rr rw v (s.rcvS t p) (.tuple #[pdV (s.rcvP t p), .int .i64 (s.askE t p 0 false)]) w := ⟨_, rfl⟩
  rw [← hQQ]
  have e1 : s.rcvS t p = s := by unfold QS.rcvS; rw [if_neg he]
  have e2 : s.rcvP t p = pd0 := by unfold QS.rcvP; rw [if_neg he]
  rw [e1, e2] at hQQ
  have r0 := cellB hr0 (i := 0) (v := .bool false) rfl
  have r1 := cellB hr0 (i := 1) (v := .int .i64 0) rfl
  have r2 := cellB hr0 (i := 2) (v := .int .i64 0) rfl
  have r3 := cellB hr0 (i := 3) (v := .int .i64 0) rfl
  have f1 := frozenB hr0
  have hbz := pBuild0
  cases ha : tpB t p with
  | false =>
    have e3 : s.askE t p 0 false = 2 := askE_2 ha
    rw [ha, if_neg (by decide)] at hA
    obtain ⟨E, hE⟩ : ∃ E, E = s.askE t p 0 false := ⟨_, rfl⟩
    rw [← hE] at hQQ
    have HEE := Lib.hid (hE.trans e3)
    have HA := Lib.hid hA
    have HQ := Lib.hid hQQ
    clear h h0 hr0 hC0 hlt hA hQQ he e1 e2 hWt e3 hE ha
    unfold pd0B at hw0
    go_enter Tryz.func17, Tryz.ntmps17
    go_upto_region 1 with fail
    rw [← hbm, ← hw0]
    clear hbm hw0
    go_wp2_with fail
    refine HA.out.mono ?_
    rintro e w' ⟨rfl, rfl⟩
    go_wp2
    obtain ⟨W, hW⟩ : ∃ W, W = ((((w0.setCell ⟨bm, 0, none⟩ (.bool false)).setCell ⟨bm, 1, none⟩ (.int .i64 0)).setCell ⟨bm, 2, none⟩ (.int .i64 0)).setCell ⟨bm, 3, none⟩ (.int .i64 0)) := ⟨_, rfl⟩
    have hf : W.heap[bm]? = some (.cells #[.bool false, .int .i64 0, .int .i64 0, .int .i64 0] 58 (0, 0)) := by rw [hW]; exact res4 HS.out.2.1 _ _ _ _
    have hCW : Chg [bm] w0 W := by rw [hW]; exact chg4 _ _ _ _ _ _
    rw [← hW]
    have q0 := cellB hf (i := 0) rfl
    have q1 := cellB hf (i := 1) rfl
    have q2 := cellB hf (i := 2) rfl
    have q3 := cellB hf (i := 3) rfl
    refine ⟨rfl, .tuple #[pdV pd0, .int .i64 E], ?_, ?_⟩
    · simp [results, Tryz.results17, go_sem, q0, q1, q2, q3, pdV, pd0, HEE.out]
    · rw [HQ.out]
      have hCF : Chg [] w W := HS.out.2.2.1.trans' hCW (fun k hk => by simp at hk; subst hk; exact .inr (by have := HS.out.2.2.2.2; omega))
      exact ⟨v, rfl, HS.out.1.kept hCW (fun k hk => by simp at hk; subst hk; exact ⟨fun hm => by have h1 := HS.out.2.2.2.1 _ hm; have h2 := HS.out.2.2.2.2; omega, NotW.of HS.out.2.1 (fun cs fr e => by cases e)⟩), hCF.mono (by simp), fun k hk => .inl hk⟩
  | true =>
    rw [ha, if_pos rfl] at hA
    have e3 : s.is t = true ∧ s.askE t p 0 false = 7 := by
      unfold QS.askE at he ⊢
      rw [if_pos ⟨ha, by decide⟩] at he ⊢
      cases hi : s.is t with
      | true => exact ⟨rfl, rfl⟩
      | false => rw [hi] at he; exact absurd rfl he
    rw [e3.1] at hWt
    obtain ⟨E, hE⟩ : ∃ E, E = s.askE t p 0 false := ⟨_, rfl⟩
    rw [← hE] at hQQ
    have HEE := Lib.hid (hE.trans e3.2)
    have HA := Lib.hid hA
    have HW := Lib.hid hWt
    have HQ := Lib.hid hQQ
    clear h h0 hr0 hC0 hlt hA hQQ he e1 e2 hWt e3 hE ha
    unfold pd0B at hw0
    go_enter Tryz.func17, Tryz.ntmps17
    go_upto_region 1 with fail
    rw [← hbm, ← hw0]
    clear hbm hw0
    go_wp2_with fail
    refine HA.out.mono ?_
    rintro e w' ⟨rfl, rfl⟩
    go_wp2_with fail
    refine HW.out.mono ?_
    rintro e w' ⟨rfl, rfl⟩
    go_wp2
    obtain ⟨W, hW⟩ : ∃ W, W = ((((w0.setCell ⟨bm, 0, none⟩ (.bool false)).setCell ⟨bm, 1, none⟩ (.int .i64 0)).setCell ⟨bm, 2, none⟩ (.int .i64 0)).setCell ⟨bm, 3, none⟩ (.int .i64 0)) := ⟨_, rfl⟩
    have hf : W.heap[bm]? = some (.cells #[.bool false, .int .i64 0, .int .i64 0, .int .i64 0] 58 (0, 0)) := by rw [hW]; exact res4 HS.out.2.1 _ _ _ _
    have hCW : Chg [bm] w0 W := by rw [hW]; exact chg4 _ _ _ _ _ _
    rw [← hW]
    have q0 := cellB hf (i := 0) rfl
    have q1 := cellB hf (i := 1) rfl
    have q2 := cellB hf (i := 2) rfl
    have q3 := cellB hf (i := 3) rfl
    refine ⟨rfl, .tuple #[pdV pd0, .int .i64 E], ?_, ?_⟩
    · simp [results, Tryz.results17, go_sem, q0, q1, q2, q3, pdV, pd0, HEE.out]
    · rw [HQ.out]
      have hCF : Chg [] w W := HS.out.2.2.1.trans' hCW (fun k hk => by simp at hk; subst hk; exact .inr (by have := HS.out.2.2.2.2; omega))
      exact ⟨v, rfl, HS.out.1.kept hCW (fun k hk => by simp at hk; subst hk; exact ⟨fun hm => by have h1 := HS.out.2.2.2.1 _ hm; have h2 := HS.out.2.2.2.2; omega, NotW.of HS.out.2.1 (fun cs fr e => by cases e)⟩), hCF.mono (by simp), fun k hk => .inl hk⟩


set_option maxRecDepth 100000 in
set_option maxHeartbeats 4000000 in
theorem dqrcv_wait (rc rr rw : Nat) (v : Value) (s : QS) (t p : Int) (w : World) (h : DQ w rc rr rw v s) (he : s.askE t p 0 false = 0) (ho : s.ord = []) : Calls Tryz.prog 17 #[.pointer (some ⟨rc, 0, none⟩), .int .i64 t, .int .i64 p] w (DStepP rc rr rw v (s.rcvS t p) (.tuple #[pdV (s.rcvP t p), .int .i64 (s.askE t p 0 false)]) w) := by
  obtain ⟨bm, hbm⟩ : ∃ bm, bm = w.heap.size := ⟨_, rfl⟩
  obtain ⟨w0, hw0⟩ : ∃ w0, w0 = w.alloc pd0B := ⟨_, rfl⟩
  have hC0 : Chg [] w w0 := by rw [hw0]; exact (Chg.refl _ _).alloc _
  have hr0 : w0.heap[bm]? = some pd0B := by rw [hw0, hbm]; exact heap_alloc_eq w _
  have h0 := h.calm hC0
  have hA := dqaskc rc t p w0
  have hWt := dqwaitc rc rr rw v s t w0 h0
  have hlt := h.lt
  have HS := Lib.hid (And.intro h0 (And.intro hr0 (And.intro hC0 (And.intro hlt hbm))))
  obtain ⟨QQ, hQQ⟩ : ∃ QQ, QQ = DStepP rc rr rw v (s.rcvS t p) (.tuple #[pdV (s.rcvP t p), .int .i64 (s.askE t p 0 false)]) w := ⟨_, rfl⟩
  rw [← hQQ]
  have e1 : s.rcvS t p = { s with R := putL s.R t p } := by unfold QS.rcvS; rw [if_pos he, ho]
  have e2 : s.rcvP t p = ⟨false, 0, 0, -1⟩ := by unfold QS.rcvP; rw [if_pos he, ho]
  rw [e1, e2, he] at hQQ
  clear e1 e2
  have hk := askE_ok he
  have ha : tpB t p = true := tpB_iff.2 ⟨hk.1, hk.2.1⟩
  rw [ha, if_pos rfl] at hA
  rw [hk.2.2.2] at hWt
  have HO := Lib.hid (dqorderc rc rr rw v s w0 h0)
  have HA := Lib.hid hA
  have HW := Lib.hid hWt
  have HQ := Lib.hid hQQ
  have HE := Lib.hid (And.intro hk h.inv)
  clear h h0 hr0 hC0 hlt hA hQQ he hWt ha hk
  unfold pd0B at hw0
  go_enter Tryz.func17, Tryz.ntmps17
  go_upto_region 1 with fail
  rw [← hbm, ← hw0]
  clear hbm hw0
  go_wp2_with fail
  refine HA.out.mono ?_
  rintro e w' ⟨rfl, rfl⟩
  go_wp2_with fail
  refine HW.out.mono ?_
  rintro e w' ⟨rfl, rfl⟩
  go_wp2_with fail
  refine HO.out.mono ?_
  rintro e w2 ⟨vl, rfl, hol, hC2⟩
  have h2 := HS.out.1.calm hC2
  have hr2 := hC2.blk HS.out.2.1 (by simp)
  rw [ho] at hol
  obtain ⟨al, cl, rfl⟩ := own_slice hol
  simp only [List.length_nil]
  have c3 := h2.c3
  have HPu := Lib.hid (rputc rw s.R t p w2 h2.rv h2.fewS.2)
  have H2 := Lib.hid (And.intro h2 (And.intro hC2 hr2))
  clear h2 hC2 hr2 hol HO HW HA
  go_wp2_with fail
  refine HPu.out.mono ?_
  rintro e w4 ⟨rfl, hR4, hC4⟩
  have hbe := HS.out.2.2.2.2
  have lr : rw < w.heap.size := HS.out.2.2.2.1 _ (by simp [blkD])
  have h4 := H2.out.1.stepR hR4 hC4 (HE.out.2.putR t p)
  have hr4 := hC4.blk H2.out.2.2 (by simp; omega)
  have r0 := cellB hr4 (i := 0) (v := .bool false) rfl
  have r1 := cellB hr4 (i := 1) (v := .int .i64 0) rfl
  have r2 := cellB hr4 (i := 2) (v := .int .i64 0) rfl
  have r3 := cellB hr4 (i := 3) (v := .int .i64 0) rfl
  have f1 := frozenB hr4
  have hbz := pBuild1 (-1)
  have H4 := Lib.hid (And.intro h4 (And.intro (((HS.out.2.2.1.trans H2.out.2.1).mono (S2 := blkD rc rr rw v) (by simp)).trans (hC4.mono (by simp [blkD]))) hr4))
  clear h4 hr4 hR4 hC4 hbe lr c3 HPu
  go_wp2
  obtain ⟨W, hW⟩ : ∃ W, W = ((((w4.setCell ⟨bm, 0, none⟩ (.bool false)).setCell ⟨bm, 1, none⟩ (.int .i64 0)).setCell ⟨bm, 2, none⟩ (.int .i64 0)).setCell ⟨bm, 3, none⟩ (.int .i64 (-1))) := ⟨_, rfl⟩
  have hf : W.heap[bm]? = some (.cells #[.bool false, .int .i64 0, .int .i64 0, .int .i64 (-1)] 58 (0, 0)) := by rw [hW]; exact res4 H4.out.2.2 _ _ _ _
  have hCW : Chg [bm] w4 W := by rw [hW]; exact chg4 _ _ _ _ _ _
  rw [← hW]
  have q0 := cellB hf (i := 0) rfl
  have q1 := cellB hf (i := 1) rfl
  have q2 := cellB hf (i := 2) rfl
  have q3 := cellB hf (i := 3) rfl
  refine ⟨rfl, .tuple #[pdV ⟨false, 0, 0, -1⟩, .int .i64 0], ?_, ?_⟩
  · simp [results, Tryz.results17, go_sem, q0, q1, q2, q3, pdV]
  · rw [HQ.out]
    exact ⟨_, rfl, H4.out.1.kept hCW (fun k hk => by simp at hk; subst hk; exact ⟨fun hm => by have h1 := HS.out.2.2.2.1 _ hm; have h2 := HS.out.2.2.2.2; omega, NotW.of H4.out.2.2 (fun cs fr e => by cases e)⟩), H4.out.2.1.trans' hCW (fun k hk => by simp at hk; subst hk; exact .inr (by have := HS.out.2.2.2.2; omega)), fun k hk => .inl hk⟩



set_option maxRecDepth 100000 in
set_option maxHeartbeats 8000000 in
theorem dqrcv_plain (rc rr rw : Nat) (v : Value) (s : QS) (x : Int × Int) (r : WL) (t p : Int) (w : World) (h : DQ w rc rr rw v s) (he : s.askE t p 0 false = 0) (ho : s.ord = x :: r) (hh : headB (ordL s.S) = false) : Calls Tryz.prog 17 #[.pointer (some ⟨rc, 0, none⟩), .int .i64 t, .int .i64 p] w (DStepP rc rr rw v (s.rcvS t p) (.tuple #[pdV (s.rcvP t p), .int .i64 (s.askE t p 0 false)]) w) := by
  obtain ⟨bm, hbm⟩ : ∃ bm, bm = w.heap.size := ⟨_, rfl⟩
  obtain ⟨w0, hw0⟩ : ∃ w0, w0 = w.alloc pd0B := ⟨_, rfl⟩
  have hC0 : Chg [] w w0 := by rw [hw0]; exact (Chg.refl _ _).alloc _
  have hr0 : w0.heap[bm]? = some pd0B := by rw [hw0, hbm]; exact heap_alloc_eq w _
  have h0 := h.calm hC0
  have hA := dqaskc rc t p w0
  have hWt := dqwaitc rc rr rw v s t w0 h0
  have hlt := h.lt
  have HS := Lib.hid (And.intro h0 (And.intro hr0 (And.intro hC0 (And.intro hlt hbm))))
  obtain ⟨QQ, hQQ⟩ : ∃ QQ, QQ = DStepP rc rr rw v (s.rcvS t p) (.tuple #[pdV (s.rcvP t p), .int .i64 (s.askE t p 0 false)]) w := ⟨_, rfl⟩
  rw [← hQQ]
  have e1 : s.rcvS t p = { s with L := delM s.L x.2 } := by unfold QS.rcvS QS.rcv1; rw [if_pos he, ho]; simp only []; rw [if_neg (by rw [hh]; decide)]
  have e2 : s.rcvP t p = ⟨true, x.1, x.2, -1⟩ := by unfold QS.rcvP; rw [if_pos he, ho]; simp only []; rw [if_neg (by rw [hh]; decide)]
  rw [e1, e2, he] at hQQ
  clear e1 e2
  have hk := askE_ok he
  have ha : tpB t p = true := tpB_iff.2 ⟨hk.1, hk.2.1⟩
  rw [ha, if_pos rfl] at hA
  rw [hk.2.2.2] at hWt
  have HO := Lib.hid (dqorderc rc rr rw v s w0 h0)
  have HA := Lib.hid hA
  have HW := Lib.hid hWt
  have HQ := Lib.hid hQQ
  have HE := Lib.hid (And.intro hk h.inv)
  clear h h0 hr0 hC0 hlt hA hQQ he hWt ha hk
  unfold pd0B at hw0
  go_enter Tryz.func17, Tryz.ntmps17
  go_upto_region 1 with fail
  rw [← hbm, ← hw0]
  clear hbm hw0
  go_wp2_with fail
  refine HA.out.mono ?_
  rintro e w' ⟨rfl, rfl⟩
  go_wp2_with fail
  refine HW.out.mono ?_
  rintro e w' ⟨rfl, rfl⟩
  go_wp2_with fail
  refine HO.out.mono ?_
  rintro e w2 ⟨vl, rfl, hol, hC2⟩
  have h2 := HS.out.1.calm hC2
  have hr2 := hC2.blk HS.out.2.1 (by simp)
  rw [ho] at hol
  obtain ⟨gl, cl, curl, rfl, hgl, hbl, _, _, _, htl⟩ := own_blk hol (by simp)
  have hxm : x ∈ s.L := (ordM_mem.1 (show x ∈ s.ord by rw [ho]; simp)).1
  obtain ⟨i, y, hi, hyp, hni, hdel⟩ := delM_cut hxm
  have hI4 := HE.out.2.delL ho
  rw [hdel] at hI4
  obtain ⟨g, cap, hvg, hcc⟩ : ∃ g cap, v = .slice (some ⟨g, 0, none⟩) s.L.length cap ∧ ∀ j z, s.L[j]? = some z → w2.cell? ⟨g, j * 2, none⟩ = some (.int .i64 z.1) ∧ w2.cell? ⟨g, j * 2 + 1, none⟩ = some (.int .i64 z.2) := by
    obtain ⟨a, cap, e, h1⟩ := h2.open
    rcases h1 with h1 | ⟨g, rfl, h1⟩
    · rw [h1] at hi; simp at hi
    · exact ⟨g, cap, e, h1⟩
  subst hvg
  obtain ⟨m, hm⟩ : ∃ m, m = (x :: r).length := ⟨_, rfl⟩
  rw [← hm]
  have hmp : 0 < m := by rw [hm]; simp
  have hm0 : ((m : Int) == 0) = false := by simp; omega
  have hm1 : (0 : Int) < (m : Int) := by omega
  clear hmp
  have hil : i < s.L.length := (List.getElem?_eq_some_iff.1 hi).1
  obtain ⟨x1, x2⟩ := x
  have e0 : w2.cell? ⟨gl, 0, none⟩ = some (.int .i64 x1) := cellB hbl (own_take htl 0 _ (by rw [flatW_cons]; rfl))
  have e1 : w2.cell? ⟨gl, 1, none⟩ = some (.int .i64 x2) := cellB hbl (own_take htl 1 _ (by rw [flatW_cons]; rfl))
  have hbz := pBuild true x1 x2 (-1)
  obtain ⟨w3, hw3⟩ : ∃ w3, w3 = w2.alloc (.cells #[.bool true, .int .i64 x1, .int .i64 x2, .int .i64 (-1)] 58 (0, 0)) := ⟨_, rfl⟩
  obtain ⟨bo, hbo⟩ : ∃ bo, bo = w2.heap.size := ⟨_, rfl⟩
  have hC23 : Chg [] w2 w3 := by rw [hw3]; exact (Chg.refl _ _).alloc _
  have ho3 : w3.heap[bo]? = some (.cells #[.bool true, .int .i64 x1, .int .i64 x2, .int .i64 (-1)] 58 (0, 0)) := by rw [hw3, hbo]; exact heap_alloc_eq w2 _
  have e3 := SrcAt.calm.cell_calm e1 hC23
  have hlb : rc < bm ∧ rr < bm ∧ rw < bm ∧ bm < bo := by
    have h3 := HS.out.2.2.2.1 rc (by simp [blkD])
    have h4 := HS.out.2.2.2.1 rr (by simp [blkD])
    have h5 := HS.out.2.2.2.1 rw (by simp [blkD])
    have h6 := HS.out.2.2.2.2
    have h7 := lt_of_blk hr2
    omega
  have H3 := Lib.hid (And.intro (h2.calm hC23) (And.intro ((HS.out.2.2.1.trans hC2).trans hC23) (And.intro (hC23.blk hr2 (by simp)) (And.intro ho3 hlb))))
  have HI := Lib.hid (And.intro hi (And.intro hyp (And.intro hni (And.intro hdel hI4))))
  have HC := Lib.hid (fun j z hj => SrcAt.calm.cell_calm (hcc j z hj).2 hC23)
  have HIL := Lib.hid hil
  clear hol hgl hbl htl hxm hi hyp hni hdel hI4 hcc hm hC23 ho3 hlb h2 hC2 hr2 HO HW HA
  go_upto_region 12 with fail
  rw [← hbo, ← hw3]
  clear hbo hw3 e0 e1
  obtain ⟨n, hn⟩ : ∃ n, n = s.L.length := ⟨_, rfl⟩
  rw [← hn] at H3 HIL HS HQ
  have HN := Lib.hid hn
  clear hn hil hm0
  go_wp2
  go_loopw [13] (fun q wr => ∃ k : Nat, k ≤ i ∧ q = .int .i64 k ∧ Chg [] w3 wr) (fun q _ => i - (intOf q).toNat)
  case atStart => exact ⟨0, by omega, rfl, Chg.refl _ _⟩
  case round =>
    obtain ⟨k, hk, rfl, hCk⟩ := hrel
    have k1 := (H3.out.1.calm hCk).c1
    have e4 := SrcAt.calm.cell_calm e3 hCk
    have hin := HIL.out
    have hov : (k : Int) ≤ 40000 := by have h1 := H3.out.1.few; have h2 := HN.out; omega
    by_cases hlt : k < i
    ·
      obtain ⟨z, hz⟩ : ∃ z, s.L[k]? = some z := ⟨_, List.getElem?_eq_getElem (by have := HN.out; omega)⟩
      have e5 := SrcAt.calm.cell_calm (HC.out k z hz) hCk
      have hne : (z.2 != x2) = true := by have := HI.out.2.2.1 k z hlt hz; simpa using this
      have hkn : (k : Int) < (n : Int) := by omega
      have HCk := Lib.hid hCk
      clear hCk hz
      go_wp2
      go_region
      all_goals go_wp2
      exact ⟨⟨k + 1, by omega, by go_num, HCk.out.trans ((Chg.refl _ _).drew)⟩, by simp [intOf]; omega⟩
    ·
      have hki : k = i := by omega
      subst hki
      have e5 := SrcAt.calm.cell_calm (HC.out k y HI.out.1) hCk
      rw [HI.out.2.1] at e5
      have hne : (x2 != x2) = false := by simp
      have hkn : (k : Int) < (n : Int) := by omega
      have HCk := Lib.hid (hCk.trans ((Chg.refl [] wr).drew))
      clear hCk hlt hk
      go_wp2
      go_region
      all_goals go_wp2
      obtain ⟨w4, hw4⟩ : ∃ w4, w4 = wr.drew := ⟨_, rfl⟩
      rw [← hw4] at HCk ⊢
      clear hw4 k1 e4 e5
      have h4 := H3.out.1.calm HCk.out
      have hI4 := HI.out.2.2.2.2
      rw [HN.out] at h4
      obtain ⟨a1, c1, w5, A, a2, c2, w6, hr1, hA, hr2, hC5, hC6, hd6, hCd6, hv6, hnc, hcm⟩ := cut_way h4 HI.out.1 hI4
      have k4 := h4.c1
      have k5 := (h4.calm hC5).c1
      have k6 := (h4.calm hC6).c1
      have y6 := (h4.calm hC6).cfr 1
      rw [← HN.out] at hr2 k4 k5 k6 hnc
      have HR := Lib.hid (And.intro hr1 hr2)
      have hd6' : DQ (w6.setCell ⟨rc, 1, none⟩ (.slice a2 (s.L.take k ++ s.L.drop (k + 1)).length c2)) rc rr rw (.slice a2 (s.L.take k ++ s.L.drop (k + 1)).length c2) { s with L := delM s.L x2 } := by rw [HI.out.2.2.2.1]; exact hd6
      have hC04 := H3.out.2.1.trans HCk.out
      have hb6 := hCd6.blk (HCk.out.blk H3.out.2.2.1 (by simp)) (by simp; have := H3.out.2.2.2.2; omega)
      have ho6 := hCd6.blk (HCk.out.blk H3.out.2.2.2.1 (by simp)) (by simp; have := H3.out.2.2.2.2; omega)
      have HX := Lib.hid (And.intro hd6' (And.intro ((hC04.mono (S2 := blkD rc rr rw (.slice (some ⟨g, 0, none⟩) n cap)) (by simp)).trans (hCd6.mono (by simp [blkD]))) (And.intro hb6 (And.intro ho6 (show ∀ jj ∈ (Value.slice a2 (s.L.take k ++ s.L.drop (k + 1)).length c2).ownBlock.toList, w.heap.size ≤ jj ∧ bo < jj from fun j hj => by have h1 := hv6 j hj; have h2 := hC04.size; have h3 := lt_of_blk (HCk.out.blk H3.out.2.2.2.1 (by simp)); omega)))))
      have hic : k ≤ cap := by omega
      have hin2 : k + 1 ≤ n := by omega
      have hwr : IntKind.i64.wrap ((k : Int) + 1) = (k : Int) + 1 := by unfold maxLen at hcm; simp [IntKind.wrap, IntKind.signed, IntKind.bits]; omega
      have hw1 : (0 : Int) ≤ (k : Int) + 1 := by omega
      have hw2 : (k : Int) + 1 ≤ (n : Int) := by omega
      clear hr1 hr2 hd6 hd6' hC04 hb6 ho6 hI4 h4 hC5 hC6 hCd6 hv6
      generalize (s.L.take k ++ s.L.drop (k + 1)).length = n2 at *
      generalize (s.L.take k).length = n1 at *
      go_region_law (first
        | (refine step_run rfl _ _ 47 47 rfl rfl (.slice none 0 0) (.slice (some ⟨g, 0, none⟩) k cap) (.slice a1 n1 c1) (by simp [Act.eval]) (by simp [Act.eval, Act.put]) w5 HR.out.1 ?_)
        | (refine step_run rfl _ _ 47 47 rfl rfl (.slice a1 n1 c1) (.slice (some A) (n - (k + 1)) (cap - (k + 1))) (.slice a2 n2 c2) (by simp [Act.eval, Act.put]) (by simp [Act.eval, Act.put]) w6 HR.out.2 ?_))
      all_goals
        obtain ⟨w7, hw7, h7, hC7, hb7, ho7, hv7⟩ : ∃ w7, w7 = w6.setCell ⟨rc, 1, none⟩ (.slice a2 n2 c2) ∧ DQ w7 rc rr rw (.slice a2 n2 c2) { s with L := delM s.L x2 } ∧ Chg (blkD rc rr rw (.slice (some ⟨g, 0, none⟩) n cap)) w w7 ∧ w7.heap[bm]? = some pd0B ∧ w7.heap[bo]? = some (.cells #[.bool true, .int .i64 x1, .int .i64 x2, .int .i64 (-1)] 58 (0, 0)) ∧ (∀ jj ∈ (Value.slice a2 n2 c2).ownBlock.toList, w.heap.size ≤ jj ∧ bo < jj) := ⟨_, rfl, HX.out⟩
        rw [← hw7]
        clear hw7
        have k2 := h7.c2
        have HT := Lib.hid (rtakec rr s.S w7 h7.sd h7.fewS.1 h7.inv.ls)
        have H7 := Lib.hid (And.intro h7 (And.intro hC7 (And.intro hb7 (And.intro ho7 hv7))))
        clear h7 hC7 hb7 ho7 hv7 k4 k5 k6 y6
        go_wp2_with fail
        refine HT.out.mono ?_
        rintro e w8 ⟨rfl, hR8, hC8⟩
        clear HT k2
        rw [hh]
        rw [takeL_none hh] at hR8
        have h8 := H7.out.1.stepS hR8 hC8 H7.out.1.inv
        have hb8 := hC8.blk H7.out.2.2.1 (by simp; have := H3.out.2.2.2.2; omega)
        have ho8 := hC8.blk H7.out.2.2.2.1 (by simp; have := H3.out.2.2.2.2; omega)
        have t0 := cellB ho8 (i := 0) (v := .bool true) rfl
        have t1 := cellB ho8 (i := 1) (v := .int .i64 x1) rfl
        have t2 := cellB ho8 (i := 2) (v := .int .i64 x2) rfl
        have t3 := cellB ho8 (i := 3) (v := .int .i64 (-1)) rfl
        have r0 := cellB hb8 (i := 0) (v := .bool false) rfl
        have r1 := cellB hb8 (i := 1) (v := .int .i64 0) rfl
        have r2 := cellB hb8 (i := 2) (v := .int .i64 0) rfl
        have r3 := cellB hb8 (i := 3) (v := .int .i64 0) rfl
        have f1 := frozenB hb8
        have H8 := Lib.hid (And.intro h8 (And.intro (H7.out.2.1.trans (hC8.mono (by simp [blkD]))) (And.intro hb8 H7.out.2.2.2.2)))
        clear h8 hb8 ho8 hR8 hC8 H7
        go_wp2
        obtain ⟨W, hW⟩ : ∃ W, W = ((((w8.setCell ⟨bm, 0, none⟩ (.bool true)).setCell ⟨bm, 1, none⟩ (.int .i64 x1)).setCell ⟨bm, 2, none⟩ (.int .i64 x2)).setCell ⟨bm, 3, none⟩ (.int .i64 (-1))) := ⟨_, rfl⟩
        have hf : W.heap[bm]? = some (.cells #[.bool true, .int .i64 x1, .int .i64 x2, .int .i64 (-1)] 58 (0, 0)) := by rw [hW]; exact res4 H8.out.2.2.1 _ _ _ _
        have hCW : Chg [bm] w8 W := by rw [hW]; exact chg4 _ _ _ _ _ _
        rw [← hW]
        have q0 := cellB hf (i := 0) rfl
        have q1 := cellB hf (i := 1) rfl
        have q2 := cellB hf (i := 2) rfl
        have q3 := cellB hf (i := 3) rfl
        refine ⟨rfl, .tuple #[pdV ⟨true, x1, x2, -1⟩, .int .i64 0], ?_, ?_⟩
        · simp [results, Tryz.results17, go_sem, q0, q1, q2, q3, pdV]
        · rw [HQ.out]
          exact ⟨_, rfl, H8.out.1.kept hCW (fun k hk => by
            simp at hk
            subst hk
            refine ⟨fun hm => ?_, NotW.of H8.out.2.2.1 (fun cs fr e => by cases e)⟩
            rcases List.mem_append.1 hm with h1 | h1
            · have h3 := HS.out.2.2.2.1 _ (List.mem_append.2 (.inl h1)); have h2 := HS.out.2.2.2.2; omega
            · have h3 := (H8.out.2.2.2 _ h1).2; have h2 := H3.out.2.2.2.2; omega), H8.out.2.1.trans' hCW (fun k hk => by simp at hk; subst hk; exact .inr (by have := HS.out.2.2.2.2; omega)), fun k hk => .inr (H8.out.2.2.2 k hk).1⟩

set_option maxRecDepth 100000 in
set_option maxHeartbeats 16000000 in
theorem dqrcv_hand (rc rr rw : Nat) (v : Value) (s : QS) (x : Int × Int) (r : WL) (t p : Int) (w : World) (h : DQ w rc rr rw v s) (he : s.askE t p 0 false = 0) (ho : s.ord = x :: r) (hh : headB (ordL s.S) = true) : Calls Tryz.prog 17 #[.pointer (some ⟨rc, 0, none⟩), .int .i64 t, .int .i64 p] w (DStepP rc rr rw v (s.rcvS t p) (.tuple #[pdV (s.rcvP t p), .int .i64 (s.askE t p 0 false)]) w) := by
  obtain ⟨bm, hbm⟩ : ∃ bm, bm = w.heap.size := ⟨_, rfl⟩
  obtain ⟨w0, hw0⟩ : ∃ w0, w0 = w.alloc pd0B := ⟨_, rfl⟩
  have hC0 : Chg [] w w0 := by rw [hw0]; exact (Chg.refl _ _).alloc _
  have hr0 : w0.heap[bm]? = some pd0B := by rw [hw0, hbm]; exact heap_alloc_eq w _
  have h0 := h.calm hC0
  have hA := dqaskc rc t p w0
  have hWt := dqwaitc rc rr rw v s t w0 h0
  have hlt := h.lt
  have HS := Lib.hid (And.intro h0 (And.intro hr0 (And.intro hC0 (And.intro hlt hbm))))
  obtain ⟨QQ, hQQ⟩ : ∃ QQ, QQ = DStepP rc rr rw v (s.rcvS t p) (.tuple #[pdV (s.rcvP t p), .int .i64 (s.askE t p 0 false)]) w := ⟨_, rfl⟩
  rw [← hQQ]
  have e1 : s.rcvS t p = { s with L := delM s.L x.2 ++ [mAt s.M (headT (ordL s.S))], S := takeL s.S } := by unfold QS.rcvS QS.rcv1; rw [if_pos he, ho]; simp only []; rw [if_pos hh]
  have e2 : s.rcvP t p = ⟨true, x.1, x.2, headT (ordL s.S)⟩ := by unfold QS.rcvP; rw [if_pos he, ho]; simp only []; rw [if_pos hh]
  rw [e1, e2, he] at hQQ
  clear e1 e2
  have hk := askE_ok he
  have ha : tpB t p = true := tpB_iff.2 ⟨hk.1, hk.2.1⟩
  rw [ha, if_pos rfl] at hA
  rw [hk.2.2.2] at hWt
  have HO := Lib.hid (dqorderc rc rr rw v s w0 h0)
  have HA := Lib.hid hA
  have HW := Lib.hid hWt
  have HQ := Lib.hid hQQ
  have HE := Lib.hid (And.intro hk h.inv)
  clear h h0 hr0 hC0 hlt hA hQQ he hWt ha hk
  unfold pd0B at hw0
  go_enter Tryz.func17, Tryz.ntmps17
  go_upto_region 1 with fail
  rw [← hbm, ← hw0]
  clear hbm hw0
  go_wp2_with fail
  refine HA.out.mono ?_
  rintro e w' ⟨rfl, rfl⟩
  go_wp2_with fail
  refine HW.out.mono ?_
  rintro e w' ⟨rfl, rfl⟩
  go_wp2_with fail
  refine HO.out.mono ?_
  rintro e w2 ⟨vl, rfl, hol, hC2⟩
  have h2 := HS.out.1.calm hC2
  have hr2 := hC2.blk HS.out.2.1 (by simp)
  have hoT : okT (headT (ordL s.S)) := headT_ok HE.out.2.ls hh
  have hIH := HE.out.2.handL ho (headT (ordL s.S))
  obtain ⟨o, hoo⟩ : ∃ o, o = headT (ordL s.S) := ⟨_, rfl⟩
  rw [← hoo] at hoT hIH HQ
  obtain ⟨on, rfl⟩ : ∃ on : Nat, o = on := ⟨o.toNat, by have := hoT.1; omega⟩
  have HOO := Lib.hid hoo
  have HOT := Lib.hid (And.intro hoT hIH)
  clear hoo hoT hIH
  rw [ho] at hol
  obtain ⟨gl, cl, curl, rfl, hgl, hbl, _, _, _, htl⟩ := own_blk hol (by simp)
  have hxm : x ∈ s.L := (ordM_mem.1 (show x ∈ s.ord by rw [ho]; simp)).1
  obtain ⟨i, y, hi, hyp, hni, hdel⟩ := delM_cut hxm
  have hI4 := HE.out.2.delL ho
  rw [hdel] at hI4
  obtain ⟨g, cap, hvg, hcc⟩ : ∃ g cap, v = .slice (some ⟨g, 0, none⟩) s.L.length cap ∧ ∀ j z, s.L[j]? = some z → w2.cell? ⟨g, j * 2, none⟩ = some (.int .i64 z.1) ∧ w2.cell? ⟨g, j * 2 + 1, none⟩ = some (.int .i64 z.2) := by
    obtain ⟨a, cap, e, h1⟩ := h2.open
    rcases h1 with h1 | ⟨g, rfl, h1⟩
    · rw [h1] at hi; simp at hi
    · exact ⟨g, cap, e, h1⟩
  subst hvg
  obtain ⟨m, hm⟩ : ∃ m, m = (x :: r).length := ⟨_, rfl⟩
  rw [← hm]
  have hmp : 0 < m := by rw [hm]; simp
  have hm0 : ((m : Int) == 0) = false := by simp; omega
  have hm1 : (0 : Int) < (m : Int) := by omega
  clear hmp
  have hil : i < s.L.length := (List.getElem?_eq_some_iff.1 hi).1
  obtain ⟨x1, x2⟩ := x
  have e0 : w2.cell? ⟨gl, 0, none⟩ = some (.int .i64 x1) := cellB hbl (own_take htl 0 _ (by rw [flatW_cons]; rfl))
  have e1 : w2.cell? ⟨gl, 1, none⟩ = some (.int .i64 x2) := cellB hbl (own_take htl 1 _ (by rw [flatW_cons]; rfl))
  have hbz := pBuild true x1 x2 (-1)
  obtain ⟨w3, hw3⟩ : ∃ w3, w3 = w2.alloc (.cells #[.bool true, .int .i64 x1, .int .i64 x2, .int .i64 (-1)] 58 (0, 0)) := ⟨_, rfl⟩
  obtain ⟨bo, hbo⟩ : ∃ bo, bo = w2.heap.size := ⟨_, rfl⟩
  have hC23 : Chg [] w2 w3 := by rw [hw3]; exact (Chg.refl _ _).alloc _
  have ho3 : w3.heap[bo]? = some (.cells #[.bool true, .int .i64 x1, .int .i64 x2, .int .i64 (-1)] 58 (0, 0)) := by rw [hw3, hbo]; exact heap_alloc_eq w2 _
  have e3 := SrcAt.calm.cell_calm e1 hC23
  have hlb : rc < bm ∧ rr < bm ∧ rw < bm ∧ bm < bo := by
    have h3 := HS.out.2.2.2.1 rc (by simp [blkD])
    have h4 := HS.out.2.2.2.1 rr (by simp [blkD])
    have h5 := HS.out.2.2.2.1 rw (by simp [blkD])
    have h6 := HS.out.2.2.2.2
    have h7 := lt_of_blk hr2
    omega
  have H3 := Lib.hid (And.intro (h2.calm hC23) (And.intro ((HS.out.2.2.1.trans hC2).trans hC23) (And.intro (hC23.blk hr2 (by simp)) (And.intro ho3 hlb))))
  have HI := Lib.hid (And.intro hi (And.intro hyp (And.intro hni (And.intro hdel hI4))))
  have HC := Lib.hid (fun j z hj => SrcAt.calm.cell_calm (hcc j z hj).2 hC23)
  have HIL := Lib.hid hil
  clear hol hgl hbl htl hxm hi hyp hni hdel hI4 hcc hm hC23 ho3 hlb h2 hC2 hr2 HO HW HA
  go_upto_region 12 with fail
  rw [← hbo, ← hw3]
  clear hbo hw3 e0 e1
  obtain ⟨n, hn⟩ : ∃ n, n = s.L.length := ⟨_, rfl⟩
  rw [← hn] at H3 HIL HS HQ
  have HN := Lib.hid hn
  clear hn hil hm0
  go_wp2
  go_loopw [13] (fun q wr => ∃ k : Nat, k ≤ i ∧ q = .int .i64 k ∧ Chg [] w3 wr) (fun q _ => i - (intOf q).toNat)
  case atStart => exact ⟨0, by omega, rfl, Chg.refl _ _⟩
  case round =>
    obtain ⟨k, hk, rfl, hCk⟩ := hrel
    have k1 := (H3.out.1.calm hCk).c1
    have e4 := SrcAt.calm.cell_calm e3 hCk
    have hin := HIL.out
    have hov : (k : Int) ≤ 40000 := by have h1 := H3.out.1.few; have h2 := HN.out; omega
    by_cases hlt : k < i
    ·
      obtain ⟨z, hz⟩ : ∃ z, s.L[k]? = some z := ⟨_, List.getElem?_eq_getElem (by have := HN.out; omega)⟩
      have e5 := SrcAt.calm.cell_calm (HC.out k z hz) hCk
      have hne : (z.2 != x2) = true := by have := HI.out.2.2.1 k z hlt hz; simpa using this
      have hkn : (k : Int) < (n : Int) := by omega
      have HCk := Lib.hid hCk
      clear hCk hz
      go_wp2
      go_region
      all_goals go_wp2
      exact ⟨⟨k + 1, by omega, by go_num, HCk.out.trans ((Chg.refl _ _).drew)⟩, by simp [intOf]; omega⟩
    ·
      have hki : k = i := by omega
      subst hki
      have e5 := SrcAt.calm.cell_calm (HC.out k y HI.out.1) hCk
      rw [HI.out.2.1] at e5
      have hne : (x2 != x2) = false := by simp
      have hkn : (k : Int) < (n : Int) := by omega
      have HCk := Lib.hid (hCk.trans ((Chg.refl [] wr).drew))
      clear hCk hlt hk
      go_wp2
      go_region
      all_goals go_wp2
      obtain ⟨w4, hw4⟩ : ∃ w4, w4 = wr.drew := ⟨_, rfl⟩
      rw [← hw4] at HCk ⊢
      clear hw4 k1 e4 e5
      have h4 := H3.out.1.calm HCk.out
      have hI4 := HI.out.2.2.2.2
      rw [HN.out] at h4
      obtain ⟨a1, c1, w5, A, a2, c2, w6, hr1, hA, hr2, hC5, hC6, hd6, hCd6, hv6, hnc, hcm⟩ := cut_way h4 HI.out.1 hI4
      have k4 := h4.c1
      have k5 := (h4.calm hC5).c1
      have k6 := (h4.calm hC6).c1
      have y6 := (h4.calm hC6).cfr 1
      rw [← HN.out] at hr2 k4 k5 k6 hnc
      have HR := Lib.hid (And.intro hr1 hr2)
      have hd6' : DQ (w6.setCell ⟨rc, 1, none⟩ (.slice a2 (s.L.take k ++ s.L.drop (k + 1)).length c2)) rc rr rw (.slice a2 (s.L.take k ++ s.L.drop (k + 1)).length c2) { s with L := delM s.L x2 } := by rw [HI.out.2.2.2.1]; exact hd6
      have hC04 := H3.out.2.1.trans HCk.out
      have hb6 := hCd6.blk (HCk.out.blk H3.out.2.2.1 (by simp)) (by simp; have := H3.out.2.2.2.2; omega)
      have ho6 := hCd6.blk (HCk.out.blk H3.out.2.2.2.1 (by simp)) (by simp; have := H3.out.2.2.2.2; omega)
      have HX := Lib.hid (And.intro hd6' (And.intro ((hC04.mono (S2 := blkD rc rr rw (.slice (some ⟨g, 0, none⟩) n cap)) (by simp)).trans (hCd6.mono (by simp [blkD]))) (And.intro hb6 (And.intro ho6 (show ∀ jj ∈ (Value.slice a2 (s.L.take k ++ s.L.drop (k + 1)).length c2).ownBlock.toList, w.heap.size ≤ jj ∧ bo < jj from fun j hj => by have h1 := hv6 j hj; have h2 := hC04.size; have h3 := lt_of_blk (HCk.out.blk H3.out.2.2.2.1 (by simp)); omega)))))
      have hic : k ≤ cap := by omega
      have hin2 : k + 1 ≤ n := by omega
      have hwr : IntKind.i64.wrap ((k : Int) + 1) = (k : Int) + 1 := by unfold maxLen at hcm; simp [IntKind.wrap, IntKind.signed, IntKind.bits]; omega
      have hw1 : (0 : Int) ≤ (k : Int) + 1 := by omega
      have hw2 : (k : Int) + 1 ≤ (n : Int) := by omega
      clear hr1 hr2 hd6 hd6' hC04 hb6 ho6 hI4 h4 hC5 hC6 hCd6 hv6
      generalize (s.L.take k ++ s.L.drop (k + 1)).length = n2 at *
      generalize (s.L.take k).length = n1 at *
      go_region_law (first
        | (refine step_run rfl _ _ 47 47 rfl rfl (.slice none 0 0) (.slice (some ⟨g, 0, none⟩) k cap) (.slice a1 n1 c1) (by simp [Act.eval]) (by simp [Act.eval, Act.put]) w5 HR.out.1 ?_)
        | (refine step_run rfl _ _ 47 47 rfl rfl (.slice a1 n1 c1) (.slice (some A) (n - (k + 1)) (cap - (k + 1))) (.slice a2 n2 c2) (by simp [Act.eval, Act.put]) (by simp [Act.eval, Act.put]) w6 HR.out.2 ?_))
      all_goals
        obtain ⟨w7, hw7, h7, hC7, hb7, ho7, hv7⟩ : ∃ w7, w7 = w6.setCell ⟨rc, 1, none⟩ (.slice a2 n2 c2) ∧ DQ w7 rc rr rw (.slice a2 n2 c2) { s with L := delM s.L x2 } ∧ Chg (blkD rc rr rw (.slice (some ⟨g, 0, none⟩) n cap)) w w7 ∧ w7.heap[bm]? = some pd0B ∧ w7.heap[bo]? = some (.cells #[.bool true, .int .i64 x1, .int .i64 x2, .int .i64 (-1)] 58 (0, 0)) ∧ (∀ jj ∈ (Value.slice a2 n2 c2).ownBlock.toList, w.heap.size ≤ jj ∧ bo < jj) := ⟨_, rfl, HX.out⟩
        rw [← hw7]
        clear hw7
        have k2 := h7.c2
        have HT := Lib.hid (rtakec rr s.S w7 h7.sd h7.fewS.1 h7.inv.ls)
        have H7 := Lib.hid (And.intro h7 (And.intro hC7 (And.intro hb7 (And.intro ho7 hv7))))
        clear h7 hC7 hb7 ho7 hv7 k4 k5 k6 y6
        go_wp2_with fail
        refine HT.out.mono ?_
        rintro e w8 ⟨rfl, hR8, hC8⟩
        clear HT k2
        rw [hh, ← HOO.out]
        have hi7 := H7.out.1.inv
        have h8 := H7.out.1.stepS hR8 hC8 ⟨hi7.room, hi7.few, hi7.msg, hi7.ls.sub (takeL_sub hi7.ls), hi7.lr, hi7.len, hi7.held⟩
        have hb8 := hC8.blk H7.out.2.2.1 (by simp; have := H3.out.2.2.2.2; omega)
        have ho8 := hC8.blk H7.out.2.2.2.1 (by simp; have := H3.out.2.2.2.2; omega)
        have hon : on < 16 := by have := HOT.out.1.2; omega
        obtain ⟨m1, m2, hmm⟩ : ∃ m1 m2, mAt s.M on = (m1, m2) := ⟨_, _, rfl⟩
        have x0 := (h8.cM hon).1
        have x1' := (h8.cM hon).2
        simp only [hmm] at x0 x1'
        have hIH := HOT.out.2
        rw [hmm] at hIH
        have HMM := Lib.hid hmm
        have hcb : Chg [] w8 (w8.alloc (.cells #[.int .i64 m1, .int .i64 m2] 33 (0, 0))).drew := ((Chg.refl _ _).alloc _).trans ((Chg.refl _ _).drew)
        have hbx : (w8.alloc (.cells #[.int .i64 m1, .int .i64 m2] 33 (0, 0))).drew.heap[w8.heap.size]? = some (.cells #[.int .i64 m1, .int .i64 m2] 33 (0, 0)) := heap_alloc_eq w8 _
        obtain ⟨a3, c3, w9, hr9, hC9, hd10, hC10, hv10⟩ := more_way (m := (m1, m2)) h8 hIH hcb hbx
        have hrn := h8.rowNe
        have hrc : rc ∉ (Value.slice a2 n2 c2).ownBlock.toList := fun hm => (hrn _ hm).1 (by simp)
        have hnb : bm ∉ (Value.slice a2 n2 c2).ownBlock.toList ∧ bo ∉ (Value.slice a2 n2 c2).ownBlock.toList := ⟨fun hm => by have h1 := (H7.out.2.2.2.2 _ hm).2; have h2 := H3.out.2.2.2.2; omega, fun hm => by have h1 := (H7.out.2.2.2.2 _ hm).2; omega⟩
        have k8 := h8.c1
        have k8' := (h8.calm hcb).c1
        have hh9 := hC9.blk h8.head hrc
        have k9 := cellB hh9 (i := 1) (v := .slice a2 n2 c2) rfl
        have y9 := frozenB hh9 1
        have hlb := H3.out.2.2.2.2
        have hb10 := hC10.blk hb8 (fun hm => by rcases List.mem_cons.1 hm with h1 | h1; omega; exact hnb.1 h1)
        have ho10 := hC10.blk ho8 (fun hm => by rcases List.mem_cons.1 hm with h1 | h1; omega; exact hnb.2 h1)
        obtain ⟨n3, hn3⟩ : ∃ n3, n3 = (delM s.L x2).length + 1 := ⟨_, rfl⟩
        simp only at hr9 hd10 hC10 hv10 hb10 ho10
        rw [← hn3] at hr9 hd10 hC10 hv10 hb10 ho10
        have hsz8 : w.heap.size ≤ w8.heap.size ∧ bo < w8.heap.size := ⟨by have h1 := H7.out.2.1.size; have h2 := hC8.size; omega, lt_of_blk ho8⟩
        have HX9 := Lib.hid (And.intro hd10 (And.intro ((H7.out.2.1.trans (hC8.mono (by simp [blkD]))).trans' hC10 (fun k hk => by
          rcases List.mem_cons.1 hk with h1 | h1
          · exact .inl (by simp [blkD, h1])
          · exact .inr (H7.out.2.2.2.2 _ h1).1)) (And.intro hb10 (And.intro ho10 (show ∀ jj ∈ (Value.slice a3 n3 c3).ownBlock.toList, w.heap.size ≤ jj ∧ bo < jj from fun jj hj => by
          rcases hv10 jj hj with h1 | h1
          · exact H7.out.2.2.2.2 _ h1
          · omega)))))
        have HR9 := Lib.hid hr9
        have hq1 : (0 : Int) ≤ (on : Int) := by omega
        have hq2 : (on : Int) < 16 := by omega
        clear h8 hb8 ho8 hi7 hIH hcb hbx hr9 hC9 hd10 hC10 hv10 hrn hrc hnb hh9 hlb hb10 ho10 hsz8 hn3 hR8 hC8 H7 hmm hic hin2 hwr hw1 hw2 hA hkn hne hnc hcm e3 hm1 hov hin hbz
        go_wp2
        go_region_law (first
          | (refine step_run rfl _ _ 47 47 rfl rfl (.slice a2 n2 c2) (.slice (some ⟨w8.heap.size, 0, none⟩) 1 1) (.slice a3 n3 c3) (by simp [Act.eval]) (by simp [Act.eval]) w9 HR9.out ?_))
        all_goals
          obtain ⟨w10, hw10, h10, hC10, hb10, ho10, hv10⟩ : ∃ w10, w10 = w9.setCell ⟨rc, 1, none⟩ (.slice a3 n3 c3) ∧ DQ w10 rc rr rw (.slice a3 n3 c3) ⟨s.room, delM s.L x2 ++ [(m1, m2)], takeL s.S, s.R, s.M⟩ ∧ Chg (blkD rc rr rw (.slice (some ⟨g, 0, none⟩) n cap)) w w10 ∧ w10.heap[bm]? = some pd0B ∧ w10.heap[bo]? = some (.cells #[.bool true, .int .i64 x1, .int .i64 x2, .int .i64 (-1)] 58 (0, 0)) ∧ (∀ jj ∈ (Value.slice a3 n3 c3).ownBlock.toList, w.heap.size ≤ jj ∧ bo < jj) := ⟨_, rfl, HX9.out⟩
          rw [← hw10]
          clear hw10 k8 k8' k9 y9 x0 x1' HX9 HR9 HX HR
          have t0 := cellB ho10 (i := 0) (v := .bool true) rfl
          have t1 := cellB ho10 (i := 1) (v := .int .i64 x1) rfl
          have t2 := cellB ho10 (i := 2) (v := .int .i64 x2) rfl
          have t3 := cellB ho10 (i := 3) (v := .int .i64 (-1)) rfl
          have fo := frozenB ho10
          have r0 := cellB hb10 (i := 0) (v := .bool false) rfl
          have r1 := cellB hb10 (i := 1) (v := .int .i64 0) rfl
          have r2 := cellB hb10 (i := 2) (v := .int .i64 0) rfl
          have r3 := cellB hb10 (i := 3) (v := .int .i64 0) rfl
          have f1 := frozenB hb10
          have nb : bm ≠ bo := by have := H3.out.2.2.2.2; omega
          have nb' : bo ≠ bm := fun e => nb e.symm
          have H10 := Lib.hid (And.intro h10 (And.intro hC10 (And.intro hb10 (And.intro ho10 hv10))))
          clear h10 hC10 hb10 ho10 hv10
          go_wp2
          obtain ⟨w11, hw11⟩ : ∃ w11, w11 = w10.setCell ⟨bo, 3, none⟩ (.int .i64 (on : Int)) := ⟨_, rfl⟩
          have hC11 : Chg [bo] w10 w11 := by rw [hw11]; exact (Chg.refl _ _).setCell _ _ (by simp)
          have hb11 : w11.heap[bm]? = some pd0B := hC11.blk H10.out.2.2.1 (by simp; exact nb)
          rw [← hw11]
          have h11 := H10.out.1.kept hC11 (fun k hk => by
            simp at hk
            subst hk
            refine ⟨fun hm => ?_, NotW.of H10.out.2.2.2.1 (fun cs fr e => by cases e)⟩
            rcases List.mem_append.1 hm with h1 | h1
            · simp only [List.mem_cons, List.not_mem_nil, or_false] at h1; have h2 := H3.out.2.2.2.2; omega
            · have h3 := (H10.out.2.2.2.2 _ h1).2; omega)
          have hC011 := H10.out.2.1.trans' hC11 (fun k hk => by simp at hk; subst hk; exact .inr (by have h1 := H3.out.2.2.2.2; have h2 := HS.out.2.2.2.2; omega))
          obtain ⟨W, hW⟩ : ∃ W, W = ((((w11.setCell ⟨bm, 0, none⟩ (.bool true)).setCell ⟨bm, 1, none⟩ (.int .i64 x1)).setCell ⟨bm, 2, none⟩ (.int .i64 x2)).setCell ⟨bm, 3, none⟩ (.int .i64 (on : Int))) := ⟨_, rfl⟩
          have hf : W.heap[bm]? = some (.cells #[.bool true, .int .i64 x1, .int .i64 x2, .int .i64 (on : Int)] 58 (0, 0)) := by rw [hW]; exact res4 hb11 _ _ _ _
          have hCW : Chg [bm] w11 W := by rw [hW]; exact chg4 _ _ _ _ _ _
          rw [← hW]
          have q0 := cellB hf (i := 0) rfl
          have q1 := cellB hf (i := 1) rfl
          have q2 := cellB hf (i := 2) rfl
          have q3 := cellB hf (i := 3) rfl
          refine ⟨rfl, .tuple #[pdV ⟨true, x1, x2, on⟩, .int .i64 0], ?_, ?_⟩
          · simp [results, Tryz.results17, go_sem, q0, q1, q2, q3, pdV]
          · rw [HQ.out, HMM.out]
            exact ⟨_, rfl, h11.kept hCW (fun k hk => by
              simp at hk
              subst hk
              refine ⟨fun hm => ?_, NotW.of hb11 (fun cs fr e => by cases e)⟩
              rcases List.mem_append.1 hm with h1 | h1
              · have h3 := HS.out.2.2.2.1 _ (List.mem_append.2 (.inl h1)); have h2 := HS.out.2.2.2.2; omega
              · have h3 := (H10.out.2.2.2.2 _ h1).2; have h2 := H3.out.2.2.2.2; omega), hC011.trans' hCW (fun k hk => by simp at hk; subst hk; exact .inr (by have := HS.out.2.2.2.2; omega)), fun k hk => .inr (H10.out.2.2.2.2 k hk).1⟩

theorem dqrcvc (rc rr rw : Nat) (v : Value) (s : QS) (t p : Int) (w : World) (h : DQ w rc rr rw v s) : Calls Tryz.prog 17 #[.pointer (some ⟨rc, 0, none⟩), .int .i64 t, .int .i64 p] w (DStepP rc rr rw v (s.rcvS t p) (.tuple #[pdV (s.rcvP t p), .int .i64 (s.askE t p 0 false)]) w) := by
  by_cases he : s.askE t p 0 false = 0
  · cases ho : s.ord with
    | nil => exact dqrcv_wait rc rr rw v s t p w h he ho
    | cons x r =>
      cases hh : headB (ordL s.S) with
      | true => exact dqrcv_hand rc rr rw v s x r t p w h he ho hh
      | false => exact dqrcv_plain rc rr rw v s x r t p w h he ho hh
  · exact dqrcv_no rc rr rw v s t p w h he

end Go.Proofs.YtiiafhlckmkcnaaGreat
