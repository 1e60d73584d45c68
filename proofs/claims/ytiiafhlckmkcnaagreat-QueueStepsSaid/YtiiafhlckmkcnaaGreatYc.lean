
/- metronomeref18: Send: contract. -/
import Derived.Test.YtiiafhlckmkcnaaGreatYb
import Derived.Test.YtiiafhlckmkcnaaGreatUg
import Derived.Deep.RegionLaw
namespace Go.Proofs.YtiiafhlckmkcnaaGreat
open Go.RowKit

theorem flatW_set2 : ∀ {l : WL} {k : Nat} (a b : Int), k < l.length → ((flatW l).set (k * 2) (.int .i64 a)).set (k * 2 + 1) (.int .i64 b) = flatW (l.set k (a, b))
  | [], k, a, b, h => by simp at h
  | x :: l, 0, a, b, h => by rw [flatW_cons]; rfl
  | x :: l, k + 1, a, b, h => by
    rw [flatW_cons, List.set_cons_succ, flatW_cons, ← flatW_set2 a b (by simpa using h), show (k + 1) * 2 = k * 2 + 1 + 1 by omega]
    rfl
theorem dqcells_setM {rr rw : Nat} {v : Value} {s : QS} (hl : s.M.length = 16) {k : Nat} (hk : k < 16) (a b : Int) :
    ((dqcells rr rw v s).setIfInBounds (4 + k * 2) (.int .i64 a)).setIfInBounds (4 + k * 2 + 1) (.int .i64 b) = dqcells rr rw v { s with M := s.M.set k (a, b) } := by
  unfold dqcells
  rw [List.setIfInBounds_toArray, List.setIfInBounds_toArray, show 4 + k * 2 = k * 2 + 1 + 1 + 1 + 1 by omega]
  simp only [List.set_cons_succ]
  rw [flatW_set2 a b (by omega)]
theorem DQ.putM {w : World} {rc rr rw : Nat} {v : Value} {s : QS} (h : DQ w rc rr rw v s) {k : Nat} (hk : k < 16) (a b : Int) (hI : QInv { s with M := s.M.set k (a, b) }) :
    DQ ((w.setCell ⟨rc, 4 + k * 2, none⟩ (.int .i64 a)).setCell ⟨rc, 4 + k * 2 + 1, none⟩ (.int .i64 b)) rc rr rw v { s with M := s.M.set k (a, b) } ∧
      Chg [rc] w ((w.setCell ⟨rc, 4 + k * 2, none⟩ (.int .i64 a)).setCell ⟨rc, 4 + k * 2 + 1, none⟩ (.int .i64 b)) := by
  have hC : Chg [rc] w ((w.setCell ⟨rc, 4 + k * 2, none⟩ (.int .i64 a)).setCell ⟨rc, 4 + k * 2 + 1, none⟩ (.int .i64 b)) := ((Chg.refl _ _).setCell _ _ (by simp)).setCell _ _ (by simp)
  have hn := h.nc
  refine ⟨⟨?_, own_kept h.row hC (fun k hk hm => by simp at hk; subst hk; exact (h.rowNe _ hm).1 (by simp)), h.sd.kept hC (fun k hk => by simp at hk; subst hk; exact ⟨hn.1, hn.2.2⟩), h.rv.kept hC (fun k hk => by simp at hk; subst hk; exact ⟨hn.2.1, hn.2.2⟩), hI, h.ne⟩, hC⟩
  rw [← dqcells_setM h.inv.len hk]
  exact blk_setCell (blk_setCell h.head _) _

theorem DQ.cM {w : World} {rc rr rw : Nat} {v : Value} {s : QS} (h : DQ w rc rr rw v s) {k : Nat} (hk : k < 16) :
    w.cell? ⟨rc, 4 + k * 2, none⟩ = some (.int .i64 (mAt s.M k).1) ∧ w.cell? ⟨rc, 4 + k * 2 + 1, none⟩ = some (.int .i64 (mAt s.M k).2) := by
  have hl := h.inv.len
  have hm : s.M[k]? = some (mAt s.M k) := by
    unfold mAt
    rw [if_pos (by omega), show ((k : Int)).toNat = k by omega, List.getD_eq_getElem?_getD, List.getElem?_eq_getElem (by omega)]
    rfl
  obtain ⟨h1, h2⟩ := flatW_at hm
  have e : ∀ j u, (flatW s.M)[j]? = some u → (dqcells rr rw v s)[4 + j]? = some u := fun j u hj => by
    unfold dqcells
    rw [List.getElem?_toArray, show 4 + j = j + 1 + 1 + 1 + 1 by omega]
    simp only [List.getElem?_cons_succ]
    exact hj
  exact ⟨cellB h.head (e _ _ h1), cellB h.head (e _ _ h2)⟩

theorem DQ.src {w : World} {rc rr rw : Nat} {v : Value} {s : QS} (h : DQ w rc rr rw v s) : SrcAt w v s.L.length (flatW s.L) := by
  obtain ⟨a, cap, rfl, hc⟩ := h.open
  rcases hc with hl | ⟨g, rfl, hc⟩
  · have hr := h.row
    rcases hr.2 with ⟨e1, e2⟩ | ⟨g, cap', cur, e1, hb, _⟩
    · exact .inl ⟨by rw [e1], by rw [hl]; rfl, by rw [hl]; rfl⟩
    · injection e1 with e1 e2 e3
      subst e1
      exact .inr ⟨_, cap, rfl, fun j u hj => by rw [hl] at hj; simp [flatW] at hj⟩
  · refine .inr ⟨_, cap, rfl, fun j u hj => ?_⟩
    obtain ⟨g', cap', cur, e, _, hb, _, _, _, ht⟩ := own_blk h.row (fun e0 => by
      rw [List.eq_nil_of_length_eq_zero e0] at hj
      simp [flatW] at hj)
    injection e with e1 e2 e3
    injection e1 with e1
    injection e1 with e1
    subst e1
    have hadd : ((⟨g, 0, none⟩ : Addr).add j) = ⟨g, 0 + j, none⟩ := by unfold Addr.add; split <;> simp_all
    rw [hadd, Nat.zero_add]
    exact cellB hb (own_take ht _ _ hj)
theorem run_freshM {w : World} {x : Value} {l : WL} (hx : SrcAt w x l.length (flatW l)) (hl : l.length ≤ 1000000) : ∃ v' w', (Builtin.append_ #[47, 47] 47 #[.slice none 0 0, x]).run Tryz.prog w = .ok v' w' ∧ w'.ownsRow w.heap.size 33 2 v' l.length (flatW l) ∧ Chg [] w w' := by
  obtain ⟨i0, hi, hz0, hz1, hz2⟩ := info_parts infoMessage
  obtain ⟨v', w', hr, h2, h3, _⟩ := run_more (P := Tryz.prog) (w := w) w.heap.size 47 47 33 i0 (.agg #[.int .i64 0, .int .i64 0]) 2 16 Tryz.underlying47 hi hz0 hz1 hz2 rfl (by decide)
    (.slice none 0 0) 0 [] (World.ownsRow_nil ..) x l.length (flatW l) hx (flatW_len l) (flatW_one l) (by unfold maxLen; omega) (by omega) (Nat.le_refl _)
  exact ⟨v', w', hr, by simpa using h2, by simpa [Value.ownBlock] using h3⟩
/-- One message more. -/
theorem run_moreM {w : World} {B : Nat} {v x : Value} {l k : WL} (ho : w.ownsRow B 33 2 v l.length (flatW l)) (hx : SrcAt w x k.length (flatW k)) (hl : l.length + k.length ≤ 1000000) (hB : B ≤ w.heap.size) :
    ∃ v' w', (Builtin.append_ #[47, 47] 47 #[v, x]).run Tryz.prog w = .ok v' w' ∧ w'.ownsRow B 33 2 v' (l ++ k).length (flatW (l ++ k)) ∧ Chg v.ownBlock.toList w w' ∧ (v'.ownBlock = v.ownBlock ∨ ∃ k, w.heap.size ≤ k ∧ v'.ownBlock = some k) := by
  obtain ⟨i0, hi, hz0, hz1, hz2⟩ := info_parts infoMessage
  obtain ⟨v', w', hr, h2, h3, h4⟩ := run_more (P := Tryz.prog) (w := w) B 47 47 33 i0 (.agg #[.int .i64 0, .int .i64 0]) 2 16 Tryz.underlying47 hi hz0 hz1 hz2 rfl (by decide)
    v l.length (flatW l) ho x k.length (flatW k) hx (flatW_len k) (flatW_one k) (by unfold maxLen; omega) (by omega) hB
  exact ⟨v', w', hr, by rw [List.length_append, flatW_app2]; exact h2, h3, h4⟩

theorem put_wayA {w3 WA : World} {rc rr rw : Nat} {v : Value} {s : QS} (h3 : DQ w3 rc rr rw v s) (hA : Chg [] w3 WA) : ∃ va vc w4, (Builtin.append_ #[47, 47] 47 #[.slice none 0 0, v]).run Tryz.prog WA = .ok (.slice va s.L.length vc) w4 ∧
    w4.ownsRow w3.heap.size 33 2 (.slice va s.L.length vc) s.L.length (flatW s.L) ∧ Chg [] WA w4 := by
  obtain ⟨v1, w4, hr, ho, hC⟩ := run_freshM (h3.calm hA).src (by have := h3.few; omega)
  obtain ⟨va, vc, rfl⟩ := own_slice ho
  exact ⟨va, vc, w4, hr, own_mono ho hA.size, hC⟩
theorem put_wayC {w3 WC : World} {rc rr rw b : Nat} {v v1 : Value} {s : QS} {m : Int × Int} (h3 : DQ w3 rc rr rw v s) (hI : QInv { s with L := s.L ++ [m] }) (hC : Chg [] w3 WC) (ho : WC.ownsRow w3.heap.size 33 2 v1 s.L.length (flatW s.L))
    (hb : WC.heap[b]? = some (.cells #[.int .i64 m.1, .int .i64 m.2] 33 (0, 0))) :
    ∃ va vc w6, (Builtin.append_ #[47, 47] 47 #[v1, .slice (some ⟨b, 0, none⟩) 1 1]).run Tryz.prog WC = .ok (.slice va (s.L.length + 1) vc) w6 ∧ Chg [] w3 w6 ∧
      DQ (w6.setCell ⟨rc, 1, none⟩ (.slice va (s.L.length + 1) vc)) rc rr rw (.slice va (s.L.length + 1) vc) { s with L := s.L ++ [m] } ∧ Chg [rc] w3 (w6.setCell ⟨rc, 1, none⟩ (.slice va (s.L.length + 1) vc)) ∧
      ∀ k ∈ (Value.slice va (s.L.length + 1) vc).ownBlock.toList, w3.heap.size ≤ k := by
  have hx : SrcAt WC (.slice (some ⟨b, 0, none⟩) 1 1) [m].length (flatW [m]) := .inr ⟨_, 1, rfl, fun j u hj => by
    have hadd : ((⟨b, 0, none⟩ : Addr).add j) = ⟨b, 0 + j, none⟩ := by unfold Addr.add; split <;> simp_all
    rw [hadd, Nat.zero_add]
    exact cellB hb (by rw [List.getElem?_toArray]; exact hj)⟩
  obtain ⟨v2, w6, hr, ho2, hC2, hv⟩ := run_moreM ho hx (by have := h3.few; simp; omega) hC.size
  have hlen : (s.L ++ [m]).length = s.L.length + 1 := by simp
  obtain ⟨va, vc, e⟩ := own_slice ho2
  have hC6 : Chg [] w3 w6 := hC.trans' hC2 (fun k hk => .inr (own_ge ho k hk))
  have hfin := h3.putL (L := s.L ++ [m]) (hC6.mono (by simp)) (own_mono ho2 (Nat.zero_le _)) hI
  rw [hlen] at e
  subst e
  exact ⟨va, vc, w6, hr, hC6, hfin.1, (hC6.mono (by simp)).trans ((Chg.refl _ _).setCell _ _ (by simp)), fun k hk => own_ge ho2 k hk⟩


set_option maxRecDepth 100000 in
set_option maxHeartbeats 4000000 in
theorem dqsend_no (rc rr rw : Nat) (v : Value) (s : QS) (t p : Int) (m : Int × Int) (w : World) (h : DQ w rc rr rw v s) (he : s.askE t p m.2 false ≠ 0) : Calls Tryz.prog 15 #[.pointer (some ⟨rc, 0, none⟩), .int .i64 t, .int .i64 p, msgV m] w (DStepP rc rr rw v (s.sendS t p m) (.tuple #[pdV (s.sendP t p m), .int .i64 (s.askE t p m.2 false)]) w) := by
  obtain ⟨bm, hbm⟩ : ∃ bm, bm = w.heap.size := ⟨_, rfl⟩
  obtain ⟨w0, hw0⟩ : ∃ w0, w0 = (w.alloc (.cells #[.int .i64 m.1, .int .i64 m.2] 33 (0, 0))).alloc pd0B := ⟨_, rfl⟩
  have hC0 : Chg [] w w0 := by rw [hw0]; exact ((Chg.refl _ _).alloc _).alloc _
  have hm0 : w0.heap[bm]? = some (msgB m) := by rw [hw0, hbm]; exact blk_alloc (heap_alloc_eq w _) _
  have hr0 : w0.heap[bm + 1]? = some pd0B := by rw [hw0, hbm]; have := heap_alloc_eq (w.alloc (.cells #[.int .i64 m.1, .int .i64 m.2] 33 (0, 0))) pd0B; rwa [World.size_alloc] at this
  have h0 := h.calm hC0
  have hA := dqaskc rc t p w0
  have hWt := dqwaitc rc rr rw v s t w0 h0
  have hlt := h.lt
  have HS := Lib.hid (And.intro h0 (And.intro hm0 (And.intro hr0 (And.intro hC0 (And.intro hlt hbm)))))
  obtain ⟨QQ, hQQ⟩ : ∃ QQ, QQ = DStepP rc rr rw v (s.sendS t p m) (.tuple #[pdV (s.sendP t p m), .int .i64 (s.askE t p m.2 false)]) w := ⟨_, rfl⟩
  rw [← hQQ]
  have e1 : s.sendS t p m = s := by unfold QS.sendS; rw [if_neg he]
  have e2 : s.sendP t p m = pd0 := by unfold QS.sendP; rw [if_neg he]
  rw [e1, e2] at hQQ
  have r0 := cellB hr0 (i := 0) (v := .bool false) rfl
  have r1 := cellB hr0 (i := 1) (v := .int .i64 0) rfl
  have r2 := cellB hr0 (i := 2) (v := .int .i64 0) rfl
  have r3 := cellB hr0 (i := 3) (v := .int .i64 0) rfl
  have f1 := frozenB hr0
  obtain ⟨m1, m2⟩ := m
  have d1 := cellB hm0 (i := 1) (v := .int .i64 m2) rfl
  have hbz := pBuild0
  cases ha : tpB t p with
  | false =>
    have e3 : s.askE t p m2 false = 2 := askE_2 ha
    rw [ha, if_neg (by decide)] at hA
    obtain ⟨E, hE⟩ : ∃ E, E = s.askE t p m2 false := ⟨_, rfl⟩
    rw [← hE] at hQQ
    have HEE := Lib.hid (hE.trans e3)
    have HA := Lib.hid hA
    have HQ := Lib.hid hQQ
    clear h h0 hm0 hr0 hC0 hlt hA hQQ he e1 e2 hWt e3 hE ha d1
    unfold msgV
    unfold pd0B at hw0
    go_enter Tryz.func15, Tryz.ntmps15
    go_upto_region 1 with fail
    rw [← hbm, ← hw0]
    clear hbm hw0
    go_wp2_with fail
    refine HA.out.mono ?_
    rintro e w' ⟨rfl, rfl⟩
    go_wp2
    obtain ⟨W, hW⟩ : ∃ W, W = ((((w0.setCell ⟨bm + 1, 0, none⟩ (.bool false)).setCell ⟨bm + 1, 1, none⟩ (.int .i64 0)).setCell ⟨bm + 1, 2, none⟩ (.int .i64 0)).setCell ⟨bm + 1, 3, none⟩ (.int .i64 0)) := ⟨_, rfl⟩
    have hf : W.heap[bm + 1]? = some (.cells #[.bool false, .int .i64 0, .int .i64 0, .int .i64 0] 58 (0, 0)) := by rw [hW]; exact res4 HS.out.2.2.1 _ _ _ _
    have hCW : Chg [bm + 1] w0 W := by rw [hW]; exact chg4 _ _ _ _ _ _
    rw [← hW]
    have q0 := cellB hf (i := 0) rfl
    have q1 := cellB hf (i := 1) rfl
    have q2 := cellB hf (i := 2) rfl
    have q3 := cellB hf (i := 3) rfl
    refine ⟨rfl, .tuple #[pdV pd0, .int .i64 E], ?_, ?_⟩
    · simp [results, Tryz.results15, go_sem, q0, q1, q2, q3, pdV, pd0, HEE.out]
    · rw [HQ.out]
      have hCC := HS.out.2.2.2.1
      have hCF : Chg [] w W := hCC.trans' hCW (fun k hk => by simp at hk; subst hk; exact .inr (by have := HS.out.2.2.2.2.2; omega))
      exact ⟨v, rfl, HS.out.1.kept hCW (fun k hk => by simp at hk; subst hk; exact ⟨fun hm => by have h1 := HS.out.2.2.2.2.1 _ hm; have h2 := HS.out.2.2.2.2.2; omega, NotW.of HS.out.2.2.1 (fun cs fr e => by cases e)⟩), hCF.mono (by simp), fun k hk => .inl hk⟩
  | true =>
    rw [ha, if_pos rfl] at hA
    cases hb : mB m2 with
    | false =>
      have e3 : s.askE t p m2 false = 2 := by unfold QS.askE; rw [if_neg (by rw [hb]; simp)]
      have hc : decide (m2 < 0) = true ∨ (decide (m2 < 0) = false ∧ decide (31 < m2) = true) := by
        simp only [decide_eq_true_eq, decide_eq_false_iff_not]
        have : ¬ (0 ≤ m2 ∧ m2 ≤ 31) := fun hh => by rw [mB_iff.2 hh] at hb; cases hb
        omega
      obtain ⟨E, hE⟩ : ∃ E, E = s.askE t p m2 false := ⟨_, rfl⟩
      rw [← hE] at hQQ
      have HEE := Lib.hid (hE.trans e3)
      have HA := Lib.hid hA
      have HQ := Lib.hid hQQ
      clear h h0 hm0 hr0 hC0 hlt hA hQQ he e1 e2 hWt e3 hE ha hb
      rcases hc with b1 | ⟨b1, b2⟩
      ·
        unfold msgV
        unfold pd0B at hw0
        go_enter Tryz.func15, Tryz.ntmps15
        go_upto_region 1 with fail
        rw [← hbm, ← hw0]
        clear hbm hw0
        go_wp2_with fail
        refine HA.out.mono ?_
        rintro e w' ⟨rfl, rfl⟩
        go_wp2
        obtain ⟨W, hW⟩ : ∃ W, W = ((((w0.setCell ⟨bm + 1, 0, none⟩ (.bool false)).setCell ⟨bm + 1, 1, none⟩ (.int .i64 0)).setCell ⟨bm + 1, 2, none⟩ (.int .i64 0)).setCell ⟨bm + 1, 3, none⟩ (.int .i64 0)) := ⟨_, rfl⟩
        have hf : W.heap[bm + 1]? = some (.cells #[.bool false, .int .i64 0, .int .i64 0, .int .i64 0] 58 (0, 0)) := by rw [hW]; exact res4 HS.out.2.2.1 _ _ _ _
        have hCW : Chg [bm + 1] w0 W := by rw [hW]; exact chg4 _ _ _ _ _ _
        rw [← hW]
        have q0 := cellB hf (i := 0) rfl
        have q1 := cellB hf (i := 1) rfl
        have q2 := cellB hf (i := 2) rfl
        have q3 := cellB hf (i := 3) rfl
        refine ⟨rfl, .tuple #[pdV pd0, .int .i64 E], ?_, ?_⟩
        · simp [results, Tryz.results15, go_sem, q0, q1, q2, q3, pdV, pd0, HEE.out]
        · rw [HQ.out]
          have hCC := HS.out.2.2.2.1
          have hCF : Chg [] w W := hCC.trans' hCW (fun k hk => by simp at hk; subst hk; exact .inr (by have := HS.out.2.2.2.2.2; omega))
          exact ⟨v, rfl, HS.out.1.kept hCW (fun k hk => by simp at hk; subst hk; exact ⟨fun hm => by have h1 := HS.out.2.2.2.2.1 _ hm; have h2 := HS.out.2.2.2.2.2; omega, NotW.of HS.out.2.2.1 (fun cs fr e => by cases e)⟩), hCF.mono (by simp), fun k hk => .inl hk⟩
      ·
        unfold msgV
        unfold pd0B at hw0
        go_enter Tryz.func15, Tryz.ntmps15
        go_upto_region 1 with fail
        rw [← hbm, ← hw0]
        clear hbm hw0
        go_wp2_with fail
        refine HA.out.mono ?_
        rintro e w' ⟨rfl, rfl⟩
        go_wp2
        obtain ⟨W, hW⟩ : ∃ W, W = ((((w0.setCell ⟨bm + 1, 0, none⟩ (.bool false)).setCell ⟨bm + 1, 1, none⟩ (.int .i64 0)).setCell ⟨bm + 1, 2, none⟩ (.int .i64 0)).setCell ⟨bm + 1, 3, none⟩ (.int .i64 0)) := ⟨_, rfl⟩
        have hf : W.heap[bm + 1]? = some (.cells #[.bool false, .int .i64 0, .int .i64 0, .int .i64 0] 58 (0, 0)) := by rw [hW]; exact res4 HS.out.2.2.1 _ _ _ _
        have hCW : Chg [bm + 1] w0 W := by rw [hW]; exact chg4 _ _ _ _ _ _
        rw [← hW]
        have q0 := cellB hf (i := 0) rfl
        have q1 := cellB hf (i := 1) rfl
        have q2 := cellB hf (i := 2) rfl
        have q3 := cellB hf (i := 3) rfl
        refine ⟨rfl, .tuple #[pdV pd0, .int .i64 E], ?_, ?_⟩
        · simp [results, Tryz.results15, go_sem, q0, q1, q2, q3, pdV, pd0, HEE.out]
        · rw [HQ.out]
          have hCC := HS.out.2.2.2.1
          have hCF : Chg [] w W := hCC.trans' hCW (fun k hk => by simp at hk; subst hk; exact .inr (by have := HS.out.2.2.2.2.2; omega))
          exact ⟨v, rfl, HS.out.1.kept hCW (fun k hk => by simp at hk; subst hk; exact ⟨fun hm => by have h1 := HS.out.2.2.2.2.1 _ hm; have h2 := HS.out.2.2.2.2.2; omega, NotW.of HS.out.2.2.1 (fun cs fr e => by cases e)⟩), hCF.mono (by simp), fun k hk => .inl hk⟩
    | true =>
      have hm := mB_iff.1 hb
      have b1 : decide (m2 < 0) = false := by simp; omega
      have b2 : decide (31 < m2) = false := by simp; omega
      have e3 : s.is t = true ∧ s.askE t p m2 false = 7 := by
        unfold QS.askE at he ⊢
        rw [if_pos ⟨ha, hb⟩] at he ⊢
        cases hi : s.is t with
        | true => exact ⟨rfl, rfl⟩
        | false => rw [hi] at he; exact absurd rfl he
      rw [e3.1] at hWt
      obtain ⟨E, hE⟩ : ∃ E, E = s.askE t p m2 false := ⟨_, rfl⟩
      rw [← hE] at hQQ
      have HEE := Lib.hid (hE.trans e3.2)
      have HA := Lib.hid hA
      have HW := Lib.hid hWt
      have HQ := Lib.hid hQQ
      clear h h0 hm0 hr0 hC0 hlt hA hQQ he e1 e2 hWt e3 hE ha hb hm
      unfold msgV
      unfold pd0B at hw0
      go_enter Tryz.func15, Tryz.ntmps15
      go_upto_region 1 with fail
      rw [← hbm, ← hw0]
      clear hbm hw0
      go_wp2_with fail
      refine HA.out.mono ?_
      rintro e w' ⟨rfl, rfl⟩
      go_wp2_with fail
      refine HW.out.mono ?_
      rintro e w' ⟨rfl, rfl⟩
      go_wp2
      obtain ⟨W, hW⟩ : ∃ W, W = ((((w0.setCell ⟨bm + 1, 0, none⟩ (.bool false)).setCell ⟨bm + 1, 1, none⟩ (.int .i64 0)).setCell ⟨bm + 1, 2, none⟩ (.int .i64 0)).setCell ⟨bm + 1, 3, none⟩ (.int .i64 0)) := ⟨_, rfl⟩
      have hf : W.heap[bm + 1]? = some (.cells #[.bool false, .int .i64 0, .int .i64 0, .int .i64 0] 58 (0, 0)) := by rw [hW]; exact res4 HS.out.2.2.1 _ _ _ _
      have hCW : Chg [bm + 1] w0 W := by rw [hW]; exact chg4 _ _ _ _ _ _
      rw [← hW]
      have q0 := cellB hf (i := 0) rfl
      have q1 := cellB hf (i := 1) rfl
      have q2 := cellB hf (i := 2) rfl
      have q3 := cellB hf (i := 3) rfl
      refine ⟨rfl, .tuple #[pdV pd0, .int .i64 E], ?_, ?_⟩
      · simp [results, Tryz.results15, go_sem, q0, q1, q2, q3, pdV, pd0, HEE.out]
      · rw [HQ.out]
        have hCC := HS.out.2.2.2.1
        have hCF : Chg [] w W := hCC.trans' hCW (fun k hk => by simp at hk; subst hk; exact .inr (by have := HS.out.2.2.2.2.2; omega))
        exact ⟨v, rfl, HS.out.1.kept hCW (fun k hk => by simp at hk; subst hk; exact ⟨fun hm => by have h1 := HS.out.2.2.2.2.1 _ hm; have h2 := HS.out.2.2.2.2.2; omega, NotW.of HS.out.2.2.1 (fun cs fr e => by cases e)⟩), hCF.mono (by simp), fun k hk => .inl hk⟩


set_option maxRecDepth 100000 in
set_option maxHeartbeats 4000000 in
theorem dqsend_take (rc rr rw : Nat) (v : Value) (s : QS) (t p : Int) (m : Int × Int) (w : World) (h : DQ w rc rr rw v s) (he : s.askE t p m.2 false = 0) (hh : headB (ordL s.R) = true) : Calls Tryz.prog 15 #[.pointer (some ⟨rc, 0, none⟩), .int .i64 t, .int .i64 p, msgV m] w (DStepP rc rr rw v (s.sendS t p m) (.tuple #[pdV (s.sendP t p m), .int .i64 (s.askE t p m.2 false)]) w) := by
  obtain ⟨bm, hbm⟩ : ∃ bm, bm = w.heap.size := ⟨_, rfl⟩
  obtain ⟨w0, hw0⟩ : ∃ w0, w0 = (w.alloc (.cells #[.int .i64 m.1, .int .i64 m.2] 33 (0, 0))).alloc pd0B := ⟨_, rfl⟩
  have hC0 : Chg [] w w0 := by rw [hw0]; exact ((Chg.refl _ _).alloc _).alloc _
  have hm0 : w0.heap[bm]? = some (msgB m) := by rw [hw0, hbm]; exact blk_alloc (heap_alloc_eq w _) _
  have hr0 : w0.heap[bm + 1]? = some pd0B := by rw [hw0, hbm]; have := heap_alloc_eq (w.alloc (.cells #[.int .i64 m.1, .int .i64 m.2] 33 (0, 0))) pd0B; rwa [World.size_alloc] at this
  have h0 := h.calm hC0
  have hA := dqaskc rc t p w0
  have hWt := dqwaitc rc rr rw v s t w0 h0
  have hlt := h.lt
  have HS := Lib.hid (And.intro h0 (And.intro hm0 (And.intro hr0 (And.intro hC0 (And.intro hlt hbm)))))
  obtain ⟨QQ, hQQ⟩ : ∃ QQ, QQ = DStepP rc rr rw v (s.sendS t p m) (.tuple #[pdV (s.sendP t p m), .int .i64 (s.askE t p m.2 false)]) w := ⟨_, rfl⟩
  rw [← hQQ]
  have e1 : s.sendS t p m = { s with R := takeL s.R } := by unfold QS.sendS; rw [if_pos he, if_pos hh]
  have e2 : s.sendP t p m = ⟨true, m.1, m.2, headT (ordL s.R)⟩ := by unfold QS.sendP; rw [if_pos he, if_pos hh]
  rw [e1, e2, he] at hQQ
  clear e1 e2
  have hk := askE_ok he
  have ha : tpB t p = true := tpB_iff.2 ⟨hk.1, hk.2.1⟩
  have b1 : decide (m.2 < 0) = false := by have := hk.2.2.1; simp; omega
  have b2 : decide (31 < m.2) = false := by have := hk.2.2.1; simp; omega
  rw [ha, if_pos rfl] at hA
  rw [hk.2.2.2] at hWt
  have c3 := h0.c3
  have HT := Lib.hid (rtakec rw s.R w0 h0.rv h0.fewS.2 h0.inv.lr)
  obtain ⟨m1, m2⟩ := m
  have d1 := cellB hm0 (i := 1) (v := .int .i64 m2) rfl
  have HA := Lib.hid hA
  have HW := Lib.hid hWt
  have HQ := Lib.hid hQQ
  have HE := Lib.hid (And.intro hk h.inv)
  clear h h0 hm0 hr0 hC0 hlt hA hQQ he hWt ha hk
  unfold msgV
  unfold pd0B at hw0
  go_enter Tryz.func15, Tryz.ntmps15
  go_upto_region 1 with fail
  rw [← hbm, ← hw0]
  clear hbm hw0
  go_wp2_with fail
  refine HA.out.mono ?_
  rintro e w' ⟨rfl, rfl⟩
  go_wp2_with fail
  refine HW.out.mono ?_
  rintro e w' ⟨rfl, rfl⟩
  go_wp2_with fail
  refine HT.out.mono ?_
  rintro e w2 ⟨rfl, hR2, hC2⟩
  have hbq := HS.out.2.2.2.2.1
  have hbe := HS.out.2.2.2.2.2
  have l2 : rw < w.heap.size := hbq _ (by simp [blkD])
  have hm2 := hC2.blk HS.out.2.1 (by simp; omega)
  have hr2 := hC2.blk HS.out.2.2.1 (by simp; omega)
  have d0 := cellB hm2 (i := 0) (v := .int .i64 m1) rfl
  have d1 := cellB hm2 (i := 1) (v := .int .i64 m2) rfl
  have r0 := cellB hr2 (i := 0) (v := .bool false) rfl
  have r1 := cellB hr2 (i := 1) (v := .int .i64 0) rfl
  have r2 := cellB hr2 (i := 2) (v := .int .i64 0) rfl
  have r3 := cellB hr2 (i := 3) (v := .int .i64 0) rfl
  have f1 := frozenB hr2
  rw [hh]
  clear hh HT
  obtain ⟨o, ho⟩ : ∃ o, o = headT (ordL s.R) := ⟨_, rfl⟩
  rw [← ho] at HQ ⊢
  have HF := Lib.hid (And.intro hR2 (And.intro hC2 (And.intro hr2 hbe)))
  have hbz := pBuild true m1 m2 o
  clear hR2 hC2 hm2 hr2 hbq hbe l2 ho c3
  go_wp2
  obtain ⟨W, hW⟩ : ∃ W, W = ((((w2.setCell ⟨bm + 1, 0, none⟩ (.bool true)).setCell ⟨bm + 1, 1, none⟩ (.int .i64 m1)).setCell ⟨bm + 1, 2, none⟩ (.int .i64 m2)).setCell ⟨bm + 1, 3, none⟩ (.int .i64 o)) := ⟨_, rfl⟩
  have hf : W.heap[bm + 1]? = some (.cells #[.bool true, .int .i64 m1, .int .i64 m2, .int .i64 o] 58 (0, 0)) := by rw [hW]; exact res4 HF.out.2.2.1 _ _ _ _
  have hCW : Chg [bm + 1] w2 W := by rw [hW]; exact chg4 _ _ _ _ _ _
  rw [← hW]
  have q0 := cellB hf (i := 0) rfl
  have q1 := cellB hf (i := 1) rfl
  have q2 := cellB hf (i := 2) rfl
  have q3 := cellB hf (i := 3) rfl
  refine ⟨rfl, .tuple #[pdV ⟨true, m1, m2, o⟩, .int .i64 0], ?_, ?_⟩
  · simp [results, Tryz.results15, go_sem, q0, q1, q2, q3, pdV]
  · rw [HQ.out]
    have h2 := HS.out.1.stepR HF.out.1 HF.out.2.1 HS.out.1.inv.takeR
    have hC02 : Chg (blkD rc rr rw v) w w2 := (HS.out.2.2.2.1.mono (by simp)).trans (HF.out.2.1.mono (by simp [blkD]))
    exact ⟨v, rfl, h2.kept hCW (fun k hk => by simp at hk; subst hk; exact ⟨fun hm => by have h1 := HS.out.2.2.2.2.1 _ hm; have h2 := HS.out.2.2.2.2.2; omega, NotW.of HF.out.2.2.1 (fun cs fr e => by cases e)⟩), hC02.trans' hCW (fun k hk => by simp at hk; subst hk; exact .inr (by have := HS.out.2.2.2.2.2; omega)), fun k hk => .inl hk⟩

set_option maxRecDepth 100000 in
set_option maxHeartbeats 4000000 in
theorem dqsend_full (rc rr rw : Nat) (v : Value) (s : QS) (t p : Int) (m : Int × Int) (w : World) (h : DQ w rc rr rw v s) (he : s.askE t p m.2 false = 0) (hh : headB (ordL s.R) = false) (hfl : s.full = true) : Calls Tryz.prog 15 #[.pointer (some ⟨rc, 0, none⟩), .int .i64 t, .int .i64 p, msgV m] w (DStepP rc rr rw v (s.sendS t p m) (.tuple #[pdV (s.sendP t p m), .int .i64 (s.askE t p m.2 false)]) w) := by
  obtain ⟨bm, hbm⟩ : ∃ bm, bm = w.heap.size := ⟨_, rfl⟩
  obtain ⟨w0, hw0⟩ : ∃ w0, w0 = (w.alloc (.cells #[.int .i64 m.1, .int .i64 m.2] 33 (0, 0))).alloc pd0B := ⟨_, rfl⟩
  have hC0 : Chg [] w w0 := by rw [hw0]; exact ((Chg.refl _ _).alloc _).alloc _
  have hm0 : w0.heap[bm]? = some (msgB m) := by rw [hw0, hbm]; exact blk_alloc (heap_alloc_eq w _) _
  have hr0 : w0.heap[bm + 1]? = some pd0B := by rw [hw0, hbm]; have := heap_alloc_eq (w.alloc (.cells #[.int .i64 m.1, .int .i64 m.2] 33 (0, 0))) pd0B; rwa [World.size_alloc] at this
  have h0 := h.calm hC0
  have hA := dqaskc rc t p w0
  have hWt := dqwaitc rc rr rw v s t w0 h0
  have hlt := h.lt
  have HS := Lib.hid (And.intro h0 (And.intro hm0 (And.intro hr0 (And.intro hC0 (And.intro hlt hbm)))))
  obtain ⟨QQ, hQQ⟩ : ∃ QQ, QQ = DStepP rc rr rw v (s.sendS t p m) (.tuple #[pdV (s.sendP t p m), .int .i64 (s.askE t p m.2 false)]) w := ⟨_, rfl⟩
  rw [← hQQ]
  have e1 : s.sendS t p m = { s with S := putL s.S t p, M := s.M.set t.toNat m } := by unfold QS.sendS; rw [if_pos he, if_neg (by rw [hh]; decide), if_pos hfl]
  have e2 : s.sendP t p m = ⟨false, m.1, m.2, -1⟩ := by unfold QS.sendP; rw [if_pos he, if_neg (by rw [hh]; decide), if_pos hfl]
  rw [e1, e2, he] at hQQ
  clear e1 e2
  have hTL := takeL_none hh
  have hk := askE_ok he
  have ha : tpB t p = true := tpB_iff.2 ⟨hk.1, hk.2.1⟩
  have b1 : decide (m.2 < 0) = false := by have := hk.2.2.1; simp; omega
  have b2 : decide (31 < m.2) = false := by have := hk.2.2.1; simp; omega
  rw [ha, if_pos rfl] at hA
  rw [hk.2.2.2] at hWt
  have c3 := h0.c3
  have HT := Lib.hid (rtakec rw s.R w0 h0.rv h0.fewS.2 h0.inv.lr)
  obtain ⟨m1, m2⟩ := m
  have d1 := cellB hm0 (i := 1) (v := .int .i64 m2) rfl
  have HA := Lib.hid hA
  have HW := Lib.hid hWt
  have HQ := Lib.hid hQQ
  have HE := Lib.hid (And.intro hk h.inv)
  clear h h0 hm0 hr0 hC0 hlt hA hQQ he hWt ha hk
  unfold msgV
  unfold pd0B at hw0
  go_enter Tryz.func15, Tryz.ntmps15
  go_upto_region 1 with fail
  rw [← hbm, ← hw0]
  clear hbm hw0
  go_wp2_with fail
  refine HA.out.mono ?_
  rintro e w' ⟨rfl, rfl⟩
  go_wp2_with fail
  refine HW.out.mono ?_
  rintro e w' ⟨rfl, rfl⟩
  go_wp2_with fail
  refine HT.out.mono ?_
  rintro e w2 ⟨rfl, hR2, hC2⟩
  have hbq := HS.out.2.2.2.2.1
  have hbe := HS.out.2.2.2.2.2
  have l2 : rw < w.heap.size := hbq _ (by simp [blkD])
  have hm2 := hC2.blk HS.out.2.1 (by simp; omega)
  have hr2 := hC2.blk HS.out.2.2.1 (by simp; omega)
  have d0 := cellB hm2 (i := 0) (v := .int .i64 m1) rfl
  have d1 := cellB hm2 (i := 1) (v := .int .i64 m2) rfl
  have r0 := cellB hr2 (i := 0) (v := .bool false) rfl
  have r1 := cellB hr2 (i := 1) (v := .int .i64 0) rfl
  have r2 := cellB hr2 (i := 2) (v := .int .i64 0) rfl
  have r3 := cellB hr2 (i := 3) (v := .int .i64 0) rfl
  have f1 := frozenB hr2
  rw [hh]
  rw [hTL] at hR2
  have h2 : DQ w2 rc rr rw v s := HS.out.1.stepR hR2 hC2 HS.out.1.inv
  have hC02 : Chg (blkD rc rr rw v) w w2 := (HS.out.2.2.2.1.mono (by simp)).trans (hC2.mono (by simp [blkD]))
  have H2 := Lib.hid (And.intro h2 (And.intro hC02 (And.intro hm2 hr2)))
  clear hR2 hC02 hC2 hm2 hr2 hbq hbe l2 c3 HT hTL hh r0 r1 r2 r3 f1 d0 d1
  obtain ⟨a, cap, rfl⟩ := h2.form
  have k0 := h2.c0
  have k1 := h2.c1
  have k2 := h2.c2
  have hlq : decide ((s.L.length : Int) < s.room) = false := by
    unfold QS.full at hfl
    simp at hfl ⊢
    omega
  have hcd : Chg [] w2 w2.drew := (Chg.refl _ _).drew
  have HPu := Lib.hid (rputc rr s.S t p w2.drew (h2.calm hcd).sd h2.fewS.1)
  obtain ⟨tn, rfl⟩ : ∃ tn : Nat, t = tn := ⟨t.toNat, by have := HE.out.1.1.1; omega⟩
  have htn : tn < 16 := by have := HE.out.1.1.2; omega
  obtain ⟨n, hn⟩ : ∃ n, n = s.L.length := ⟨_, rfl⟩
  obtain ⟨r, hr⟩ : ∃ r, r = s.room := ⟨_, rfl⟩
  rw [← hn] at k1 hlq
  rw [← hn] at H2 HS HQ
  rw [← hr] at k0 hlq
  have HN := Lib.hid (And.intro hn hr)
  have HD := Lib.hid hcd
  clear hfl h2 hn hr hcd
  go_wp2
  go_region
  all_goals go_wp2_with fail
  refine HPu.out.mono ?_
  rintro e w4 ⟨rfl, hR4, hC4⟩
  have hbe := HS.out.2.2.2.2.2
  have lr : rr < w.heap.size := HS.out.2.2.2.2.1 _ (by simp [blkD])
  have lc : rc < w.heap.size := HS.out.2.2.2.2.1 _ (by simp [blkD])
  have htt : ((tn : Int)).toNat = tn := by omega
  have hI5 := HE.out.2.putS (p := p) (m := (m1, m2)) HE.out.1.1 HE.out.1.2.2.1
  rw [htt] at hI5
  rw [htt] at HQ
  have h4 := (H2.out.1.calm HD.out).stepS hR4 hC4 ⟨HE.out.2.room, HE.out.2.few, HE.out.2.msg, HE.out.2.ls.putL tn p, HE.out.2.lr, HE.out.2.len, HE.out.2.held⟩
  have hm4 := hC4.blk (HD.out.blk H2.out.2.2.1 (by simp)) (by simp; omega)
  have hr4 := hC4.blk (HD.out.blk H2.out.2.2.2 (by simp)) (by simp; omega)
  have h5' := h4.putM htn m1 m2 hI5
  have hcd : Chg [] ((w4.setCell ⟨rc, 4 + tn * 2, none⟩ (.int .i64 m1)).setCell ⟨rc, 4 + tn * 2 + 1, none⟩ (.int .i64 m2)) ((w4.setCell ⟨rc, 4 + tn * 2, none⟩ (.int .i64 m1)).setCell ⟨rc, 4 + tn * 2 + 1, none⟩ (.int .i64 m2)).drew := (Chg.refl _ _).drew
  have h5 := And.intro (h5'.1.calm hcd) ((h5'.2.trans (hcd.mono (by simp))))
  have x0 := (h4.cM htn).1
  have x1 := (h4.cM htn).2
  have y0 := h4.cfr (4 + tn * 2)
  have y1 := h4.cfr (4 + tn * 2 + 1)
  have d0 := cellB hm4 (i := 0) (v := .int .i64 m1) rfl
  have d1 := cellB hm4 (i := 1) (v := .int .i64 m2) rfl
  have hC05 : Chg (blkD rc rr rw (.slice a n cap)) w ((w4.setCell ⟨rc, 4 + tn * 2, none⟩ (.int .i64 m1)).setCell ⟨rc, 4 + tn * 2 + 1, none⟩ (.int .i64 m2)).drew := ((H2.out.2.1.trans (HD.out.mono (by simp))).trans (hC4.mono (by simp [blkD]))).trans (h5.2.mono (by simp [blkD]))
  have hm5 := h5.2.blk hm4 (by simp; omega)
  have hr5 := h5.2.blk hr4 (by simp; omega)
  obtain ⟨w5, hw5⟩ : ∃ w5, w5 = ((w4.setCell ⟨rc, 4 + tn * 2, none⟩ (.int .i64 m1)).setCell ⟨rc, 4 + tn * 2 + 1, none⟩ (.int .i64 m2)).drew := ⟨_, rfl⟩
  rw [← hw5] at h5 hC05 hm5 hr5
  have H5 := Lib.hid (And.intro h5.1 (And.intro hC05 (And.intro hm5 (And.intro hr5 hw5))))
  have HB := Lib.hid (And.intro hbe htn)
  have hi1 : (0 : Int) ≤ (tn : Int) := by omega
  have hi2 : (tn : Int) < 16 := by omega
  clear h4 hm4 hr4 hcd h5 h5' hC05 hm5 hr5 hw5 hI5 htt hR4 hC4 hbe lr lc HPu htn k0 k1 k2 hlq b1 b2
  go_wp2
  go_region
  rw [← H5.out.2.2.2.2]
  have p0 := cellB H5.out.2.2.1 (i := 0) (v := .int .i64 m1) rfl
  have p1 := cellB H5.out.2.2.1 (i := 1) (v := .int .i64 m2) rfl
  have r0 := cellB H5.out.2.2.2.1 (i := 0) (v := .bool false) rfl
  have r1 := cellB H5.out.2.2.2.1 (i := 1) (v := .int .i64 0) rfl
  have r2 := cellB H5.out.2.2.2.1 (i := 2) (v := .int .i64 0) rfl
  have r3 := cellB H5.out.2.2.2.1 (i := 3) (v := .int .i64 0) rfl
  have f1 := frozenB H5.out.2.2.2.1
  have hbz := pBuild2 m1 m2 (-1)
  clear x0 x1 y0 y1 d0 d1
  go_wp2
  obtain ⟨W, hW⟩ : ∃ W, W = ((((w5.setCell ⟨bm + 1, 0, none⟩ (.bool false)).setCell ⟨bm + 1, 1, none⟩ (.int .i64 m1)).setCell ⟨bm + 1, 2, none⟩ (.int .i64 m2)).setCell ⟨bm + 1, 3, none⟩ (.int .i64 (-1))) := ⟨_, rfl⟩
  have hf : W.heap[bm + 1]? = some (.cells #[.bool false, .int .i64 m1, .int .i64 m2, .int .i64 (-1)] 58 (0, 0)) := by rw [hW]; exact res4 H5.out.2.2.2.1 _ _ _ _
  have hCW : Chg [bm + 1] w5 W := by rw [hW]; exact chg4 _ _ _ _ _ _
  rw [← hW]
  have q0 := cellB hf (i := 0) rfl
  have q1 := cellB hf (i := 1) rfl
  have q2 := cellB hf (i := 2) rfl
  have q3 := cellB hf (i := 3) rfl
  refine ⟨rfl, .tuple #[pdV ⟨false, m1, m2, -1⟩, .int .i64 0], ?_, ?_⟩
  · simp [results, Tryz.results15, go_sem, q0, q1, q2, q3, pdV]
  · rw [HQ.out]
    exact ⟨_, rfl, H5.out.1.kept hCW (fun k hk => by simp at hk; subst hk; exact ⟨fun hm => by have h1 := HS.out.2.2.2.2.1 _ hm; have h2 := HS.out.2.2.2.2.2; omega, NotW.of H5.out.2.2.2.1 (fun cs fr e => by cases e)⟩), H5.out.2.1.trans' hCW (fun k hk => by simp at hk; subst hk; exact .inr (by have := HS.out.2.2.2.2.2; omega)), fun k hk => .inl hk⟩

set_option maxRecDepth 100000 in
set_option maxHeartbeats 4000000 in
theorem dqsend_put (rc rr rw : Nat) (v : Value) (s : QS) (t p : Int) (m : Int × Int) (w : World) (h : DQ w rc rr rw v s) (he : s.askE t p m.2 false = 0) (hh : headB (ordL s.R) = false) (hfl : s.full = false) : Calls Tryz.prog 15 #[.pointer (some ⟨rc, 0, none⟩), .int .i64 t, .int .i64 p, msgV m] w (DStepP rc rr rw v (s.sendS t p m) (.tuple #[pdV (s.sendP t p m), .int .i64 (s.askE t p m.2 false)]) w) := by
  obtain ⟨bm, hbm⟩ : ∃ bm, bm = w.heap.size := ⟨_, rfl⟩
  obtain ⟨w0, hw0⟩ : ∃ w0, w0 = (w.alloc (.cells #[.int .i64 m.1, .int .i64 m.2] 33 (0, 0))).alloc pd0B := ⟨_, rfl⟩
  have hC0 : Chg [] w w0 := by rw [hw0]; exact ((Chg.refl _ _).alloc _).alloc _
  have hm0 : w0.heap[bm]? = some (msgB m) := by rw [hw0, hbm]; exact blk_alloc (heap_alloc_eq w _) _
  have hr0 : w0.heap[bm + 1]? = some pd0B := by rw [hw0, hbm]; have := heap_alloc_eq (w.alloc (.cells #[.int .i64 m.1, .int .i64 m.2] 33 (0, 0))) pd0B; rwa [World.size_alloc] at this
  have h0 := h.calm hC0
  have hA := dqaskc rc t p w0
  have hWt := dqwaitc rc rr rw v s t w0 h0
  have hlt := h.lt
  have HS := Lib.hid (And.intro h0 (And.intro hm0 (And.intro hr0 (And.intro hC0 (And.intro hlt hbm)))))
  obtain ⟨QQ, hQQ⟩ : ∃ QQ, QQ = DStepP rc rr rw v (s.sendS t p m) (.tuple #[pdV (s.sendP t p m), .int .i64 (s.askE t p m.2 false)]) w := ⟨_, rfl⟩
  rw [← hQQ]
  have e1 : s.sendS t p m = { s with L := s.L ++ [m] } := by unfold QS.sendS; rw [if_pos he, if_neg (by rw [hh]; decide), if_neg (by rw [hfl]; decide)]
  have e2 : s.sendP t p m = ⟨true, m.1, m.2, -1⟩ := by unfold QS.sendP; rw [if_pos he, if_neg (by rw [hh]; decide), if_neg (by rw [hfl]; decide)]
  rw [e1, e2, he] at hQQ
  clear e1 e2
  have hTL := takeL_none hh
  have hk := askE_ok he
  have ha : tpB t p = true := tpB_iff.2 ⟨hk.1, hk.2.1⟩
  have b1 : decide (m.2 < 0) = false := by have := hk.2.2.1; simp; omega
  have b2 : decide (31 < m.2) = false := by have := hk.2.2.1; simp; omega
  rw [ha, if_pos rfl] at hA
  rw [hk.2.2.2] at hWt
  have c3 := h0.c3
  have HT := Lib.hid (rtakec rw s.R w0 h0.rv h0.fewS.2 h0.inv.lr)
  obtain ⟨m1, m2⟩ := m
  have d1 := cellB hm0 (i := 1) (v := .int .i64 m2) rfl
  have HA := Lib.hid hA
  have HW := Lib.hid hWt
  have HQ := Lib.hid hQQ
  have HE := Lib.hid (And.intro hk h.inv)
  clear h h0 hm0 hr0 hC0 hlt hA hQQ he hWt ha hk
  unfold msgV
  unfold pd0B at hw0
  go_enter Tryz.func15, Tryz.ntmps15
  go_upto_region 1 with fail
  rw [← hbm, ← hw0]
  clear hbm hw0
  go_wp2_with fail
  refine HA.out.mono ?_
  rintro e w' ⟨rfl, rfl⟩
  go_wp2_with fail
  refine HW.out.mono ?_
  rintro e w' ⟨rfl, rfl⟩
  go_wp2_with fail
  refine HT.out.mono ?_
  rintro e w2 ⟨rfl, hR2, hC2⟩
  have hbq := HS.out.2.2.2.2.1
  have hbe := HS.out.2.2.2.2.2
  have l2 : rw < w.heap.size := hbq _ (by simp [blkD])
  have hm2 := hC2.blk HS.out.2.1 (by simp; omega)
  have hr2 := hC2.blk HS.out.2.2.1 (by simp; omega)
  have d0 := cellB hm2 (i := 0) (v := .int .i64 m1) rfl
  have d1 := cellB hm2 (i := 1) (v := .int .i64 m2) rfl
  have r0 := cellB hr2 (i := 0) (v := .bool false) rfl
  have r1 := cellB hr2 (i := 1) (v := .int .i64 0) rfl
  have r2 := cellB hr2 (i := 2) (v := .int .i64 0) rfl
  have r3 := cellB hr2 (i := 3) (v := .int .i64 0) rfl
  have f1 := frozenB hr2
  rw [hh]
  rw [hTL] at hR2
  have h2 : DQ w2 rc rr rw v s := HS.out.1.stepR hR2 hC2 HS.out.1.inv
  have hC02 : Chg (blkD rc rr rw v) w w2 := (HS.out.2.2.2.1.mono (by simp)).trans (hC2.mono (by simp [blkD]))
  have hsz : w.heap.size ≤ w2.heap.size := hC02.size
  have H2 := Lib.hid (And.intro h2 (And.intro hC02 (And.intro hm2 hr2)))
  have HF := Lib.hid hfl
  clear hR2 hC02 hC2 hm2 hr2 hbq hbe l2 c3 HT hTL hh r0 r1 r2 r3 f1 d0 d1
  obtain ⟨a, cap, rfl⟩ := h2.form
  have k0 := h2.c0
  have k1 := h2.c1
  have hlq : decide ((s.L.length : Int) < s.room) = true := by
    have := h2.inv.few
    unfold QS.full at hfl
    simp at hfl ⊢
    omega
  have hcd : Chg [] w2 w2.drew := (Chg.refl _ _).drew
  have HD := Lib.hid hcd
  obtain ⟨n, hn⟩ : ∃ n, n = s.L.length := ⟨_, rfl⟩
  obtain ⟨r, hr⟩ : ∃ r, r = s.room := ⟨_, rfl⟩
  rw [← hn] at k1 hlq
  rw [← hn] at H2 HS HQ
  rw [← hr] at k0 hlq
  have HN := Lib.hid (And.intro hn hr)
  clear hfl h2 hn hr hcd hsz
  go_wp2
  go_region
  all_goals go_wp2_with fail
  obtain ⟨w3, hw3⟩ : ∃ w3, w3 = w2.drew := ⟨_, rfl⟩
  rw [← hw3] at HD ⊢
  clear hw3
  have h3 := H2.out.1.calm HD.out
  have hm3 := HD.out.blk H2.out.2.2.1 (by simp)
  have hr3 := HD.out.blk H2.out.2.2.2 (by simp)
  have hI := HE.out.2.addL (m := (m1, m2)) HE.out.1.2.2.1 HF.out
  have hcd : Chg [] w3 w3.drew := (Chg.refl _ _).drew
  obtain ⟨a1, c1, w4, hr1, ho1, hC4'⟩ := put_wayA h3 hcd
  have hC4 := hcd.trans hC4'
  have hC45 : Chg [] w4 (w4.alloc (.cells #[.int .i64 m1, .int .i64 m2] 33 (0, 0))) := (Chg.refl _ _).alloc _
  obtain ⟨a2, c2, w6, hr2, hC6, hd6, hCd6, hv6⟩ := put_wayC (m := (m1, m2)) h3 hI (hC4.trans hC45) (own_kept ho1 hC45 (by simp)) (heap_alloc_eq w4 _)
  have hcb : Chg [] w3 (w3.alloc (.cells #[.int .i64 m1, .int .i64 m2] 33 (0, 0))).drew := ((Chg.refl _ _).alloc _).trans ((Chg.refl _ _).drew)
  obtain ⟨b1, e1, x4, hs1, hp1, hD4⟩ := put_wayA h3 hcb
  have hbx : (w3.alloc (.cells #[.int .i64 m1, .int .i64 m2] 33 (0, 0))).drew.heap[w3.heap.size]? = some (.cells #[.int .i64 m1, .int .i64 m2] 33 (0, 0)) := heap_alloc_eq w3 _
  obtain ⟨b2, e2, x6, hs2, hD6, hd7, hCd7, hv7⟩ := put_wayC (m := (m1, m2)) h3 hI (hcb.trans hD4) hp1 (hD4.blk hbx (by simp))
  have hlcb : bm ≠ rc ∧ bm + 1 ≠ rc := by have h1 := HS.out.2.2.2.2.1 rc (by simp [blkD]); have h2 := HS.out.2.2.2.2.2; omega
  have hh := h3.head
  have hsz3 : w.heap.size ≤ w3.heap.size ∧ bm + 1 < w3.heap.size := ⟨by have h1 := H2.out.2.1.size; have h2 := HD.out.size; omega, lt_of_blk hr3⟩
  have hC03 : Chg (blkD rc rr rw (.slice a n cap)) w w3 := H2.out.2.1.trans (HD.out.mono (by simp))
  have PX : ∀ (va : Option Addr) (vc : Nat) (W : World), DQ W rc rr rw (.slice va (n + 1) vc) { s with L := s.L ++ [(m1, m2)] } → Chg [rc] w3 W → (∀ k ∈ (Value.slice va (n + 1) vc).ownBlock.toList, w3.heap.size ≤ k) →
      ∃ v2, DQ W rc rr rw v2 { s with L := s.L ++ [(m1, m2)] } ∧ Chg (blkD rc rr rw (.slice a n cap)) w W ∧ W.heap[bm]? = some (msgB (m1, m2)) ∧ W.heap[bm + 1]? = some pd0B ∧ (∀ k ∈ v2.ownBlock.toList, w.heap.size ≤ k ∧ k ≠ bm + 1) := fun va vc W h1 h2 h4 =>
    ⟨_, h1, hC03.trans (h2.mono (by simp [blkD])), h2.blk hm3 (by simp; exact hlcb.1), h2.blk hr3 (by simp; exact hlcb.2), fun k hk => by have := h4 k hk; omega⟩
  rw [← HN.out.1] at hr1 hr2 hd6 hCd6 hv6 hs1 hs2 hd7 hCd7 hv7
  have HX := Lib.hid (PX _ _ _ hd6 hCd6 hv6)
  have HY := Lib.hid (PX _ _ _ hd7 hCd7 hv7)
  have HR := Lib.hid (And.intro hr1 (And.intro hr2 (And.intro hs1 hs2)))
  have k1 := h3.c1
  have g0 := cellB hm3 (i := 0) (v := .int .i64 m1) rfl
  have g1 := cellB hm3 (i := 1) (v := .int .i64 m2) rfl
  have d0 := cellB (hC4.blk hm3 (by simp)) (i := 0) (v := .int .i64 m1) rfl
  have d1 := cellB (hC4.blk hm3 (by simp)) (i := 1) (v := .int .i64 m2) rfl
  have l1 := cellB (hcb.blk hh (by simp)) (i := 1) (v := .slice a n cap) rfl
  have k6 := cellB (hC6.blk hh (by simp)) (i := 1) (v := .slice a n cap) rfl
  have y6 := frozenB (hC6.blk hh (by simp)) 1
  have k7 := cellB (hD6.blk hh (by simp)) (i := 1) (v := .slice a n cap) rfl
  have y7 := frozenB (hD6.blk hh (by simp)) 1
  clear h3 hm3 hr3 hI hcd hr1 ho1 hC4' hC4 hC45 hr2 hC6 hd6 hCd6 hv6 hcb hs1 hp1 hD4 hbx hs2 hD6 hd7 hCd7 hv7 hlcb hh hsz3 hC03 PX
  go_region_law (first
    | (refine step_run rfl _ _ 47 47 rfl rfl (.slice none 0 0) (.slice a n cap) (.slice a1 n c1) (by simp [Act.eval]) (by simp [Act.eval]) w4 HR.out.1 ?_)
    | (refine step_run rfl _ _ 47 47 rfl rfl (.slice none 0 0) (.slice a n cap) (.slice b1 n e1) (by simp [Act.eval]) (by simp [Act.eval]) x4 HR.out.2.2.1 ?_)
    | (refine step_run rfl _ _ 47 47 rfl rfl (.slice a1 n c1) (.slice (some ⟨w4.heap.size, 0, none⟩) 1 1) (.slice a2 (n + 1) c2) (by simp [Act.eval]) (by simp [Act.eval]) w6 HR.out.2.1 ?_)
    | (refine step_run rfl _ _ 47 47 rfl rfl (.slice b1 n e1) (.slice (some ⟨w3.heap.size, 0, none⟩) 1 1) (.slice b2 (n + 1) e2) (by simp [Act.eval]) (by simp [Act.eval]) x6 HR.out.2.2.2 ?_))
  all_goals clear g0 g1 d0 d1 k1 l1 k6 y6 k7 y7
  all_goals (first
    | (obtain ⟨w7, hw7, v7, h7, hC7, hm7, hr7, hv7⟩ : ∃ w7, w7 = w6.setCell ⟨rc, 1, none⟩ (.slice a2 (n + 1) c2) ∧ ∃ v2, DQ w7 rc rr rw v2 { s with L := s.L ++ [(m1, m2)] } ∧ Chg (blkD rc rr rw (.slice a n cap)) w w7 ∧ w7.heap[bm]? = some (msgB (m1, m2)) ∧ w7.heap[bm + 1]? = some pd0B ∧ (∀ k ∈ v2.ownBlock.toList, w.heap.size ≤ k ∧ k ≠ bm + 1) := ⟨_, rfl, HX.out⟩; rw [← hw7]; clear hw7)
    | (obtain ⟨w7, hw7, v7, h7, hC7, hm7, hr7, hv7⟩ : ∃ w7, w7 = x6.setCell ⟨rc, 1, none⟩ (.slice b2 (n + 1) e2) ∧ ∃ v2, DQ w7 rc rr rw v2 { s with L := s.L ++ [(m1, m2)] } ∧ Chg (blkD rc rr rw (.slice a n cap)) w w7 ∧ w7.heap[bm]? = some (msgB (m1, m2)) ∧ w7.heap[bm + 1]? = some pd0B ∧ (∀ k ∈ v2.ownBlock.toList, w.heap.size ≤ k ∧ k ≠ bm + 1) := ⟨_, rfl, HY.out⟩; rw [← hw7]; clear hw7))
  all_goals
    have p0 := cellB hm7 (i := 0) (v := .int .i64 m1) rfl
    have p1 := cellB hm7 (i := 1) (v := .int .i64 m2) rfl
    have r0 := cellB hr7 (i := 0) (v := .bool false) rfl
    have r1 := cellB hr7 (i := 1) (v := .int .i64 0) rfl
    have r2 := cellB hr7 (i := 2) (v := .int .i64 0) rfl
    have r3 := cellB hr7 (i := 3) (v := .int .i64 0) rfl
    have f1 := frozenB hr7
    have hbz := pBuild true m1 m2 (-1)
    have H7 := Lib.hid (And.intro h7 (And.intro hC7 (And.intro hr7 hv7)))
    clear h7 hC7 hm7 hr7 hv7
    go_wp2
    obtain ⟨W, hW⟩ : ∃ W, W = ((((w7.setCell ⟨bm + 1, 0, none⟩ (.bool true)).setCell ⟨bm + 1, 1, none⟩ (.int .i64 m1)).setCell ⟨bm + 1, 2, none⟩ (.int .i64 m2)).setCell ⟨bm + 1, 3, none⟩ (.int .i64 (-1))) := ⟨_, rfl⟩
    have hf : W.heap[bm + 1]? = some (.cells #[.bool true, .int .i64 m1, .int .i64 m2, .int .i64 (-1)] 58 (0, 0)) := by rw [hW]; exact res4 H7.out.2.2.1 _ _ _ _
    have hCW : Chg [bm + 1] w7 W := by rw [hW]; exact chg4 _ _ _ _ _ _
    rw [← hW]
    have q0 := cellB hf (i := 0) rfl
    have q1 := cellB hf (i := 1) rfl
    have q2 := cellB hf (i := 2) rfl
    have q3 := cellB hf (i := 3) rfl
    refine ⟨rfl, .tuple #[pdV ⟨true, m1, m2, -1⟩, .int .i64 0], ?_, ?_⟩
    · simp [results, Tryz.results15, go_sem, q0, q1, q2, q3, pdV]
    · rw [HQ.out]
      exact ⟨_, rfl, H7.out.1.kept hCW (fun k hk => by
        simp at hk
        subst hk
        refine ⟨fun hm => ?_, NotW.of H7.out.2.2.1 (fun cs fr e => by cases e)⟩
        rcases List.mem_append.1 hm with h1 | h1
        · have h3 := HS.out.2.2.2.2.1 _ (List.mem_append.2 (.inl h1)); have h2 := HS.out.2.2.2.2.2; omega
        · exact (H7.out.2.2.2 _ h1).2 rfl), H7.out.2.1.trans' hCW (fun k hk => by simp at hk; subst hk; exact .inr (by have := HS.out.2.2.2.2.2; omega)), fun k hk => .inr (H7.out.2.2.2 k hk).1⟩

theorem dqsendc (rc rr rw : Nat) (v : Value) (s : QS) (t p : Int) (m : Int × Int) (w : World) (h : DQ w rc rr rw v s) : Calls Tryz.prog 15 #[.pointer (some ⟨rc, 0, none⟩), .int .i64 t, .int .i64 p, msgV m] w (DStepP rc rr rw v (s.sendS t p m) (.tuple #[pdV (s.sendP t p m), .int .i64 (s.askE t p m.2 false)]) w) := by
  by_cases he : s.askE t p m.2 false = 0
  · cases hh : headB (ordL s.R) with
    | true => exact dqsend_take rc rr rw v s t p m w h he hh
    | false =>
      cases hf : s.full with
      | true => exact dqsend_full rc rr rw v s t p m w h he hh hf
      | false => exact dqsend_put rc rr rw v s t p m w h he hh hf
  · exact dqsend_no rc rr rw v s t p m w h he

end Go.Proofs.YtiiafhlckmkcnaaGreat
