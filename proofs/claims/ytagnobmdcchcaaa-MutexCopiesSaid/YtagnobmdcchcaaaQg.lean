
/- metronomelaw13.does: a step of both (written by wip/does13.py). -/
import Derived.Test.YtagnobmdcchcaaaQe
import Derived.Test.YtagnobmdcchcaaaQf
import Derived.Deep.RegionHeld3
import Derived.Deep.CutBlock
namespace Go.Proofs.Ytagnobmdcchcaaa
open Go.RowKit

/-- A step. -/
def MS.stepS (s : MS) (kd t q b : Int) : MS :=
  if kd = 1 then s.lockS t q b else if kd = 2 then s.tryS t b else if kd = 3 then s.unS t else if kd = 4 then s.csS t else if kd = 5 then s.enS t else if kd = 6 then s.lvS t else if kd = 7 then s.chS t q else if kd = 8 then s.ceS t q else s
def MS.thr (s : MS) (t0 : Int) : Int := if t0 = -2 then s.own else t0
theorem MOk.stepS {s : MS} (h : MOk s) (hL : ListOk s.L) (kd t q b : Int) : MOk (s.stepS kd t q b) := by
  unfold MS.stepS
  split
  · exact h.lock t q b
  · split
    · exact h.try_ t b
    · split
      · exact h.un hL t
      · split
        · exact h.cs t
        · split
          · exact h.en hL t
          · split
            · exact h.lv t
            · split
              · exact h.ch t q
              · split
                · exact h.ce t q
                · exact h

/-- What a step leaves. -/
def DoP13 (cb ab mb rc : Nat) (gs : List Nat) (N : Int) (s' : MS) (w w' : World) : Prop := ∃ gs', MAt w' cb ab mb N s' ∧ QM w' rc gs' s' ∧ Nxt w gs gs' ∧ Chg (cb :: ab :: mb :: rc :: gs) w w'
theorem fin13 {S : List Nat} {w W0 w1 w2 : World} {cb ab mb rc : Nat} {gs : List Nat} {N N' : Int} {s s' : MS} (hC0 : Chg [] w W0) (hN : N ≤ N') (hM1 : MAt w1 cb ab mb N s') (hC1 : Chg S W0 w1) (hS : ∀ k ∈ S, k ∈ [cb, ab, mb]) (g1 : QM w1 rc gs s) (hQ : QP rc gs s' w1 w2) : DoP13 cb ab mb rc gs N' s' w w2 := by
  obtain ⟨gs', h1, h2, h3⟩ := hQ
  refine ⟨gs', (hM1.qstep g1 h3).mono hN, h1, ?_, ((hC0.mono (by simp)).trans (hC1.mono (fun k hk => .inl ?_))).trans (h3.mono (fun k hk => .inl (List.mem_cons_of_mem _ (List.mem_cons_of_mem _ (List.mem_cons_of_mem _ hk)))))⟩
  · rcases h2 with h2 | h2
    · exact .inl h2
    · exact .inr (fun k hk => Nat.le_trans (Nat.le_trans hC0.size hC1.size) (h2 k hk))
  · have := hS k hk
    simp at this ⊢
    omega
theorem fin13b {S : List Nat} {w W0 w1 w2 : World} {cb ab mb rc : Nat} {gs : List Nat} {N N' N0 : Int} {s s' : MS} (hC0 : Chg [] w W0) (hN : N ≤ N') (hQ : QP rc gs s' W0 w1) (hM : MAt w1 cb ab mb N0 s) (hM2 : MAt w2 cb ab mb N s') (hC1 : Chg S w1 w2) (hS : ∀ k ∈ S, k ∈ [cb, ab, mb]) : DoP13 cb ab mb rc gs N' s' w w2 := by
  obtain ⟨gs', h1, h2, h3⟩ := hQ
  refine ⟨gs', hM2.mono hN, h1.mstep hM hC1 hS, ?_, ((hC0.mono (by simp)).trans (h3.mono (fun k hk => .inl (List.mem_cons_of_mem _ (List.mem_cons_of_mem _ (List.mem_cons_of_mem _ hk)))))).trans (hC1.mono (fun k hk => .inl ?_))⟩
  · rcases h2 with h2 | h2
    · exact .inl h2
    · exact .inr (fun k hk => Nat.le_trans hC0.size (h2 k hk))
  · have := hS k hk
    simp at this ⊢
    omega
theorem QP.qm {rc : Nat} {gs : List Nat} {s : MS} {w w' : World} (h : QP rc gs s w w') : Chg (rc :: gs) w w' := by
  obtain ⟨_, _, _, h⟩ := h
  exact h

set_option maxRecDepth 100000 in
set_option maxHeartbeats 8000000 in
theorem does13 (cb ab mb rc : Nat) (gs : List Nat) (N : Int) (s : MS) (kd t0 q b : Int) (w : World) (hm : MAt w cb ab mb N s) (hq : QM w rc gs s) (hok : MOk s) (hN : N < 4611686018427387904) :
    Calls Try.prog 22 #[.pointer (some ⟨cb, 0, none⟩), .pointer (some ⟨rc, 0, none⟩), .agg #[.int .i64 kd, .int .i64 t0, .int .i64 q, .int .i64 b]] w fun e w' => e = .returned (.bool true) ∧ DoP13 cb ab mb rc gs (N + 1) (s.stepS kd (s.thr t0) q b) w w' := by
  have hL := hm.list.lok
  have hl := hm.list.facts.2.2
  have hC0 : Chg [] w (w.alloc (.cells #[.int .i64 kd, .int .i64 t0, .int .i64 q, .int .i64 b] 48)) := (Chg.refl _ _).alloc _
  have hbx : (w.alloc (.cells #[.int .i64 kd, .int .i64 t0, .int .i64 q, .int .i64 b] 48)).heap[w.heap.size]? = some (.cells #[.int .i64 kd, .int .i64 t0, .int .i64 q, .int .i64 b] 48 (0, 0)) := heap_alloc_eq w _
  have hlt := hm.lt
  have hlq := hq.lt
  have HG := Lib.hid (And.intro (hm.calm hC0) (And.intro (hq.calm hC0) (And.intro hok (And.intro hL (And.intro hl (And.intro hC0 (And.intro hbx (And.intro hN hlq))))))))
  have HX := Lib.hid (show ∀ k, (k = cb ∨ k = ab ∨ k = mb ∨ k ∈ rc :: gs) → k ≠ w.heap.size from fun k hk => by
    rcases hk with rfl | rfl | rfl | hk
    · omega
    · omega
    · omega
    · have := hlq k hk; omega)
  obtain ⟨v, hb, -⟩ := hq.calm hC0
  have c4 := cellB hb (i := 4) (v := .int .i64 s.own) rfl
  have x0 := cellB hbx (i := 0) rfl
  have x1 := cellB hbx (i := 1) rfl
  have x2 := cellB hbx (i := 2) rfl
  have x3 := cellB hbx (i := 3) rfl
  clear hm hq hok hL hl hC0 hbx hb hlt hlq hN
  generalize hW0 : w.alloc (.cells #[.int .i64 kd, .int .i64 t0, .int .i64 q, .int .i64 b] 48) = W0 at *
  obtain ⟨sz, hsz⟩ : ∃ sz, sz = w.heap.size := ⟨_, rfl⟩
  have HSz := Lib.hid hsz
  go_enter Try.func22, Try.ntmps22
  go_upto_if 25 with fail
  go_cut [7] from 22 (fun t7 wc => t7 = .int .i64 (s.thr t0) ∧ wc = W0)
  case first =>
    by_cases ht : t0 = -2
    · have e : s.thr t0 = s.own := by unfold MS.thr; rw [if_pos ht]
      have q1 : (t0 == -2) = true := by simpa using ht
      go_wp2
      go_meet
      case rel => exact ⟨by rw [e], rfl⟩
    · have e : s.thr t0 = t0 := by unfold MS.thr; rw [if_neg ht]
      have q1 : (t0 == -2) = false := by simpa using ht
      go_wp2
      go_meet
      case rel => exact ⟨by rw [e], rfl⟩
  case rest =>
    obtain ⟨rfl, rfl⟩ := hcut
    have hk9 : kd = 1 ∨ kd = 2 ∨ kd = 3 ∨ kd = 4 ∨ kd = 5 ∨ kd = 6 ∨ kd = 7 ∨ kd = 8 ∨ ((kd == 1) = false ∧ (kd == 2) = false ∧ (kd == 3) = false ∧ (kd == 4) = false ∧ (kd == 5) = false ∧ (kd == 6) = false ∧ (kd == 7) = false ∧ (kd == 8) = false) := by
      by_cases h1 : kd = 1
      · simp [h1]
      · by_cases h2 : kd = 2
        · simp [h2]
        · by_cases h3 : kd = 3
          · simp [h3]
          · by_cases h4 : kd = 4
            · simp [h4]
            · by_cases h5 : kd = 5
              · simp [h5]
              · by_cases h6 : kd = 6
                · simp [h6]
                · by_cases h7 : kd = 7
                  · simp [h7]
                  · by_cases h8 : kd = 8
                    · simp [h8]
                    · simp [h1, h2, h3, h4, h5, h6, h7, h8]
    clear c4 hsz HSz
    obtain ⟨t, ht⟩ : ∃ t, t = s.thr t0 := ⟨_, rfl⟩
    rw [← ht]
    have HT := Lib.hid ht
    clear ht
    rcases hk9 with rfl | rfl | rfl | rfl | rfl | rfl | rfl | rfl | ⟨k1, k2, k3, k4, k5, k6, k7, k8⟩

    · as_aux_lemma => -- Lock
      have e1 : (s.lockB t q b == s.lockB t q b) = true := by simp
      have e2 : (s.lockE t q b == s.lockE t q b) = true := by simp
      go_wp2_with fail
      refine (mlockc cb ab mb N s t q b wc HG.out.1 HG.out.2.2.2.2.2.2.2.1 HG.out.2.2.1.cnt0).mono ?_
      rintro e w1 ⟨rfl, hM1, hC1⟩
      have y2 : w1.cell? ⟨w.heap.size, 2, none⟩ = some (.int .i64 q) := cellB (hC1.blk HG.out.2.2.2.2.2.2.1 (fun hm => HX.out _ (by simp at hm; first | (simp; omega) | (right; right; right; simpa using hm) | (rcases hm with h | h | h <;> simp [h])) rfl)) (i := 2) rfl
      have y3 : w1.cell? ⟨w.heap.size, 3, none⟩ = some (.int .i64 b) := cellB (hC1.blk HG.out.2.2.2.2.2.2.1 (fun hm => HX.out _ (by simp at hm; first | (simp; omega) | (right; right; right; simpa using hm) | (rcases hm with h | h | h <;> simp [h])) rfl)) (i := 3) rfl
      have hq1 := HG.out.2.1.mstep HG.out.1 hC1 (by simp)
      have H1 := Lib.hid (And.intro hM1 (And.intro hC1 hq1))
      clear hM1 hC1 hq1
      go_wp2_with fail
      refine (qlockc rc gs s t q b w1 H1.out.2.2 HG.out.2.2.1 HG.out.2.2.2.1 HG.out.2.2.2.2.1).mono ?_
      rintro e w2 ⟨rfl, hQ⟩
      have H2 := Lib.hid hQ
      clear hQ
      go_wp2
      go_ret
      exact ⟨rfl, by rw [← HT.out]; exact fin13 HG.out.2.2.2.2.2.1 (by omega) H1.out.1 H1.out.2.1 (by simp) H1.out.2.2 H2.out⟩
    · as_aux_lemma => -- Try
      have e2 : (s.tryE t b == s.tryE t b) = true := by simp
      go_wp2_with fail
      refine (qtryc rc gs s t b wc HG.out.2.1 HG.out.2.2.1 HG.out.2.2.2.2.1).mono ?_
      rintro e w1 ⟨x, rfl, hQ⟩
      have hC1 := hQ.qm
      have y3 : w1.cell? ⟨w.heap.size, 3, none⟩ = some (.int .i64 b) := cellB (hC1.blk HG.out.2.2.2.2.2.2.1 (fun hm => HX.out _ (by simp at hm; first | (simp; omega) | (right; right; right; simpa using hm) | (rcases hm with h | h | h <;> simp [h])) rfl)) (i := 3) rfl
      have hm1 := HG.out.1.qstep HG.out.2.1 hC1
      have H1 := Lib.hid (And.intro hQ hm1)
      clear hQ hC1 hm1
      go_wp2_with fail
      refine (mtryc cb ab mb N s t b w1 H1.out.2 HG.out.2.2.1.cnt0).mono ?_
      rintro e w2 ⟨rfl, hM2, hC2⟩
      have H2 := Lib.hid (And.intro hM2 hC2)
      clear hM2 hC2
      go_wp2
      go_ret
      exact ⟨rfl, by rw [← HT.out]; exact fin13b HG.out.2.2.2.2.2.1 (by omega) H1.out.1 H1.out.2 H2.out.1 H2.out.2 (by simp)⟩
    · as_aux_lemma => -- Unlock
      have hnx : ∀ s2 : MS, s2.nextW.length ≤ 1 := fun s2 => by unfold MS.nextW; split <;> simp
      have e2 : (s.unE t == s.unE t) = true := by simp
      have HWN : Hid ((s.unW t).length ≤ 16) := Lib.hid (by
        unfold MS.unW
        have := hnx s
        split
        · split
          · simp
          · split
            · rw [List.length_map]; unfold ordT; rw [List.length_map, (ordL_perm HG.out.2.2.2.1).length_eq]; exact HG.out.2.2.2.2.1
            · omega
        · simp)
      clear hnx
      have hWl : (s.unW t).length < 4611686018427387904 := by
        have := HWN.out
        omega
      go_wp2_with fail
      refine (munlockc cb ab mb N s t wc HG.out.1 HG.out.2.2.1.cntM).mono ?_
      rintro e w1 ⟨v1, rfl, hO1, hM1, hC1⟩
      have hq1 := HG.out.2.1.mstep HG.out.1 hC1 (by simp)
      have H1 := Lib.hid (And.intro hM1 (And.intro hC1 (And.intro hq1 hO1)))
      clear hM1 hC1 hq1 hO1
      go_wp2_with fail
      refine (qunlockc rc gs s t w1 H1.out.2.2.1 HG.out.2.2.1 HG.out.2.2.2.1 HG.out.2.2.2.2.1).mono ?_
      rintro e w2 ⟨v2, rfl, hO2, hQ⟩
      have hp1 := (H1.out.2.2.2.kept hQ.qm (fun k hk => by have := HG.out.2.2.2.2.2.2.2.2 k hk; exact Nat.lt_of_lt_of_le this HG.out.2.2.2.2.2.1.size)).pairs
      have hp2 := hO2.pairs
      have H2 := Lib.hid (And.intro hQ (And.intro hp1 hp2))
      clear hQ hO2 hp1 hp2
      go_wp2_with fail
      refine (woken13 v1 v2 _ _ w2 H2.out.2.1 H2.out.2.2 hWl hWl).mono ?_
      rintro e w3 ⟨rfl, hC3⟩
      rw [show decide (s.unW t = s.unW t) = true from decide_eq_true rfl]
      have H3 := Lib.hid (H2.out.1.calm hC3)
      clear hC3
      go_wp2
      go_ret
      exact ⟨rfl, by rw [← HT.out]; exact fin13 HG.out.2.2.2.2.2.1 (by omega) H1.out.1 H1.out.2.1 (by simp) H1.out.2.2.1 H3.out⟩
    · as_aux_lemma => -- Consistent
      obtain ⟨ce, hce⟩ : ∃ x : Int, x = if s.csB t = true then 0 else 22 := ⟨_, rfl⟩
      have hA := mconsistc cb ab mb N s t wc HG.out.1
      have hB := fun (W : World) (hW : QM W rc gs s) => qconsistc rc gs s t W hW HG.out.2.2.1
      rw [← hce] at hA
      simp only [← hce] at hB
      have HA := Lib.hid hA
      have HB := Lib.hid hB
      have e2 : (ce == ce) = true := by simp
      clear hA hB hce

      go_wp2_with fail
      refine (HA.out).mono ?_
      rintro e w1 ⟨rfl, hM1, hC1⟩

      have hq1 := HG.out.2.1.mstep HG.out.1 hC1 (by simp)
      have H1 := Lib.hid (And.intro hM1 (And.intro hC1 hq1))
      clear hM1 hC1 hq1
      go_wp2_with fail
      refine (HB.out w1 H1.out.2.2).mono ?_
      rintro e w2 ⟨rfl, hQ⟩
      have H2 := Lib.hid hQ
      clear hQ
      go_wp2
      go_ret
      exact ⟨rfl, by rw [← HT.out]; exact fin13 HG.out.2.2.2.2.2.1 (by omega) H1.out.1 H1.out.2.1 (by simp) H1.out.2.2 H2.out⟩
    · as_aux_lemma => -- Ended
      have hnx : ∀ s2 : MS, s2.nextW.length ≤ 1 := fun s2 => by unfold MS.nextW; split <;> simp
      have HWN : Hid ((s.enW t).length ≤ 16) := Lib.hid (by
        unfold MS.enW
        have := hnx { s with st := 1 }
        split
        · omega
        · simp)
      clear hnx
      have hWl : (s.enW t).length < 4611686018427387904 := by
        have := HWN.out
        omega
      go_wp2_with fail
      refine (mendedc cb ab mb N s t wc HG.out.1).mono ?_
      rintro e w1 ⟨v1, rfl, hO1, hM1, hC1⟩
      have hq1 := HG.out.2.1.mstep HG.out.1 hC1 (by simp)
      have H1 := Lib.hid (And.intro hM1 (And.intro hC1 (And.intro hq1 hO1)))
      clear hM1 hC1 hq1 hO1
      go_wp2_with fail
      refine (qendedc rc gs s t w1 H1.out.2.2.1 HG.out.2.2.1 HG.out.2.2.2.1 HG.out.2.2.2.2.1).mono ?_
      rintro e w2 ⟨v2, rfl, hO2, hQ⟩
      have hp1 := (H1.out.2.2.2.kept hQ.qm (fun k hk => by have := HG.out.2.2.2.2.2.2.2.2 k hk; exact Nat.lt_of_lt_of_le this HG.out.2.2.2.2.2.1.size)).pairs
      have hp2 := hO2.pairs
      have H2 := Lib.hid (And.intro hQ (And.intro hp1 hp2))
      clear hQ hO2 hp1 hp2
      go_wp2_with fail
      refine (woken13 v1 v2 _ _ w2 H2.out.2.1 H2.out.2.2 hWl hWl).mono ?_
      rintro e w3 ⟨rfl, hC3⟩
      rw [show decide (s.enW t = s.enW t) = true from decide_eq_true rfl]
      have H3 := Lib.hid (H2.out.1.calm hC3)
      clear hC3
      go_wp2
      go_ret
      exact ⟨rfl, by rw [← HT.out]; exact fin13 HG.out.2.2.2.2.2.1 (by omega) H1.out.1 H1.out.2.1 (by simp) H1.out.2.2.1 H3.out⟩
    · as_aux_lemma => -- Leave
      have e2 : (s.lvB t == s.lvB t) = true := by simp
      go_wp2_with fail
      refine (mleavec cb ab mb N s t wc HG.out.1).mono ?_
      rintro e w1 ⟨rfl, hM1, hC1⟩

      have hq1 := HG.out.2.1.mstep HG.out.1 hC1 (by simp)
      have H1 := Lib.hid (And.intro hM1 (And.intro hC1 hq1))
      clear hM1 hC1 hq1
      go_wp2_with fail
      refine (qleavec rc gs s t w1 H1.out.2.2 HG.out.2.2.2.1 HG.out.2.2.2.2.1).mono ?_
      rintro e w2 ⟨rfl, hQ⟩
      have H2 := Lib.hid hQ
      clear hQ
      go_wp2
      go_ret
      exact ⟨rfl, by rw [← HT.out]; exact fin13 HG.out.2.2.2.2.2.1 (by omega) H1.out.1 H1.out.2.1 (by simp) H1.out.2.2 H2.out⟩
    · as_aux_lemma => -- Change
      have e2 : (s.chB t q == s.chB t q) = true := by simp
      have HP := Lib.hid (HG.out.1.calm (Chg.refl [] wc).drew)
      go_wp2
      go_region_held3 (fun w' => w'.cell? ⟨w.heap.size, 2, none⟩ = some (.int .i64 q)) (first | exact x2 | exact y2 | exact z2)
        (first
        | (go_at_call 20; refine (mchangec cb ab mb N s t q _ HP.out).mono ?_; rintro e w1 ⟨rfl, hM1, hC1'⟩; have hC1 : Chg [cb, ab, mb] wc w1 := ⟨hC1'.os, hC1'.tape, hC1'.output, hC1'.size, hC1'.block⟩; have y2 : w1.cell? ⟨w.heap.size, 2, none⟩ = some (.int .i64 q) := cellB (hC1.blk HG.out.2.2.2.2.2.2.1 (fun hm => HX.out _ (by simp at hm; first | (simp; omega) | (right; right; right; simpa using hm) | (rcases hm with h | h | h <;> simp [h])) rfl)) (i := 2) rfl; have hq1 := HG.out.2.1.mstep HG.out.1 hC1 (by simp); have H1 := Lib.hid (And.intro hM1 (And.intro hC1 hq1)); clear hM1 hC1 hq1 hC1')
        | (go_at_call 48; refine (qchangec rc gs s t q w1 H1.out.2.2 HG.out.2.2.2.1 HG.out.2.2.2.2.1).mono ?_; rintro e w2 ⟨rfl, hQ⟩; have z2 : w2.cell? ⟨w.heap.size, 2, none⟩ = some (.int .i64 q) := cellB ((H1.out.2.1.mono (show ∀ k ∈ [cb, ab, mb], k ∈ cb :: ab :: mb :: rc :: gs ∨ _ from fun k hk => .inl (by simp at hk ⊢; omega))).trans (hQ.qm.mono (show ∀ k ∈ rc :: gs, k ∈ cb :: ab :: mb :: rc :: gs ∨ _ from fun k hk => .inl (List.mem_cons_of_mem _ (List.mem_cons_of_mem _ (List.mem_cons_of_mem _ hk)))))|>.blk HG.out.2.2.2.2.2.2.1 (fun hm => HX.out _ (by simp at hm ⊢; omega) rfl)) (i := 2) rfl; have H2 := Lib.hid hQ; clear hQ))
      clear x2 y2 z2
      go_wp2
      go_ret
      exact ⟨rfl, by rw [← HT.out]; exact fin13 HG.out.2.2.2.2.2.1 (by omega) H1.out.1 H1.out.2.1 (by simp) H1.out.2.2 H2.out⟩
    · as_aux_lemma => -- Ceil
      have e1 : (s.ceV t q == s.ceV t q) = true := by simp
      have e2 : (s.ceE t q == s.ceE t q) = true := by simp
      go_wp2_with fail
      refine (mceilc cb ab mb N s t q wc HG.out.1).mono ?_
      rintro e w1 ⟨rfl, hM1, hC1⟩
      have y2 : w1.cell? ⟨w.heap.size, 2, none⟩ = some (.int .i64 q) := cellB (hC1.blk HG.out.2.2.2.2.2.2.1 (fun hm => HX.out _ (by simp at hm; first | (simp; omega) | (right; right; right; simpa using hm) | (rcases hm with h | h | h <;> simp [h])) rfl)) (i := 2) rfl
      have hq1 := HG.out.2.1.mstep HG.out.1 hC1 (by simp)
      have H1 := Lib.hid (And.intro hM1 (And.intro hC1 hq1))
      clear hM1 hC1 hq1
      go_wp2_with fail
      refine (qceilc rc gs s t q w1 H1.out.2.2 HG.out.2.2.1).mono ?_
      rintro e w2 ⟨rfl, hQ⟩
      have H2 := Lib.hid hQ
      clear hQ
      go_wp2
      go_ret
      exact ⟨rfl, by rw [← HT.out]; exact fin13 HG.out.2.2.2.2.2.1 (by omega) H1.out.1 H1.out.2.1 (by simp) H1.out.2.2 H2.out⟩
    · as_aux_lemma => -- nothing
      have e : s.stepS kd t q b = s := by
        simp only [beq_eq_false_iff_ne] at k1 k2 k3 k4 k5 k6 k7 k8
        unfold MS.stepS
        rw [if_neg k1, if_neg k2, if_neg k3, if_neg k4, if_neg k5, if_neg k6, if_neg k7, if_neg k8]
      have HE := Lib.hid e
      clear e
      go_wp2
      go_ret
      exact ⟨rfl, by rw [← HT.out, HE.out]; exact fin13 HG.out.2.2.2.2.2.1 (by omega) HG.out.1 (Chg.refl [] _) (by simp) HG.out.2.1 (.same HG.out.2.1 (Chg.refl _ _))⟩

end Go.Proofs.Ytagnobmdcchcaaa
