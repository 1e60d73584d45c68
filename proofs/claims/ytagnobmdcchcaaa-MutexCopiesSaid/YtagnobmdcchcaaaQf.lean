
/- metronomeref13.New; the program's mutex beside the document's; metronomelaw13.stands. -/
import Derived.Test.YtagnobmdcchcaaaQc
import Derived.Test.YtagnobmdcchcaaaL13known
namespace Go.Proofs.Ytagnobmdcchcaaa
open Go.RowKit

def QNewP (s : MS) (w : World) (e : Ending) (w' : World) : Prop := ∃ rc, e = .returned (.pointer (some ⟨rc, 0, none⟩)) ∧ w.heap.size ≤ rc ∧ QM w' rc [] s ∧ Chg [] w w'

set_option maxRecDepth 100000 in
set_option maxHeartbeats 2000000 in
theorem qnewc (k p c : Int) (rob : Bool) (w : World) (h : mnewB k p c = true) : Calls Try.prog 21 #[.int .i64 k, .int .i64 p, .int .i64 c, .bool rob] w (QNewP (mnew k p c rob) w) := by
  unfold mnewB at h
  simp only [Bool.and_eq_true, decide_eq_true_eq] at h
  obtain ⟨⟨h1, h2, h3, h4⟩, h5⟩ := h
  have q1 : decide (k < 0) = false := decide_eq_false (by omega)
  have q2 : decide (2 < k) = false := decide_eq_false (by omega)
  have q3 : decide (p < 0) = false := decide_eq_false (by omega)
  have q4 : decide (2 < p) = false := decide_eq_false (by omega)
  have hC2 : Chg [] w (w.alloc (.cells (qcells (.slice none 0 0) (mnew k p c rob)) 65)) := (Chg.refl _ _).alloc _
  have hQ : QM (w.alloc (.cells (qcells (.slice none 0 0) (mnew k p c rob)) 65)) w.heap.size [] (mnew k p c rob) := ⟨_, heap_alloc_eq w _, World.ownsRow_nil .., rfl⟩
  have H := Lib.hid (And.intro hQ hC2)
  clear hC2 hQ
  by_cases hp : p = 2
  · rw [if_pos hp] at h5
    have h6 : 1 ≤ c ∧ c ≤ 31 := by simpa using h5
    have q5 : (p == 2) = true := by simpa using hp
    have q8 : (p != 2) = false := by simpa using hp
    have q6 : decide (c < 1) = false := decide_eq_false (by omega)
    have q7 : decide (31 < c) = false := decide_eq_false (by omega)
    clear hp h1 h2 h3 h4 h5 h6
    go_enter Try.func21, Try.ntmps21
    go_wp2
    go_ret
    exact ⟨_, rfl, Nat.le_refl _, H.out.1, H.out.2⟩
  · rw [if_neg hp] at h5
    have h6 : c = 0 := by simpa using h5
    subst h6
    have q5 : (p == 2) = false := by simpa using hp
    have q8 : (p != 2) = true := by simpa using hp
    clear hp h1 h2 h3 h4 h5
    go_enter Try.func21, Try.ntmps21
    go_wp2
    go_ret
    exact ⟨_, rfl, Nat.le_refl _, H.out.1, H.out.2⟩

set_option maxRecDepth 100000 in
set_option maxHeartbeats 2000000 in
theorem qnew_no (k p c : Int) (rob : Bool) (w : World) (h : mnewB k p c = false) : Calls Try.prog 21 #[.int .i64 k, .int .i64 p, .int .i64 c, .bool rob] w fun e w' => e = .returned (.pointer none) ∧ w = w' := by
  have hc : k < 0 ∨ (¬ k < 0 ∧ 2 < k) ∨ ((¬ k < 0 ∧ ¬ 2 < k) ∧ p < 0) ∨ ((¬ k < 0 ∧ ¬ 2 < k) ∧ ¬ p < 0 ∧ 2 < p) ∨
      ((¬ k < 0 ∧ ¬ 2 < k) ∧ (¬ p < 0 ∧ ¬ 2 < p) ∧ ((p = 2 ∧ (c < 1 ∨ (¬ c < 1 ∧ 31 < c))) ∨ (p ≠ 2 ∧ c ≠ 0))) := by
    unfold mnewB at h
    by_cases hp : p = 2
    · rw [if_pos hp] at h
      simp at h
      omega
    · rw [if_neg hp] at h
      simp at h
      omega
  clear h
  rcases hc with h1 | ⟨h1, h2⟩ | ⟨⟨h1, h2⟩, h3⟩ | ⟨⟨h1, h2⟩, h3, h4⟩ | ⟨⟨h1, h2⟩, ⟨h3, h4⟩, ⟨h5, h6 | ⟨h6, h7⟩⟩ | ⟨h5, h6⟩⟩
  case' inl => have q1 := decide_eq_true h1
  case' inr.inl => have q1 := decide_eq_false h1; have q2 := decide_eq_true h2
  case' inr.inr.inl => have q1 := decide_eq_false h1; have q2 := decide_eq_false h2; have q3 := decide_eq_true h3
  case' inr.inr.inr.inl => have q1 := decide_eq_false h1; have q2 := decide_eq_false h2; have q3 := decide_eq_false h3; have q4 := decide_eq_true h4
  case' inr.inr.inr.inr.inl.inl => have q1 := decide_eq_false h1; have q2 := decide_eq_false h2; have q3 := decide_eq_false h3; have q4 := decide_eq_false h4; have q5 : (p == 2) = true := (by simpa using h5); have q8 : (p != 2) = false := (by simpa using h5); have q6 := decide_eq_true h6
  case' inr.inr.inr.inr.inl.inr => have q1 := decide_eq_false h1; have q2 := decide_eq_false h2; have q3 := decide_eq_false h3; have q4 := decide_eq_false h4; have q5 : (p == 2) = true := (by simpa using h5); have q8 : (p != 2) = false := (by simpa using h5); have q6 := decide_eq_false h6; have q7 := decide_eq_true h7
  case' inr.inr.inr.inr.inr => have q1 := decide_eq_false h1; have q2 := decide_eq_false h2; have q3 := decide_eq_false h3; have q4 := decide_eq_false h4; have q5 : (p == 2) = false := (by simpa using h5); have q8 : (p != 2) = true := (by simpa using h5); have q6 : (c != 0) = true := (by simpa using h6)
  all_goals
    try clear h7
    try clear h6
    try clear h5
    try clear h4
    try clear h3
    try clear h2
    clear h1
    go_enter Try.func21, Try.ntmps21
    go_wp2
    go_ret
    exact ⟨rfl, rfl⟩

theorem MAt.sepQ {w : World} {cb ab mb rc : Nat} {gs : List Nat} {N : Int} {s s2 : MS} (h : MAt w cb ab mb N s) (g : QM w rc gs s2) : ∀ k ∈ [cb, ab, mb], k ≠ rc ∧ k ∉ gs := by
  obtain ⟨ds, hds⟩ := g.head
  have hr := h.list.ne_of hds (by decide)
  have hg : ∀ j ∈ gs, ab ≠ j ∧ mb ≠ j ∧ cb ≠ j := fun j hj => by
    obtain ⟨cs, hcs⟩ := g.gcells j hj
    have := h.list.ne_of hcs (by decide)
    exact ⟨this.1, this.2, blk_ne h.head hcs (by decide)⟩
  intro k hk
  simp at hk
  rcases hk with rfl | rfl | rfl
  · exact ⟨blk_ne h.head hds (by decide), fun hm => (hg _ hm).2.2 rfl⟩
  · exact ⟨hr.1, fun hm => (hg _ hm).1 rfl⟩
  · exact ⟨hr.2, fun hm => (hg _ hm).2.1 rfl⟩
/-- The document's mutex behind a step of the program's. -/
theorem QM.mstep {S : List Nat} {w w' : World} {cb ab mb rc : Nat} {gs : List Nat} {N : Int} {s s2 : MS} (g : QM w rc gs s2) (h : MAt w cb ab mb N s) (hC : Chg S w w') (hS : ∀ k ∈ S, k ∈ [cb, ab, mb]) : QM w' rc gs s2 :=
  g.kept hC (fun k hk => h.sepQ g k (hS k hk))
/-- The program's behind a step of the document's. -/
theorem MAt.qstep {w w' : World} {cb ab mb rc : Nat} {gs : List Nat} {N : Int} {s s2 : MS} (h : MAt w cb ab mb N s) (g : QM w rc gs s2) (hC : Chg (rc :: gs) w w') : MAt w' cb ab mb N s := by
  have hs := h.sepQ g
  have hn : ∀ k ∈ [cb, ab, mb], k ∉ rc :: gs := fun k hk hm => by
    rcases List.mem_cons.1 hm with e | hm
    · exact (hs k hk).1 e
    · exact (hs k hk).2 hm
  exact h.kept hC (hn cb (by simp)) (hn ab (by simp)) (hn mb (by simp))

set_option maxRecDepth 100000 in
set_option maxHeartbeats 4000000 in
theorem stands13 (cb ab mb rc : Nat) (gs : List Nat) (N : Int) (s : MS) (w : World) (hm : MAt w cb ab mb N s) (hq : QM w rc gs s) :
    Calls Try.prog 23 #[.pointer (some ⟨cb, 0, none⟩), .pointer (some ⟨rc, 0, none⟩)] w fun e w' => e = .returned (.bool true) ∧ Chg [] w w' := by
  have hL := hm.list.lok
  have hl := hm.list.facts.2.2
  have hlt := hq.lt rc (by simp)
  have HM := Lib.hid (And.intro hm (And.intro hq (And.intro hL hl)))
  have HW := Lib.hid (mwaitingc cb ab mb N s w hm)
  obtain ⟨v, hb, -⟩ := hq
  have hn16 : (ordT s.L).length ≤ 16 := by unfold ordT; rw [List.length_map, (ordL_perm hL).length_eq]; exact hl
  have e1 : eqL s.own s.cnt s.st s.c s.own s.cnt s.st s.c = true := by unfold eqL; simp
  have e2 : (s.p == s.p) = true := by simp
  have HB := Lib.hid hb
  clear hm hb hL hl
  go_enter Try.func23, Try.ntmps23
  go_wp2_with fail
  refine HW.out.mono ?_
  rintro e w1 ⟨v1, rfl, ho, hC1⟩
  obtain ⟨va, vc, rfl⟩ := own_slice ho
  have hb1 := hC1.blk HB.out (by simp)
  have c1 := cellB hb1 (i := 1) (v := .int .i64 s.p) rfl
  have H1 := Lib.hid (And.intro (HM.out.1.calm hC1) (And.intro (HM.out.2.1.calm hC1) (And.intro ho (And.intro hC1 hb1))))
  have HP := Lib.hid (H1.out.1.calm (Chg.refl [] w1).drew)
  clear hC1 ho hb1
  obtain ⟨n, hn⟩ : ∃ n, n = (ordT s.L).length := ⟨_, rfl⟩
  rw [← hn] at hn16
  have HN := Lib.hid hn
  clear hn
  go_wp2
  go_region_held3 (fun w' => w'.cell? ⟨rc, 1, none⟩ = some (.int .i64 s.p)) (first | exact c1 | exact x1 | exact y1 | exact z1 | exact t1 | exact s1)
    (first
    | (go_at_call 14; refine (matc cb ab mb N s _ HP.out).mono ?_; rintro e w5 ⟨rfl, hC⟩; have H5 := Lib.hid (show Chg [] w1 w5 from ⟨hC.os, hC.tape, hC.output, hC.size, hC.block⟩); clear hC; have x1 := cellB (H5.out.blk H1.out.2.2.2.2 (by simp)) (i := 1) (v := .int .i64 s.p) rfl)
    | (go_at_call 26; refine (qstandsc rc gs s w5 (H1.out.2.1.calm H5.out)).mono ?_; rintro e w6 ⟨rfl, hC⟩; have H6 := Lib.hid (H5.out.trans hC); clear hC; have y1 := cellB (H6.out.blk H1.out.2.2.2.2 (by simp)) (i := 1) (v := .int .i64 s.p) rfl)
    | (go_at_call 28; refine (mprotoc cb ab mb N s w6 (H1.out.1.calm H6.out)).mono ?_; rintro e w7 ⟨rfl, hw7⟩; have H7 := Lib.hid (show Chg [] w1 w7 by rw [← hw7]; exact H6.out); clear hw7; have z1 := cellB (H7.out.blk H1.out.2.2.2.2 (by simp)) (i := 1) (v := .int .i64 s.p) rfl)
    | (go_at_call 51; refine (qwaitingc rc gs s w7 (H1.out.2.1.calm H7.out) HM.out.2.2.1 HM.out.2.2.2).mono ?_; rintro e w8 ⟨v2, rfl, ho2, hC⟩; have HO2 := Lib.hid (And.intro (IsInts.of_own (own_kept H1.out.2.2.1 (H7.out.trans hC) (by simp))) (IsInts.of_own ho2)); have H8 := Lib.hid (H7.out.trans hC); clear hC ho2; have t1 := cellB (H8.out.blk H1.out.2.2.2.2 (by simp)) (i := 1) (v := .int .i64 s.p) rfl)
    | (go_at_call 50; refine (sameInts13 (.slice va (ordT s.L).length vc) v2 (ordT s.L) (ordT s.L) w8 HO2.out.1 HO2.out.2 (by have := HN.out; omega) (by have := HN.out; omega)).mono ?_; rintro e w9 ⟨rfl, hC⟩; rw [show decide (ordT s.L = ordT s.L) = true from decide_eq_true rfl]; have H9 := Lib.hid (H8.out.trans hC); clear hC; have s1 := cellB (H9.out.blk H1.out.2.2.2.2 (by simp)) (i := 1) (v := .int .i64 s.p) rfl))
  clear c1 x1 y1 z1 t1 s1
  rw [← HN.out]
  have HO := Lib.hid (And.intro (own_kept H1.out.2.2.1 H9.out (by simp)) (H1.out.2.2.2.1.trans H9.out))
  rw [← HN.out] at HO
  generalize (ordT s.L).map (Value.int .i64) = xs0 at HO
  go_wp2
  go_loopw [7] (fun i wr => ∃ (j : Nat) (xs : List Value), j ≤ n ∧ i = .int .i64 j ∧ wr.ownsRow w.heap.size 3 1 (.slice va n vc) n xs ∧ Chg [] w wr) (fun i _ => n - (intOf i).toNat)
  case atStart => exact ⟨0, xs0, by omega, rfl, HO.out.1, HO.out.2⟩
  case round =>
    obtain ⟨j, xs, hj, rfl, ho, hC⟩ := hrel
    by_cases hjl : j < n
    · obtain ⟨g, cap', cur, hva, hge, hgb, hcap, hcm, hsz, hcur⟩ := own_blk ho (by omega)
      have ho2 := own_set (g := g) (cap := cap') (by rw [← hva]; exact ho) j (.int .i64 99)
      rw [← hva] at ho2
      simp only [Value.slice.injEq] at hva
      obtain ⟨rfl, -, rfl⟩ := hva
      have hjc : j < cur.size := by omega
      obtain ⟨u, hu⟩ : ∃ u, cur[j]? = some u := ⟨_, Array.getElem?_eq_getElem hjc⟩
      have cg := cellB hgb hu
      have fg := frozenB hgb j
      have H2 := Lib.hid (And.intro ho2 (hC.setCell ⟨g, j, none⟩ (.int .i64 99) (.inr hge)))
      clear ho hC hgb hcur ho2 hu hjc hsz
      go_wp2
      go_roundw
      case rel => exact ⟨j + 1, _, by omega, by go_num, H2.out.1, H2.out.2⟩
      case measure => simp [intOf]; omega
    · have H2 := Lib.hid hC
      clear ho hC hj
      go_wp2
      go_ret
      exact ⟨rfl, H2.out⟩

end Go.Proofs.Ytagnobmdcchcaaa
