
/- Locks, the plain laws of metronomelaw15.LockAlone: behind each call nobody more is to be let in; what that means; who wrote what last. No program in sight. -/
import Derived.Test.YtpdfeinbbjfcaaaGreatKlaw
namespace Go.Proofs.YtpdfeinbbjfcaaaGreat

theorem ordL_falls (L : WL) : (ordL L).Pairwise (fun x y => y.2 ≤ x.2) := by
  unfold ordL
  rw [List.pairwise_flatMap]
  refine ⟨fun i _ => ?_, List.pairwise_lt_range.imp ?_⟩
  · refine List.pairwise_iff_getElem.2 fun a b ha hb _ => ?_
    have h1 := (List.mem_filter.1 (List.getElem_mem ha)).2
    have h2 := (List.mem_filter.1 (List.getElem_mem hb)).2
    simp at h1 h2
    omega
  · intro a b hab x hx y hy
    have h1 := (List.mem_filter.1 hx).2
    have h2 := (List.mem_filter.1 hy).2
    simp at h1 h2
    omega
theorem fP_max {L : WL} (h : ListOk L) : ∀ x ∈ L, x.2 ≤ fP L := by
  intro x hx
  have hm : x ∈ ordL L := (ordL_perm h).mem_iff.2 hx
  have hp := ordL_falls L
  unfold fP
  cases ho : ordL L with
  | nil => rw [ho] at hm; cases hm
  | cons y r =>
    rw [ho] at hm hp
    rcases List.mem_cons.1 hm with rfl | hm
    · exact Int.le_refl _
    · exact (List.pairwise_cons.1 hp).1 x hm
theorem fP_at {L : WL} (h : ListOk L) (hn : L ≠ []) : fT L ≠ -1 ∧ (fT L, fP L) ∈ L ∧ okP (fP L) := by
  rcases fT_ok h with ⟨h1, h2, h3⟩ | ⟨x, r, ho, h1, h2, h3, h4, h5⟩
  · exact absurd ((ord_nil_iff h).1 h3) hn
  · refine ⟨?_, ?_, ?_⟩
    · rw [h1]; unfold okT at h3; omega
    · rw [h1, h2]; exact h5
    · rw [h2]; exact h4
theorem fP_nil : fP [] = 0 := rfl
theorem fT_nil : fT [] = -1 := rfl
theorem fP_nonneg {L : WL} (h : ListOk L) : 0 ≤ fP L := by
  rcases fT_ok h with ⟨_, h2, _⟩ | ⟨x, r, ho, h1, h2, h3, h4, h5⟩
  · omega
  · unfold okP at h4; omega

/-- Who reads while somebody holds it. -/
theorem still_of {s : LS} (h : LInv s) (hh : s.held = true) (hr : s.wr ≠ -1 ∨ ∀ x ∈ s.R, x.2 ≤ fP s.W) : s.still := by
  refine ⟨by unfold LS.letW; rw [hh]; simp, ?_⟩
  unfold LS.letR LS.mayR
  by_cases hn : fT s.R = -1
  · simp [hn]
  · rcases hr with hr | hr
    · simp [hr]
    · obtain ⟨_, p, hm⟩ := fT_mem h.r hn
      have hne : s.R ≠ [] := fun e => by rw [e] at hm; cases hm
      obtain ⟨_, h2, _⟩ := fP_at h.r hne
      have h3 := hr _ h2
      have h4 := h.none _ h2
      simp only at h3 h4
      simp [h4]
      omega
theorem still_held {s : LS} (h : LInv s) (hs : s.still) (hh : s.held = false) : s.R = [] ∧ s.W = [] := by
  obtain ⟨h1, h2⟩ := hs
  obtain ⟨hw, _⟩ := LS.held_no hh
  unfold LS.letW at h1
  unfold LS.letR LS.mayR at h2
  have hR : ¬ (s.R ≠ [] ∧ fP s.W < fP s.R) := fun ⟨a, b⟩ => by
    have := (fP_at h.r a).1
    simp [this, hw, b] at h2
  have hW : s.W = [] := by
    by_cases e : s.W = []
    · exact e
    · have h3 := (fP_at h.w e).1
      simp [h3, hh] at h1
      exfalso
      refine hR ⟨fun e2 => ?_, h1⟩
      rw [e2, fP_nil] at h1
      have := fP_nonneg h.w
      omega
  refine ⟨?_, hW⟩
  by_cases e : s.R = []
  · exact e
  · exfalso
    refine hR ⟨e, ?_⟩
    rw [hW, fP_nil]
    have := (fP_at h.r e).2.2
    unfold okP at this
    omega
theorem still_wait {s : LS} (h : LInv s) (hs : s.still) (hw : s.wr = -1) : ∀ x ∈ s.R, s.W ≠ [] ∧ x.2 ≤ fP s.W ∧ s.cnt x.1 = 0 := by
  intro x hx
  have hne : s.R ≠ [] := fun e => by rw [e] at hx; cases hx
  have h3 := fP_at h.r hne
  have h4 := hs.2
  unfold LS.letR LS.mayR at h4
  simp [h3.1, hw] at h4
  have hm := fP_max h.r x hx
  refine ⟨fun e => ?_, by omega, h.none x hx⟩
  have h5 := h3.2.2
  rw [e, fP_nil] at h4
  unfold okP at h5
  omega

theorem fP_put {L : WL} (h : ListOk L) (t p : Int) : fP L ≤ fP (putL L t p) := by
  by_cases e : L = []
  · rw [e, fP_nil]; rw [← e]; exact fP_nonneg (h.put t p)
  · have h1 := (fP_at h e).2.1
    refine fP_max (h.put t p) (fT L, fP L) ?_
    unfold putL
    split
    · exact List.mem_append.2 (.inl h1)
    · exact h1

theorem still_want {s : LS} (h : LInv s) (hs : s.still) (wr : Bool) (t p : Int) (wait : Bool) : (s.wantS wr t p wait).still := by
  have hI := h.want wr t p wait
  unfold LS.wantS at hI ⊢
  split
  · rename_i he
    rw [if_pos he] at hI
    obtain ⟨h1, h2, h3, h4, h5, h6⟩ := LS.wantE_ok he
    split
    · rename_i hm
      rw [if_pos hm] at hI
      cases wr
      · have hm2 : s.wr = -1 := by
          unfold LS.may LS.mayR at hm
          simp at hm
          exact hm.1
        refine still_of hI ?_ (.inr fun x hx => (still_wait h hs hm2 x hx).2.1)
        unfold LS.held
        rw [show anyC (s.hold false t).C = true from anyC_iff.2 ⟨t, by
          show 0 < cntC (s.C.set t.toNat _) t
          rw [cnt_set h1 h.ok.len, if_pos rfl]
          have := h.ok.cnt t
          omega⟩]
        simp
      · refine still_of hI ?_ (.inl ?_)
        · unfold LS.held LS.hold
          unfold okT at h1
          simp
          left
          omega
        · show t ≠ -1
          unfold okT at h1
          omega
    · rename_i hm
      rw [if_neg hm] at hI
      split
      · rename_i hwt
        rw [if_pos hwt] at hI
        cases wr
        · unfold LS.may LS.mayR at hm
          by_cases hw : s.wr = -1
          · simp [hw] at hm
            have hW : s.W ≠ [] := fun e => by
              rw [e, fP_nil] at hm
              unfold okP at h2
              omega
            refine still_of hI ?_ (.inr fun x hx => ?_)
            · cases hh : s.held with
              | true => exact hh
              | false => exact absurd (still_held h hs hh).2 hW
            · rcases putL_mem x hx with hx | rfl
              · exact (still_wait h hs hw x hx).2.1
              · exact hm.2
          · refine still_of hI ?_ (.inl hw)
            unfold LS.held LS.putW
            simp [hw]
        · unfold LS.may at hm
          simp at hm
          refine still_of hI hm ?_
          by_cases hw : s.wr = -1
          · exact .inr fun x hx => Int.le_trans (still_wait h hs hw x hx).2.1 (fP_put h.w t p)
          · exact .inl hw
      · exact hs
  · exact hs
theorem still_un {s : LS} (h : LInv s) (hs : s.still) (t : Int) : (s.unS t).still := by
  unfold LS.unS
  split
  · rename_i he; exact (h.un1 he).let_.2
  · exact hs
theorem still_lv {s : LS} (h : LInv s) (hs : s.still) (t : Int) : (s.lvS t).still := by
  unfold LS.lvS
  split
  · exact (h.lv1 t).let_.2
  · exact hs
theorem still_ch {s : LS} (h : LInv s) (hs : s.still) (t p : Int) : (s.chS t p).still := by
  unfold LS.chS
  split
  · exact (h.ch1 t p).let_.2
  · exact hs
theorem still_new : lnew.still := ⟨rfl, rfl⟩

/-! ### the array of who wanted it with what last -/
structure PrOk (s : LS) (P : CL) : Prop where
  len : P.length = 16
  r : ∀ x ∈ s.R, cAt P x.1.toNat = x.2
  w : ∀ x ∈ s.W, cAt P x.1.toNat = x.2

theorem letN_sub : ∀ (n : Nat) (s : LS), LInv s → (∀ x ∈ (s.letN n).2.R, x ∈ s.R) ∧ (∀ x ∈ (s.letN n).2.W, x ∈ s.W)
  | 0, s, _ => ⟨fun _ h => h, fun _ h => h⟩
  | n + 1, s, h => by
    unfold LS.letN
    split
    · rename_i h1
      have ih := letN_sub n s.inW (h.inW h1)
      exact ⟨ih.1, fun x hx => (takeL_sub h.w).subset (ih.2 x hx)⟩
    · split
      · rename_i h1
        have ih := letN_sub n s.inR (h.inR h1)
        exact ⟨fun x hx => (takeL_sub h.r).subset (ih.1 x hx), ih.2⟩
      · exact ⟨fun _ h => h, fun _ h => h⟩
theorem PrOk.let_ {s : LS} {P : CL} (h : PrOk s P) (hI : LInv s) : PrOk s.let_.2 P :=
  ⟨h.len, fun x hx => h.r x ((letN_sub _ s hI).1 x hx), fun x hx => h.w x ((letN_sub _ s hI).2 x hx)⟩
theorem cAt_other {P : CL} {t p : Int} (hl : P.length = 16) (ht : okT t) {x : Int × Int} (hx : okT x.1) (hn : x.1 ≠ t) : cAt (P.set t.toNat p) x.1.toNat = cAt P x.1.toNat := by
  unfold okT at ht hx
  rw [cAt_set _ _ _ _ (by omega), if_neg (by omega)]
theorem cAt_own {P : CL} {t p : Int} (hl : P.length = 16) (ht : okT t) : cAt (P.set t.toNat p) t.toNat = p := by
  unfold okT at ht
  rw [cAt_set _ _ _ _ (by omega), if_pos rfl]
theorem ne_of_no {L : WL} {t : Int} (h : hasR L t = false) : ∀ x ∈ L, x.1 ≠ t := fun x hx e => by
  have := hasR_of_mem hx
  rw [e, h] at this
  cases this
/-- Read, Write. -/
theorem PrOk.want {s : LS} {P : CL} (h : PrOk s P) (hI : LInv s) (wr : Bool) (t p : Int) (wait : Bool) (he : s.wantE wr t p = 0) : PrOk (s.wantS wr t p wait) (P.set t.toNat p) := by
  obtain ⟨h1, h2, h3, h4, h5, h6⟩ := LS.wantE_ok he
  have h3 := LS.is_no h3
  have hr : ∀ x ∈ s.R, cAt (P.set t.toNat p) x.1.toNat = x.2 := fun x hx => by rw [cAt_other h.len h1 (hI.r.ok x hx).1 (ne_of_no h3.2 x hx)]; exact h.r x hx
  have hw : ∀ x ∈ s.W, cAt (P.set t.toNat p) x.1.toNat = x.2 := fun x hx => by rw [cAt_other h.len h1 (hI.w.ok x hx).1 (ne_of_no h3.1 x hx)]; exact h.w x hx
  have ho := cAt_own (p := p) h.len h1
  unfold LS.wantS
  rw [if_pos he]
  split
  · cases wr
    · exact ⟨by simp [h.len], hr, hw⟩
    · exact ⟨by simp [h.len], hr, hw⟩
  · split
    · cases wr
      · refine ⟨by simp [h.len], fun x hx => ?_, hw⟩
        rcases putL_mem x hx with hx | rfl
        · exact hr x hx
        · exact ho
      · refine ⟨by simp [h.len], hr, fun x hx => ?_⟩
        rcases putL_mem x hx with hx | rfl
        · exact hw x hx
        · exact ho
    · exact ⟨by simp [h.len], hr, hw⟩
theorem PrOk.want_no {s : LS} {P : CL} (h : PrOk s P) (wr : Bool) (t p : Int) (wait : Bool) (he : s.wantE wr t p ≠ 0) : PrOk (s.wantS wr t p wait) P := by
  unfold LS.wantS
  rw [if_neg he]
  exact h
/-- TryRead, TryWrite. -/
theorem PrOk.try_ {s : LS} {P : CL} (h : PrOk s P) (wr : Bool) (t p : Int) : PrOk (s.wantS wr t p false) P := by
  unfold LS.wantS
  split
  · split
    · cases wr
      · exact ⟨h.len, h.r, h.w⟩
      · exact ⟨h.len, h.r, h.w⟩
    · exact ⟨h.len, h.r, h.w⟩
  · exact h
theorem PrOk.un {s : LS} {P : CL} (h : PrOk s P) (hI : LInv s) (t : Int) : PrOk (s.unS t) P := by
  unfold LS.unS
  split
  · rename_i he
    refine PrOk.let_ ?_ (hI.un1 he)
    unfold LS.un1
    split
    · exact ⟨h.len, h.r, h.w⟩
    · exact ⟨h.len, h.r, h.w⟩
  · exact h
theorem PrOk.lv {s : LS} {P : CL} (h : PrOk s P) (hI : LInv s) (t : Int) : PrOk (s.lvS t) P := by
  unfold LS.lvS
  split
  · exact PrOk.let_ ⟨h.len, fun x hx => h.r x ((lvL_sub hI.r t).subset hx), fun x hx => h.w x ((lvL_sub hI.w t).subset hx)⟩ (hI.lv1 t)
  · exact h
theorem PrOk.ch {s : LS} {P : CL} (h : PrOk s P) (hI : LInv s) (t p : Int) (he : s.chE t p = 0) : PrOk (s.chS t p) (P.set t.toNat p) := by
  have hb : thB t = true ∧ prB p = true := by
    unfold LS.chE at he
    split at he
    · assumption
    · omega
  have ht := thB_iff.1 hb.1
  have hp := prB_iff.1 hb.2
  unfold LS.chS
  rw [if_pos he]
  refine PrOk.let_ ?_ (hI.ch1 t p)
  have key : ∀ L : WL, ListOk L → (∀ x ∈ L, cAt P x.1.toNat = x.2) → ∀ x ∈ chgL L t p, cAt (P.set t.toNat p) x.1.toNat = x.2 := by
    intro L hL hP x hx
    rcases chgL_mem hL x hx with ⟨h1, h2⟩ | ⟨rfl, _⟩ | ⟨h1, h2⟩
    · rw [cAt_other h.len ht (hL.ok x h1).1 h2]; exact hP x h1
    · exact cAt_own h.len ht
    · have hne : x.1 ≠ t := fun e => h2 (by
        have hh := hasR_of_mem h1
        rw [e] at hh
        rw [askR_of ht hp, if_pos hh])
      rw [cAt_other h.len ht (hL.ok x h1).1 hne]; exact hP x h1
  exact ⟨by simp [h.len], key s.R hI.r h.r, key s.W hI.w h.w⟩
theorem PrOk.ch_no {s : LS} {P : CL} (h : PrOk s P) (t p : Int) (he : s.chE t p ≠ 0) : PrOk (s.chS t p) P := by
  unfold LS.chS
  rw [if_neg he]
  exact h
theorem PrOk.new : PrOk lnew (List.replicate 16 0) := ⟨by simp, by simp [lnew], by simp [lnew]⟩

/-! ### writers are let in by falling priorities -/
theorem letN_held : ∀ (n : Nat) (s : LS), s.wr ≠ -1 → s.letN n = ([], s)
  | 0, s, _ => rfl
  | n + 1, s, h => by
    unfold LS.letN LS.letW LS.letR LS.mayR LS.held
    simp [h]
theorem letN_reads : ∀ (n : Nat) (s : LS), LInv s → s.wr = -1 → anyC s.C = true → (s.letN n).2.wr = -1
  | 0, s, _, h, _ => h
  | n + 1, s, hI, h, ha => by
    unfold LS.letN
    rw [if_neg (by unfold LS.letW LS.held; simp [ha])]
    split
    · rename_i h2
      refine letN_reads n s.inR (hI.inR h2) h ?_
      obtain ⟨h3, _⟩ := LS.letR_yes h2
      have ht := (fT_mem hI.r h3).1
      refine anyC_iff.2 ⟨fT s.R, ?_⟩
      show 0 < cntC (s.C.set (fT s.R).toNat _) (fT s.R)
      rw [cnt_set ht hI.ok.len, if_pos rfl]
      have := hI.ok.cnt (fT s.R)
      omega
    · exact h
theorem let_in {s : LS} (hI : LInv s) : ∀ k ∈ s.let_.1, s.let_.2.wr = k → k ≠ -1 → k = fT s.W := by
  unfold LS.let_
  cases hn : s.R.length + s.W.length with
  | zero => intro k hk; cases hk
  | succ n =>
    unfold LS.letN
    by_cases h1 : s.letW = true
    · rw [if_pos h1]
      have hne : s.inW.wr ≠ -1 := (LS.letW_yes h1).1
      rw [letN_held n _ hne]
      intro k hk _ _
      simpa using hk
    · rw [if_neg h1]
      by_cases h2 : s.letR = true
      · rw [if_pos h2]
        obtain ⟨h3, h4, _⟩ := LS.letR_yes h2
        have ht := (fT_mem hI.r h3).1
        have hr := letN_reads n s.inR (hI.inR h2) h4 (anyC_iff.2 ⟨fT s.R, by
          show 0 < cntC (s.C.set (fT s.R).toNat _) (fT s.R)
          rw [cnt_set ht hI.ok.len, if_pos rfl]
          have := hI.ok.cnt (fT s.R)
          omega⟩)
        intro k hk h5 h6
        rw [hr] at h5
        exact absurd h5.symm h6
      · rw [if_neg h2]
        intro k hk
        cases hk
/-- Who is let in by an Unlock to write was the first of those who waited to write. -/
theorem un_in {s : LS} (hI : LInv s) (t : Int) : ∀ k ∈ s.unL t, (s.unS t).wr = k → k ≠ -1 → k = fT s.W := by
  unfold LS.unL LS.unS
  split
  · rename_i he
    intro k hk h1 h2
    have := let_in (hI.un1 he) k hk h1 h2
    have hW : (s.un1 t).W = s.W := by unfold LS.un1; split <;> rfl
    rwa [hW] at this
  · intro k hk; cases hk

end Go.Proofs.YtpdfeinbbjfcaaaGreat
