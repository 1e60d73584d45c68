
/- Locks, the plain laws: what always holds of one (LInv), and what holds where nobody more is to be let in (LS.still). No program in sight. -/
import Derived.Test.YtiiafhlckmkcnaaKspec
namespace Go.Proofs.Ytiiafhlckmkcnaa

structure LInv (s : LS) : Prop where
  ok : LOk s
  r : ListOk s.R
  w : ListOk s.W
  alone : s.wr ≠ -1 → anyC s.C = false
  none : ∀ x ∈ s.R, s.cnt x.1 = 0

def LS.still (s : LS) : Prop := s.letW = false ∧ s.letR = false

theorem ListOk.sub {L L' : WL} (h : ListOk L) (hs : L'.Sublist L) : ListOk L' := ⟨h.nodup.sublist (hs.map _), fun x hx => h.ok x (hs.subset hx)⟩
theorem takeL_sub {L : WL} (h : ListOk L) : (takeL L).Sublist L := by
  unfold takeL
  cases ordL L with
  | nil => exact List.Sublist.refl _
  | cons x r => show (wdel L x.1).Sublist L; rw [wdel_filter h.nodup]; exact List.filter_sublist
theorem takeL_len {L : WL} (h : ListOk L) (hn : fT L ≠ -1) : (takeL L).length + 1 = L.length := by
  have h1 := (ordL_perm h).length_eq
  have h2 := (ordL_perm (h.sub (takeL_sub h))).length_eq
  rw [ord_take h] at h2
  unfold fT at hn
  cases ho : ordL L with
  | nil => rw [ho] at hn; exact absurd rfl hn
  | cons x r => rw [ho] at h1 h2; simp at h1 h2; omega
theorem takeL_not {L : WL} (h : ListOk L) (hn : fT L ≠ -1) : ∀ x ∈ takeL L, x.1 ≠ fT L := by
  unfold fT takeL at *
  cases ho : ordL L with
  | nil => rw [ho] at hn; exact absurd rfl hn
  | cons x r =>
    intro y hy
    have hy2 : y ∈ wdel L x.1 := hy
    rw [wdel_filter h.nodup] at hy2
    have := (List.mem_filter.1 hy2).2
    simpa using this
theorem lvL_sub {L : WL} (h : ListOk L) (t : Int) : (lvL L t).Sublist L := by
  unfold lvL
  split
  · rw [wdel_filter h.nodup]; exact List.filter_sublist
  · exact List.Sublist.refl _
theorem lvL_take {L : WL} (h : ListOk L) (hn : fT L ≠ -1) : lvL L (fT L) = takeL L ∧ askR L (fT L) 1 true = 0 := by
  rcases fT_ok h with ⟨h1, _⟩ | ⟨x, r, ho, h1, h2, h3, h4, h5⟩
  · exact absurd h1 hn
  · have hh : hasR L x.1 = true := hasR_mem.2 ⟨x.2, h5⟩
    have ha : askR L x.1 1 true = 0 := by
      unfold askR
      unfold hasR at hh
      unfold okT at h3
      rw [if_neg (by omega), if_pos hh]
      rfl
    rw [h1]
    refine ⟨?_, ha⟩
    unfold takeL lvL
    rw [ho, if_pos ha]
theorem chgL_keys {L : WL} (h : ListOk L) (t p : Int) : (chgL L t p).map (·.1) = L.map (·.1) := by
  unfold chgL
  split
  · rw [wupd_map h.nodup, List.map_map]
    apply List.map_congr_left
    intro x hx
    simp only [Function.comp]
    split
    · rename_i e; exact e.symm
    · rfl
  · rfl
theorem chgL_mem {L : WL} (h : ListOk L) {t p : Int} : ∀ x ∈ chgL L t p, (x ∈ L ∧ x.1 ≠ t) ∨ (x = (t, p) ∧ askR L t p true = 0) ∨ (x ∈ L ∧ askR L t p true ≠ 0) := by
  intro x hx
  unfold chgL at hx
  split at hx
  · rename_i ha
    rw [wupd_map h.nodup] at hx
    obtain ⟨y, hy, rfl⟩ := List.mem_map.1 hx
    split
    · exact .inr (.inl ⟨rfl, ha⟩)
    · rename_i hne; exact .inl ⟨hy, hne⟩
  · rename_i ha; exact .inr (.inr ⟨hx, ha⟩)
theorem askR_ok {L : WL} {t p : Int} {b : Bool} (h : askR L t p b = 0) : okT t ∧ okP p ∧ hasR L t = b := by
  unfold askR at h
  split at h
  · omega
  · refine ⟨by unfold okT; omega, by unfold okP; omega, ?_⟩
    unfold hasR
    cases hc : (L.lookup t).isSome <;> cases b <;> simp [hc] at h ⊢
theorem askR_of {L : WL} {t p : Int} (ht : okT t) (hp : okP p) (b : Bool) : askR L t p b = if hasR L t = b then 0 else (if b = true then 6 else 7) := by
  unfold askR hasR
  unfold okT at ht
  unfold okP at hp
  rw [if_neg (by omega)]
  cases (L.lookup t).isSome <;> cases b <;> simp
theorem ListOk.chg {L : WL} (h : ListOk L) (t p : Int) : ListOk (chgL L t p) := by
  refine ⟨by rw [chgL_keys h]; exact h.nodup, fun x hx => ?_⟩
  rcases chgL_mem h x hx with ⟨h1, _⟩ | ⟨rfl, h1⟩ | ⟨h1, _⟩
  · exact h.ok x h1
  · exact ⟨(askR_ok h1).1, (askR_ok h1).2.1⟩
  · exact h.ok x h1
theorem ListOk.put {L : WL} (h : ListOk L) (t p : Int) : ListOk (putL L t p) := by
  unfold putL
  split
  · rename_i ha
    obtain ⟨h1, h2, h3⟩ := askR_ok ha
    refine ⟨?_, fun x hx => ?_⟩
    · rw [List.map_append]
      refine List.nodup_append.2 ⟨h.nodup, by simp, ?_⟩
      intro a hma b hb e
      simp at hb
      subst hb e
      obtain ⟨x, hx, rfl⟩ := List.mem_map.1 hma
      have : hasR L x.1 = true := hasR_mem.2 ⟨x.2, hx⟩
      rw [h3] at this
      cases this
    · rcases List.mem_append.1 hx with hx | hx
      · exact h.ok x hx
      · simp at hx; subst hx; exact ⟨h1, h2⟩
  · exact h
theorem putL_mem {L : WL} {t p : Int} : ∀ x ∈ putL L t p, x ∈ L ∨ x = (t, p) := by
  intro x hx
  unfold putL at hx
  split at hx
  · simpa using hx
  · exact .inl hx
theorem hasR_of_mem {L : WL} {x : Int × Int} (h : x ∈ L) : hasR L x.1 = true := hasR_mem.2 ⟨x.2, h⟩

theorem LS.held_no {s : LS} (h : s.held = false) : s.wr = -1 ∧ anyC s.C = false := by
  unfold LS.held at h
  simpa using h
theorem cnt_none {s : LS} (h : LOk s) (ha : anyC s.C = false) (t : Int) : s.cnt t = 0 := by
  have h1 := h.cnt t
  rcases Int.lt_or_le 0 (s.cnt t) with h2 | h2
  · have := anyC_iff.2 ⟨t, h2⟩
    rw [ha] at this
    cases this
  · omega
theorem LS.letW_yes {s : LS} (h : s.letW = true) : fT s.W ≠ -1 ∧ s.held = false ∧ fP s.R ≤ fP s.W := by
  unfold LS.letW at h
  simp only [Bool.and_eq_true, Bool.not_eq_true', decide_eq_false_iff_not, decide_eq_true_eq] at h
  exact ⟨h.1.1, h.1.2, h.2⟩
theorem LS.letR_yes {s : LS} (h : s.letR = true) : fT s.R ≠ -1 ∧ s.wr = -1 ∧ (0 < s.cnt (fT s.R) ∨ fP s.W < fP s.R) := by
  unfold LS.letR LS.mayR at h
  simp only [Bool.and_eq_true, Bool.or_eq_true, Bool.not_eq_true', decide_eq_false_iff_not, decide_eq_true_eq] at h
  exact ⟨h.1, h.2.1, h.2.2⟩
theorem fT_mem {L : WL} (h : ListOk L) (hn : fT L ≠ -1) : okT (fT L) ∧ ∃ p, (fT L, p) ∈ L := by
  rcases fT_ok h with ⟨h1, _⟩ | ⟨x, r, ho, h1, h2, h3, h4, h5⟩
  · exact absurd h1 hn
  · rw [h1]; exact ⟨h3, x.2, h5⟩

theorem LInv.inW {s : LS} (h : LInv s) (hl : s.letW = true) : LInv s.inW := by
  obtain ⟨h1, h2, _⟩ := LS.letW_yes hl
  exact ⟨(h.ok.lists s.R (takeL s.W)).setW (.inr (fT_mem h.w h1).1), h.r, h.w.sub (takeL_sub h.w), fun _ => (LS.held_no h2).2, h.none⟩
theorem LInv.inR {s : LS} (h : LInv s) (hl : s.letR = true) : LInv s.inR := by
  obtain ⟨h1, h2, _⟩ := LS.letR_yes hl
  obtain ⟨ht, p, hm⟩ := fT_mem h.r h1
  have h0 := h.none _ hm
  simp only at h0
  refine ⟨(h.ok.lists (takeL s.R) s.W).setC ht (by omega) (by omega), h.r.sub (takeL_sub h.r), h.w, fun hn => absurd h2 hn, fun x hx => ?_⟩
  have hne := takeL_not h.r h1 x hx
  show cntC (s.C.set (fT s.R).toNat _) x.1 = 0
  rw [cnt_set ht h.ok.len, if_neg hne]
  exact h.none x ((takeL_sub h.r).subset hx)

theorem letN_spec : ∀ (n : Nat) (s : LS), LInv s → s.R.length + s.W.length ≤ n → LInv (s.letN n).2 ∧ (s.letN n).2.still
  | 0, s, h, hn => by
    have h1 : s.R = [] := List.eq_nil_of_length_eq_zero (by omega)
    have h2 : s.W = [] := List.eq_nil_of_length_eq_zero (by omega)
    refine ⟨h, ?_⟩
    unfold LS.still LS.letN LS.letW LS.letR
    rw [h1, h2]
    exact ⟨rfl, rfl⟩
  | n + 1, s, h, hn => by
    unfold LS.letN
    by_cases h1 : s.letW = true
    · rw [if_pos h1]
      have := takeL_len h.w (LS.letW_yes h1).1
      exact letN_spec n s.inW (h.inW h1) (by show s.R.length + (takeL s.W).length ≤ n; omega)
    · rw [if_neg h1]
      by_cases h2 : s.letR = true
      · rw [if_pos h2]
        have := takeL_len h.r (LS.letR_yes h2).1
        exact letN_spec n s.inR (h.inR h2) (by show (takeL s.R).length + s.W.length ≤ n; omega)
      · rw [if_neg h2]
        exact ⟨h, by simpa using h1, by simpa using h2⟩
theorem LInv.let_ {s : LS} (h : LInv s) : LInv s.let_.2 ∧ s.let_.2.still := letN_spec _ s h (Nat.le_refl _)

theorem letN_len : ∀ (n : Nat) (s : LS), (s.letN n).1.length ≤ n
  | 0, s => by simp [LS.letN]
  | n + 1, s => by
    unfold LS.letN
    split
    · have := letN_len n s.inW; simp; omega
    · split
      · have := letN_len n s.inR; simp; omega
      · simp

/-! ### each call keeps it -/
theorem LS.is_no {s : LS} {t : Int} (h : s.is t = false) : hasR s.W t = false ∧ hasR s.R t = false := by
  unfold LS.is at h
  simpa using h
theorem LS.wantE_ok {s : LS} {wr : Bool} {t p : Int} (h : s.wantE wr t p = 0) : okT t ∧ okP p ∧ s.is t = false ∧ s.wr ≠ t ∧ (wr = true → ¬ 0 < s.cnt t) ∧ (wr = false → s.cnt t < 32767) := by
  unfold LS.wantE at h
  split at h
  · rename_i ha
    unfold LS.badE at h
    split at h
    · omega
    · rename_i hb
      split at h
      · omega
      · rename_i hc
        refine ⟨thB_iff.1 ha.1, prB_iff.1 ha.2, ?_, fun e => hb (.inr (.inl e)), fun hw hc => hb (.inr (.inr ⟨hw, hc⟩)), fun hw => ?_⟩
        · cases hi : s.is t with
          | false => rfl
          | true => exact absurd (.inl hi) hb
        · rcases Int.lt_or_le (s.cnt t) 32767 with h1 | h1
          · exact h1
          · exact absurd ⟨hw, h1⟩ hc
  · omega
theorem LInv.hold {s : LS} (h : LInv s) {wr : Bool} {t p : Int} (he : s.wantE wr t p = 0) (hm : s.may wr t p = true) : LInv (s.hold wr t) := by
  obtain ⟨h1, h2, h3, h4, h5, h6⟩ := LS.wantE_ok he
  cases wr
  · have hm2 : s.wr = -1 := by
      unfold LS.may LS.mayR at hm
      simp at hm
      exact hm.1
    have h0 := h.ok.cnt t
    have h6 := h6 rfl
    refine ⟨h.ok.setC h1 (by omega) (by omega), h.r, h.w, fun hn => absurd hm2 hn, fun x hx => ?_⟩
    have hne : x.1 ≠ t := fun e => by
      have this : hasR s.R x.1 = true := hasR_of_mem hx
      rw [e, (LS.is_no h3).2] at this
      cases this
    show cntC (s.C.set t.toNat _) x.1 = 0
    rw [cnt_set h1 h.ok.len, if_neg hne]
    exact h.none x hx
  · have hm2 := LS.held_no (s := s) (by unfold LS.may at hm; simpa using hm)
    exact ⟨h.ok.setW (.inr h1), h.r, h.w, fun _ => hm2.2, h.none⟩
theorem LInv.putW {s : LS} (h : LInv s) {wr : Bool} {t p : Int} (he : s.wantE wr t p = 0) (hm : s.may wr t p = false) : LInv (s.putW wr t p) := by
  obtain ⟨h1, h2, h3, h4, h5, h6⟩ := LS.wantE_ok he
  cases wr
  · refine ⟨h.ok.lists _ _, h.r.put t p, h.w, h.alone, fun x hx => ?_⟩
    rcases putL_mem x hx with hx | rfl
    · exact h.none x hx
    · show s.cnt t = 0
      by_cases hw : s.wr = -1
      · unfold LS.may LS.mayR at hm
        simp [hw] at hm
        have := h.ok.cnt t
        omega
      · exact cnt_none h.ok (h.alone hw) t
  · exact ⟨h.ok.lists _ _, h.r, h.w.put t p, h.alone, h.none⟩
theorem LInv.want {s : LS} (h : LInv s) (wr : Bool) (t p : Int) (wait : Bool) : LInv (s.wantS wr t p wait) := by
  unfold LS.wantS
  split
  · rename_i he
    split
    · rename_i hm; exact h.hold he hm
    · rename_i hm
      split
      · exact h.putW he (by simpa using hm)
      · exact h
  · exact h
theorem LS.unE_ok {s : LS} {t : Int} (h : s.unE t = 0) : okT t ∧ (s.wr = t ∨ (s.wr ≠ t ∧ s.cnt t ≠ 0)) := by
  unfold LS.unE at h
  split at h
  · rename_i ha
    refine ⟨thB_iff.1 ha, ?_⟩
    split at h
    · rename_i hb; exact .inl hb
    · rename_i hb
      split at h
      · omega
      · rename_i hc; exact .inr ⟨hb, hc⟩
  · omega
theorem LInv.un1 {s : LS} (h : LInv s) {t : Int} (he : s.unE t = 0) : LInv (s.un1 t) := by
  obtain ⟨ht, h1⟩ := LS.unE_ok he
  unfold LS.un1
  rcases h1 with h1 | ⟨h1, h2⟩
  · rw [if_pos h1]
    exact ⟨h.ok.setW (.inl rfl), h.r, h.w, fun hn => absurd rfl hn, h.none⟩
  · rw [if_neg h1]
    have h0 := h.ok.cnt t
    refine ⟨h.ok.setC ht (by omega) (by omega), h.r, h.w, fun hn => ?_, fun x hx => ?_⟩
    · exact absurd (cnt_none h.ok (h.alone hn) t) h2
    · have hne : x.1 ≠ t := fun e => h2 (by rw [← e]; exact h.none x hx)
      show cntC (s.C.set t.toNat _) x.1 = 0
      rw [cnt_set ht h.ok.len, if_neg hne]
      exact h.none x hx
theorem LInv.unS {s : LS} (h : LInv s) (t : Int) : LInv (s.unS t) := by
  unfold LS.unS
  split
  · rename_i he; exact (h.un1 he).let_.1
  · exact h
theorem LInv.lv1 {s : LS} (h : LInv s) (t : Int) : LInv (s.lv1 t) :=
  ⟨h.ok.lists _ _, h.r.sub (lvL_sub h.r t), h.w.sub (lvL_sub h.w t), h.alone, fun x hx => h.none x ((lvL_sub h.r t).subset hx)⟩
theorem LInv.lvS {s : LS} (h : LInv s) (t : Int) : LInv (s.lvS t) := by
  unfold LS.lvS
  split
  · exact (h.lv1 t).let_.1
  · exact h
theorem LInv.ch1 {s : LS} (h : LInv s) (t p : Int) : LInv (s.ch1 t p) := by
  refine ⟨h.ok.lists _ _, h.r.chg t p, h.w.chg t p, h.alone, fun x hx => ?_⟩
  rcases chgL_mem h.r x hx with ⟨h1, _⟩ | ⟨rfl, h1⟩ | ⟨h1, _⟩
  · exact h.none x h1
  · obtain ⟨q, hq⟩ := hasR_mem.1 (askR_ok h1).2.2
    have h3 : s.cnt t = 0 := h.none (t, q) hq
    exact h3
  · exact h.none x h1
theorem LInv.chS {s : LS} (h : LInv s) (t p : Int) : LInv (s.chS t p) := by
  unfold LS.chS
  split
  · exact (h.ch1 t p).let_.1
  · exact h
theorem LInv.new : LInv lnew := ⟨LOk.new, ⟨by simp [lnew], by simp [lnew]⟩, ⟨by simp [lnew], by simp [lnew]⟩, fun h => absurd rfl h, by simp [lnew]⟩

end Go.Proofs.Ytiiafhlckmkcnaa
