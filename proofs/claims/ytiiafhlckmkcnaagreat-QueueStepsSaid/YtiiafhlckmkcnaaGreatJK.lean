/- Kspec, Klaw, Uord, Uspec, joined. -/
import Derived.Test.YtiiafhlckmkcnaaGreatOrd
import Derived.Test.YtiiafhlckmkcnaaGreatJW
/- Locks for readers and writers, the plain side: who holds one, who waits, who is let in. No program in sight. -/
namespace Go.Proofs.YtiiafhlckmkcnaaGreat

/-- Who holds it to write (-1: nobody), how often each holds it to read, who waits to read, to write. -/
structure LS where
  wr : Int
  C : CL
  R : WL
  W : WL

def thB (t : Int) : Bool := decide (0 ≤ t) && decide (t < 16)
def prB (p : Int) : Bool := decide (1 ≤ p) && decide (p ≤ 31)
theorem thB_iff {t : Int} : thB t = true ↔ okT t := by unfold thB okT; simp
theorem prB_iff {p : Int} : prB p = true ↔ okP p := by unfold prB okP; simp
theorem thB_no {t : Int} : thB t = false ↔ ¬ okT t := by rw [← thB_iff]; simp
theorem prB_no {p : Int} : prB p = false ↔ ¬ okP p := by rw [← prB_iff]; simp

/-- Who waits first, and its priority. -/
def fT (L : WL) : Int := match ordL L with | [] => -1 | x :: _ => x.1
def fP (L : WL) : Int := match ordL L with | [] => 0 | x :: _ => x.2
def cntC (C : CL) (t : Int) : Int := if 0 ≤ t then cAt C t.toNat else 0
def anyC (C : CL) : Bool := C.any (fun x => decide (0 < x))
def LS.cnt (s : LS) (t : Int) : Int := cntC s.C t
def LS.held (s : LS) : Bool := !decide (s.wr = -1) || anyC s.C
def LS.mayR (s : LS) (t p : Int) : Bool := decide (s.wr = -1) && (decide (0 < s.cnt t) || decide (fP s.W < p))
def LS.may (s : LS) (wr : Bool) (t p : Int) : Bool := if wr = true then !s.held else s.mayR t p
def LS.hold (s : LS) (wr : Bool) (t : Int) : LS := if wr = true then { s with wr := t } else { s with C := s.C.set t.toNat (s.cnt t + 1) }
def LS.line (s : LS) (wr : Bool) : WL := if wr = true then s.W else s.R
def LS.putW (s : LS) (wr : Bool) (t p : Int) : LS := if wr = true then { s with W := putL s.W t p } else { s with R := putL s.R t p }
def LS.is (s : LS) (t : Int) : Bool := hasR s.W t || hasR s.R t
/-- What is wrong with who wants it. -/
def LS.badE (s : LS) (wr : Bool) (t : Int) : Int := if s.is t = true ∨ s.wr = t ∨ (wr = true ∧ 0 < s.cnt t) then 7 else if wr = false ∧ 32767 ≤ s.cnt t then 5 else 0
def LS.wantE (s : LS) (wr : Bool) (t p : Int) : Int := if thB t = true ∧ prB p = true then s.badE wr t else 2
def LS.wantB (s : LS) (wr : Bool) (t p : Int) : Bool := decide (s.wantE wr t p = 0) && s.may wr t p
def LS.wantS (s : LS) (wr : Bool) (t p : Int) (wait : Bool) : LS :=
  if s.wantE wr t p = 0 then (if s.may wr t p = true then s.hold wr t else if wait = true then s.putW wr t p else s) else s

/-- Who is let in next. -/
def LS.letW (s : LS) : Bool := !decide (fT s.W = -1) && !s.held && decide (fP s.R ≤ fP s.W)
def LS.letR (s : LS) : Bool := !decide (fT s.R = -1) && s.mayR (fT s.R) (fP s.R)
def LS.inW (s : LS) : LS := { s with W := takeL s.W, wr := fT s.W }
def LS.inR (s : LS) : LS := { s with R := takeL s.R, C := s.C.set (fT s.R).toNat (s.cnt (fT s.R) + 1) }
def LS.letN : Nat → LS → List Int × LS
  | 0, s => ([], s)
  | n + 1, s => if s.letW = true then (fT s.W :: (letN n s.inW).1, (letN n s.inW).2) else if s.letR = true then (fT s.R :: (letN n s.inR).1, (letN n s.inR).2) else ([], s)
def LS.let_ (s : LS) : List Int × LS := s.letN (s.R.length + s.W.length)

/-- Unlock. -/
def LS.unE (s : LS) (t : Int) : Int := if thB t = true then (if s.wr = t then 0 else if s.cnt t = 0 then 6 else 0) else 2
def LS.un1 (s : LS) (t : Int) : LS := if s.wr = t then { s with wr := -1 } else { s with C := s.C.set t.toNat (s.cnt t - 1) }
def LS.unS (s : LS) (t : Int) : LS := if s.unE t = 0 then (s.un1 t).let_.2 else s
def LS.unL (s : LS) (t : Int) : List Int := if s.unE t = 0 then (s.un1 t).let_.1 else []

/-- Leave, Change. -/
def LS.chE (s : LS) (t p : Int) : Int := if thB t = true ∧ prB p = true then (if s.is t = true then 0 else 6) else 2
def LS.lv1 (s : LS) (t : Int) : LS := { s with R := lvL s.R t, W := lvL s.W t }
def LS.lvS (s : LS) (t : Int) : LS := if s.chE t 1 = 0 then (s.lv1 t).let_.2 else s
def LS.lvT (s : LS) (t : Int) : List Int := if s.chE t 1 = 0 then (s.lv1 t).let_.1 else []
def LS.ch1 (s : LS) (t p : Int) : LS := { s with R := chgL s.R t p, W := chgL s.W t p }
def LS.chS (s : LS) (t p : Int) : LS := if s.chE t p = 0 then (s.ch1 t p).let_.2 else s
def LS.chT (s : LS) (t p : Int) : List Int := if s.chE t p = 0 then (s.ch1 t p).let_.1 else []

def lnew : LS := ⟨-1, List.replicate 16 0, [], []⟩

/-- What a lock's numbers always are. -/
structure LOk (s : LS) : Prop where
  len : s.C.length = 16
  pos : ∀ k : Nat, 0 ≤ cAt s.C k ∧ cAt s.C k ≤ 32767
  wr : s.wr = -1 ∨ okT s.wr

/-! ### the map of who holds it to read -/
def rdM (C : CL) : List (Int × Value) := (List.range C.length).filterMap fun (i : Nat) => if 0 < cAt C i then some ((i : Int), Value.int .i64 (cAt C i)) else none

theorem cAt_ge {C : CL} {k : Nat} (h : C.length ≤ k) : cAt C k = 0 := by
  unfold cAt
  rw [List.getD_eq_getElem?_getD, List.getElem?_eq_none h]
  rfl
theorem rdM_mem {C : CL} {a : Int} {v : Value} : (a, v) ∈ rdM C ↔ 0 ≤ a ∧ 0 < cntC C a ∧ v = .int .i64 (cntC C a) := by
  unfold rdM cntC
  simp only [List.mem_filterMap, List.mem_range, Option.ite_none_right_eq_some, Option.some.injEq, Prod.mk.injEq]
  constructor
  · rintro ⟨i, hi, h1, rfl, rfl⟩
    simp [h1]
  · rintro ⟨h0, h1, rfl⟩
    rw [if_pos h0] at h1 ⊢
    refine ⟨a.toNat, ?_, h1, by omega, rfl⟩
    rcases Nat.lt_or_ge a.toNat C.length with h | h
    · exact h
    · rw [cAt_ge h] at h1
      omega
theorem rdM_nodup (C : CL) : ((rdM C).map (·.1)).Nodup := by
  unfold rdM
  rw [List.map_filterMap]
  have h : ∀ l : List Nat, l.Nodup → (l.filterMap fun (i : Nat) => Option.map (fun x : Int × Value => x.1) (if 0 < cAt C i then some ((i : Int), Value.int .i64 (cAt C i)) else none)).Nodup := by
    intro l
    induction l with
    | nil => intro _; exact List.nodup_nil
    | cons i l ih =>
      intro hn
      have hn' := List.nodup_cons.1 hn
      rw [List.filterMap_cons]
      split
      · exact ih hn'.2
      · rename_i b hb
        refine List.nodup_cons.2 ⟨?_, ih hn'.2⟩
        intro hm
        obtain ⟨j, hj, hj2⟩ := List.mem_filterMap.1 hm
        have e1 : (i : Int) = b := by split at hb <;> simp at hb; exact hb
        have e2 : (j : Int) = b := by split at hj2 <;> simp at hj2; exact hj2
        have : i = j := by omega
        exact hn'.1 (this ▸ hj)
  exact h _ List.nodup_range
theorem rdM_lookup (C : CL) (t : Int) : (rdM C).lookup t = if 0 < cntC C t then some (.int .i64 (cntC C t)) else none := by
  by_cases h : 0 < cntC C t
  · rw [if_pos h]
    refine (lookup_mem (rdM_nodup C)).2 (rdM_mem.2 ⟨?_, h, rfl⟩)
    unfold cntC at h
    split at h
    · assumption
    · omega
  · rw [if_neg h]
    cases hl : (rdM C).lookup t with
    | none => rfl
    | some v => exact absurd (rdM_mem.1 ((lookup_mem (rdM_nodup C)).1 hl)).2.1 h
theorem rdM_getD {C : CL} {t : Int} (h : 0 ≤ cntC C t) : ((rdM C).lookup t).getD (.int .i64 0) = .int .i64 (cntC C t) := by
  rw [rdM_lookup]
  split
  · rfl
  · rw [show cntC C t = 0 by omega]; rfl
theorem keys_nodup {M : List (Int × Value)} (h : (M.map (·.1)).Nodup) : M.Nodup := List.Pairwise.imp (fun h1 e => h1 (by rw [e])) (List.pairwise_map.1 h)
theorem cnt_set {C : CL} {t a x : Int} (ht : okT t) (hl : C.length = 16) : cntC (C.set t.toNat x) a = if a = t then x else cntC C a := by
  unfold okT at ht
  unfold cntC
  by_cases h0 : 0 ≤ a
  · rw [if_pos h0, if_pos h0, cAt_set _ _ _ _ (by omega)]
    by_cases h : a = t
    · rw [if_pos (by omega), if_pos h]
    · rw [if_neg (by omega), if_neg h]
  · rw [if_neg h0, if_neg h0, if_neg (by omega)]
theorem rdM_put {C : CL} {t x : Int} (ht : okT t) (hl : C.length = 16) (hx : 0 < x) : (mupd (rdM C) t (.int .i64 x)).Perm (rdM (C.set t.toNat x)) := by
  refine (mupd_perm1 (rdM_nodup C)).trans ?_
  refine (List.perm_ext_iff_of_nodup ?_ (keys_nodup (rdM_nodup _))).2 ?_
  · refine List.nodup_cons.2 ⟨?_, (keys_nodup (rdM_nodup C)).filter _⟩
    intro hm
    have := (List.mem_filter.1 hm).2
    simp at this
  · rintro ⟨a, v⟩
    rw [rdM_mem, cnt_set ht hl, List.mem_cons, List.mem_filter, rdM_mem]
    unfold okT at ht
    by_cases h : a = t
    · subst h
      simp only [if_true, Prod.mk.injEq, true_and, beq_self_eq_true, Bool.not_true, Bool.false_eq_true, and_false, or_false]
      constructor
      · rintro rfl; exact ⟨ht.1, hx, rfl⟩
      · rintro ⟨_, _, h⟩; exact h
    · simp [h]
theorem rdM_del {C : CL} {t : Int} (ht : okT t) (hl : C.length = 16) : (mdel (rdM C) t).Perm (rdM (C.set t.toNat 0)) := by
  rw [mdel_filter (rdM_nodup C)]
  refine (List.perm_ext_iff_of_nodup ((keys_nodup (rdM_nodup C)).filter _) (keys_nodup (rdM_nodup _))).2 ?_
  rintro ⟨a, v⟩
  rw [rdM_mem, cnt_set ht hl, List.mem_filter, rdM_mem]
  by_cases h : a = t
  · subst h
    simp
  · simp [h]
theorem anyC_iff {C : CL} : anyC C = true ↔ ∃ a, 0 < cntC C a := by
  unfold anyC
  rw [List.any_eq_true]
  constructor
  · rintro ⟨x, hx, h⟩
    obtain ⟨k, hk, rfl⟩ := List.mem_iff_getElem.1 hx
    refine ⟨(k : Int), ?_⟩
    unfold cntC cAt
    rw [if_pos (by omega), List.getD_eq_getElem?_getD, Int.toNat_natCast, List.getElem?_eq_getElem hk]
    simpa using h
  · rintro ⟨a, h⟩
    unfold cntC at h
    split at h
    · rcases Nat.lt_or_ge a.toNat C.length with h1 | h1
      · refine ⟨C[a.toNat], List.getElem_mem h1, ?_⟩
        unfold cAt at h
        rw [List.getD_eq_getElem?_getD, List.getElem?_eq_getElem h1] at h
        simpa using h
      · rw [cAt_ge h1] at h
        omega
    · omega
theorem rdM_len (C : CL) : decide (0 < ((rdM C).length : Int)) = anyC C := by
  cases h : anyC C with
  | true =>
    obtain ⟨a, ha⟩ := anyC_iff.1 h
    have hm : (a, Value.int .i64 (cntC C a)) ∈ rdM C := rdM_mem.2 ⟨by unfold cntC at ha; split at ha <;> omega, ha, rfl⟩
    have := List.length_pos_of_mem hm
    simp; omega
  | false =>
    have : rdM C = [] := List.eq_nil_iff_forall_not_mem.2 fun ⟨a, v⟩ hm => by
      have := anyC_iff.2 ⟨a, (rdM_mem.1 hm).2.1⟩
      rw [h] at this
      cases this
    rw [this]
    rfl
theorem MapP.perm {w : World} {b : Nat} {M M' : List (Int × Value)} (h : MapP w b M) (hp : M.Perm M') : MapP w b M' := by
  obtain ⟨M0, h1, h2⟩ := h
  exact ⟨M0, h1, h2.trans hp⟩

/-! ### what always holds -/
theorem LOk.cnt {s : LS} (h : LOk s) (t : Int) : 0 ≤ s.cnt t ∧ s.cnt t ≤ 32767 := by
  unfold LS.cnt cntC
  split
  · exact h.pos _
  · omega
theorem LOk.new : LOk lnew := ⟨by simp [lnew], fun k => by unfold lnew; rw [cAt_rep]; omega, .inl rfl⟩
theorem LOk.setC {s : LS} (h : LOk s) {t x : Int} (ht : okT t) (h0 : 0 ≤ x) (h1 : x ≤ 32767) : LOk { s with C := s.C.set t.toNat x } := by
  refine ⟨by simp [h.len], fun k => ?_, h.wr⟩
  unfold okT at ht
  show 0 ≤ cAt (s.C.set t.toNat x) k ∧ _
  rw [cAt_set _ _ _ _ (by have := h.len; omega)]
  split
  · omega
  · exact h.pos k
theorem LOk.setW {s : LS} (h : LOk s) {t : Int} (ht : t = -1 ∨ okT t) : LOk { s with wr := t } := ⟨h.len, h.pos, ht⟩
theorem LOk.lists {s : LS} (h : LOk s) (R W : WL) : LOk { s with R := R, W := W } := ⟨h.len, h.pos, h.wr⟩

theorem fT_ok {L : WL} (h : ListOk L) : (fT L = -1 ∧ fP L = 0 ∧ ordL L = []) ∨ ∃ x r, ordL L = x :: r ∧ fT L = x.1 ∧ fP L = x.2 ∧ okT x.1 ∧ okP x.2 ∧ x ∈ L := by
  unfold fT fP
  cases ho : ordL L with
  | nil => exact .inl ⟨rfl, rfl, rfl⟩
  | cons x r =>
    have hx : x ∈ L := (ordL_perm h).mem_iff.1 (by rw [ho]; simp)
    exact .inr ⟨x, r, rfl, rfl, rfl, (h.ok x hx).1, (h.ok x hx).2, hx⟩

end Go.Proofs.YtiiafhlckmkcnaaGreat

/- Locks, the plain laws: what always holds of one (LInv), and what holds where nobody more is to be let in (LS.still). No program in sight. -/
namespace Go.Proofs.YtiiafhlckmkcnaaGreat

structure LInv (s : LS) : Prop where
  ok : LOk s
  r : ListOk s.R
  w : ListOk s.W
  alone : s.wr ≠ -1 → anyC s.C = false
  none : ∀ x ∈ s.R, s.cnt x.1 = 0

def LS.still (s : LS) : Prop := s.letW = false ∧ s.letR = false

theorem ListOk.sub {L L' : WL} (h : ListOk L) (hs : L'.Sublist L) : ListOk L' := ⟨h.nodup.sublist (hs.map _), fun x hx => h.ok x (hs.subset hx)⟩
theorem takeL_sub {L : WL} (h : ListOk L) : (takeL L).Sublist L := by
  unfold takeL
  cases ordL L with
  | nil => exact List.Sublist.refl _
  | cons x r => show (wdel L x.1).Sublist L; rw [wdel_filter h.nodup]; exact List.filter_sublist
theorem takeL_len {L : WL} (h : ListOk L) (hn : fT L ≠ -1) : (takeL L).length + 1 = L.length := by
  have h1 := (ordL_perm h).length_eq
  have h2 := (ordL_perm (h.sub (takeL_sub h))).length_eq
  rw [ord_take h] at h2
  unfold fT at hn
  cases ho : ordL L with
  | nil => rw [ho] at hn; exact absurd rfl hn
  | cons x r => rw [ho] at h1 h2; simp at h1 h2; omega
theorem takeL_not {L : WL} (h : ListOk L) (hn : fT L ≠ -1) : ∀ x ∈ takeL L, x.1 ≠ fT L := by
  unfold fT takeL at *
  cases ho : ordL L with
  | nil => rw [ho] at hn; exact absurd rfl hn
  | cons x r =>
    intro y hy
    have hy2 : y ∈ wdel L x.1 := hy
    rw [wdel_filter h.nodup] at hy2
    have := (List.mem_filter.1 hy2).2
    simpa using this
theorem lvL_sub {L : WL} (h : ListOk L) (t : Int) : (lvL L t).Sublist L := by
  unfold lvL
  split
  · rw [wdel_filter h.nodup]; exact List.filter_sublist
  · exact List.Sublist.refl _
theorem lvL_take {L : WL} (h : ListOk L) (hn : fT L ≠ -1) : lvL L (fT L) = takeL L ∧ askR L (fT L) 1 true = 0 := by
  rcases fT_ok h with ⟨h1, _⟩ | ⟨x, r, ho, h1, h2, h3, h4, h5⟩
  · exact absurd h1 hn
  · have hh : hasR L x.1 = true := hasR_mem.2 ⟨x.2, h5⟩
    have ha : askR L x.1 1 true = 0 := by
      unfold askR
      unfold hasR at hh
      unfold okT at h3
      rw [if_neg (by omega), if_pos hh]
      rfl
    rw [h1]
    refine ⟨?_, ha⟩
    unfold takeL lvL
    rw [ho, if_pos ha]
theorem chgL_keys {L : WL} (h : ListOk L) (t p : Int) : (chgL L t p).map (·.1) = L.map (·.1) := by
  unfold chgL
  split
  · rw [wupd_map h.nodup, List.map_map]
    apply List.map_congr_left
    intro x hx
    simp only [Function.comp]
    split
    · rename_i e; exact e.symm
    · rfl
  · rfl
theorem chgL_mem {L : WL} (h : ListOk L) {t p : Int} : ∀ x ∈ chgL L t p, (x ∈ L ∧ x.1 ≠ t) ∨ (x = (t, p) ∧ askR L t p true = 0) ∨ (x ∈ L ∧ askR L t p true ≠ 0) := by
  intro x hx
  unfold chgL at hx
  split at hx
  · rename_i ha
    rw [wupd_map h.nodup] at hx
    obtain ⟨y, hy, rfl⟩ := List.mem_map.1 hx
    split
    · exact .inr (.inl ⟨rfl, ha⟩)
    · rename_i hne; exact .inl ⟨hy, hne⟩
  · rename_i ha; exact .inr (.inr ⟨hx, ha⟩)
theorem askR_ok {L : WL} {t p : Int} {b : Bool} (h : askR L t p b = 0) : okT t ∧ okP p ∧ hasR L t = b := by
  unfold askR at h
  split at h
  · omega
  · refine ⟨by unfold okT; omega, by unfold okP; omega, ?_⟩
    unfold hasR
    cases hc : (L.lookup t).isSome <;> cases b <;> simp [hc] at h ⊢
theorem askR_of {L : WL} {t p : Int} (ht : okT t) (hp : okP p) (b : Bool) : askR L t p b = if hasR L t = b then 0 else (if b = true then 6 else 7) := by
  unfold askR hasR
  unfold okT at ht
  unfold okP at hp
  rw [if_neg (by omega)]
  cases (L.lookup t).isSome <;> cases b <;> simp
theorem ListOk.chg {L : WL} (h : ListOk L) (t p : Int) : ListOk (chgL L t p) := by
  refine ⟨by rw [chgL_keys h]; exact h.nodup, fun x hx => ?_⟩
  rcases chgL_mem h x hx with ⟨h1, _⟩ | ⟨rfl, h1⟩ | ⟨h1, _⟩
  · exact h.ok x h1
  · exact ⟨(askR_ok h1).1, (askR_ok h1).2.1⟩
  · exact h.ok x h1
theorem ListOk.put {L : WL} (h : ListOk L) (t p : Int) : ListOk (putL L t p) := by
  unfold putL
  split
  · rename_i ha
    obtain ⟨h1, h2, h3⟩ := askR_ok ha
    refine ⟨?_, fun x hx => ?_⟩
    · rw [List.map_append]
      refine List.nodup_append.2 ⟨h.nodup, by simp, ?_⟩
      intro a hma b hb e
      simp at hb
      subst hb e
      obtain ⟨x, hx, rfl⟩ := List.mem_map.1 hma
      have : hasR L x.1 = true := hasR_mem.2 ⟨x.2, hx⟩
      rw [h3] at this
      cases this
    · rcases List.mem_append.1 hx with hx | hx
      · exact h.ok x hx
      · simp at hx; subst hx; exact ⟨h1, h2⟩
  · exact h
theorem putL_mem {L : WL} {t p : Int} : ∀ x ∈ putL L t p, x ∈ L ∨ x = (t, p) := by
  intro x hx
  unfold putL at hx
  split at hx
  · simpa using hx
  · exact .inl hx
theorem hasR_of_mem {L : WL} {x : Int × Int} (h : x ∈ L) : hasR L x.1 = true := hasR_mem.2 ⟨x.2, h⟩

theorem LS.held_no {s : LS} (h : s.held = false) : s.wr = -1 ∧ anyC s.C = false := by
  unfold LS.held at h
  simpa using h
theorem cnt_none {s : LS} (h : LOk s) (ha : anyC s.C = false) (t : Int) : s.cnt t = 0 := by
  have h1 := h.cnt t
  rcases Int.lt_or_le 0 (s.cnt t) with h2 | h2
  · have := anyC_iff.2 ⟨t, h2⟩
    rw [ha] at this
    cases this
  · omega
theorem LS.letW_yes {s : LS} (h : s.letW = true) : fT s.W ≠ -1 ∧ s.held = false ∧ fP s.R ≤ fP s.W := by
  unfold LS.letW at h
  simp only [Bool.and_eq_true, Bool.not_eq_true', decide_eq_false_iff_not, decide_eq_true_eq] at h
  exact ⟨h.1.1, h.1.2, h.2⟩
theorem LS.letR_yes {s : LS} (h : s.letR = true) : fT s.R ≠ -1 ∧ s.wr = -1 ∧ (0 < s.cnt (fT s.R) ∨ fP s.W < fP s.R) := by
  unfold LS.letR LS.mayR at h
  simp only [Bool.and_eq_true, Bool.or_eq_true, Bool.not_eq_true', decide_eq_false_iff_not, decide_eq_true_eq] at h
  exact ⟨h.1, h.2.1, h.2.2⟩
theorem fT_mem {L : WL} (h : ListOk L) (hn : fT L ≠ -1) : okT (fT L) ∧ ∃ p, (fT L, p) ∈ L := by
  rcases fT_ok h with ⟨h1, _⟩ | ⟨x, r, ho, h1, h2, h3, h4, h5⟩
  · exact absurd h1 hn
  · rw [h1]; exact ⟨h3, x.2, h5⟩

theorem LInv.inW {s : LS} (h : LInv s) (hl : s.letW = true) : LInv s.inW := by
  obtain ⟨h1, h2, _⟩ := LS.letW_yes hl
  exact ⟨(h.ok.lists s.R (takeL s.W)).setW (.inr (fT_mem h.w h1).1), h.r, h.w.sub (takeL_sub h.w), fun _ => (LS.held_no h2).2, h.none⟩
theorem LInv.inR {s : LS} (h : LInv s) (hl : s.letR = true) : LInv s.inR := by
  obtain ⟨h1, h2, _⟩ := LS.letR_yes hl
  obtain ⟨ht, p, hm⟩ := fT_mem h.r h1
  have h0 := h.none _ hm
  simp only at h0
  refine ⟨(h.ok.lists (takeL s.R) s.W).setC ht (by omega) (by omega), h.r.sub (takeL_sub h.r), h.w, fun hn => absurd h2 hn, fun x hx => ?_⟩
  have hne := takeL_not h.r h1 x hx
  show cntC (s.C.set (fT s.R).toNat _) x.1 = 0
  rw [cnt_set ht h.ok.len, if_neg hne]
  exact h.none x ((takeL_sub h.r).subset hx)

theorem letN_spec : ∀ (n : Nat) (s : LS), LInv s → s.R.length + s.W.length ≤ n → LInv (s.letN n).2 ∧ (s.letN n).2.still
  | 0, s, h, hn => by
    have h1 : s.R = [] := List.eq_nil_of_length_eq_zero (by omega)
    have h2 : s.W = [] := List.eq_nil_of_length_eq_zero (by omega)
    refine ⟨h, ?_⟩
    unfold LS.still LS.letN LS.letW LS.letR
    rw [h1, h2]
    exact ⟨rfl, rfl⟩
  | n + 1, s, h, hn => by
    unfold LS.letN
    by_cases h1 : s.letW = true
    · rw [if_pos h1]
      have := takeL_len h.w (LS.letW_yes h1).1
      exact letN_spec n s.inW (h.inW h1) (by show s.R.length + (takeL s.W).length ≤ n; omega)
    · rw [if_neg h1]
      by_cases h2 : s.letR = true
      · rw [if_pos h2]
        have := takeL_len h.r (LS.letR_yes h2).1
        exact letN_spec n s.inR (h.inR h2) (by show (takeL s.R).length + s.W.length ≤ n; omega)
      · rw [if_neg h2]
        exact ⟨h, by simpa using h1, by simpa using h2⟩
theorem LInv.let_ {s : LS} (h : LInv s) : LInv s.let_.2 ∧ s.let_.2.still := letN_spec _ s h (Nat.le_refl _)

theorem letN_len : ∀ (n : Nat) (s : LS), (s.letN n).1.length ≤ n
  | 0, s => by simp [LS.letN]
  | n + 1, s => by
    unfold LS.letN
    split
    · have := letN_len n s.inW; simp; omega
    · split
      · have := letN_len n s.inR; simp; omega
      · simp

/-! ### each call keeps it -/
theorem LS.is_no {s : LS} {t : Int} (h : s.is t = false) : hasR s.W t = false ∧ hasR s.R t = false := by
  unfold LS.is at h
  simpa using h
theorem LS.wantE_ok {s : LS} {wr : Bool} {t p : Int} (h : s.wantE wr t p = 0) : okT t ∧ okP p ∧ s.is t = false ∧ s.wr ≠ t ∧ (wr = true → ¬ 0 < s.cnt t) ∧ (wr = false → s.cnt t < 32767) := by
  unfold LS.wantE at h
  split at h
  · rename_i ha
    unfold LS.badE at h
    split at h
    · omega
    · rename_i hb
      split at h
      · omega
      · rename_i hc
        refine ⟨thB_iff.1 ha.1, prB_iff.1 ha.2, ?_, fun e => hb (.inr (.inl e)), fun hw hc => hb (.inr (.inr ⟨hw, hc⟩)), fun hw => ?_⟩
        · cases hi : s.is t with
          | false => rfl
          | true => exact absurd (.inl hi) hb
        · rcases Int.lt_or_le (s.cnt t) 32767 with h1 | h1
          · exact h1
          · exact absurd ⟨hw, h1⟩ hc
  · omega
theorem LInv.hold {s : LS} (h : LInv s) {wr : Bool} {t p : Int} (he : s.wantE wr t p = 0) (hm : s.may wr t p = true) : LInv (s.hold wr t) := by
  obtain ⟨h1, h2, h3, h4, h5, h6⟩ := LS.wantE_ok he
  cases wr
  · have hm2 : s.wr = -1 := by
      unfold LS.may LS.mayR at hm
      simp at hm
      exact hm.1
    have h0 := h.ok.cnt t
    have h6 := h6 rfl
    refine ⟨h.ok.setC h1 (by omega) (by omega), h.r, h.w, fun hn => absurd hm2 hn, fun x hx => ?_⟩
    have hne : x.1 ≠ t := fun e => by
      have this : hasR s.R x.1 = true := hasR_of_mem hx
      rw [e, (LS.is_no h3).2] at this
      cases this
    show cntC (s.C.set t.toNat _) x.1 = 0
    rw [cnt_set h1 h.ok.len, if_neg hne]
    exact h.none x hx
  · have hm2 := LS.held_no (s := s) (by unfold LS.may at hm; simpa using hm)
    exact ⟨h.ok.setW (.inr h1), h.r, h.w, fun _ => hm2.2, h.none⟩
theorem LInv.putW {s : LS} (h : LInv s) {wr : Bool} {t p : Int} (he : s.wantE wr t p = 0) (hm : s.may wr t p = false) : LInv (s.putW wr t p) := by
  obtain ⟨h1, h2, h3, h4, h5, h6⟩ := LS.wantE_ok he
  cases wr
  · refine ⟨h.ok.lists _ _, h.r.put t p, h.w, h.alone, fun x hx => ?_⟩
    rcases putL_mem x hx with hx | rfl
    · exact h.none x hx
    · show s.cnt t = 0
      by_cases hw : s.wr = -1
      · unfold LS.may LS.mayR at hm
        simp [hw] at hm
        have := h.ok.cnt t
        omega
      · exact cnt_none h.ok (h.alone hw) t
  · exact ⟨h.ok.lists _ _, h.r, h.w.put t p, h.alone, h.none⟩
theorem LInv.want {s : LS} (h : LInv s) (wr : Bool) (t p : Int) (wait : Bool) : LInv (s.wantS wr t p wait) := by
  unfold LS.wantS
  split
  · rename_i he
    split
    · rename_i hm; exact h.hold he hm
    · rename_i hm
      split
      · exact h.putW he (by simpa using hm)
      · exact h
  · exact h
theorem LS.unE_ok {s : LS} {t : Int} (h : s.unE t = 0) : okT t ∧ (s.wr = t ∨ (s.wr ≠ t ∧ s.cnt t ≠ 0)) := by
  unfold LS.unE at h
  split at h
  · rename_i ha
    refine ⟨thB_iff.1 ha, ?_⟩
    split at h
    · rename_i hb; exact .inl hb
    · rename_i hb
      split at h
      · omega
      · rename_i hc; exact .inr ⟨hb, hc⟩
  · omega
theorem LInv.un1 {s : LS} (h : LInv s) {t : Int} (he : s.unE t = 0) : LInv (s.un1 t) := by
  obtain ⟨ht, h1⟩ := LS.unE_ok he
  unfold LS.un1
  rcases h1 with h1 | ⟨h1, h2⟩
  · rw [if_pos h1]
    exact ⟨h.ok.setW (.inl rfl), h.r, h.w, fun hn => absurd rfl hn, h.none⟩
  · rw [if_neg h1]
    have h0 := h.ok.cnt t
    refine ⟨h.ok.setC ht (by omega) (by omega), h.r, h.w, fun hn => ?_, fun x hx => ?_⟩
    · exact absurd (cnt_none h.ok (h.alone hn) t) h2
    · have hne : x.1 ≠ t := fun e => h2 (by rw [← e]; exact h.none x hx)
      show cntC (s.C.set t.toNat _) x.1 = 0
      rw [cnt_set ht h.ok.len, if_neg hne]
      exact h.none x hx
theorem LInv.unS {s : LS} (h : LInv s) (t : Int) : LInv (s.unS t) := by
  unfold LS.unS
  split
  · rename_i he; exact (h.un1 he).let_.1
  · exact h
theorem LInv.lv1 {s : LS} (h : LInv s) (t : Int) : LInv (s.lv1 t) :=
  ⟨h.ok.lists _ _, h.r.sub (lvL_sub h.r t), h.w.sub (lvL_sub h.w t), h.alone, fun x hx => h.none x ((lvL_sub h.r t).subset hx)⟩
theorem LInv.lvS {s : LS} (h : LInv s) (t : Int) : LInv (s.lvS t) := by
  unfold LS.lvS
  split
  · exact (h.lv1 t).let_.1
  · exact h
theorem LInv.ch1 {s : LS} (h : LInv s) (t p : Int) : LInv (s.ch1 t p) := by
  refine ⟨h.ok.lists _ _, h.r.chg t p, h.w.chg t p, h.alone, fun x hx => ?_⟩
  rcases chgL_mem h.r x hx with ⟨h1, _⟩ | ⟨rfl, h1⟩ | ⟨h1, _⟩
  · exact h.none x h1
  · obtain ⟨q, hq⟩ := hasR_mem.1 (askR_ok h1).2.2
    have h3 : s.cnt t = 0 := h.none (t, q) hq
    exact h3
  · exact h.none x h1
theorem LInv.chS {s : LS} (h : LInv s) (t p : Int) : LInv (s.chS t p) := by
  unfold LS.chS
  split
  · exact (h.ch1 t p).let_.1
  · exact h
theorem LInv.new : LInv lnew := ⟨LOk.new, ⟨by simp [lnew], by simp [lnew]⟩, ⟨by simp [lnew], by simp [lnew]⟩, fun h => absurd rfl h, by simp [lnew]⟩

end Go.Proofs.YtiiafhlckmkcnaaGreat

/- Messages in the order of their priorities, plain. No program in sight. -/
namespace Go.Proofs.YtiiafhlckmkcnaaGreat

theorem flatMap_cong {α β : Type} {f g : α → List β} : ∀ {l : List α}, (∀ a ∈ l, f a = g a) → l.flatMap f = l.flatMap g
  | [], _ => rfl
  | a :: l, h => by
    rw [List.flatMap_cons, List.flatMap_cons, h a (by simp), flatMap_cong fun b hb => h b (by simp [hb])]
theorem filter_two {α : Type} (q : α → Bool) : ∀ (l : List α), (l.filter q).length + (l.filter fun x => !q x).length = l.length
  | [] => rfl
  | x :: l => by
    have := filter_two q l
    by_cases h : q x = true
    · simp [h]; omega
    · simp [h]; omega

/-! ### messages by their priorities -/
def ordG (ps : List Int) (L : WL) : WL := ps.flatMap fun p => L.filter fun x => x.2 == p
def pri32 : List Int := (List.range 32).map fun (i : Nat) => 31 - (i : Int)
/-- The messages in their order. -/
def ordM (L : WL) : WL := (List.range 32).flatMap fun (i : Nat) => L.filter fun x => x.2 == 31 - (i : Int)
theorem ordM_G (L : WL) : ordM L = ordG pri32 L := by
  unfold ordM ordG pri32
  rw [List.flatMap_map]
theorem ordG_cons (p : Int) (ps : List Int) (L : WL) : ordG (p :: ps) L = L.filter (fun x => x.2 == p) ++ ordG ps L := rfl
theorem ordG_mem {ps : List Int} {L : WL} {x : Int × Int} : x ∈ ordG ps L ↔ x ∈ L ∧ x.2 ∈ ps := by
  unfold ordG
  simp only [List.mem_flatMap, List.mem_filter, beq_iff_eq]
  constructor
  · rintro ⟨p, hp, hx, rfl⟩; exact ⟨hx, hp⟩
  · rintro ⟨hx, hp⟩; exact ⟨_, hp, hx, rfl⟩
theorem pri32_lt : pri32.Pairwise (fun a b => b < a) := by decide
theorem pri32_mem {p : Int} : p ∈ pri32 ↔ 0 ≤ p ∧ p ≤ 31 := by
  unfold pri32
  simp only [List.mem_map, List.mem_range]
  constructor
  · rintro ⟨i, hi, rfl⟩; omega
  · rintro ⟨h0, h1⟩; exact ⟨(31 - p).toNat, by omega, by omega⟩
theorem ordM_mem {L : WL} {x : Int × Int} : x ∈ ordM L ↔ x ∈ L ∧ 0 ≤ x.2 ∧ x.2 ≤ 31 := by rw [ordM_G, ordG_mem, pri32_mem]

/-- A message laid where it belongs: ahead of the first of a lower priority. -/
def insM (l : WL) (m : Int × Int) : WL := l.takeWhile (fun x => decide (m.2 ≤ x.2)) ++ m :: l.dropWhile (fun x => decide (m.2 ≤ x.2))
theorem takeW_all {α : Type} {q : α → Bool} : ∀ {a b : List α}, (∀ x ∈ a, q x = true) → (a ++ b).takeWhile q = a ++ b.takeWhile q ∧ (a ++ b).dropWhile q = b.dropWhile q
  | [], _, _ => ⟨rfl, rfl⟩
  | x :: a, b, h => by
    obtain ⟨h1, h2⟩ := takeW_all (a := a) (b := b) (fun y hy => h y (by simp [hy]))
    have hx := h x (by simp)
    simp [hx, h1, h2]
theorem takeW_none {α : Type} {q : α → Bool} {b : List α} (h : ∀ x ∈ b, q x = false) : b.takeWhile q = [] ∧ b.dropWhile q = b := by
  cases b with
  | nil => exact ⟨rfl, rfl⟩
  | cons x b => have hx := h x (by simp); simp [hx]
theorem insM_all {a b : WL} {m : Int × Int} (h : ∀ x ∈ a, m.2 ≤ x.2) : insM (a ++ b) m = a ++ insM b m := by
  obtain ⟨h1, h2⟩ := takeW_all (q := fun x : Int × Int => decide (m.2 ≤ x.2)) (a := a) (b := b) (fun x hx => by simpa using h x hx)
  unfold insM
  rw [h1, h2, List.append_assoc]
theorem insM_none {b : WL} {m : Int × Int} (h : ∀ x ∈ b, x.2 < m.2) : insM b m = m :: b := by
  obtain ⟨h1, h2⟩ := takeW_none (q := fun x : Int × Int => decide (m.2 ≤ x.2)) (b := b) (fun x hx => by simpa using h x hx)
  unfold insM
  rw [h1, h2]
  rfl
theorem ordG_put {m : Int × Int} : ∀ {ps : List Int} {L : WL}, ps.Pairwise (fun a b => b < a) → m.2 ∈ ps → ordG ps (L ++ [m]) = insM (ordG ps L) m
  | [], _, _, h => by cases h
  | p :: ps, L, hp, hm => by
    obtain ⟨hp1, hp2⟩ := List.pairwise_cons.1 hp
    rw [ordG_cons, ordG_cons, List.filter_append]
    rw [insM_all (fun x hx => by
      have h1 := (List.mem_filter.1 hx).2
      have h1 : x.2 = p := by simpa using h1
      rcases List.mem_cons.1 hm with h | h
      · omega
      · have := hp1 _ h; omega)]
    by_cases h : m.2 = p
    · rw [insM_none (fun x hx => by rw [h]; exact hp1 _ (ordG_mem.1 hx).2)]
      have e : ordG ps (L ++ [m]) = ordG ps L := by
        unfold ordG
        apply flatMap_cong
        intro p' hp'
        have := hp1 p' hp'
        rw [List.filter_append, List.filter_cons_of_neg (by simp; omega), List.filter_nil, List.append_nil]
      rw [e, List.filter_cons_of_pos (by simp [h]), List.filter_nil, List.append_assoc]
      rfl
    · have hm2 : m.2 ∈ ps := by rcases List.mem_cons.1 hm with h1 | h1; exact absurd h1 h; exact h1
      rw [ordG_put hp2 hm2, List.filter_cons_of_neg (by simpa using h), List.filter_nil, List.append_nil]
theorem ordM_put {L : WL} {m : Int × Int} (h : 0 ≤ m.2 ∧ m.2 ≤ 31) : ordM (L ++ [m]) = insM (ordM L) m := by
  rw [ordM_G, ordM_G, ordG_put pri32_lt (pri32_mem.2 h)]

/-- The first message gone. -/
def delM (L : WL) (p : Int) : WL := L.eraseP fun x => x.2 == p
theorem filter_eraseP {q r : Int × Int → Bool} : ∀ {L : WL}, (∀ x, q x = true → r x = false) → (L.eraseP q).filter r = L.filter r
  | [], _ => rfl
  | x :: L, h => by
    by_cases hx : q x = true
    · simp [hx, h x hx]
    · simp only [hx, List.eraseP_cons_of_neg, Bool.not_eq_true]
      by_cases hr : r x = true
      · simp [hr, filter_eraseP h]
      · simp [hr, filter_eraseP h]
theorem filter_eraseP_self {q : Int × Int → Bool} : ∀ {L : WL}, (L.eraseP q).filter q = (L.filter q).tail
  | [] => rfl
  | x :: L => by
    by_cases hx : q x = true
    · simp [hx]
    · simp only [hx, List.eraseP_cons_of_neg, Bool.not_eq_true, List.filter_cons_of_neg]
      exact filter_eraseP_self
theorem ordG_del {x : Int × Int} {r : WL} : ∀ {ps : List Int} {L : WL}, ps.Pairwise (fun a b => b < a) → ordG ps L = x :: r → ordG ps (delM L x.2) = r
  | [], _, _, h => by cases h
  | p :: ps, L, hp, h => by
    obtain ⟨hp1, hp2⟩ := List.pairwise_cons.1 hp
    rw [ordG_cons] at h
    cases hf : L.filter (fun y => y.2 == p) with
    | nil =>
      rw [hf, List.nil_append] at h
      have hx : x.2 ∈ ps := (ordG_mem.1 (show x ∈ ordG ps L by rw [h]; simp)).2
      have := hp1 _ hx
      rw [ordG_cons, ordG_del hp2 h]
      unfold delM
      rw [filter_eraseP (fun y hy => by simp at hy; simp; omega), hf, List.nil_append]
    | cons y t =>
      rw [hf] at h
      have hy : y ∈ L.filter (fun z => z.2 == p) := by rw [hf]; simp
      have hyp : y.2 = p := by simpa using (List.mem_filter.1 hy).2
      simp only [List.cons_append, List.cons.injEq] at h
      obtain ⟨rfl, rfl⟩ := h
      rw [ordG_cons, hyp]
      unfold delM
      rw [filter_eraseP_self, hf, List.tail_cons]
      congr 1
      unfold ordG
      apply flatMap_cong
      intro p' hp'
      have := hp1 p' hp'
      exact filter_eraseP (fun z hz => by simp at hz; simp; omega)
theorem ordM_del {L : WL} {x : Int × Int} {r : WL} (h : ordM L = x :: r) : ordM (delM L x.2) = r := by
  rw [ordM_G] at h ⊢
  exact ordG_del pri32_lt h

theorem ordG_perm : ∀ {ps : List Int} {L : WL}, ps.Pairwise (fun a b => b < a) → (∀ x ∈ L, x.2 ∈ ps) → (ordG ps L).length = L.length
  | [], L, _, h => by
    cases L with
    | nil => rfl
    | cons x L => exact absurd (h x (by simp)) (by simp)
  | p :: ps, L, hp, h => by
    obtain ⟨hp1, hp2⟩ := List.pairwise_cons.1 hp
    rw [ordG_cons, List.length_append]
    have e : ordG ps L = ordG ps (L.filter fun x => !(x.2 == p)) := by
      unfold ordG
      apply flatMap_cong
      intro p' hp'
      have := hp1 p' hp'
      rw [List.filter_filter]
      apply List.filter_congr
      intro x _
      by_cases hx : x.2 = p'
      · have : ¬ p' = p := by omega
        simp [hx, this]
      · simp [hx]
    rw [e, ordG_perm hp2 (fun x hx => by
      obtain ⟨h1, h2⟩ := List.mem_filter.1 hx
      rcases List.mem_cons.1 (h x h1) with h3 | h3
      · simp [h3] at h2
      · exact h3)]
    have := filter_two (fun x : Int × Int => x.2 == p) L
    omega
def MsgOk (L : WL) : Prop := ∀ x ∈ L, 0 ≤ x.2 ∧ x.2 ≤ 31
theorem ordM_len {L : WL} (h : MsgOk L) : (ordM L).length = L.length := by
  rw [ordM_G]
  exact ordG_perm pri32_lt (fun x hx => pri32_mem.2 (h x hx))
theorem MsgOk.put {L : WL} {m : Int × Int} (h : MsgOk L) (hm : 0 ≤ m.2 ∧ m.2 ≤ 31) : MsgOk (L ++ [m]) := fun x hx => by
  rcases List.mem_append.1 hx with h1 | h1
  · exact h x h1
  · simp at h1; subst h1; exact hm
theorem MsgOk.del {L : WL} (h : MsgOk L) (p : Int) : MsgOk (delM L p) := fun x hx => h x (List.mem_of_mem_eraseP hx)

end Go.Proofs.YtiiafhlckmkcnaaGreat

/- Queues of messages, the plain side: room, messages, who waits to send (with what), to receive. No program in sight. -/
namespace Go.Proofs.YtiiafhlckmkcnaaGreat

/-! ### a queue -/
structure QS where
  room : Int
  L : WL
  S : WL
  R : WL
  M : WL

def QS.ord (s : QS) : WL := ordM s.L
/-- What thread t sends. -/
def mAt (M : WL) (t : Int) : Int × Int := if 0 ≤ t then M.getD t.toNat (0, 0) else (0, 0)
def QS.is (s : QS) (t : Int) : Bool := hasR s.S t || hasR s.R t
def tpB (t p : Int) : Bool := decide (0 ≤ t) && decide (t < 16) && (decide (1 ≤ p) && decide (p ≤ 31))
def mB (q : Int) : Bool := decide (0 ≤ q) && decide (q ≤ 31)
/-- Why a thread that wants to send, to receive, is refused; one that waits, to leave, to change. -/
def QS.askE (s : QS) (t p q : Int) (waits : Bool) : Int :=
  if tpB t p = true ∧ mB q = true then (if s.is t = true then (if waits = true then 0 else 7) else (if waits = true then 6 else 0)) else 2
def QS.full (s : QS) : Bool := decide ((s.L.length : Int) = s.room)

structure PD where
  done : Bool
  v : Int
  p : Int
  other : Int
def pd0 : PD := ⟨false, 0, 0, 0⟩

/-- Send. -/
def QS.sendS (s : QS) (t p : Int) (m : Int × Int) : QS :=
  if s.askE t p m.2 false = 0 then
    (if headB (ordL s.R) = true then { s with R := takeL s.R }
     else if s.full = true then { s with S := putL s.S t p, M := s.M.set t.toNat m }
     else { s with L := s.L ++ [m] })
  else s
def QS.sendP (s : QS) (t p : Int) (m : Int × Int) : PD :=
  if s.askE t p m.2 false = 0 then
    (if headB (ordL s.R) = true then ⟨true, m.1, m.2, headT (ordL s.R)⟩
     else if s.full = true then ⟨false, m.1, m.2, -1⟩ else ⟨true, m.1, m.2, -1⟩)
  else pd0

/-- Receive. -/
def QS.rcv1 (s : QS) : QS :=
  match s.ord with
  | [] => s
  | x :: _ => if headB (ordL s.S) = true then { s with L := delM s.L x.2 ++ [mAt s.M (headT (ordL s.S))], S := takeL s.S } else { s with L := delM s.L x.2 }
def QS.rcvS (s : QS) (t p : Int) : QS :=
  if s.askE t p 0 false = 0 then (match s.ord with | [] => { s with R := putL s.R t p } | _ :: _ => s.rcv1) else s
def QS.rcvP (s : QS) (t p : Int) : PD :=
  if s.askE t p 0 false = 0 then
    (match s.ord with | [] => ⟨false, 0, 0, -1⟩ | x :: _ => ⟨true, x.1, x.2, if headB (ordL s.S) = true then headT (ordL s.S) else -1⟩)
  else pd0

/-- Leave, Change. -/
def QS.lvS (s : QS) (t : Int) : QS := if s.askE t 1 0 true = 0 then (if hasR s.S t = true then { s with S := lvL s.S t } else { s with R := lvL s.R t }) else s
def QS.chS (s : QS) (t p : Int) : QS := if s.askE t p 0 true = 0 then (if hasR s.S t = true then { s with S := chgL s.S t p } else { s with R := chgL s.R t p }) else s

def qnew (room : Int) : QS := ⟨room, [], [], [], List.replicate 16 (0, 0)⟩
def roomB (room : Int) : Bool := decide (1 ≤ room) && decide (room ≤ 32)

/-- What always holds of a queue. -/
structure QInv (s : QS) : Prop where
  room : 1 ≤ s.room ∧ s.room ≤ 32
  few : (s.L.length : Int) ≤ s.room
  msg : MsgOk s.L
  ls : ListOk s.S
  lr : ListOk s.R
  len : s.M.length = 16
  held : ∀ t, 0 ≤ (mAt s.M t).2 ∧ (mAt s.M t).2 ≤ 31

theorem tpB_iff {t p : Int} : tpB t p = true ↔ okT t ∧ okP p := by unfold tpB okT okP; simp [and_assoc]
theorem mB_iff {q : Int} : mB q = true ↔ 0 ≤ q ∧ q ≤ 31 := by unfold mB; simp
theorem askE_ok {s : QS} {t p q : Int} (h : s.askE t p q false = 0) : okT t ∧ okP p ∧ (0 ≤ q ∧ q ≤ 31) ∧ s.is t = false := by
  unfold QS.askE at h
  split at h
  · rename_i h1
    cases hi : s.is t with
    | true => simp [hi] at h
    | false => exact ⟨(tpB_iff.1 h1.1).1, (tpB_iff.1 h1.1).2, mB_iff.1 h1.2, rfl⟩
  · omega
theorem askE_ok2 {s : QS} {t p q : Int} (h : s.askE t p q true = 0) : okT t ∧ okP p ∧ (0 ≤ q ∧ q ≤ 31) ∧ s.is t = true := by
  unfold QS.askE at h
  split at h
  · rename_i h1
    cases hi : s.is t with
    | false => simp [hi] at h
    | true => exact ⟨(tpB_iff.1 h1.1).1, (tpB_iff.1 h1.1).2, mB_iff.1 h1.2, rfl⟩
  · omega
theorem mAt_set {M : WL} {t a : Int} {m : Int × Int} (ht : okT t) (hl : M.length = 16) : mAt (M.set t.toNat m) a = if a = t then m else mAt M a := by
  unfold okT at ht
  unfold mAt
  by_cases h0 : 0 ≤ a
  · rw [if_pos h0, if_pos h0, List.getD_eq_getElem?_getD, List.getD_eq_getElem?_getD, List.getElem?_set]
    by_cases h : a = t
    · subst h
      rw [if_pos rfl, if_pos (by omega), if_pos rfl]
      rfl
    · rw [if_neg (by omega), if_neg h]
  · rw [if_neg h0, if_neg h0, if_neg (by omega)]
theorem ListOk.putL {L : WL} (h : ListOk L) (t p : Int) : ListOk (putL L t p) := by
  unfold Go.Proofs.YtiiafhlckmkcnaaGreat.putL
  split
  · rename_i ha
    unfold askR at ha
    split at ha
    · omega
    · rename_i h1
      cases hl : (L.lookup t).isSome with
      | true => simp [hl] at ha
      | false =>
        have hn : L.lookup t = none := by simpa using hl
        refine ⟨?_, fun x hx => ?_⟩
        · rw [List.map_append]
          refine List.nodup_append.2 ⟨h.nodup, by simp, ?_⟩
          intro a hm b hb e
          simp at hb
          subst hb
          subst e
          obtain ⟨x, hx, rfl⟩ := List.mem_map.1 hm
          have : hasR L x.1 = true := hasR_mem.2 ⟨x.2, hx⟩
          unfold hasR at this
          rw [hn] at this
          cases this
        · rcases List.mem_append.1 hx with h2 | h2
          · exact h.ok x h2
          · simp at h2
            subst h2
            unfold okT okP
            simp only
            omega
  · exact h

theorem mAt_rep (t : Int) : mAt (List.replicate 16 (0, 0)) t = (0, 0) := by
  unfold mAt
  split
  · rw [List.getD_eq_getElem?_getD, List.getElem?_replicate]
    split <;> rfl
  · rfl
theorem ListOk.nil : ListOk [] := ⟨List.nodup_nil, fun x hx => (by cases hx)⟩
theorem QInv.new {room : Int} (h : 1 ≤ room ∧ room ≤ 32) : QInv (qnew room) := by
  refine ⟨h, ?_, fun x hx => (by cases hx), ListOk.nil, ListOk.nil, by simp [qnew], fun t => ?_⟩
  · show ((0 : Nat) : Int) ≤ room
    omega
  · unfold qnew
    rw [mAt_rep]
    exact ⟨by decide, by decide⟩

end Go.Proofs.YtiiafhlckmkcnaaGreat
