
/- Locks for readers and writers, the plain side: who holds one, who waits, who is let in. No program in sight. -/
import Derived.Test.YtiiafhlckmkcnaaOrd
import Derived.Test.YtiiafhlckmkcnaaBlk
namespace Go.Proofs.Ytiiafhlckmkcnaa

/-- Who holds it to write (-1: nobody), how often each holds it to read, who waits to read, to write. -/
structure LS where
  wr : Int
  C : CL
  R : WL
  W : WL

def thB (t : Int) : Bool := decide (0 ≤ t) && decide (t < 16)
def prB (p : Int) : Bool := decide (1 ≤ p) && decide (p ≤ 31)
theorem thB_iff {t : Int} : thB t = true ↔ okT t := by unfold thB okT; simp
theorem prB_iff {p : Int} : prB p = true ↔ okP p := by unfold prB okP; simp
theorem thB_no {t : Int} : thB t = false ↔ ¬ okT t := by rw [← thB_iff]; simp
theorem prB_no {p : Int} : prB p = false ↔ ¬ okP p := by rw [← prB_iff]; simp

/-- Who waits first, and its priority. -/
def fT (L : WL) : Int := match ordL L with | [] => -1 | x :: _ => x.1
def fP (L : WL) : Int := match ordL L with | [] => 0 | x :: _ => x.2
def cntC (C : CL) (t : Int) : Int := if 0 ≤ t then cAt C t.toNat else 0
def anyC (C : CL) : Bool := C.any (fun x => decide (0 < x))
def LS.cnt (s : LS) (t : Int) : Int := cntC s.C t
def LS.held (s : LS) : Bool := !decide (s.wr = -1) || anyC s.C
def LS.mayR (s : LS) (t p : Int) : Bool := decide (s.wr = -1) && (decide (0 < s.cnt t) || decide (fP s.W < p))
def LS.may (s : LS) (wr : Bool) (t p : Int) : Bool := if wr = true then !s.held else s.mayR t p
def LS.hold (s : LS) (wr : Bool) (t : Int) : LS := if wr = true then { s with wr := t } else { s with C := s.C.set t.toNat (s.cnt t + 1) }
def LS.line (s : LS) (wr : Bool) : WL := if wr = true then s.W else s.R
def LS.putW (s : LS) (wr : Bool) (t p : Int) : LS := if wr = true then { s with W := putL s.W t p } else { s with R := putL s.R t p }
def LS.is (s : LS) (t : Int) : Bool := hasR s.W t || hasR s.R t
/-- What is wrong with who wants it. -/
def LS.badE (s : LS) (wr : Bool) (t : Int) : Int := if s.is t = true ∨ s.wr = t ∨ (wr = true ∧ 0 < s.cnt t) then 7 else if wr = false ∧ 32767 ≤ s.cnt t then 5 else 0
def LS.wantE (s : LS) (wr : Bool) (t p : Int) : Int := if thB t = true ∧ prB p = true then s.badE wr t else 2
def LS.wantB (s : LS) (wr : Bool) (t p : Int) : Bool := decide (s.wantE wr t p = 0) && s.may wr t p
def LS.wantS (s : LS) (wr : Bool) (t p : Int) (wait : Bool) : LS :=
  if s.wantE wr t p = 0 then (if s.may wr t p = true then s.hold wr t else if wait = true then s.putW wr t p else s) else s

/-- Who is let in next. -/
def LS.letW (s : LS) : Bool := !decide (fT s.W = -1) && !s.held && decide (fP s.R ≤ fP s.W)
def LS.letR (s : LS) : Bool := !decide (fT s.R = -1) && s.mayR (fT s.R) (fP s.R)
def LS.inW (s : LS) : LS := { s with W := takeL s.W, wr := fT s.W }
def LS.inR (s : LS) : LS := { s with R := takeL s.R, C := s.C.set (fT s.R).toNat (s.cnt (fT s.R) + 1) }
def LS.letN : Nat → LS → List Int × LS
  | 0, s => ([], s)
  | n + 1, s => if s.letW = true then (fT s.W :: (letN n s.inW).1, (letN n s.inW).2) else if s.letR = true then (fT s.R :: (letN n s.inR).1, (letN n s.inR).2) else ([], s)
def LS.let_ (s : LS) : List Int × LS := s.letN (s.R.length + s.W.length)

/-- Unlock. -/
def LS.unE (s : LS) (t : Int) : Int := if thB t = true then (if s.wr = t then 0 else if s.cnt t = 0 then 6 else 0) else 2
def LS.un1 (s : LS) (t : Int) : LS := if s.wr = t then { s with wr := -1 } else { s with C := s.C.set t.toNat (s.cnt t - 1) }
def LS.unS (s : LS) (t : Int) : LS := if s.unE t = 0 then (s.un1 t).let_.2 else s
def LS.unL (s : LS) (t : Int) : List Int := if s.unE t = 0 then (s.un1 t).let_.1 else []

/-- Leave, Change. -/
def LS.chE (s : LS) (t p : Int) : Int := if thB t = true ∧ prB p = true then (if s.is t = true then 0 else 6) else 2
def LS.lv1 (s : LS) (t : Int) : LS := { s with R := lvL s.R t, W := lvL s.W t }
def LS.lvS (s : LS) (t : Int) : LS := if s.chE t 1 = 0 then (s.lv1 t).let_.2 else s
def LS.lvT (s : LS) (t : Int) : List Int := if s.chE t 1 = 0 then (s.lv1 t).let_.1 else []
def LS.ch1 (s : LS) (t p : Int) : LS := { s with R := chgL s.R t p, W := chgL s.W t p }
def LS.chS (s : LS) (t p : Int) : LS := if s.chE t p = 0 then (s.ch1 t p).let_.2 else s
def LS.chT (s : LS) (t p : Int) : List Int := if s.chE t p = 0 then (s.ch1 t p).let_.1 else []

def lnew : LS := ⟨-1, List.replicate 16 0, [], []⟩

/-- What a lock's numbers always are. -/
structure LOk (s : LS) : Prop where
  len : s.C.length = 16
  pos : ∀ k : Nat, 0 ≤ cAt s.C k ∧ cAt s.C k ≤ 32767
  wr : s.wr = -1 ∨ okT s.wr

/-! ### the map of who holds it to read -/
def rdM (C : CL) : List (Int × Value) := (List.range C.length).filterMap fun (i : Nat) => if 0 < cAt C i then some ((i : Int), Value.int .i64 (cAt C i)) else none

theorem cAt_ge {C : CL} {k : Nat} (h : C.length ≤ k) : cAt C k = 0 := by
  unfold cAt
  rw [List.getD_eq_getElem?_getD, List.getElem?_eq_none h]
  rfl
theorem rdM_mem {C : CL} {a : Int} {v : Value} : (a, v) ∈ rdM C ↔ 0 ≤ a ∧ 0 < cntC C a ∧ v = .int .i64 (cntC C a) := by
  unfold rdM cntC
  simp only [List.mem_filterMap, List.mem_range, Option.ite_none_right_eq_some, Option.some.injEq, Prod.mk.injEq]
  constructor
  · rintro ⟨i, hi, h1, rfl, rfl⟩
    simp [h1]
  · rintro ⟨h0, h1, rfl⟩
    rw [if_pos h0] at h1 ⊢
    refine ⟨a.toNat, ?_, h1, by omega, rfl⟩
    rcases Nat.lt_or_ge a.toNat C.length with h | h
    · exact h
    · rw [cAt_ge h] at h1
      omega
theorem rdM_nodup (C : CL) : ((rdM C).map (·.1)).Nodup := by
  unfold rdM
  rw [List.map_filterMap]
  have h : ∀ l : List Nat, l.Nodup → (l.filterMap fun (i : Nat) => Option.map (fun x : Int × Value => x.1) (if 0 < cAt C i then some ((i : Int), Value.int .i64 (cAt C i)) else none)).Nodup := by
    intro l
    induction l with
    | nil => intro _; exact List.nodup_nil
    | cons i l ih =>
      intro hn
      have hn' := List.nodup_cons.1 hn
      rw [List.filterMap_cons]
      split
      · exact ih hn'.2
      · rename_i b hb
        refine List.nodup_cons.2 ⟨?_, ih hn'.2⟩
        intro hm
        obtain ⟨j, hj, hj2⟩ := List.mem_filterMap.1 hm
        have e1 : (i : Int) = b := by split at hb <;> simp at hb; exact hb
        have e2 : (j : Int) = b := by split at hj2 <;> simp at hj2; exact hj2
        have : i = j := by omega
        exact hn'.1 (this ▸ hj)
  exact h _ List.nodup_range
theorem rdM_lookup (C : CL) (t : Int) : (rdM C).lookup t = if 0 < cntC C t then some (.int .i64 (cntC C t)) else none := by
  by_cases h : 0 < cntC C t
  · rw [if_pos h]
    refine (lookup_mem (rdM_nodup C)).2 (rdM_mem.2 ⟨?_, h, rfl⟩)
    unfold cntC at h
    split at h
    · assumption
    · omega
  · rw [if_neg h]
    cases hl : (rdM C).lookup t with
    | none => rfl
    | some v => exact absurd (rdM_mem.1 ((lookup_mem (rdM_nodup C)).1 hl)).2.1 h
theorem rdM_getD {C : CL} {t : Int} (h : 0 ≤ cntC C t) : ((rdM C).lookup t).getD (.int .i64 0) = .int .i64 (cntC C t) := by
  rw [rdM_lookup]
  split
  · rfl
  · rw [show cntC C t = 0 by omega]; rfl
theorem keys_nodup {M : List (Int × Value)} (h : (M.map (·.1)).Nodup) : M.Nodup := List.Pairwise.imp (fun h1 e => h1 (by rw [e])) (List.pairwise_map.1 h)
theorem cnt_set {C : CL} {t a x : Int} (ht : okT t) (hl : C.length = 16) : cntC (C.set t.toNat x) a = if a = t then x else cntC C a := by
  unfold okT at ht
  unfold cntC
  by_cases h0 : 0 ≤ a
  · rw [if_pos h0, if_pos h0, cAt_set _ _ _ _ (by omega)]
    by_cases h : a = t
    · rw [if_pos (by omega), if_pos h]
    · rw [if_neg (by omega), if_neg h]
  · rw [if_neg h0, if_neg h0, if_neg (by omega)]
theorem rdM_put {C : CL} {t x : Int} (ht : okT t) (hl : C.length = 16) (hx : 0 < x) : (mupd (rdM C) t (.int .i64 x)).Perm (rdM (C.set t.toNat x)) := by
  refine (mupd_perm1 (rdM_nodup C)).trans ?_
  refine (List.perm_ext_iff_of_nodup ?_ (keys_nodup (rdM_nodup _))).2 ?_
  · refine List.nodup_cons.2 ⟨?_, (keys_nodup (rdM_nodup C)).filter _⟩
    intro hm
    have := (List.mem_filter.1 hm).2
    simp at this
  · rintro ⟨a, v⟩
    rw [rdM_mem, cnt_set ht hl, List.mem_cons, List.mem_filter, rdM_mem]
    unfold okT at ht
    by_cases h : a = t
    · subst h
      simp only [if_true, Prod.mk.injEq, true_and, beq_self_eq_true, Bool.not_true, Bool.false_eq_true, and_false, or_false]
      constructor
      · rintro rfl; exact ⟨ht.1, hx, rfl⟩
      · rintro ⟨_, _, h⟩; exact h
    · simp [h]
theorem rdM_del {C : CL} {t : Int} (ht : okT t) (hl : C.length = 16) : (mdel (rdM C) t).Perm (rdM (C.set t.toNat 0)) := by
  rw [mdel_filter (rdM_nodup C)]
  refine (List.perm_ext_iff_of_nodup ((keys_nodup (rdM_nodup C)).filter _) (keys_nodup (rdM_nodup _))).2 ?_
  rintro ⟨a, v⟩
  rw [rdM_mem, cnt_set ht hl, List.mem_filter, rdM_mem]
  by_cases h : a = t
  · subst h
    simp
  · simp [h]
theorem anyC_iff {C : CL} : anyC C = true ↔ ∃ a, 0 < cntC C a := by
  unfold anyC
  rw [List.any_eq_true]
  constructor
  · rintro ⟨x, hx, h⟩
    obtain ⟨k, hk, rfl⟩ := List.mem_iff_getElem.1 hx
    refine ⟨(k : Int), ?_⟩
    unfold cntC cAt
    rw [if_pos (by omega), List.getD_eq_getElem?_getD, Int.toNat_natCast, List.getElem?_eq_getElem hk]
    simpa using h
  · rintro ⟨a, h⟩
    unfold cntC at h
    split at h
    · rcases Nat.lt_or_ge a.toNat C.length with h1 | h1
      · refine ⟨C[a.toNat], List.getElem_mem h1, ?_⟩
        unfold cAt at h
        rw [List.getD_eq_getElem?_getD, List.getElem?_eq_getElem h1] at h
        simpa using h
      · rw [cAt_ge h1] at h
        omega
    · omega
theorem rdM_len (C : CL) : decide (0 < ((rdM C).length : Int)) = anyC C := by
  cases h : anyC C with
  | true =>
    obtain ⟨a, ha⟩ := anyC_iff.1 h
    have hm : (a, Value.int .i64 (cntC C a)) ∈ rdM C := rdM_mem.2 ⟨by unfold cntC at ha; split at ha <;> omega, ha, rfl⟩
    have := List.length_pos_of_mem hm
    simp; omega
  | false =>
    have : rdM C = [] := List.eq_nil_iff_forall_not_mem.2 fun ⟨a, v⟩ hm => by
      have := anyC_iff.2 ⟨a, (rdM_mem.1 hm).2.1⟩
      rw [h] at this
      cases this
    rw [this]
    rfl
theorem MapP.perm {w : World} {b : Nat} {M M' : List (Int × Value)} (h : MapP w b M) (hp : M.Perm M') : MapP w b M' := by
  obtain ⟨M0, h1, h2⟩ := h
  exact ⟨M0, h1, h2.trans hp⟩

/-! ### what always holds -/
theorem LOk.cnt {s : LS} (h : LOk s) (t : Int) : 0 ≤ s.cnt t ∧ s.cnt t ≤ 32767 := by
  unfold LS.cnt cntC
  split
  · exact h.pos _
  · omega
theorem LOk.new : LOk lnew := ⟨by simp [lnew], fun k => by unfold lnew; rw [cAt_rep]; omega, .inl rfl⟩
theorem LOk.setC {s : LS} (h : LOk s) {t x : Int} (ht : okT t) (h0 : 0 ≤ x) (h1 : x ≤ 32767) : LOk { s with C := s.C.set t.toNat x } := by
  refine ⟨by simp [h.len], fun k => ?_, h.wr⟩
  unfold okT at ht
  show 0 ≤ cAt (s.C.set t.toNat x) k ∧ _
  rw [cAt_set _ _ _ _ (by have := h.len; omega)]
  split
  · omega
  · exact h.pos k
theorem LOk.setW {s : LS} (h : LOk s) {t : Int} (ht : t = -1 ∨ okT t) : LOk { s with wr := t } := ⟨h.len, h.pos, ht⟩
theorem LOk.lists {s : LS} (h : LOk s) (R W : WL) : LOk { s with R := R, W := W } := ⟨h.len, h.pos, h.wr⟩

theorem fT_ok {L : WL} (h : ListOk L) : (fT L = -1 ∧ fP L = 0 ∧ ordL L = []) ∨ ∃ x r, ordL L = x :: r ∧ fT L = x.1 ∧ fP L = x.2 ∧ okT x.1 ∧ okP x.2 ∧ x ∈ L := by
  unfold fT fP
  cases ho : ordL L with
  | nil => exact .inl ⟨rfl, rfl, rfl⟩
  | cons x r =>
    have hx : x ∈ L := (ordL_perm h).mem_iff.1 (by rw [ho]; simp)
    exact .inr ⟨x, r, rfl, rfl, rfl, (h.ok x hx).1, (h.ok x hx).2, hx⟩

end Go.Proofs.Ytiiafhlckmkcnaa
