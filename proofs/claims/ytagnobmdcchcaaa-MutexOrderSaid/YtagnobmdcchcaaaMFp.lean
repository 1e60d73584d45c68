
/- Priorities kept beside a mutex. No program in sight. -/
import Derived.Test.YtagnobmdcchcaaaMf
namespace Go.Proofs.Ytagnobmdcchcaaa

theorem ordL_ge (L : WL) : (ordL L).Pairwise (fun x y => y.2 ≤ x.2) := by
  unfold ordL
  rw [List.pairwise_flatMap]
  constructor
  · intro i _
    refine List.Pairwise.imp_of_mem ?_ (List.pairwise_of_forall (l := L.filter fun x => x.2 == 31 - (i : Int)) (R := fun _ _ => True) (fun _ _ => trivial))
    intro x y hx hy _
    have h1 := (List.mem_filter.1 hx).2
    have h2 := (List.mem_filter.1 hy).2
    simp at h1 h2
    omega
  · have := List.pairwise_lt_range (n := 31)
    refine this.imp ?_
    intro i j hij x hx y hy
    have h1 := (List.mem_filter.1 hx).2
    have h2 := (List.mem_filter.1 hy).2
    simp at h1 h2
    omega

/-- The array agrees with those who wait. -/
def PrOk (A : List Int) (L : WL) : Prop := ∀ x ∈ L, A.getD x.1.toNat 0 = x.2
theorem PrOk.sub {A : List Int} {L L' : WL} (h : PrOk A L) (hs : ∀ x ∈ L', x ∈ L) : PrOk A L' := fun x hx => h x (hs x hx)
theorem wdel_sub (L : WL) (t : Int) : ∀ x ∈ wdel L t, x ∈ L := by
  induction L with
  | nil => intro x hx; simp [wdel] at hx
  | cons y L ih =>
    intro x hx
    rw [wdel] at hx
    split at hx
    · exact List.mem_cons_of_mem _ hx
    · rcases List.mem_cons.1 hx with rfl | hx
      · exact List.mem_cons_self ..
      · exact List.mem_cons_of_mem _ (ih x hx)
theorem takeL_sub (L : WL) : ∀ x ∈ takeL L, x ∈ L := by
  unfold takeL
  split
  · exact fun x hx => hx
  · exact wdel_sub L _
theorem lvL_sub (L : WL) (t : Int) : ∀ x ∈ lvL L t, x ∈ L := by
  unfold lvL
  split
  · exact wdel_sub L _
  · exact fun x hx => hx
theorem getD_set_ne {A : List Int} {i j : Nat} {x : Int} (h : i ≠ j) : (A.set i x).getD j 0 = A.getD j 0 := by
  simp [List.getD_eq_getElem?_getD, List.getElem?_set_ne h]
theorem getD_set_eq {A : List Int} {i : Nat} {x : Int} (h : i < A.length) : (A.set i x).getD i 0 = x := by
  simp [List.getD_eq_getElem?_getD, h]
theorem PrOk.put {A : List Int} {L : WL} (h : PrOk A L) (hA : A.length = 16) (hL : ListOk L) {t q : Int} (ht : okT t) (hn : hasR L t = false) : PrOk (A.set t.toNat q) (L ++ [(t, q)]) := by
  intro x hx
  rcases List.mem_append.1 hx with hx | hx
  · have h1 := (hL.ok x hx).1
    have hne : x.1 ≠ t := fun e => by
      have h3 : hasR L t = true := hasR_mem.2 ⟨x.2, by rw [← e]; exact hx⟩
      rw [hn] at h3; cases h3
    unfold okT at ht h1
    rw [getD_set_ne (by omega)]
    exact h x hx
  · simp only [List.mem_singleton] at hx
    subst hx
    unfold okT at ht
    exact getD_set_eq (by omega)
theorem PrOk.chg {A : List Int} {L : WL} (h : PrOk A L) (hA : A.length = 16) (hL : ListOk L) {t q : Int} (ha : askR L t q true = 0) : PrOk (A.set t.toNat q) (chgL L t q) := by
  have ht : okT t := by
    unfold askR at ha
    split at ha
    · omega
    · rename_i hc; unfold okT; omega
  intro x hx
  unfold chgL at hx
  rw [if_pos ha, wupd_map hL.nodup] at hx
  obtain ⟨y, hy, rfl⟩ := List.mem_map.1 hx
  have h1 := (hL.ok y hy).1
  unfold okT at ht h1
  split
  · exact getD_set_eq (by omega)
  · rename_i hne
    rw [getD_set_ne (by omega)]
    exact h y hy

theorem lock_free {s : MS} (t q b : Int) : (s.lockB t q b = true ∧ (s.lockS t q b).L = s.L) ∨ (s.lockB t q b = false ∧ (s.lockE t q b == 0) = false ∧ (s.lockS t q b).L = s.L) ∨
    (s.lockB t q b = false ∧ (s.lockE t q b == 0) = true ∧ okT t ∧ hasR s.L t = false ∧ (s.lockS t q b).L = s.L ++ [(t, q)]) := by
  by_cases h0 : prB q = true
  · by_cases h1 : s.askE t b = 16
    · have hw := may_ok (MS.askE_wait h1).1
      by_cases h2 : s.own = t ∧ s.k = 1
      · right; left
        refine ⟨?_, ?_, ?_⟩
        · unfold MS.lockB; rw [if_pos h0, if_pos h1]; apply decide_eq_false; omega
        · unfold MS.lockE; rw [if_pos h0, if_pos h1, if_pos h2]; rfl
        · unfold MS.lockS; rw [if_pos h0, if_pos h1, if_pos h2]
      · by_cases h3 : s.own = t ∧ s.k = 2
        · by_cases h4 : 32767 ≤ s.cnt
          · right; left
            refine ⟨?_, ?_, ?_⟩
            · unfold MS.lockB; rw [if_pos h0, if_pos h1]; apply decide_eq_false; omega
            · unfold MS.lockE; rw [if_pos h0, if_pos h1, if_neg h2, if_pos h3, if_pos h4]; rfl
            · unfold MS.lockS; rw [if_pos h0, if_pos h1, if_neg h2, if_pos h3, if_pos h4]
          · left
            refine ⟨?_, ?_⟩
            · unfold MS.lockB; rw [if_pos h0, if_pos h1]; apply decide_eq_true; omega
            · unfold MS.lockS; rw [if_pos h0, if_pos h1, if_neg h2, if_pos h3, if_neg h4]
        · right; right
          have ha : askR s.L t q false = 0 := by
            unfold askR
            have h5 := hw.1
            have h6 := prB_iff.1 h0
            unfold okT at h5
            unfold okP at h6
            rw [if_neg (by omega)]
            have h7 := hw.2.2.1
            unfold hasR at h7
            rw [h7]
            rfl
          refine ⟨?_, ?_, hw.1, hw.2.2.1, ?_⟩
          · unfold MS.lockB; rw [if_pos h0, if_pos h1]; apply decide_eq_false; omega
          · unfold MS.lockE; rw [if_pos h0, if_pos h1, if_neg h2, if_neg h3]; rfl
          · unfold MS.lockS; rw [if_pos h0, if_pos h1, if_neg h2, if_neg h3]; show putL s.L t q = _; unfold putL; rw [if_pos ha]
    · have hS : (s.lockS t q b).L = s.L := by
        unfold MS.lockS; rw [if_pos h0, if_neg h1]; unfold MS.askS MS.took; split <;> rfl
      cases hB : s.lockB t q b with
      | true => exact .inl ⟨rfl, hS⟩
      | false =>
        right; left
        refine ⟨rfl, ?_, hS⟩
        unfold MS.lockB at hB
        rw [if_pos h0, if_neg h1] at hB
        have := of_decide_eq_false hB
        unfold MS.lockE
        rw [if_pos h0, if_neg h1]
        simp
        omega
  · right; left
    refine ⟨?_, ?_, ?_⟩
    · unfold MS.lockB; rw [if_neg h0]
    · unfold MS.lockE; rw [if_neg h0]; rfl
    · unfold MS.lockS; rw [if_neg h0]
theorem tryS_L (s : MS) (t b : Int) : (s.tryS t b).L = s.L := by
  unfold MS.tryS MS.askS MS.took
  split
  · split <;> rfl
  · split <;> rfl
theorem csS_L (s : MS) (t : Int) : (s.csS t).L = s.L := by unfold MS.csS; split <;> rfl

/-- What is told of those who go on, beside those who waited before. -/
def LFact (A : List Int) (own : Int) (was : List Int) (l : WL) : Prop :=
  l = [] ∨ (∃ x r, l = (x, 131) :: r) ∨ ∃ x e : Int, l = [(x, e)] ∧ e ≠ 131 ∧ own = x ∧ okT x ∧ ∀ y ∈ was, okT y ∧ A.getD y.toNat 0 ≤ A.getD x.toNat 0

theorem next_free {s : MS} (hL : ListOk s.L) {A : List Int} (hA : PrOk A s.L) : LFact A s.nextS.own (ordT s.L) s.nextW ∧ PrOk A s.nextS.L := by
  have hp := ordL_perm hL
  have hg := ordL_ge s.L
  unfold MS.nextW MS.nextS ordT
  cases ho : ordL s.L with
  | nil => exact ⟨.inl rfl, hA⟩
  | cons x r =>
    rw [ho] at hp hg
    refine ⟨.inr (.inr ⟨x.1, s.told, rfl, by unfold MS.told; split <;> omega, rfl, (hL.ok x (hp.mem_iff.1 (by simp))).1, ?_⟩), hA.sub (takeL_sub s.L)⟩
    intro y hy
    obtain ⟨z, hz, rfl⟩ := List.mem_map.1 hy
    have hz' := hp.mem_iff.1 hz
    refine ⟨(hL.ok z hz').1, ?_⟩
    rw [hA z hz', hA x (hp.mem_iff.1 (by simp))]
    rcases List.mem_cons.1 hz with rfl | hz
    · omega
    · exact (List.pairwise_cons.1 hg).1 z hz
theorem un_free {s : MS} (hL : ListOk s.L) {A : List Int} (hA : PrOk A s.L) (t : Int) : LFact A (s.unS t).own (ordT s.L) (s.unW t) ∧ PrOk A (s.unS t).L := by
  unfold MS.unS MS.unW
  split
  · split
    · exact ⟨.inl rfl, hA⟩
    · split
      · refine ⟨?_, by intro x hx; cases hx⟩
        cases h : ordT s.L with
        | nil => exact .inl rfl
        | cons x r => exact .inr (.inl ⟨x, _, rfl⟩)
      · exact next_free hL hA
  · exact ⟨.inl rfl, hA⟩
theorem en_free {s : MS} (hL : ListOk s.L) {A : List Int} (hA : PrOk A s.L) (t : Int) : LFact A (s.enS t).own (ordT s.L) (s.enW t) ∧ PrOk A (s.enS t).L := by
  unfold MS.enS MS.enW
  by_cases h1 : thB t = true ∧ s.own = t
  · by_cases h2 : s.rob = true
    · rw [if_pos h1, if_pos h2, if_pos ⟨h1.1, h1.2, h2⟩]
      exact next_free (s := { s with st := 1 }) hL hA
    · rw [if_pos h1, if_neg h2, if_neg (fun e => h2 e.2.2)]
      exact ⟨.inl rfl, hA⟩
  · rw [if_neg h1, if_neg (fun e => h1 ⟨e.1, e.2.1⟩)]
    exact ⟨.inl rfl, hA⟩

/-- The test behind each step. -/
theorem MOk.ways {s : MS} (h : MOk s) (hL : ListOk s.L) : ∃ n : Nat, n = (ordT s.L).length ∧ ((0 < n ∧ decide (s.own < 0) = false ∧ decide (0 ≤ s.own) = true ∧ decide (s.cnt < 1) = false) ∨ (0 < n ∧ decide (s.own < 0) = true ∧ (s.st != 3) = false ∧ decide (0 ≤ s.own) = false ∧ (s.cnt != 0) = false) ∨
    (n = 0 ∧ decide (s.own < 0) = false ∧ decide (0 ≤ s.own) = true ∧ decide (s.cnt < 1) = false) ∨ (n = 0 ∧ decide (s.own < 0) = true ∧ decide (0 ≤ s.own) = false ∧ (s.cnt != 0) = false)) := by
  refine ⟨_, rfl, ?_⟩
  have hn : (ordT s.L).length = s.L.length := by unfold ordT; rw [List.length_map, (ordL_perm hL).length_eq]
  rcases h.own with ho | ho
  · have hc := h.cntE ho
    by_cases hl : s.L = []
    · right; right; right
      refine ⟨by rw [hn, hl]; rfl, by simp; omega, by simp; omega, by simp [hc]⟩
    · right; left
      have hst := (h.free ho).resolve_right hl
      exact ⟨by rw [hn]; exact List.length_pos_iff.2 hl, by simp; omega, by simp [hst], by simp; omega, by simp [hc]⟩
  · have h0 := ho.1
    have hc := h.cntG (by omega)
    by_cases hl : s.L = []
    · right; right; left
      exact ⟨by rw [hn, hl]; rfl, by simp; omega, by simp; omega, by simp; omega⟩
    · left
      exact ⟨by rw [hn]; exact List.length_pos_iff.2 hl, by simp; omega, by simp; omega, by simp; omega⟩

end Go.Proofs.Ytagnobmdcchcaaa
