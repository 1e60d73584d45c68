
/- metronomelaw15.alone: what must hold behind each call, does. -/
import Derived.Test.YtpdfeinbbjfcaaaGreatKe
import Derived.Test.YtpdfeinbbjfcaaaGreatKal
import Derived.Deep.QuietTactic
import Derived.BigQuiet
namespace Go.Proofs.YtpdfeinbbjfcaaaGreat
open Go.RowKit

/-- The array of who wanted it with what last. -/
def PrAt (w : World) (pb : Nat) (P : CL) : Prop := w.heap[pb]? = some (.cells (P.map (Value.int .i64)).toArray 47 (0, 0))
theorem PrAt.kept {S : List Nat} {w w' : World} {pb : Nat} {P : CL} (h : PrAt w pb P) (hC : Chg S w w') (hn : pb ∉ S) : PrAt w' pb P := hC.blk h hn
theorem PrAt.cell {w : World} {pb : Nat} {P : CL} (h : PrAt w pb P) (hl : P.length = 16) {k : Nat} (hk : k < 16) : w.cell? ⟨pb, k, none⟩ = some (.int .i64 (cAt P k)) := by
  refine cellB h ?_
  rw [List.getElem?_toArray, List.getElem?_map, List.getElem?_eq_getElem (by omega)]
  unfold cAt
  rw [List.getD_eq_getElem?_getD, List.getElem?_eq_getElem (by omega)]
  rfl

set_option maxRecDepth 100000 in
theorem lreads_same (cb rb a0 m0 a1 m1 : Nat) (N : Int) (s : LS) (t : Int) (w : World) (h : LAt w cb rb a0 m0 a1 m1 N s) :
    Calls Tryz.prog 33 #[.pointer (some ⟨cb, 0, none⟩), .int .i64 t] w fun e w' => e = .returned (.int .i64 (s.cnt t)) ∧ w' = w := by
  have c1 := cellB h.head (i := 1) (v := .map (some rb)) rfl
  have HT := Lib.hid (ltherec cb rb a0 m0 a1 m1 N s w h)
  have hl := h.look t
  generalize s.cnt t = n at *
  clear h
  go_enter Tryz.func33, Tryz.ntmps33
  go_wp2_with (go_at_call 37; refine HT.out.mono ?_; rintro e w' ⟨rfl, rfl⟩)
  go_ret
  exact ⟨rfl, rfl⟩

/-- Does any of the threads below k hold it to read? -/
def anyK (C : CL) : Nat → Bool
  | 0 => false
  | k + 1 => anyK C k || decide (0 < cntC C k)
theorem anyK_iff {C : CL} : ∀ {k : Nat}, anyK C k = true ↔ ∃ j : Nat, j < k ∧ 0 < cntC C j
  | 0 => by simp [anyK]
  | k + 1 => by
    unfold anyK
    rw [Bool.or_eq_true, anyK_iff, decide_eq_true_eq]
    constructor
    · rintro (⟨j, h1, h2⟩ | h)
      · exact ⟨j, by omega, h2⟩
      · exact ⟨k, by omega, h⟩
    · rintro ⟨j, h1, h2⟩
      by_cases hj : j = k
      · subst hj; exact .inr h2
      · exact .inl ⟨j, by omega, h2⟩
theorem anyK_all {C : CL} (h : C.length = 16) : anyK C 16 = anyC C := by
  rw [Bool.eq_iff_iff, anyK_iff, anyC_iff]
  constructor
  · rintro ⟨j, _, h⟩; exact ⟨_, h⟩
  · rintro ⟨a, ha⟩
    have h0 : 0 ≤ a := by unfold cntC at ha; split at ha <;> omega
    refine ⟨a.toNat, ?_, ?_⟩
    · rcases Nat.lt_or_ge a.toNat 16 with h1 | h1
      · exact h1
      · unfold cntC at ha
        rw [if_pos h0, cAt_ge (by omega)] at ha
        omega
    · rw [show ((a.toNat : Nat) : Int) = a by omega]; exact ha

theorem alone_ways {s : LS} (h : LInv s) (hs : s.still) : (s.wr ≠ -1 ∧ anyC s.C = false ∧ s.held = true) ∨ (s.wr = -1 ∧ anyC s.C = true ∧ s.held = true) ∨ (s.wr = -1 ∧ anyC s.C = false ∧ s.held = false ∧ s.R = [] ∧ s.W = []) := by
  by_cases hw : s.wr = -1
  · cases ha : anyC s.C with
    | true => exact .inr (.inl ⟨hw, rfl, by unfold LS.held; simp [ha]⟩)
    | false =>
      have hh : s.held = false := by unfold LS.held; simp [hw, ha]
      exact .inr (.inr ⟨hw, rfl, hh, still_held h hs hh⟩)
  · exact .inl ⟨hw, h.alone hw, by unfold LS.held; simp [hw]⟩

/-- What a reader that waits meets, where nobody writes. -/
theorem wait_row {s : LS} {P : CL} (h : LInv s) (hs : s.still) (hp : PrOk s P) (hw : s.wr = -1) {i : Nat} {t : Int} (ht : (ordT s.R)[i]? = some t) :
    ∃ tn wn : Nat, t = (tn : Int) ∧ tn < 16 ∧ wn < 16 ∧ (ordT s.W)[0]? = some (wn : Int) ∧ cAt P tn ≤ cAt P wn ∧ s.cnt t = 0 := by
  unfold ordT at ht
  rw [List.getElem?_map] at ht
  cases hx : (ordL s.R)[i]? with
  | none => rw [hx] at ht; cases ht
  | some x =>
    rw [hx] at ht
    have hm : x ∈ s.R := (ordL_perm h.r).mem_iff.1 (List.mem_of_getElem? hx)
    have e : x.1 = t := by simpa using ht
    obtain ⟨h1, h2, h3⟩ := still_wait h hs hw x hm
    obtain ⟨g1, g2, g3⟩ := fP_at h.w h1
    have hk := (h.r.ok x hm).1
    have hk2 := (h.w.ok _ g2).1
    unfold okT at hk hk2
    simp only at hk2
    have p1 := hp.r x hm
    have p2 := hp.w _ g2
    simp only at p2
    refine ⟨t.toNat, (fT s.W).toNat, by omega, by omega, by omega, ?_, ?_, ?_⟩
    · unfold ordT
      unfold fT at g1 ⊢
      cases ho : ordL s.W with
      | nil => rw [ho] at g1; exact absurd rfl g1
      | cons y r =>
        rw [ho] at g1
        have hy : y ∈ s.W := (ordL_perm h.w).mem_iff.1 (by rw [ho]; simp)
        have := (h.w.ok y hy).1
        unfold okT at this
        simp
        omega
    · rw [← e, p1, p2]; exact h2
    · rw [← e]; exact h3

end Go.Proofs.YtpdfeinbbjfcaaaGreat
