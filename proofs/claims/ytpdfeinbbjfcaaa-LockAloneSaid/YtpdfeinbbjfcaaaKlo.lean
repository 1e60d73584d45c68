
/- metronomelaw15.alone: what must hold behind each call, does. -/
import Derived.Test.YtpdfeinbbjfcaaaKe
import Derived.Test.YtpdfeinbbjfcaaaKal
import Derived.Deep.QuietTactic
import Derived.BigQuiet
namespace Go.Proofs.Ytpdfeinbbjfcaaa
open Go.RowKit

/-- The array of who wanted it with what last. -/
def PrAt (w : World) (pb : Nat) (P : CL) : Prop := w.heap[pb]? = some (.cells (P.map (Value.int .i64)).toArray 26 (0, 0))
theorem PrAt.kept {S : List Nat} {w w' : World} {pb : Nat} {P : CL} (h : PrAt w pb P) (hC : Chg S w w') (hn : pb ∉ S) : PrAt w' pb P := hC.blk h hn
theorem PrAt.cell {w : World} {pb : Nat} {P : CL} (h : PrAt w pb P) (hl : P.length = 16) {k : Nat} (hk : k < 16) : w.cell? ⟨pb, k, none⟩ = some (.int .i64 (cAt P k)) := by
  refine cellB h ?_
  rw [List.getElem?_toArray, List.getElem?_map, List.getElem?_eq_getElem (by omega)]
  unfold cAt
  rw [List.getD_eq_getElem?_getD, List.getElem?_eq_getElem (by omega)]
  rfl

set_option maxRecDepth 100000 in
theorem lreads_same (cb rb a0 m0 a1 m1 : Nat) (N : Int) (s : LS) (t : Int) (w : World) (h : LAt w cb rb a0 m0 a1 m1 N s) :
    Calls Try.prog 22 #[.pointer (some ⟨cb, 0, none⟩), .int .i64 t] w fun e w' => e = .returned (.int .i64 (s.cnt t)) ∧ w' = w := by
  have c1 := cellB h.head (i := 1) (v := .map (some rb)) rfl
  have HT := Lib.hid (ltherec cb rb a0 m0 a1 m1 N s w h)
  have hl := h.look t
  generalize s.cnt t = n at *
  clear h
  go_enter Try.func22, Try.ntmps22
  go_wp2_with (go_at_call 24; refine HT.out.mono ?_; rintro e w' ⟨rfl, rfl⟩)
  go_ret
  exact ⟨rfl, rfl⟩

/-- Does any of the threads below k hold it to read? -/
def anyK (C : CL) : Nat → Bool
  | 0 => false
  | k + 1 => anyK C k || decide (0 < cntC C k)
theorem anyK_iff {C : CL} : ∀ {k : Nat}, anyK C k = true ↔ ∃ j : Nat, j < k ∧ 0 < cntC C j
  | 0 => by simp [anyK]
  | k + 1 => by
    unfold anyK
    rw [Bool.or_eq_true, anyK_iff, decide_eq_true_eq]
    constructor
    · rintro (⟨j, h1, h2⟩ | h)
      · exact ⟨j, by omega, h2⟩
      · exact ⟨k, by omega, h⟩
    · rintro ⟨j, h1, h2⟩
      by_cases hj : j = k
      · subst hj; exact .inr h2
      · exact .inl ⟨j, by omega, h2⟩
theorem anyK_all {C : CL} (h : C.length = 16) : anyK C 16 = anyC C := by
  rw [Bool.eq_iff_iff, anyK_iff, anyC_iff]
  constructor
  · rintro ⟨j, _, h⟩; exact ⟨_, h⟩
  · rintro ⟨a, ha⟩
    have h0 : 0 ≤ a := by unfold cntC at ha; split at ha <;> omega
    refine ⟨a.toNat, ?_, ?_⟩
    · rcases Nat.lt_or_ge a.toNat 16 with h1 | h1
      · exact h1
      · unfold cntC at ha
        rw [if_pos h0, cAt_ge (by omega)] at ha
        omega
    · rw [show ((a.toNat : Nat) : Int) = a by omega]; exact ha

theorem alone_ways {s : LS} (h : LInv s) (hs : s.still) : (s.wr ≠ -1 ∧ anyC s.C = false ∧ s.held = true) ∨ (s.wr = -1 ∧ anyC s.C = true ∧ s.held = true) ∨ (s.wr = -1 ∧ anyC s.C = false ∧ s.held = false ∧ s.R = [] ∧ s.W = []) := by
  by_cases hw : s.wr = -1
  · cases ha : anyC s.C with
    | true => exact .inr (.inl ⟨hw, rfl, by unfold LS.held; simp [ha]⟩)
    | false =>
      have hh : s.held = false := by unfold LS.held; simp [hw, ha]
      exact .inr (.inr ⟨hw, rfl, hh, still_held h hs hh⟩)
  · exact .inl ⟨hw, h.alone hw, by unfold LS.held; simp [hw]⟩

/-- What a reader that waits meets, where nobody writes. -/
theorem wait_row {s : LS} {P : CL} (h : LInv s) (hs : s.still) (hp : PrOk s P) (hw : s.wr = -1) {i : Nat} {t : Int} (ht : (ordT s.R)[i]? = some t) :
    ∃ tn wn : Nat, t = (tn : Int) ∧ tn < 16 ∧ wn < 16 ∧ (ordT s.W)[0]? = some (wn : Int) ∧ cAt P tn ≤ cAt P wn ∧ s.cnt t = 0 := by
  unfold ordT at ht
  rw [List.getElem?_map] at ht
  cases hx : (ordL s.R)[i]? with
  | none => rw [hx] at ht; cases ht
  | some x =>
    rw [hx] at ht
    have hm : x ∈ s.R := (ordL_perm h.r).mem_iff.1 (List.mem_of_getElem? hx)
    have e : x.1 = t := by simpa using ht
    obtain ⟨h1, h2, h3⟩ := still_wait h hs hw x hm
    obtain ⟨g1, g2, g3⟩ := fP_at h.w h1
    have hk := (h.r.ok x hm).1
    have hk2 := (h.w.ok _ g2).1
    unfold okT at hk hk2
    simp only at hk2
    have p1 := hp.r x hm
    have p2 := hp.w _ g2
    simp only at p2
    refine ⟨t.toNat, (fT s.W).toNat, by omega, by omega, by omega, ?_, ?_, ?_⟩
    · unfold ordT
      unfold fT at g1 ⊢
      cases ho : ordL s.W with
      | nil => rw [ho] at g1; exact absurd rfl g1
      | cons y r =>
        rw [ho] at g1
        have hy : y ∈ s.W := (ordL_perm h.w).mem_iff.1 (by rw [ho]; simp)
        have := (h.w.ok y hy).1
        unfold okT at this
        simp
        omega
    · rw [← e, p1, p2]; exact h2
    · rw [← e]; exact h3

set_option maxRecDepth 100000 in
set_option maxHeartbeats 4000000 in
theorem lalonec (pb cb rb a0 m0 a1 m1 : Nat) (N : Int) (s : LS) (P : CL) (w : World) (h : LAt w cb rb a0 m0 a1 m1 N s) (hs : s.still) (hp : PrOk s P) (hP : PrAt w pb P) :
    Calls Try.prog 16 #[.pointer (some ⟨cb, 0, none⟩), .pointer (some ⟨pb, 0, none⟩)] w fun e w' => e = .returned (.bool true) ∧ Chg [] w w' := by
  have HL := Lib.hid (And.intro h (And.intro hs (And.intro hp hP)))
  have hW := lwriterc cb rb a0 m0 a1 m1 N s w h
  generalize (if s.wr = -1 then (0 : Int) else s.wr) = wv at hW
  have hways := alone_ways h.inv hs
  have hall := anyK_all h.inv.ok.len
  have hR := fun (W : World) (hW : Chg [] w W) (t : Int) => lreadsc cb rb a0 m0 a1 m1 N s t W (h.calm hW)
  have hH := fun (W : World) (hW : Chg [] w W) => lheldc cb rb a0 m0 a1 m1 N s W (h.calm hW)
  have hlenR : (ordT s.R).length ≤ 16 := by unfold ordT; rw [List.length_map, ordT_len h.inv.r]; exact h.lr.facts.2.2
  have hlenW : (ordT s.W).length ≤ 16 := by unfold ordT; rw [List.length_map, ordT_len h.inv.w]; exact h.lw.facts.2.2
  have HR := Lib.hid hR
  clear h hs hp hP hR
  obtain ⟨b, hb⟩ : ∃ b, b = !decide (s.wr = -1) := ⟨_, rfl⟩
  rw [← hb] at hW
  have HB := Lib.hid hb
  have HA := Lib.hid hall
  have HW := Lib.hid hW
  clear hW hb hall
  go_enter Try.func16, Try.ntmps16
  go_wp2_with fail
  refine HW.out.mono ?_
  rintro e w1 ⟨rfl, hC⟩
  have HC1 := Lib.hid hC
  clear hC
  go_wp2
  go_loopw [7, 8] (fun v i wr => ∃ k : Nat, k ≤ 16 ∧ i = .int .i64 k ∧ v = .bool (anyK s.C k) ∧ Chg [] w wr) (fun _ i _ => 16 - (intOf i).toNat)
  case atStart => exact ⟨0, by omega, rfl, rfl, HC1.out⟩
  case round =>
    obtain ⟨k, hk, rfl, rfl, hC⟩ := hrel
    have HC2 := Lib.hid hC
    clear hC HC1
    by_cases hlt : k < 16
    · cases ha : anyK s.C k with
      | true =>
        have HX := Lib.hid (show anyK s.C (k + 1) = true by unfold anyK; rw [ha]; rfl)
        clear ha
        go_wp2
        go_roundw
        case rel => exact ⟨k + 1, by omega, by go_num, by rw [HX.out], HC2.out⟩
        case measure => simp [intOf]; omega
      | false =>
        have HX := Lib.hid (show anyK s.C (k + 1) = decide (0 < s.cnt k) by unfold anyK; rw [ha]; rfl)
        have hR := HR.out wr HC2.out k
        obtain ⟨n, hn⟩ : ∃ n, n = s.cnt k := ⟨_, rfl⟩
        obtain ⟨q, hq⟩ : ∃ q, q = decide (0 < n) := ⟨_, rfl⟩
        have hq' := hq.symm
        rw [← hn, ← hq] at HX
        rw [← hn] at hR
        have HR2 := Lib.hid hR
        clear ha hn hq hR
        go_wp2_with fail
        refine HR2.out.mono ?_
        rintro e w2 ⟨rfl, hC⟩
        have HC3 := Lib.hid (HC2.out.trans hC)
        clear hC
        go_wp2
        go_roundw
        case rel => exact ⟨k + 1, by omega, by go_num, by rw [HX.out], HC3.out⟩
        case measure => simp [intOf]; omega
    · have hk16 : k = 16 := by omega
      subst hk16
      rw [HA.out]
      clear hk hlt
      go_wp2_with fail
      refine (lreadersc cb rb a0 m0 a1 m1 N s wr (HL.out.1.calm HC2.out)).mono ?_
      rintro e w2 ⟨vr, rfl, ho, hC⟩
      have HO2 := Lib.hid (And.intro (IsInts.of_own ho) hC)
      have HC3 := Lib.hid (HC2.out.trans hC)
      clear ho hC
      go_wp2_with fail
      refine (lwritersc cb rb a0 m0 a1 m1 N s w2 (HL.out.1.calm HC3.out)).mono ?_
      rintro e w3 ⟨vw, rfl, ho, hC⟩
      have HO3 := Lib.hid (And.intro (IsInts.of_own ho) hC)
      have HC4 := Lib.hid (HC3.out.trans hC)
      clear ho hC
      obtain ⟨ar, cr, rfl⟩ := HO2.out.1.slice
      obtain ⟨aw, cw, rfl⟩ := HO3.out.1.slice
      rcases hways with ⟨g1, g2, g3⟩ | ⟨g1, g2, g3⟩ | ⟨g1, g2, g3, g4, g5⟩
      · as_aux_lemma =>
        have hb := HB.out
        rw [show (!decide (s.wr = -1)) = true by simp [g1]] at hb
        subst hb
        rw [g2]
        rw [g3] at hH
        have HH := Lib.hid hH
        generalize (ordT s.R).length = nr at *
        generalize (ordT s.W).length = nw at *
        clear g1 g2 g3 hH
        go_wp2_with fail
        refine (HH.out w3 HC4.out).mono ?_
        rintro e w4 ⟨rfl, hC⟩
        have HC5 := Lib.hid (HC4.out.trans hC)
        clear hC
        go_wp2_with fail
        refine (HH.out w4 HC5.out).mono ?_
        rintro e w5 ⟨rfl, hC⟩
        have HC6 := Lib.hid (HC5.out.trans hC)
        clear hC
        go_wp2
        refine wp_loop_rounds 1 ?_
        rw [rounds_succ]
        by_cases hn : 0 < nr
        · have hn' : decide (0 < nr) = true := decide_eq_true hn
          clear hn
          go_wp2
          go_ret
          exact ⟨rfl, HC6.out⟩
        · have hn' : decide (0 < nr) = false := decide_eq_false hn
          clear hn
          go_wp2
          go_ret
          exact ⟨rfl, HC6.out⟩
      · as_aux_lemma =>
        have hb := HB.out
        rw [show (!decide (s.wr = -1)) = false by simp [g1]] at hb
        subst hb
        rw [g2]
        rw [g3] at hH
        have HH := Lib.hid hH
        have HWR := Lib.hid g1
        obtain ⟨nr, hnr⟩ : ∃ n, n = (ordT s.R).length := ⟨_, rfl⟩
        obtain ⟨nw, hnw⟩ : ∃ n, n = (ordT s.W).length := ⟨_, rfl⟩
        rw [← hnr] at HO2 hlenR ⊢
        rw [← hnw] at HO3 hlenW ⊢
        have HNN := Lib.hid (And.intro hnr hnw)
        clear g1 g2 g3 hH hnr hnw
        go_wp2_with fail
        refine (HH.out w3 HC4.out).mono ?_
        rintro e w4 ⟨rfl, hC⟩
        have HC5 := Lib.hid (HC4.out.trans hC)
        have HQ5 := Lib.hid hC
        clear hC
        go_wp2_with fail
        refine (HH.out w4 HC5.out).mono ?_
        rintro e w5 ⟨rfl, hC⟩
        have HC6 := Lib.hid (HC5.out.trans hC)
        have HQ6 := Lib.hid (HQ5.out.trans hC)
        clear hC
        go_wp2
        go_loopw [11] (fun i wr2 => ∃ k : Nat, k ≤ nr ∧ i = .int .i64 k ∧ Chg [] w5 wr2) (fun i _ => nr - (intOf i).toNat)
        case atStart => exact ⟨0, by omega, rfl, Chg.refl _ _⟩
        case round =>
          obtain ⟨k, hk, rfl, hC⟩ := hrel
          have HD := Lib.hid hC
          clear hC
          by_cases hlt : k < nr
          · obtain ⟨t, ht⟩ : ∃ t, (ordT s.R)[k]? = some t := ⟨_, List.getElem?_eq_getElem (by have := HNN.out.1; omega)⟩
            obtain ⟨tn, wn, rfl, htn, hwn, hw0, hle, hcnt⟩ := wait_row HL.out.1.inv HL.out.2.1 HL.out.2.2.1 HWR.out ht
            have hneR : ordT s.R ≠ [] := fun e => by rw [e] at ht; simp at ht
            have hneW : ordT s.W ≠ [] := fun e => by rw [e] at hw0; simp at hw0
            have hnw0 : 0 < nw := by have := HNN.out.2; have := List.length_pos_iff.2 hneW; omega
            obtain ⟨br, orr, cr2, er, hcr⟩ := HO2.out.1.addr hneR
            obtain ⟨bw, ow, cw2, ew, hcw⟩ := HO3.out.1.addr hneW
            obtain ⟨rfl, -, rfl⟩ := Value.slice.inj er
            obtain ⟨rfl, -, rfl⟩ := Value.slice.inj ew
            have x1 := cell_kept' (cell_kept' (hcr k _ ht) (HO3.out.2.trans HQ6.out) (by simp)) HD.out (by simp)
            have x2 := cell_kept' (cell_kept' (hcw 0 _ hw0) HQ6.out (by simp)) HD.out (by simp)
            have x3 := cell_kept' (HL.out.2.2.2.cell HL.out.2.2.1.len htn) (HC6.out.trans HD.out) (by simp)
            have x4 := cell_kept' (HL.out.2.2.2.cell HL.out.2.2.1.len hwn) (HC6.out.trans HD.out) (by simp)
            have hRQ := fun n : Nat => lreads_same cb rb a0 m0 a1 m1 N s tn (wr.drewN n) (HL.out.1.calm ((HC6.out.trans HD.out).drewN n))
            rw [hcnt] at hRQ
            rw [Nat.add_zero] at x2
            have q1 : decide (cAt P wn < cAt P tn) = false := decide_eq_false (by omega)
            have q2 : ((nw : Int) == 0) = false := by simp; omega
            have q3 : decide ((tn : Int) < 0) = false := decide_eq_false (by omega)
            have q4 : decide (15 < (tn : Int)) = false := decide_eq_false (by omega)
            have HRQ := Lib.hid hRQ
            have hn' : decide (k < nr) = true := decide_eq_true hlt
            generalize cAt P wn = pw at *
            generalize cAt P tn = pt at *
            clear ht hw0 hle hcnt hneR hneW er ew hcr hcw hRQ hk
            go_wp2
            go_quiet ((go_at_call 22; exact Calls.quiet_of_same (HRQ.out _)))
            go_wp2
            go_roundw
            case rel => exact ⟨k + 1, by omega, by go_num, HD.out.drewN _⟩
            case measure => simp [intOf]; omega
          · have hn' : decide (k < nr) = false := decide_eq_false hlt
            clear hlt hk
            go_wp2
            go_ret
            exact ⟨rfl, HC6.out.trans HD.out⟩
      · as_aux_lemma =>
        have hb := HB.out
        rw [show (!decide (s.wr = -1)) = false by simp [g1]] at hb
        subst hb
        rw [g2]
        rw [g3] at hH
        rw [g4] at HO2 ⊢
        rw [g5] at HO3 ⊢
        rw [show (ordT []).length = 0 from rfl]
        have HH := Lib.hid hH
        clear g1 g2 g3 g4 g5 hH hlenR hlenW
        go_wp2_with fail
        refine (HH.out w3 HC4.out).mono ?_
        rintro e w4 ⟨rfl, hC⟩
        have HC5 := Lib.hid (HC4.out.trans hC)
        clear hC
        go_wp2_with fail
        refine (HH.out w4 HC5.out).mono ?_
        rintro e w5 ⟨rfl, hC⟩
        have HC6 := Lib.hid (HC5.out.trans hC)
        clear hC
        go_wp2
        refine wp_loop_rounds 1 ?_
        rw [rounds_succ]
        go_wp2
        go_ret
        exact ⟨rfl, HC6.out⟩

end Go.Proofs.Ytpdfeinbbjfcaaa
