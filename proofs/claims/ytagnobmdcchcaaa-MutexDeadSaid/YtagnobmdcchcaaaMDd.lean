
/- metronomelaw13.MutexDead answers true, whatever the steps (written by wip/dead13.py). -/
import Derived.Test.YtagnobmdcchcaaaL13known
import Derived.Test.YtagnobmdcchcaaaMDp
namespace Go.Proofs.Ytagnobmdcchcaaa
open Go.RowKit

section
variable {w0 w2 : World} {cb ab mb sb : Nat} {N : Int} {s : MS}
/-- The copies of a step and of how the mutex stands, in boxes. -/
theorem boxes_giv (hF : FM w0 w2 cb ab mb N s) (T U : TypeId) (a c : Array Value) (hb : w2.heap[sb]? = some (.cells a T (0, 0))) :
    FM w0 (w2.alloc (.cells c U)) cb ab mb N s ∧ (w2.alloc (.cells c U)).heap[sb]? = some (.cells a T (0, 0)) ∧ (w2.alloc (.cells c U)).heap[w2.heap.size]? = some (.cells c U (0, 0)) :=
  ⟨hF.calm ((Chg.refl _ _).alloc _), blk_alloc hb _, heap_alloc_eq _ _⟩
theorem boxes_own (hF : FM w0 w2 cb ab mb N s) (T U : TypeId) (a c : Array Value) (i : Nat) (v : Value) (hb : w2.heap[sb]? = some (.cells a T (0, 0))) (hn : sb ≠ cb ∧ sb ≠ ab ∧ sb ≠ mb) (hg : w0.heap.size ≤ sb) :
    FM w0 ((w2.setCell ⟨sb, i, none⟩ v).alloc (.cells c U)) cb ab mb N s ∧ ((w2.setCell ⟨sb, i, none⟩ v).alloc (.cells c U)).heap[sb]? = some (.cells (a.setIfInBounds i v) T (0, 0)) ∧ ((w2.setCell ⟨sb, i, none⟩ v).alloc (.cells c U)).heap[w2.heap.size]? = some (.cells c U (0, 0)) := by
  have hC : Chg [sb] w2 (w2.setCell ⟨sb, i, none⟩ v) := (Chg.refl _ _).setCell _ _ (by simp)
  refine ⟨⟨(hF.m.kept hC (by simp; omega) (by simp; omega) (by simp; omega)).calm ((Chg.refl _ _).alloc _), (hF.c.trans' hC (by simp; omega)).alloc _, hF.g⟩, blk_alloc (blk_setCell hb v) _, ?_⟩
  have h1 := heap_alloc_eq (w2.setCell ⟨sb, i, none⟩ v) (.cells c U)
  have h2 : (w2.setCell ⟨sb, i, none⟩ v).heap.size = w2.heap.size := by simp
  rw [h2] at h1
  exact h1
end

set_option maxRecDepth 100000 in
set_option maxHeartbeats 16000000 in
theorem mutexDead_any (k0 : Int) (v : Value) (R : List (Nat → Int)) (w : World) (hv : IsRows 4 w v R) :
    Calls Try.prog 5 #[.int .i64 k0, v] w fun e w' => e = .returned (.bool true) ∧ Chg [] w w' := by
  obtain ⟨a, cap, rfl⟩ := hv.slice
  have HV := Lib.hid hv
  clear hv
  obtain ⟨n, hn⟩ : ∃ n, n = R.length := ⟨_, rfl⟩
  rw [← hn]
  have HN := Lib.hid hn
  clear hn
  have hb : mnewB k0 1 0 = false ∨ (mnewB k0 1 0 = true ∧ 150 < n) ∨ (mnewB k0 1 0 = true ∧ ¬ 150 < n) := by cases mnewB k0 1 0 <;> simp; omega
  rcases hb with hb | ⟨hb, hl⟩ | ⟨hb, hl⟩
  · have HB := Lib.hid hb
    clear hb
    go_enter Try.func5, Try.ntmps5
    go_wp2_with fail
    refine (mnew_no k0 1 0 true w HB.out).mono ?_
    rintro e w0 ⟨rfl, rfl⟩
    go_wp2_with fail
    refine (known13 w).mono ?_
    rintro e w1 ⟨rfl, hC⟩
    have H1 := Lib.hid hC
    clear hC
    go_wp2
    go_ret
    exact ⟨rfl, H1.out⟩
  · have HB := Lib.hid hb
    have q1 : (150 : Int) < (n : Int) := by omega
    clear hb hl
    go_enter Try.func5, Try.ntmps5
    go_wp2_with fail
    refine (fnewF k0 1 0 true w w (Chg.refl _ _) HB.out).mono ?_
    rintro e w0 ⟨cb, ab, mb, rfl, hF, hC⟩
    have H0 := Lib.hid hC
    clear hF hC
    go_wp2_with fail
    refine (known13 w0).mono ?_
    rintro e w1 ⟨rfl, hC⟩
    have H1 := Lib.hid (H0.out.trans hC)
    clear hC
    go_wp2
    go_ret
    exact ⟨rfl, H1.out⟩
  · have HB := Lib.hid hb
    have q1 : ¬ (150 : Int) < (n : Int) := by omega
    clear hb
    go_enter Try.func5, Try.ntmps5
    go_wp2_with fail
    refine (fnewF k0 1 0 true w w (Chg.refl _ _) HB.out).mono ?_
    rintro e w0 ⟨cb, ab, mb, rfl, hF, hC⟩
    have H0 := Lib.hid hF
    clear hF hC
    go_wp2
    clear q1
    go_loopw [7, 8, 9] (fun lf ls i wr => ∃ (k : Nat) (s : MS) (left lost : Bool), k ≤ n ∧ lf = .bool left ∧ ls = .bool lost ∧ i = .int .i64 k ∧ FM w wr cb ab mb k s ∧ DI s left lost) (fun _ _ i _ => n - (intOf i).toNat)
    case atStart => exact ⟨0, mnew k0 1 0 true, false, false, by omega, rfl, rfl, rfl, H0.out, DI.new k0⟩
    case round =>
      obtain ⟨k, s, left, lost, hk, rfl, rfl, rfl, hF, hD⟩ := hrel
      have HK := Lib.hid (And.intro hF hD)
      have HL := Lib.hid hl
      have hlt0 := hF.m.lt
      have hgg := hF.c.size
      clear hF hD hl H0
      by_cases hlt : k < n
      · have hne : R ≠ [] := fun e => by have := HN.out; rw [e] at this; simp at this; omega
        obtain ⟨g, o, cap', hsl, hcells⟩ := HV.out.addr hne
        cases hsl
        obtain ⟨x, hx⟩ : ∃ x, R[k]? = some x := ⟨_, List.getElem?_eq_getElem (by have := HN.out; omega)⟩
        have hrow := IsRows.row hcells HK.out.1.c hx
        have d0 := hrow 0 (by omega)
        have d1 := hrow 1 (by omega)
        have d2 := hrow 2 (by omega)
        have d3 := hrow 3 (by omega)
        rw [Nat.add_zero] at d0
        clear hcells hrow hx hne
        generalize x 0 = kd at *
        generalize x 1 = t0 at *
        generalize x 2 = q at *
        generalize x 3 = b at *
        have HS := Lib.hid (And.intro hlt0 hgg)
        go_wp2_with fail
        refine (fatF (HK.out.1.calm ((Chg.refl [] wr).alloc (.cells #[.int .i64 kd, .int .i64 t0, .int .i64 q, .int .i64 b] 48)))).mono ?_
        rintro e w2 ⟨rfl, hF, hC⟩
        have hb2 := hC.blk (heap_alloc_eq wr _) (by simp)
        have x0 := cellB hb2 (i := 0) rfl
        have x1 := cellB hb2 (i := 1) rfl
        have x2 := cellB hb2 (i := 2) rfl
        have x3 := cellB hb2 (i := 3) rfl
        have f1 := frozenB hb2 1
        have hsz : wr.heap.size < w2.heap.size := lt_of_blk hb2
        have hne2 : wr.heap.size ≠ cb ∧ wr.heap.size ≠ ab ∧ wr.heap.size ≠ mb := by omega
        have hk6 : kd = 1 ∨ kd = 3 ∨ kd = 4 ∨ kd = 5 ∨ kd = 6 ∨ ((kd == 1) = false ∧ (kd == 3) = false ∧ (kd == 4) = false ∧ (kd == 5) = false ∧ (kd == 6) = false) := by
          by_cases h1 : kd = 1
          · simp [h1]
          · by_cases h3 : kd = 3
            · simp [h3]
            · by_cases h4 : kd = 4
              · simp [h4]
              · by_cases h5 : kd = 5
                · simp [h5]
                · by_cases h6 : kd = 6
                  · simp [h6]
                  · simp [h1, h3, h4, h5, h6]
        have ht2 : t0 = -2 ∨ (t0 == -2) = false := by cases h : (t0 == -2) <;> simp at h <;> simp [h]
        have hW : wr.heap.size ≤ w2.heap.size := by omega
        rcases ht2 with rfl | ht2
        · -- thread: own
          have hB := boxes_own hF 48 41 _ #[.int .i64 s.own, .int .i64 s.cnt, .int .i64 s.st, .int .i64 s.c] 1 (.int .i64 s.own) hb2 hne2 (by omega)
          have hne3 : w2.heap.size ≠ cb ∧ w2.heap.size ≠ ab ∧ w2.heap.size ≠ mb := by omega
          have HB4 := Lib.hid hB
          have HNE := Lib.hid (And.intro hne2 hne3)
          clear hB hF hC hb2 hne2 hne3 hW hlt0 hgg
          rcases hk6 with rfl | rfl | rfl | rfl | rfl | ⟨k1, k3, k4, k5, k6⟩
          · as_aux_lemma =>
            have hT := HK.out.2.lockT s.own q b
            have hL := mlockc cb ab mb k s s.own q b _ HB4.out.1.m (by omega) HK.out.2.ok.cnt0
            obtain ⟨has, hh⟩ : ∃ x, x = s.lockB s.own q b := ⟨_, rfl⟩
            obtain ⟨r, hr⟩ : ∃ x, x = s.lockE s.own q b := ⟨_, rfl⟩
            rw [← hh, ← hr] at hL hT
            have HLc := Lib.hid hL
            have HDz := Lib.hid (HK.out.2.lock s.own q b)
            clear hL hh hr
            rcases hT with ⟨rfl, rfl, h3⟩ | ⟨rfl, rfl⟩ | ⟨rfl, rfl, h3⟩ | ⟨rfl, rfl, h3, rfl, h5⟩ | ⟨rfl, rfl, h3, rfl, h5⟩
            all_goals
              go_wp2_with fail
              refine HLc.out.mono ?_
              rintro e wz ⟨rfl, hM, hC⟩
              have z0 := cellB (hC.blk HB4.out.2.2 (by have := HNE.out; simp; omega)) (i := 0) rfl
              have HZ := Lib.hid (HB4.out.1.step hM hC (by simp))
              clear hM hC
              have hq := HDz.out.test
              first
                | have hq4 : (!lost' == lost') = false := by cases lost' <;> rfl
                | have hq4 : (!lost == lost) = false := by cases lost <;> rfl
                | skip
              go_wp2_with fail
              refine (fatF HZ.out).mono ?_
              rintro e wa ⟨rfl, hF, hC⟩
              have HA := Lib.hid hF
              clear hF hC
              go_wp2
              go_roundw
              case rel => exact ⟨k + 1, _, _, _, by omega, rfl, rfl, by go_num, HA.out, HDz.out⟩
              case measure => simp [intOf]; omega
          · as_aux_lemma =>
            have hT := HK.out.2.un HB4.out.1.m.list.lok HB4.out.1.m.list.facts.2.2 s.own
            have hL := munlockc cb ab mb k s s.own _ HB4.out.1.m HK.out.2.ok.cntM
            obtain ⟨l, hh⟩ : ∃ x, x = s.unW s.own := ⟨_, rfl⟩
            obtain ⟨r, hr⟩ : ∃ x, x = s.unE s.own := ⟨_, rfl⟩
            rw [← hh, ← hr] at hL hT
            have HLc := Lib.hid hL
            clear hL hh hr
            have hT' : ∃ lost', DI (s.unS s.own) left lost' ∧ WokOk l lost' ∧ (((r == 0) = false ∧ lost' = lost) ∨ ((r == 0) = true ∧ (s.cnt == 1) = false ∧ lost' = lost) ∨ ((r == 0) = true ∧ (s.cnt == 1) = true ∧ left = false ∧ lost' = lost) ∨ ((r == 0) = true ∧ (s.cnt == 1) = true ∧ left = true ∧ lost' = true)) := by
              rcases hT with ⟨h1, h2, h3⟩ | ⟨h1, h2, h3, h4⟩ | ⟨h1, h2, h3, h4, h5⟩ | ⟨h1, h2, h3, h4, h5⟩
              · exact ⟨lost, h2, h3, .inl ⟨h1, rfl⟩⟩
              · exact ⟨lost, h3, h4, .inr (.inl ⟨h1, h2, rfl⟩)⟩
              · exact ⟨lost, h4, h5, .inr (.inr (.inl ⟨h1, h2, h3, rfl⟩))⟩
              · exact ⟨true, h4, h5, .inr (.inr (.inr ⟨h1, h2, h3, rfl⟩))⟩
            clear hT
            obtain ⟨lost', hDz, hWk, hT⟩ := hT'
            have HDz := Lib.hid hDz
            obtain ⟨m, hm⟩ : ∃ m, m = l.length := ⟨_, rfl⟩
            have hm16 : m ≤ 16 := by rw [hm]; exact hWk.1
            have HWk := Lib.hid (And.intro hWk hm)
            clear hDz hWk hm
            rcases hT with ⟨h1, rfl⟩ | ⟨h1, h2, rfl⟩ | ⟨h1, h2, rfl, rfl⟩ | ⟨h1, h2, rfl, rfl⟩
            all_goals
              go_wp2_with fail
              refine HLc.out.mono ?_
              rintro e wz ⟨v, rfl, hO, hM, hC⟩
              have z1 := cellB (hC.blk HB4.out.2.2 (by have := HNE.out; simp; omega)) (i := 1) rfl
              obtain ⟨va, vc, rfl⟩ := hO.pairs.slice
              have HZ := Lib.hid ((HB4.out.1.step hM hC (by simp)).mono (show (k : Int) ≤ ((k + 1 : Nat) : Int) by omega))
              have HO := Lib.hid hO.pairs
              clear hM hC hO
              rw [← HWk.out.2] at HO ⊢
              go_wp2
              go_loopw [17] (fun i wy => ∃ j : Nat, j ≤ m ∧ i = .int .i64 j ∧ wy = wz) (fun i _ => m - (intOf i).toNat)
              case atStart => exact ⟨0, by omega, rfl, rfl⟩
              case round =>
                obtain ⟨j, hj, rfl, rfl⟩ := hrel
                by_cases hjl : j < m
                · obtain ⟨y, hy⟩ : ∃ y, l[j]? = some y := ⟨_, List.getElem?_eq_getElem (by have := HWk.out.2; omega)⟩
                  obtain ⟨b1, o1, c1, hsl1, hc1⟩ := HO.out.addr (fun e => by have := HWk.out.2; rw [e] at this; simp at this; omega)
                  cases hsl1
                  have e2 := (hc1 j y hy).2
                  have e34 := HWk.out.1.2 y (List.mem_of_getElem? hy)
                  obtain ⟨e3, e4⟩ := e34
                  first
                    | have e5 : (!lost' == lost') = false := by cases lost' <;> rfl
                    | have e5 : (!lost == lost) = false := by cases lost <;> rfl
                    | skip
                  generalize y.2 = y2 at e2 e3 e4
                  clear hc1 hy
                  go_wp2
                  go_roundw
                  case rel => exact ⟨j + 1, by omega, by go_num, by trivial⟩
                  case measure => simp [intOf]; omega
                · clear hj
                  have hq := HDz.out.test
                  first
                    | have hq4 : (!lost' == lost') = false := by cases lost' <;> rfl
                    | have hq4 : (!lost == lost) = false := by cases lost <;> rfl
                    | skip
                  go_wp2_with fail
                  refine (fatF HZ.out).mono ?_
                  rintro e wa ⟨rfl, hF, hC⟩
                  have HA := Lib.hid hF
                  clear hF hC
                  go_wp2
                  go_roundw
                  case rel => exact ⟨k + 1, _, _, _, by omega, rfl, rfl, by go_num, HA.out, HDz.out⟩
                  case measure => simp [intOf]; omega
          · as_aux_lemma =>
            have hT := HK.out.2.cs s.own
            have hL := mconsistc cb ab mb k s s.own _ HB4.out.1.m
            obtain ⟨r, hr⟩ : ∃ x : Int, x = if s.csB s.own = true then 0 else 22 := ⟨_, rfl⟩
            rw [← hr] at hL
            have HLc := Lib.hid hL
            clear hL
            rcases hT with ⟨h0, rfl, rfl, h3, h4, hDz⟩ | ⟨h0, hDz, hT⟩
            · rw [if_pos h0] at hr
              subst hr
              have HDz := Lib.hid hDz
              clear hDz h0
              go_wp2_with fail
              refine HLc.out.mono ?_
              rintro e wz ⟨rfl, hM, hC⟩
              have z0 := cellB (hC.blk HB4.out.2.2 (by have := HNE.out; simp; omega)) (i := 0) rfl
              have z9 := cellB (hC.blk HB4.out.2.1 (by have := HNE.out; simp; omega)) (i := 1) rfl
              have HZ := Lib.hid ((HB4.out.1.step hM hC (by simp)).mono (show (k : Int) ≤ ((k + 1 : Nat) : Int) by omega))
              clear hM hC
              have hq := HDz.out.test
              first
                | have hq4 : (!lost' == lost') = false := by cases lost' <;> rfl
                | have hq4 : (!lost == lost) = false := by cases lost <;> rfl
                | skip
              go_wp2_with fail
              refine (fatF HZ.out).mono ?_
              rintro e wa ⟨rfl, hF, hC⟩
              have HA := Lib.hid hF
              clear hF hC
              go_wp2
              go_roundw
              case rel => exact ⟨k + 1, _, _, _, by omega, rfl, rfl, by go_num, HA.out, HDz.out⟩
              case measure => simp [intOf]; omega
            · rw [h0, if_neg (by simp)] at hr
              subst hr
              have HDz := Lib.hid hDz
              clear hDz h0
              rcases hT with rfl | ⟨rfl, rfl⟩ | ⟨rfl, rfl, h3⟩ | ⟨rfl, rfl, h3, h4⟩
              case' inr.inr.inr => exact absurd h4 (by simp)
              all_goals
                go_wp2_with fail
                refine HLc.out.mono ?_
                rintro e wz ⟨rfl, hM, hC⟩
                have z0 := cellB (hC.blk HB4.out.2.2 (by have := HNE.out; simp; omega)) (i := 0) rfl
                have z9 := cellB (hC.blk HB4.out.2.1 (by have := HNE.out; simp; omega)) (i := 1) rfl
                have HZ := Lib.hid ((HB4.out.1.step hM hC (by simp)).mono (show (k : Int) ≤ ((k + 1 : Nat) : Int) by omega))
                clear hM hC
                have hq := HDz.out.test
                first
                  | have hq4 : (!lost' == lost') = false := by cases lost' <;> rfl
                  | have hq4 : (!lost == lost) = false := by cases lost <;> rfl
                  | skip
                go_wp2_with fail
                refine (fatF HZ.out).mono ?_
                rintro e wa ⟨rfl, hF, hC⟩
                have HA := Lib.hid hF
                clear hF hC
                go_wp2
                go_roundw
                case rel => exact ⟨k + 1, _, _, _, by omega, rfl, rfl, by go_num, HA.out, HDz.out⟩
                case measure => simp [intOf]; omega
          · as_aux_lemma =>
            have hT := HK.out.2.en HB4.out.1.m.list.lok s.own
            have hL := mendedc cb ab mb k s s.own _ HB4.out.1.m
            have HLc := Lib.hid hL
            clear hL
            rcases hT with ⟨hT, hDz, hW0⟩ | ⟨h3, h4, hDz, hW0⟩
            · have HDz := Lib.hid hDz
              have HW0 := Lib.hid hW0
              clear hDz hW0
              rcases hT with h3 | ⟨h3, h4⟩
              case' inr => exact absurd h4 (by simp)
              all_goals
                go_wp2_with fail
                refine HLc.out.mono ?_
                rintro e wz ⟨v, rfl, hO, hM, hC⟩
                have z0 := cellB (hC.blk HB4.out.2.2 (by have := HNE.out; simp; omega)) (i := 0) rfl
                have z9 := cellB (hC.blk HB4.out.2.1 (by have := HNE.out; simp; omega)) (i := 1) rfl
                have HZ := Lib.hid ((HB4.out.1.step hM hC (by simp)).mono (show (k : Int) ≤ ((k + 1 : Nat) : Int) by omega))
                rw [HW0.out] at hO
                clear hM hC
                obtain ⟨va, vc, rfl⟩ := hO.pairs.slice
                clear hO
                rw [show ([] : WL).length = 0 from rfl]
                go_wp2
                refine wp_loop_rounds 1 ?_
                rw [rounds_succ]
                have hq := HDz.out.test
                first
                  | have hq4 : (!lost' == lost') = false := by cases lost' <;> rfl
                  | have hq4 : (!lost == lost) = false := by cases lost <;> rfl
                  | skip
                go_wp2_with fail
                refine (fatF HZ.out).mono ?_
                rintro e wa ⟨rfl, hF, hC⟩
                have HA := Lib.hid hF
                clear hF hC
                go_wp2
                go_roundw
                case rel => exact ⟨k + 1, _, _, _, by omega, rfl, rfl, by go_num, HA.out, HDz.out⟩
                case measure => simp [intOf]; omega
            · have HDz := Lib.hid hDz
              clear hDz
              rcases hW0 with hW0 | ⟨x5, hW0⟩
              · have HW0 := Lib.hid hW0
                clear hW0
                go_wp2_with fail
                refine HLc.out.mono ?_
                rintro e wz ⟨v, rfl, hO, hM, hC⟩
                have z0 := cellB (hC.blk HB4.out.2.2 (by have := HNE.out; simp; omega)) (i := 0) rfl
                have z9 := cellB (hC.blk HB4.out.2.1 (by have := HNE.out; simp; omega)) (i := 1) rfl
                have HZ := Lib.hid ((HB4.out.1.step hM hC (by simp)).mono (show (k : Int) ≤ ((k + 1 : Nat) : Int) by omega))
                rw [HW0.out] at hO
                clear hM hC
                obtain ⟨va, vc, rfl⟩ := hO.pairs.slice
                clear hO
                rw [show ([] : WL).length = 0 from rfl]
                go_wp2
                refine wp_loop_rounds 1 ?_
                rw [rounds_succ]
                have hq := HDz.out.test
                first
                  | have hq4 : (!lost' == lost') = false := by cases lost' <;> rfl
                  | have hq4 : (!lost == lost) = false := by cases lost <;> rfl
                  | skip
                go_wp2_with fail
                refine (fatF HZ.out).mono ?_
                rintro e wa ⟨rfl, hF, hC⟩
                have HA := Lib.hid hF
                clear hF hC
                go_wp2
                go_roundw
                case rel => exact ⟨k + 1, _, _, _, by omega, rfl, rfl, by go_num, HA.out, HDz.out⟩
                case measure => simp [intOf]; omega
              · have HW0 := Lib.hid hW0
                clear hW0
                go_wp2_with fail
                refine HLc.out.mono ?_
                rintro e wz ⟨v, rfl, hO, hM, hC⟩
                have z0 := cellB (hC.blk HB4.out.2.2 (by have := HNE.out; simp; omega)) (i := 0) rfl
                have z9 := cellB (hC.blk HB4.out.2.1 (by have := HNE.out; simp; omega)) (i := 1) rfl
                have HZ := Lib.hid ((HB4.out.1.step hM hC (by simp)).mono (show (k : Int) ≤ ((k + 1 : Nat) : Int) by omega))
                rw [HW0.out] at hO
                clear hM hC
                obtain ⟨b1, o1, c1, rfl, hc1⟩ := hO.pairs.addr (by simp)
                have e2 := (hc1 0 _ rfl).2
                rw [show [(x5, (130 : Int))].length = 1 from rfl]
                simp only [Nat.zero_mul, Nat.add_zero] at e2
                clear hO hc1
                go_wp2
                refine wp_loop_rounds 2 ?_
                rw [rounds_succ]
                go_wp2
                rw [rounds_succ]
                have hq := HDz.out.test
                first
                  | have hq4 : (!lost' == lost') = false := by cases lost' <;> rfl
                  | have hq4 : (!lost == lost) = false := by cases lost <;> rfl
                  | skip
                go_wp2_with fail
                refine (fatF HZ.out).mono ?_
                rintro e wa ⟨rfl, hF, hC⟩
                have HA := Lib.hid hF
                clear hF hC
                go_wp2
                go_roundw
                case rel => exact ⟨k + 1, _, _, _, by omega, rfl, rfl, by go_num, HA.out, HDz.out⟩
                case measure => simp [intOf]; omega
          · as_aux_lemma =>
            have HLc := Lib.hid (mleavec cb ab mb k s s.own _ HB4.out.1.m)
            have HDz := Lib.hid (HK.out.2.lv s.own)
            go_wp2_with fail
            refine HLc.out.mono ?_
            rintro e wz ⟨rfl, hM, hC⟩
            have HZ := Lib.hid ((HB4.out.1.step hM hC (by simp)).mono (show (k : Int) ≤ ((k + 1 : Nat) : Int) by omega))
            clear hM hC
            have hq := HDz.out.test
            first
              | have hq4 : (!lost' == lost') = false := by cases lost' <;> rfl
              | have hq4 : (!lost == lost) = false := by cases lost <;> rfl
              | skip
            go_wp2_with fail
            refine (fatF HZ.out).mono ?_
            rintro e wa ⟨rfl, hF, hC⟩
            have HA := Lib.hid hF
            clear hF hC
            go_wp2
            go_roundw
            case rel => exact ⟨k + 1, _, _, _, by omega, rfl, rfl, by go_num, HA.out, HDz.out⟩
            case measure => simp [intOf]; omega
          · as_aux_lemma =>
            have HDz := Lib.hid HK.out.2
            have HZ := Lib.hid (HB4.out.1.mono (show (k : Int) ≤ ((k + 1 : Nat) : Int) by omega))
            have hq := HDz.out.test
            first
              | have hq4 : (!lost' == lost') = false := by cases lost' <;> rfl
              | have hq4 : (!lost == lost) = false := by cases lost <;> rfl
              | skip
            go_wp2_with fail
            refine (fatF HZ.out).mono ?_
            rintro e wa ⟨rfl, hF, hC⟩
            have HA := Lib.hid hF
            clear hF hC
            go_wp2
            go_roundw
            case rel => exact ⟨k + 1, _, _, _, by omega, rfl, rfl, by go_num, HA.out, HDz.out⟩
            case measure => simp [intOf]; omega
        · -- thread: giv
          have hB := boxes_giv hF 48 41 _ #[.int .i64 s.own, .int .i64 s.cnt, .int .i64 s.st, .int .i64 s.c] hb2
          have hne3 : w2.heap.size ≠ cb ∧ w2.heap.size ≠ ab ∧ w2.heap.size ≠ mb := by omega
          have HB4 := Lib.hid hB
          have HNE := Lib.hid (And.intro hne2 hne3)
          clear hB hF hC hb2 hne2 hne3 hW hlt0 hgg
          rcases hk6 with rfl | rfl | rfl | rfl | rfl | ⟨k1, k3, k4, k5, k6⟩
          · as_aux_lemma =>
            have hT := HK.out.2.lockT t0 q b
            have hL := mlockc cb ab mb k s t0 q b _ HB4.out.1.m (by omega) HK.out.2.ok.cnt0
            obtain ⟨has, hh⟩ : ∃ x, x = s.lockB t0 q b := ⟨_, rfl⟩
            obtain ⟨r, hr⟩ : ∃ x, x = s.lockE t0 q b := ⟨_, rfl⟩
            rw [← hh, ← hr] at hL hT
            have HLc := Lib.hid hL
            have HDz := Lib.hid (HK.out.2.lock t0 q b)
            clear hL hh hr
            rcases hT with ⟨rfl, rfl, h3⟩ | ⟨rfl, rfl⟩ | ⟨rfl, rfl, h3⟩ | ⟨rfl, rfl, h3, rfl, h5⟩ | ⟨rfl, rfl, h3, rfl, h5⟩
            all_goals
              go_wp2_with fail
              refine HLc.out.mono ?_
              rintro e wz ⟨rfl, hM, hC⟩
              have z0 := cellB (hC.blk HB4.out.2.2 (by have := HNE.out; simp; omega)) (i := 0) rfl
              have HZ := Lib.hid (HB4.out.1.step hM hC (by simp))
              clear hM hC
              have hq := HDz.out.test
              first
                | have hq4 : (!lost' == lost') = false := by cases lost' <;> rfl
                | have hq4 : (!lost == lost) = false := by cases lost <;> rfl
                | skip
              go_wp2_with fail
              refine (fatF HZ.out).mono ?_
              rintro e wa ⟨rfl, hF, hC⟩
              have HA := Lib.hid hF
              clear hF hC
              go_wp2
              go_roundw
              case rel => exact ⟨k + 1, _, _, _, by omega, rfl, rfl, by go_num, HA.out, HDz.out⟩
              case measure => simp [intOf]; omega
          · as_aux_lemma =>
            have hT := HK.out.2.un HB4.out.1.m.list.lok HB4.out.1.m.list.facts.2.2 t0
            have hL := munlockc cb ab mb k s t0 _ HB4.out.1.m HK.out.2.ok.cntM
            obtain ⟨l, hh⟩ : ∃ x, x = s.unW t0 := ⟨_, rfl⟩
            obtain ⟨r, hr⟩ : ∃ x, x = s.unE t0 := ⟨_, rfl⟩
            rw [← hh, ← hr] at hL hT
            have HLc := Lib.hid hL
            clear hL hh hr
            have hT' : ∃ lost', DI (s.unS t0) left lost' ∧ WokOk l lost' ∧ (((r == 0) = false ∧ lost' = lost) ∨ ((r == 0) = true ∧ (s.cnt == 1) = false ∧ lost' = lost) ∨ ((r == 0) = true ∧ (s.cnt == 1) = true ∧ left = false ∧ lost' = lost) ∨ ((r == 0) = true ∧ (s.cnt == 1) = true ∧ left = true ∧ lost' = true)) := by
              rcases hT with ⟨h1, h2, h3⟩ | ⟨h1, h2, h3, h4⟩ | ⟨h1, h2, h3, h4, h5⟩ | ⟨h1, h2, h3, h4, h5⟩
              · exact ⟨lost, h2, h3, .inl ⟨h1, rfl⟩⟩
              · exact ⟨lost, h3, h4, .inr (.inl ⟨h1, h2, rfl⟩)⟩
              · exact ⟨lost, h4, h5, .inr (.inr (.inl ⟨h1, h2, h3, rfl⟩))⟩
              · exact ⟨true, h4, h5, .inr (.inr (.inr ⟨h1, h2, h3, rfl⟩))⟩
            clear hT
            obtain ⟨lost', hDz, hWk, hT⟩ := hT'
            have HDz := Lib.hid hDz
            obtain ⟨m, hm⟩ : ∃ m, m = l.length := ⟨_, rfl⟩
            have hm16 : m ≤ 16 := by rw [hm]; exact hWk.1
            have HWk := Lib.hid (And.intro hWk hm)
            clear hDz hWk hm
            rcases hT with ⟨h1, rfl⟩ | ⟨h1, h2, rfl⟩ | ⟨h1, h2, rfl, rfl⟩ | ⟨h1, h2, rfl, rfl⟩
            all_goals
              go_wp2_with fail
              refine HLc.out.mono ?_
              rintro e wz ⟨v, rfl, hO, hM, hC⟩
              have z1 := cellB (hC.blk HB4.out.2.2 (by have := HNE.out; simp; omega)) (i := 1) rfl
              obtain ⟨va, vc, rfl⟩ := hO.pairs.slice
              have HZ := Lib.hid ((HB4.out.1.step hM hC (by simp)).mono (show (k : Int) ≤ ((k + 1 : Nat) : Int) by omega))
              have HO := Lib.hid hO.pairs
              clear hM hC hO
              rw [← HWk.out.2] at HO ⊢
              go_wp2
              go_loopw [17] (fun i wy => ∃ j : Nat, j ≤ m ∧ i = .int .i64 j ∧ wy = wz) (fun i _ => m - (intOf i).toNat)
              case atStart => exact ⟨0, by omega, rfl, rfl⟩
              case round =>
                obtain ⟨j, hj, rfl, rfl⟩ := hrel
                by_cases hjl : j < m
                · obtain ⟨y, hy⟩ : ∃ y, l[j]? = some y := ⟨_, List.getElem?_eq_getElem (by have := HWk.out.2; omega)⟩
                  obtain ⟨b1, o1, c1, hsl1, hc1⟩ := HO.out.addr (fun e => by have := HWk.out.2; rw [e] at this; simp at this; omega)
                  cases hsl1
                  have e2 := (hc1 j y hy).2
                  have e34 := HWk.out.1.2 y (List.mem_of_getElem? hy)
                  obtain ⟨e3, e4⟩ := e34
                  first
                    | have e5 : (!lost' == lost') = false := by cases lost' <;> rfl
                    | have e5 : (!lost == lost) = false := by cases lost <;> rfl
                    | skip
                  generalize y.2 = y2 at e2 e3 e4
                  clear hc1 hy
                  go_wp2
                  go_roundw
                  case rel => exact ⟨j + 1, by omega, by go_num, by trivial⟩
                  case measure => simp [intOf]; omega
                · clear hj
                  have hq := HDz.out.test
                  first
                    | have hq4 : (!lost' == lost') = false := by cases lost' <;> rfl
                    | have hq4 : (!lost == lost) = false := by cases lost <;> rfl
                    | skip
                  go_wp2_with fail
                  refine (fatF HZ.out).mono ?_
                  rintro e wa ⟨rfl, hF, hC⟩
                  have HA := Lib.hid hF
                  clear hF hC
                  go_wp2
                  go_roundw
                  case rel => exact ⟨k + 1, _, _, _, by omega, rfl, rfl, by go_num, HA.out, HDz.out⟩
                  case measure => simp [intOf]; omega
          · as_aux_lemma =>
            have hT := HK.out.2.cs t0
            have hL := mconsistc cb ab mb k s t0 _ HB4.out.1.m
            obtain ⟨r, hr⟩ : ∃ x : Int, x = if s.csB t0 = true then 0 else 22 := ⟨_, rfl⟩
            rw [← hr] at hL
            have HLc := Lib.hid hL
            clear hL
            rcases hT with ⟨h0, rfl, rfl, h3, h4, hDz⟩ | ⟨h0, hDz, hT⟩
            · rw [if_pos h0] at hr
              subst hr
              have HDz := Lib.hid hDz
              clear hDz h0
              go_wp2_with fail
              refine HLc.out.mono ?_
              rintro e wz ⟨rfl, hM, hC⟩
              have z0 := cellB (hC.blk HB4.out.2.2 (by have := HNE.out; simp; omega)) (i := 0) rfl
              have z9 := cellB (hC.blk HB4.out.2.1 (by have := HNE.out; simp; omega)) (i := 1) rfl
              have HZ := Lib.hid ((HB4.out.1.step hM hC (by simp)).mono (show (k : Int) ≤ ((k + 1 : Nat) : Int) by omega))
              clear hM hC
              have hq := HDz.out.test
              first
                | have hq4 : (!lost' == lost') = false := by cases lost' <;> rfl
                | have hq4 : (!lost == lost) = false := by cases lost <;> rfl
                | skip
              go_wp2_with fail
              refine (fatF HZ.out).mono ?_
              rintro e wa ⟨rfl, hF, hC⟩
              have HA := Lib.hid hF
              clear hF hC
              go_wp2
              go_roundw
              case rel => exact ⟨k + 1, _, _, _, by omega, rfl, rfl, by go_num, HA.out, HDz.out⟩
              case measure => simp [intOf]; omega
            · rw [h0, if_neg (by simp)] at hr
              subst hr
              have HDz := Lib.hid hDz
              clear hDz h0
              rcases hT with rfl | ⟨rfl, rfl⟩ | ⟨rfl, rfl, h3⟩ | ⟨rfl, rfl, h3, h4⟩
              all_goals
                go_wp2_with fail
                refine HLc.out.mono ?_
                rintro e wz ⟨rfl, hM, hC⟩
                have z0 := cellB (hC.blk HB4.out.2.2 (by have := HNE.out; simp; omega)) (i := 0) rfl
                have z9 := cellB (hC.blk HB4.out.2.1 (by have := HNE.out; simp; omega)) (i := 1) rfl
                have HZ := Lib.hid ((HB4.out.1.step hM hC (by simp)).mono (show (k : Int) ≤ ((k + 1 : Nat) : Int) by omega))
                clear hM hC
                have hq := HDz.out.test
                first
                  | have hq4 : (!lost' == lost') = false := by cases lost' <;> rfl
                  | have hq4 : (!lost == lost) = false := by cases lost <;> rfl
                  | skip
                go_wp2_with fail
                refine (fatF HZ.out).mono ?_
                rintro e wa ⟨rfl, hF, hC⟩
                have HA := Lib.hid hF
                clear hF hC
                go_wp2
                go_roundw
                case rel => exact ⟨k + 1, _, _, _, by omega, rfl, rfl, by go_num, HA.out, HDz.out⟩
                case measure => simp [intOf]; omega
          · as_aux_lemma =>
            have hT := HK.out.2.en HB4.out.1.m.list.lok t0
            have hL := mendedc cb ab mb k s t0 _ HB4.out.1.m
            have HLc := Lib.hid hL
            clear hL
            rcases hT with ⟨hT, hDz, hW0⟩ | ⟨h3, h4, hDz, hW0⟩
            · have HDz := Lib.hid hDz
              have HW0 := Lib.hid hW0
              clear hDz hW0
              rcases hT with h3 | ⟨h3, h4⟩
              all_goals
                go_wp2_with fail
                refine HLc.out.mono ?_
                rintro e wz ⟨v, rfl, hO, hM, hC⟩
                have z0 := cellB (hC.blk HB4.out.2.2 (by have := HNE.out; simp; omega)) (i := 0) rfl
                have z9 := cellB (hC.blk HB4.out.2.1 (by have := HNE.out; simp; omega)) (i := 1) rfl
                have HZ := Lib.hid ((HB4.out.1.step hM hC (by simp)).mono (show (k : Int) ≤ ((k + 1 : Nat) : Int) by omega))
                rw [HW0.out] at hO
                clear hM hC
                obtain ⟨va, vc, rfl⟩ := hO.pairs.slice
                clear hO
                rw [show ([] : WL).length = 0 from rfl]
                go_wp2
                refine wp_loop_rounds 1 ?_
                rw [rounds_succ]
                have hq := HDz.out.test
                first
                  | have hq4 : (!lost' == lost') = false := by cases lost' <;> rfl
                  | have hq4 : (!lost == lost) = false := by cases lost <;> rfl
                  | skip
                go_wp2_with fail
                refine (fatF HZ.out).mono ?_
                rintro e wa ⟨rfl, hF, hC⟩
                have HA := Lib.hid hF
                clear hF hC
                go_wp2
                go_roundw
                case rel => exact ⟨k + 1, _, _, _, by omega, rfl, rfl, by go_num, HA.out, HDz.out⟩
                case measure => simp [intOf]; omega
            · have HDz := Lib.hid hDz
              clear hDz
              rcases hW0 with hW0 | ⟨x5, hW0⟩
              · have HW0 := Lib.hid hW0
                clear hW0
                go_wp2_with fail
                refine HLc.out.mono ?_
                rintro e wz ⟨v, rfl, hO, hM, hC⟩
                have z0 := cellB (hC.blk HB4.out.2.2 (by have := HNE.out; simp; omega)) (i := 0) rfl
                have z9 := cellB (hC.blk HB4.out.2.1 (by have := HNE.out; simp; omega)) (i := 1) rfl
                have HZ := Lib.hid ((HB4.out.1.step hM hC (by simp)).mono (show (k : Int) ≤ ((k + 1 : Nat) : Int) by omega))
                rw [HW0.out] at hO
                clear hM hC
                obtain ⟨va, vc, rfl⟩ := hO.pairs.slice
                clear hO
                rw [show ([] : WL).length = 0 from rfl]
                go_wp2
                refine wp_loop_rounds 1 ?_
                rw [rounds_succ]
                have hq := HDz.out.test
                first
                  | have hq4 : (!lost' == lost') = false := by cases lost' <;> rfl
                  | have hq4 : (!lost == lost) = false := by cases lost <;> rfl
                  | skip
                go_wp2_with fail
                refine (fatF HZ.out).mono ?_
                rintro e wa ⟨rfl, hF, hC⟩
                have HA := Lib.hid hF
                clear hF hC
                go_wp2
                go_roundw
                case rel => exact ⟨k + 1, _, _, _, by omega, rfl, rfl, by go_num, HA.out, HDz.out⟩
                case measure => simp [intOf]; omega
              · have HW0 := Lib.hid hW0
                clear hW0
                go_wp2_with fail
                refine HLc.out.mono ?_
                rintro e wz ⟨v, rfl, hO, hM, hC⟩
                have z0 := cellB (hC.blk HB4.out.2.2 (by have := HNE.out; simp; omega)) (i := 0) rfl
                have z9 := cellB (hC.blk HB4.out.2.1 (by have := HNE.out; simp; omega)) (i := 1) rfl
                have HZ := Lib.hid ((HB4.out.1.step hM hC (by simp)).mono (show (k : Int) ≤ ((k + 1 : Nat) : Int) by omega))
                rw [HW0.out] at hO
                clear hM hC
                obtain ⟨b1, o1, c1, rfl, hc1⟩ := hO.pairs.addr (by simp)
                have e2 := (hc1 0 _ rfl).2
                rw [show [(x5, (130 : Int))].length = 1 from rfl]
                simp only [Nat.zero_mul, Nat.add_zero] at e2
                clear hO hc1
                go_wp2
                refine wp_loop_rounds 2 ?_
                rw [rounds_succ]
                go_wp2
                rw [rounds_succ]
                have hq := HDz.out.test
                first
                  | have hq4 : (!lost' == lost') = false := by cases lost' <;> rfl
                  | have hq4 : (!lost == lost) = false := by cases lost <;> rfl
                  | skip
                go_wp2_with fail
                refine (fatF HZ.out).mono ?_
                rintro e wa ⟨rfl, hF, hC⟩
                have HA := Lib.hid hF
                clear hF hC
                go_wp2
                go_roundw
                case rel => exact ⟨k + 1, _, _, _, by omega, rfl, rfl, by go_num, HA.out, HDz.out⟩
                case measure => simp [intOf]; omega
          · as_aux_lemma =>
            have HLc := Lib.hid (mleavec cb ab mb k s t0 _ HB4.out.1.m)
            have HDz := Lib.hid (HK.out.2.lv t0)
            go_wp2_with fail
            refine HLc.out.mono ?_
            rintro e wz ⟨rfl, hM, hC⟩
            have HZ := Lib.hid ((HB4.out.1.step hM hC (by simp)).mono (show (k : Int) ≤ ((k + 1 : Nat) : Int) by omega))
            clear hM hC
            have hq := HDz.out.test
            first
              | have hq4 : (!lost' == lost') = false := by cases lost' <;> rfl
              | have hq4 : (!lost == lost) = false := by cases lost <;> rfl
              | skip
            go_wp2_with fail
            refine (fatF HZ.out).mono ?_
            rintro e wa ⟨rfl, hF, hC⟩
            have HA := Lib.hid hF
            clear hF hC
            go_wp2
            go_roundw
            case rel => exact ⟨k + 1, _, _, _, by omega, rfl, rfl, by go_num, HA.out, HDz.out⟩
            case measure => simp [intOf]; omega
          · as_aux_lemma =>
            have HDz := Lib.hid HK.out.2
            have HZ := Lib.hid (HB4.out.1.mono (show (k : Int) ≤ ((k + 1 : Nat) : Int) by omega))
            have hq := HDz.out.test
            first
              | have hq4 : (!lost' == lost') = false := by cases lost' <;> rfl
              | have hq4 : (!lost == lost) = false := by cases lost <;> rfl
              | skip
            go_wp2_with fail
            refine (fatF HZ.out).mono ?_
            rintro e wa ⟨rfl, hF, hC⟩
            have HA := Lib.hid hF
            clear hF hC
            go_wp2
            go_roundw
            case rel => exact ⟨k + 1, _, _, _, by omega, rfl, rfl, by go_num, HA.out, HDz.out⟩
            case measure => simp [intOf]; omega
      · clear hk
        go_wp2_with fail
        refine (known13 wr).mono ?_
        rintro e w1 ⟨rfl, hC⟩
        have H1 := Lib.hid (HK.out.1.c.trans hC)
        clear hC
        go_wp2
        go_ret
        exact ⟨rfl, H1.out⟩

end Go.Proofs.Ytagnobmdcchcaaa
