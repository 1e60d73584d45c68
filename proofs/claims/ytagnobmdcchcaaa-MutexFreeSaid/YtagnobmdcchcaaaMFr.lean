
/- metronomelaw13.MutexFree answers true, whatever the steps. -/
import Derived.Test.YtagnobmdcchcaaaL13known
import Derived.Test.YtagnobmdcchcaaaMFp
import Derived.Deep.CutBlock
namespace Go.Proofs.Ytagnobmdcchcaaa
open Go.RowKit

/-- The priorities with which threads came, in an array. -/
def PrAt (w : World) (pb : Nat) (A : List Int) : Prop := A.length = 16 ∧ w.heap[pb]? = some (.cells (A.map (Value.int .i64)).toArray 53 (0, 0))
theorem PrAt.cell {w : World} {pb : Nat} {A : List Int} (h : PrAt w pb A) {k : Nat} (hk : k < 16) : w.cell? ⟨pb, k, none⟩ = some (.int .i64 (A.getD k 0)) := by
  refine cellB h.2 ?_
  have : k < A.length := by rw [h.1]; exact hk
  simp [this]
theorem PrAt.set {w : World} {pb : Nat} {A : List Int} (h : PrAt w pb A) (k : Nat) (x : Int) : PrAt (w.setCell ⟨pb, k, none⟩ (.int .i64 x)) pb (A.set k x) := by
  refine ⟨by rw [List.length_set]; exact h.1, ?_⟩
  rw [blk_setCell h.2]
  congr 2
  apply Array.ext'
  simp [List.map_set]

/-- Ahead of a step: the mutex, the array, who waited. -/
structure FB (w w3 : World) (cb ab mb pb : Nat) (N : Int) (s : MS) (A : List Int) (was : List Int) (vw : Value) : Prop where
  m : FM w w3 cb ab mb N s
  a : PrAt w3 pb A
  v : w3.ownsRow (pb + 1) 3 1 vw was.length (was.map (Value.int .i64))
  lt : cb < pb ∧ ab < pb ∧ mb < pb
  ge : w.heap.size ≤ pb

/-- Behind it: besides, who goes on. -/
def FRel (w : World) (cb ab mb pb : Nat) (N : Int) (was : List Int) (vw vl : Value) (wx : World) : Prop :=
  ∃ (s' : MS) (A' : List Int) (l : WL), FB w wx cb ab mb pb N s' A' was vw ∧ MOk s' ∧ PrOk A' s'.L ∧ OwnK wx (pb + 1) vl l ∧ LFact A' s'.own was l

theorem FB.step {w w3 w4 : World} {cb ab mb pb : Nat} {N N' : Int} {s s' : MS} {A was : List Int} {vw : Value} {S : List Nat} (h : FB w w3 cb ab mb pb N s A was vw) (hM : MAt w4 cb ab mb N' s') (hC : Chg S w3 w4) (hS : ∀ k ∈ S, k ∈ [cb, ab, mb]) : FB w w4 cb ab mb pb N' s' A was vw :=
  ⟨h.m.step hM hC hS, ⟨h.a.1, hC.blk h.a.2 (fun hm => by have := hS _ hm; have := h.lt; simp at *; omega)⟩, own_kept h.v hC (fun k hk => own_notin h.v (by have := hS _ hk; have := h.lt; simp at *; omega)), h.lt, h.ge⟩
theorem FB.set {w w4 : World} {cb ab mb pb : Nat} {N : Int} {s : MS} {A was : List Int} {vw : Value} (h : FB w w4 cb ab mb pb N s A was vw) (k : Nat) (x : Int) : FB w (w4.setCell ⟨pb, k, none⟩ (.int .i64 x)) cb ab mb pb N s (A.set k x) was vw :=
  have hC : Chg [pb] w4 (w4.setCell ⟨pb, k, none⟩ (.int .i64 x)) := (Chg.refl _ _).setCell _ _ (by simp)
  ⟨⟨h.m.m.kept hC (by have := h.lt; simp; omega) (by have := h.lt; simp; omega) (by have := h.lt; simp; omega), h.m.c.trans' hC (by have := h.ge; simp; omega), h.m.g⟩, h.a.set k x, own_kept h.v hC (fun j hj => own_notin h.v (by simp at hj; omega)), h.lt, h.ge⟩
theorem FB.none {w w4 : World} {cb ab mb pb : Nat} {N : Int} {s : MS} {A was : List Int} {vw : Value} (h : FB w w4 cb ab mb pb N s A was vw) (hok : MOk s) (hp : PrOk A s.L) : FRel w cb ab mb pb N was vw (.slice none 0 0) w4 :=
  ⟨s, A, [], h, hok, hp, World.ownsRow_nil .., .inl rfl⟩

set_option maxRecDepth 100000 in
set_option maxHeartbeats 16000000 in
theorem mutexFree_any (k0 p0 c0 : Int) (r0 : Bool) (v : Value) (R : List (Nat → Int)) (w : World) (hv : IsRows 4 w v R) :
    Calls Try.prog 6 #[.int .i64 k0, .int .i64 p0, .int .i64 c0, .bool r0, v] w fun e w' => e = .returned (.bool true) ∧ Chg [] w w' := by
  obtain ⟨a, cap, rfl⟩ := hv.slice
  have HV := Lib.hid hv
  clear hv
  obtain ⟨n, hn⟩ : ∃ n, n = R.length := ⟨_, rfl⟩
  rw [← hn]
  have HN := Lib.hid hn
  clear hn
  have hb : mnewB k0 p0 c0 = false ∨ (mnewB k0 p0 c0 = true ∧ 150 < n) ∨ (mnewB k0 p0 c0 = true ∧ ¬ 150 < n) := by cases mnewB k0 p0 c0 <;> simp; omega
  rcases hb with hb | ⟨hb, hl⟩ | ⟨hb, hl⟩
  · have HB := Lib.hid hb
    clear hb
    go_enter Try.func6, Try.ntmps6
    go_wp2_with fail
    refine (mnew_no k0 p0 c0 r0 w HB.out).mono ?_
    rintro e w0 ⟨rfl, rfl⟩
    go_wp2_with fail
    refine (known13 w).mono ?_
    rintro e w1 ⟨rfl, hC⟩
    have H1 := Lib.hid hC
    clear hC
    go_wp2
    go_ret
    exact ⟨rfl, H1.out⟩
  · have HB := Lib.hid hb
    have q1 : (150 : Int) < (n : Int) := by omega
    clear hb hl
    go_enter Try.func6, Try.ntmps6
    go_wp2_with fail
    refine (fnewF k0 p0 c0 r0 w w (Chg.refl _ _) HB.out).mono ?_
    rintro e w0 ⟨cb, ab, mb, rfl, hF, hC⟩
    have H0 := Lib.hid hC
    clear hF hC
    go_wp2_with fail
    refine (known13 w0).mono ?_
    rintro e w1 ⟨rfl, hC⟩
    have H1 := Lib.hid (H0.out.trans hC)
    clear hC
    go_wp2
    go_ret
    exact ⟨rfl, H1.out⟩
  · have HB := Lib.hid hb
    have q1 : ¬ (150 : Int) < (n : Int) := by omega
    clear hb
    go_enter Try.func6, Try.ntmps6
    go_wp2_with fail
    refine (fnewF k0 p0 c0 r0 w w (Chg.refl _ _) HB.out).mono ?_
    rintro e w0 ⟨cb, ab, mb, rfl, hF, hC⟩
    have hC1 : Chg [] w0 (w0.alloc (.cells ((List.replicate 16 (0 : Int)).map (Value.int .i64)).toArray 53)) := (Chg.refl _ _).alloc _
    have hA : PrAt (w0.alloc (.cells ((List.replicate 16 (0 : Int)).map (Value.int .i64)).toArray 53)) w0.heap.size (List.replicate 16 (0 : Int)) := ⟨by simp, heap_alloc_eq w0 _⟩
    have H0 := Lib.hid (And.intro (hF.calm hC1) (And.intro hA (And.intro hF.m.lt hF.c.size)))
    clear hF hC hC1 hA
    go_wp2
    clear q1
    go_loopw [14] (fun i wr => ∃ (k : Nat) (s : MS) (A : List Int), k ≤ n ∧ i = .int .i64 k ∧ FM w wr cb ab mb k s ∧ MOk s ∧ PrAt wr w0.heap.size A ∧ PrOk A s.L) (fun i _ => n - (intOf i).toNat)
    case atStart => exact ⟨0, mnew k0 p0 c0 r0, List.replicate 16 0, by omega, rfl, H0.out.1, MOk.new .., H0.out.2.1, by intro x hx; cases hx⟩
    case round =>
      obtain ⟨k, s, A, hk, rfl, hF, hOk, hA, hPr⟩ := hrel
      have HK := Lib.hid (And.intro hF (And.intro hOk (And.intro hA hPr)))
      have HL := Lib.hid hl
      have hlt0 := hF.m.lt
      have hgg := hF.c.size
      have hpb := lt_of_blk hA.2
      have hp3 := H0.out.2.2
      clear hF hOk hA hPr hl
      by_cases hlt : k < n
      · have hne : R ≠ [] := fun e => by have := HN.out; rw [e] at this; simp at this; omega
        obtain ⟨g, o, cap', hsl, hcells⟩ := HV.out.addr hne
        cases hsl
        obtain ⟨x, hx⟩ : ∃ x, R[k]? = some x := ⟨_, List.getElem?_eq_getElem (by have := HN.out; omega)⟩
        have hrow := IsRows.row hcells HK.out.1.c hx
        have d0 := hrow 0 (by omega)
        have d1 := hrow 1 (by omega)
        have d2 := hrow 2 (by omega)
        have d3 := hrow 3 (by omega)
        rw [Nat.add_zero] at d0
        clear hcells hrow hx hne
        generalize x 0 = kd at *
        generalize x 1 = t0 at *
        generalize x 2 = q at *
        generalize x 3 = b at *
        go_upto_if 50 with fail
        go_cut [] from 38 to 207 (fun wc => ∃ t, FM w wc cb ab mb k s ∧ PrAt wc w0.heap.size A ∧ wc.heap[wr.heap.size]? = some (.cells #[.int .i64 kd, .int .i64 t, .int .i64 q, .int .i64 b] 48 (0, 0)))
        case first => as_aux_lemma =>
          have h1 : Chg [] wr (wr.alloc (.cells #[.int .i64 kd, .int .i64 t0, .int .i64 q, .int .i64 b] 48)) := (Chg.refl _ _).alloc _
          have ht2 : (t0 == -2) = true ∨ (t0 == -2) = false := by cases (t0 == -2) <;> simp
          rcases ht2 with ht2 | ht2
          · go_wp2_with fail
            refine (fatF (HK.out.1.calm h1)).mono ?_
            rintro e w2 ⟨rfl, hF, hC⟩
            have hb2 := hC.blk (heap_alloc_eq wr _) (by simp)
            have x1 := cellB hb2 (i := 1) rfl
            have f1 := frozenB hb2 1
            have hS : Chg [wr.heap.size] w2 (w2.setCell ⟨wr.heap.size, 1, none⟩ (.int .i64 s.own)) := (Chg.refl _ _).setCell _ _ (by simp)
            have HZ := Lib.hid (And.intro (show FM w (w2.setCell ⟨wr.heap.size, 1, none⟩ (.int .i64 s.own)) cb ab mb k s from ⟨hF.m.kept hS (by simp; omega) (by simp; omega) (by simp; omega), hF.c.trans' hS (by simp; omega), hF.g⟩) (And.intro (show PrAt (w2.setCell ⟨wr.heap.size, 1, none⟩ (.int .i64 s.own)) w0.heap.size A from ⟨HK.out.2.2.1.1, hS.blk (hC.blk (h1.blk HK.out.2.2.1.2 (by simp)) (by simp)) (by simp; omega)⟩) (blk_setCell (i := 1) hb2 (.int .i64 s.own))))
            clear hF hC hb2 hS
            go_wp2
            go_meet
            case rel => exact ⟨s.own, HZ.out.1, HZ.out.2.1, HZ.out.2.2⟩
          · go_wp2_with fail
            go_meet
            case rel => exact ⟨t0, HK.out.1.calm h1, ⟨HK.out.2.2.1.1, h1.blk HK.out.2.2.1.2 (by simp)⟩, heap_alloc_eq wr _⟩
        case rest => as_aux_lemma =>
          obtain ⟨t, hF, hA, hS⟩ := hcut
          have x0 := cellB hS (i := 0) rfl
          have x1 := cellB hS (i := 1) rfl
          have x2 := cellB hS (i := 2) rfl
          have x3 := cellB hS (i := 3) rfl
          have HC := Lib.hid (And.intro hF (And.intro hA hS))
          clear hF hA hS
          go_wp2_with fail
          refine (mwaitingc cb ab mb k s wc HC.out.1.m).mono ?_
          rintro e w3 ⟨vw, rfl, how, hC⟩
          have hS3 := hC.blk HC.out.2.2 (by simp)
          have x0 := cellB hS3 (i := 0) rfl
          have x1 := cellB hS3 (i := 1) rfl
          have x2 := cellB hS3 (i := 2) rfl
          have x3 := cellB hS3 (i := 3) rfl
          have hszc := HC.out.1.c.size
          have hpbc := lt_of_blk HC.out.2.1.2
          have hFB : FB w w3 cb ab mb w0.heap.size k s A (ordT s.L) vw := ⟨HC.out.1.calm hC, ⟨HC.out.2.1.1, hC.blk HC.out.2.1.2 (by simp)⟩, by rw [show (ordT s.L).length = (ordT s.L).length from rfl]; exact own_mono how (by omega), hp3.1, hp3.2⟩
          have hsb : wr.heap.size ≠ cb ∧ wr.heap.size ≠ ab ∧ wr.heap.size ≠ mb ∧ wr.heap.size ≠ w0.heap.size := by omega
          have HB3 := Lib.hid (And.intro hFB (And.intro hS3 hsb))
          clear how hC hS3 hFB hlt0 hgg hpb hp3 hszc hpbc
          go_upto_block 2 with fail
          go_cut [17] from 38 to 207 (fun vl wx => FRel w cb ab mb w0.heap.size ((k + 1 : Nat) : Int) (ordT s.L) vw vl wx)
          case first => as_aux_lemma =>
            have hkk : (k : Int) ≤ ((k + 1 : Nat) : Int) := by omega
            have hk8 : kd = 1 ∨ kd = 2 ∨ kd = 3 ∨ kd = 4 ∨ kd = 5 ∨ kd = 6 ∨ kd = 7 ∨ ((kd == 1) = false ∧ (kd == 2) = false ∧ (kd == 3) = false ∧ (kd == 4) = false ∧ (kd == 5) = false ∧ (kd == 6) = false ∧ (kd == 7) = false) := by
              by_cases h1 : kd = 1
              · simp [h1]
              · by_cases h2 : kd = 2
                · simp [h2]
                · by_cases h3 : kd = 3
                  · simp [h3]
                  · by_cases h4 : kd = 4
                    · simp [h4]
                    · by_cases h5 : kd = 5
                      · simp [h5]
                      · by_cases h6 : kd = 6
                        · simp [h6]
                        · by_cases h7 : kd = 7
                          · simp [h7]
                          · simp [h1, h2, h3, h4, h5, h6, h7]
            rcases hk8 with rfl | rfl | rfl | rfl | rfl | rfl | rfl | ⟨k1, k2, k3, k4, k5, k6, k7⟩
            · as_aux_lemma => -- Lock
              have hL := mlockc cb ab mb k s t q b w3 HB3.out.1.m.m (by omega) HK.out.2.1.cnt0
              have hF := lock_free (s := s) t q b
              obtain ⟨has, hh⟩ : ∃ x, x = s.lockB t q b := ⟨_, rfl⟩
              obtain ⟨r, hr⟩ : ∃ x, x = s.lockE t q b := ⟨_, rfl⟩
              rw [← hh, ← hr] at hL hF
              have HLc := Lib.hid hL
              have hok := HK.out.2.1.lock t q b
              have HO := Lib.hid hok
              clear hL hh hr hok
              rcases hF with ⟨rfl, h2⟩ | ⟨rfl, h1, h2⟩ | ⟨rfl, h1, ht, hn, h2⟩
              · have H2 := Lib.hid h2
                clear h2
                go_wp2_with fail
                refine HLc.out.mono ?_
                rintro e w4 ⟨rfl, hM, hC⟩
                have HZ := Lib.hid (HB3.out.1.step hM hC (by simp))
                clear hM hC
                go_wp2
                go_meet
                case rel => exact HZ.out.none HO.out (by rw [H2.out]; exact HK.out.2.2.2)
              · have H2 := Lib.hid h2
                clear h2
                go_wp2_with fail
                refine HLc.out.mono ?_
                rintro e w4 ⟨rfl, hM, hC⟩
                have HZ := Lib.hid (HB3.out.1.step hM hC (by simp))
                clear hM hC
                go_wp2
                go_meet
                case rel => exact HZ.out.none HO.out (by rw [H2.out]; exact HK.out.2.2.2)
              · have hp := HK.out.2.2.2.put HK.out.2.2.1.1 HK.out.1.m.list.lok (q := q) ht hn
                obtain ⟨tn, rfl⟩ : ∃ tn : Nat, t = tn := ⟨t.toNat, by have := ht.1; omega⟩
                have htn : tn < 16 := by have := ht.2; omega
                have H2 := Lib.hid (And.intro h2 hp)
                clear h2 hp ht hn
                go_wp2_with fail
                refine HLc.out.mono ?_
                rintro e w4 ⟨rfl, hM, hC⟩
                have hS4 := hC.blk HB3.out.2.1 (by have := HB3.out.2.2; simp; omega)
                have y1 := cellB hS4 (i := 1) rfl
                have y2 := cellB hS4 (i := 2) rfl
                have hZ := HB3.out.1.step hM hC (by simp)
                have z1 := hZ.a.cell htn
                have z2 := frozenB hZ.a.2 tn
                have HZ := Lib.hid (hZ.set tn q)
                clear hM hC hS4 hZ
                go_wp2
                go_meet
                case rel => exact HZ.out.none HO.out (by rw [H2.out.1]; exact H2.out.2)
            · as_aux_lemma => -- Try
              have HLc := Lib.hid (mtryc cb ab mb k s t b w3 HB3.out.1.m.m HK.out.2.1.cnt0)
              have HO := Lib.hid (HK.out.2.1.try_ t b)
              go_wp2_with fail
              refine HLc.out.mono ?_
              rintro e w4 ⟨rfl, hM, hC⟩
              have HZ := Lib.hid (HB3.out.1.step (hM.mono hkk) hC (by simp))
              clear hM hC
              go_wp2
              go_meet
              case rel => exact HZ.out.none HO.out (by rw [tryS_L]; exact HK.out.2.2.2)
            · as_aux_lemma => -- Unlock
              have HLc := Lib.hid (munlockc cb ab mb k s t w3 HB3.out.1.m.m HK.out.2.1.cntM)
              have HO := Lib.hid (HK.out.2.1.un HB3.out.1.m.m.list.lok t)
              have HF := Lib.hid (un_free HB3.out.1.m.m.list.lok HK.out.2.2.2 t)
              go_wp2_with fail
              refine HLc.out.mono ?_
              rintro e w4 ⟨vl, rfl, hO, hM, hC⟩
              have HZ := Lib.hid (And.intro (HB3.out.1.step (hM.mono hkk) hC (by simp)) (own_mono hO (show w0.heap.size + 1 ≤ w3.heap.size from lt_of_blk HB3.out.1.a.2)))
              clear hM hC hO
              go_wp2
              go_meet
              case rel => exact ⟨_, _, _, HZ.out.1, HO.out, HF.out.2, HZ.out.2, HF.out.1⟩
            · as_aux_lemma => -- Consistent
              have hLc := mconsistc cb ab mb k s t w3 HB3.out.1.m.m
              generalize (if s.csB t = true then (0 : Int) else 22) = ce at hLc
              have HLc := Lib.hid hLc
              clear hLc
              have HO := Lib.hid (HK.out.2.1.cs t)
              go_wp2_with fail
              refine HLc.out.mono ?_
              rintro e w4 ⟨rfl, hM, hC⟩
              have HZ := Lib.hid (HB3.out.1.step (hM.mono hkk) hC (by simp))
              clear hM hC
              go_wp2
              go_meet
              case rel => exact HZ.out.none HO.out (by rw [csS_L]; exact HK.out.2.2.2)
            · as_aux_lemma => -- Ended
              have HLc := Lib.hid (mendedc cb ab mb k s t w3 HB3.out.1.m.m)
              have HO := Lib.hid (HK.out.2.1.en HB3.out.1.m.m.list.lok t)
              have HF := Lib.hid (en_free HB3.out.1.m.m.list.lok HK.out.2.2.2 t)
              go_wp2_with fail
              refine HLc.out.mono ?_
              rintro e w4 ⟨vl, rfl, hO, hM, hC⟩
              have HZ := Lib.hid (And.intro (HB3.out.1.step (hM.mono hkk) hC (by simp)) (own_mono hO (show w0.heap.size + 1 ≤ w3.heap.size from lt_of_blk HB3.out.1.a.2)))
              clear hM hC hO
              go_wp2
              go_meet
              case rel => exact ⟨_, _, _, HZ.out.1, HO.out, HF.out.2, HZ.out.2, HF.out.1⟩
            · as_aux_lemma => -- Leave
              have HLc := Lib.hid (mleavec cb ab mb k s t w3 HB3.out.1.m.m)
              have HO := Lib.hid (HK.out.2.1.lv t)
              go_wp2_with fail
              refine HLc.out.mono ?_
              rintro e w4 ⟨rfl, hM, hC⟩
              have HZ := Lib.hid (HB3.out.1.step (hM.mono hkk) hC (by simp))
              clear hM hC
              go_wp2
              go_meet
              case rel => exact HZ.out.none HO.out (HK.out.2.2.2.sub (lvL_sub s.L t))
            · as_aux_lemma => -- Change
              have hL := mchangec cb ab mb k s t q w3 HB3.out.1.m.m
              have HO := Lib.hid (HK.out.2.1.ch t q)
              have hcase : s.chB t q = false ∨ s.chB t q = true := by cases s.chB t q <;> simp
              rcases hcase with hch | hch
              · rw [hch] at hL
                have hs : (s.chS t q).L = s.L := by
                  unfold MS.chB at hch
                  unfold MS.chS chgL
                  exact if_neg (of_decide_eq_false hch)
                have HLc := Lib.hid hL
                have H2 := Lib.hid hs
                clear hL hs hch
                go_wp2_with fail
                refine HLc.out.mono ?_
                rintro e w4 ⟨rfl, hM, hC⟩
                have HZ := Lib.hid (HB3.out.1.step (hM.mono hkk) hC (by simp))
                clear hM hC
                go_wp2
                go_meet
                case rel => exact HZ.out.none HO.out (by rw [H2.out]; exact HK.out.2.2.2)
              · rw [hch] at hL
                have ha : askR s.L t q true = 0 := of_decide_eq_true hch
                have ht : okT t := by
                  unfold askR at ha
                  split at ha
                  · omega
                  · rename_i hc; unfold okT; omega
                have hp := HK.out.2.2.2.chg HK.out.2.2.1.1 HK.out.1.m.list.lok ha
                obtain ⟨tn, rfl⟩ : ∃ tn : Nat, t = tn := ⟨t.toNat, by have := ht.1; omega⟩
                have htn : tn < 16 := by have := ht.2; omega
                have HLc := Lib.hid hL
                have H2 := Lib.hid hp
                clear hL hch ha ht hp
                go_wp2_with fail
                refine HLc.out.mono ?_
                rintro e w4 ⟨rfl, hM, hC⟩
                have hS4 := hC.blk HB3.out.2.1 (by have := HB3.out.2.2; simp; omega)
                have y1 := cellB hS4 (i := 1) rfl
                have y2 := cellB hS4 (i := 2) rfl
                have hZ := HB3.out.1.step (hM.mono hkk) hC (by simp)
                have z1 := hZ.a.cell htn
                have z2 := frozenB hZ.a.2 tn
                have HZ := Lib.hid (hZ.set tn q)
                clear hM hC hS4 hZ
                go_wp2
                go_meet
                case rel => exact HZ.out.none HO.out H2.out
            · as_aux_lemma => -- nothing
              go_wp2
              go_meet
              case rel => exact (HB3.out.1.step (HB3.out.1.m.m.mono hkk) (Chg.refl [] _) (by simp)).none HK.out.2.1 HK.out.2.2.2
          case rest => as_aux_lemma =>
            obtain ⟨s', A', l, hB, hok, hpr, hO, hLF⟩ := hcut
            obtain ⟨va, vc, rfl⟩ := hO.pairs.slice
            have HQ := Lib.hid (And.intro hB (And.intro hok (And.intro hpr (And.intro hO hLF))))
            clear hB hok hpr hO hLF x0 x1 x2 x3 d0 d1 d2 d3
            go_wp2_with fail
            refine (fatF HQ.out.1.m).mono ?_
            rintro e w5 ⟨rfl, hF, hC⟩
            have hC5 : Chg [] wc (w5.alloc (.cells #[.int .i64 s'.own, .int .i64 s'.cnt, .int .i64 s'.st, .int .i64 s'.c] 41)) := hC.alloc _
            have HB5 := Lib.hid (And.intro (HQ.out.1.step (HQ.out.1.m.m.calm hC5) hC5 (by simp)) (And.intro (heap_alloc_eq w5 (.cells #[.int .i64 s'.own, .int .i64 s'.cnt, .int .i64 s'.st, .int .i64 s'.c] 41)) (own_kept HQ.out.2.2.2.1 hC5 (by simp))))
            clear hF hC hC5
            go_upto_region 32 with fail
            go_cut [166] from 38 to 207 (fun b wx => b = .bool false ∧ Chg [] (w5.alloc (.cells #[.int .i64 s'.own, .int .i64 s'.cnt, .int .i64 s'.st, .int .i64 s'.c] 41)) wx)
            case first => as_aux_lemma =>
              obtain ⟨n2, hn2, hways⟩ := HQ.out.2.1.ways HQ.out.1.m.m.list.lok
              have HN2 := Lib.hid hn2
              clear hn2
              rcases hways with ⟨h0, h1, h2, h3⟩ | ⟨h0, h1, h2, h3, h4⟩ | ⟨rfl, h1, h2, h3⟩ | ⟨rfl, h1, h2, h3⟩
              all_goals
                go_wp2_with fail
                refine (mwaitingc cb ab mb _ s' _ HB5.out.1.m.m).mono ?_
                rintro e w7 ⟨v7, rfl, ho7, hC7⟩
                obtain ⟨a7, c7, rfl⟩ := own_slice ho7
                have hb7 := hC7.blk HB5.out.2.1 (by simp)
                have z0 := cellB hb7 (i := 0) (v := .int .i64 s'.own) rfl
                have z1 := cellB hb7 (i := 1) (v := .int .i64 s'.cnt) rfl
                have z2 := cellB hb7 (i := 2) (v := .int .i64 s'.st) rfl
                have HC7 := Lib.hid hC7
                clear ho7 hC7 hb7
                rw [← HN2.out]
                go_wp2
                go_meet
                case rel => exact ⟨rfl, HC7.out⟩
            case rest => as_aux_lemma =>
              obtain ⟨rfl, hCx⟩ := hcut
              have HX := Lib.hid (And.intro (HB5.out.1.step (HB5.out.1.m.m.calm hCx) hCx (by simp)) (And.intro (hCx.blk HB5.out.2.1 (by simp)) (own_kept HB5.out.2.2 hCx (by simp))))
              clear hCx
              have hLF := HQ.out.2.2.2.2
              rcases hLF with rfl | ⟨x, r, rfl⟩ | ⟨x, e, rfl, h1, h2, h3, h4⟩
              · rw [show ([] : WL).length = 0 from rfl]
                go_wp2
                go_roundw
                case rel => exact ⟨k + 1, s', A', by omega, by go_num, HX.out.1.m, HQ.out.2.1, HX.out.1.a, HQ.out.2.2.1⟩
                case measure => simp [intOf]; omega
              · obtain ⟨b1, o1, c1, hsl, hc1⟩ := IsPairs.addr (IsPairs.of_own HX.out.2.2) (by simp)
                cases hsl
                have e2 := (hc1 0 _ rfl).2
                simp only [Nat.zero_mul, Nat.add_zero] at e2
                rw [show ((x, (131 : Int)) :: r).length = r.length + 1 from rfl]
                clear hc1
                go_wp2
                go_roundw
                case rel => exact ⟨k + 1, s', A', by omega, by go_num, HX.out.1.m, HQ.out.2.1, HX.out.1.a, HQ.out.2.2.1⟩
                case measure => simp [intOf]; omega
              · obtain ⟨b1, o1, c1, hsl, hc1⟩ := IsPairs.addr (IsPairs.of_own HX.out.2.2) (by simp)
                cases hsl
                obtain ⟨e1, e2⟩ := hc1 0 _ rfl
                simp only [Nat.zero_mul, Nat.add_zero] at e1 e2
                rw [show ([(x, e)] : WL).length = 1 from rfl]
                obtain ⟨xn, rfl⟩ : ∃ xn : Nat, x = xn := ⟨x.toNat, by have := h3.1; omega⟩
                have hxn : xn < 16 := by have := h3.2; omega
                have z0 := cellB HX.out.2.1 (i := 0) (v := .int .i64 s'.own) rfl
                rw [h2] at z0
                have q1 : (e != 131) = true := by simpa using h1
                have q2 : ((xn : Int) != (xn : Int)) = false := by simp
                have p1 := HX.out.1.a.cell hxn
                have HY := Lib.hid h4
                obtain ⟨n0, hn0⟩ : ∃ n0, n0 = (ordT s.L).length := ⟨_, rfl⟩
                have hn16 : n0 ≤ 16 := by rw [hn0]; unfold ordT; rw [List.length_map, (ordL_perm HK.out.1.m.list.lok).length_eq]; exact HK.out.1.m.list.facts.2.2
                have hi0 : IsInts wc vw (ordT s.L) := IsInts.of_own HX.out.1.v
                obtain ⟨av, cv, hvw⟩ := hi0.slice
                subst hvw
                have HI := Lib.hid (And.intro hi0 hn0)
                rw [← hn0]
                clear hc1 h1 h2 h3 h4 hi0 hn0
                go_wp2
                go_quiet (fail)
                go_wp2
                go_loopw [21] (fun i wy => ∃ j : Nat, j ≤ n0 ∧ i = .int .i64 j ∧ ∃ q, wy = wc.drewN q) (fun i _ => n0 - (intOf i).toNat)
                case atStart => exact ⟨0, by omega, rfl, _, rfl⟩
                case round =>
                  obtain ⟨j, hj, rfl, qn, rfl⟩ := hrel
                  by_cases hjl : j < n0
                  · obtain ⟨y, hy⟩ : ∃ y, (ordT s.L)[j]? = some y := ⟨_, List.getElem?_eq_getElem (by have := HI.out.2; omega)⟩
                    obtain ⟨b3, o3, c3, hsl3, hc3⟩ := HI.out.1.addr (fun e => by have := HI.out.2; rw [e] at this; simp at this; omega)
                    cases hsl3
                    have g1 := hc3 j y hy
                    obtain ⟨hyk, hle⟩ := HY.out y (List.mem_of_getElem? hy)
                    obtain ⟨yn, rfl⟩ : ∃ yn : Nat, y = yn := ⟨y.toNat, by have := hyk.1; omega⟩
                    have hyn : yn < 16 := by have := hyk.2; omega
                    have p2 := HX.out.1.a.cell hyn
                    simp only [Int.toNat_natCast] at hle
                    have hd : decide (A'.getD xn 0 < A'.getD yn 0) = false := decide_eq_false (by omega)
                    generalize A'.getD yn 0 = py at *
                    generalize A'.getD xn 0 = px at *
                    clear hc3 hy hyk hle
                    go_wp2
                    go_quiet (fail)
                    go_wp2
                    go_roundw
                    case rel => exact ⟨j + 1, by omega, by go_num, qn + nq, rfl⟩
                    case measure => simp [intOf]; omega
                  · clear hj
                    have hCq : Chg [] wc (wc.drewN qn) := (Chg.refl _ _).drewN _
                    have HZ := Lib.hid (HX.out.1.step (HX.out.1.m.m.calm hCq) hCq (by simp))
                    clear hCq
                    go_wp2
                    go_roundw
                    case rel => exact ⟨k + 1, s', A', by omega, by go_num, HZ.out.m, HQ.out.2.1, HZ.out.a, HQ.out.2.2.1⟩
                    case measure => simp [intOf]; omega
      · clear hk
        go_wp2_with fail
        refine (known13 wr).mono ?_
        rintro e w1 ⟨rfl, hC⟩
        have H1 := Lib.hid (HK.out.1.c.trans hC)
        clear hC
        go_wp2
        go_ret
        exact ⟨rfl, H1.out⟩

end Go.Proofs.Ytagnobmdcchcaaa
