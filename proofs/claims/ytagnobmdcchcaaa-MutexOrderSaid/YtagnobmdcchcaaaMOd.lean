
/- metronomelaw13.MutexOrder answers true, whatever the priorities. -/
import Derived.Test.YtagnobmdcchcaaaL13known
import Derived.Test.YtagnobmdcchcaaaMOp
import Derived.Test.YtagnobmdcchcaaaIns
import Derived.Deep.CutBlock
namespace Go.Proofs.Ytagnobmdcchcaaa
open Go.RowKit

/-- Who waits, in an array. -/
def InAt (w : World) (ib : Nat) (B : List Bool) : Prop := B.length = 16 ∧ w.heap[ib]? = some (.cells (B.map Value.bool).toArray 33 (0, 0))
theorem InAt.cell {w : World} {ib : Nat} {B : List Bool} (h : InAt w ib B) {k : Nat} (hk : k < 16) : w.cell? ⟨ib, k, none⟩ = some (.bool (B.getD k false)) := by
  refine cellB h.2 ?_
  have : k < B.length := by rw [h.1]; exact hk
  simp [this]
theorem InAt.set {w : World} {ib : Nat} {B : List Bool} (h : InAt w ib B) (k : Nat) (x : Bool) : InAt (w.setCell ⟨ib, k, none⟩ (.bool x)) ib (B.set k x) := by
  refine ⟨by rw [List.length_set]; exact h.1, ?_⟩
  rw [blk_setCell h.2]
  congr 2
  apply Array.ext'
  simp [List.map_set]
theorem InAt.kept {S : List Nat} {w w' : World} {ib : Nat} {B : List Bool} (h : InAt w ib B) (hC : Chg S w w') (hS : ib ∉ S) : InAt w' ib B := ⟨h.1, hC.blk h.2 hS⟩
theorem getB_rep (n j : Nat) : (List.replicate n false).getD j false = false := by
  rw [List.getD_eq_getElem?_getD, List.getElem?_replicate]
  split <;> rfl
def InOk (B : List Bool) (L : WL) : Prop := ∀ j : Nat, j < 16 → B.getD j false = hasR L j

theorem FM.setIn {w0 w : World} {cb ab mb ib : Nat} {N : Int} {s : MS} (h : FM w0 w cb ab mb N s) (hlt : cb < ib ∧ ab < ib ∧ mb < ib) (hge : w0.heap.size ≤ ib) (k : Nat) (v : Value) : FM w0 (w.setCell ⟨ib, k, none⟩ v) cb ab mb N s :=
  have hC : Chg [ib] w (w.setCell ⟨ib, k, none⟩ v) := (Chg.refl _ _).setCell _ _ (by simp)
  ⟨h.m.kept hC (by simp; omega) (by simp; omega) (by simp; omega), h.c.trans' hC (by simp; omega), h.g⟩
theorem getB_set {B : List Bool} (hB : B.length = 16) {k : Nat} (hk : k < 16) (x : Bool) (j : Nat) : (B.set k x).getD j false = if j = k then x else B.getD j false := by
  by_cases h : j = k
  · subst h
    rw [if_pos rfl]
    simp [List.getD_eq_getElem?_getD, hB, hk]
  · rw [if_neg h]
    simp [List.getD_eq_getElem?_getD, List.getElem?_set_ne (Ne.symm h)]

set_option maxRecDepth 100000 in
set_option maxHeartbeats 16000000 in
theorem mutexOrder_any (k p : Int) (rob : Bool) (v : Value) (ts : List Int) (w : World) (hv : IsInts w v ts) :
    Calls Try.prog 3 #[.int .i64 k, .int .i64 p, .bool rob, v] w fun e w' => e = .returned (.bool true) ∧ Chg [] w w' := by
  obtain ⟨a, cap, rfl⟩ := hv.slice
  have HV := Lib.hid hv
  clear hv
  obtain ⟨n, hn⟩ : ∃ n, n = ts.length := ⟨_, rfl⟩
  rw [← hn]
  have HN := Lib.hid hn
  clear hn
  obtain ⟨c, hc⟩ : ∃ c : Int, c = if p = 2 then 31 else 0 := ⟨_, rfl⟩
  have hpc : ((p == 2) = true ∧ c = 31) ∨ ((p == 2) = false ∧ c = 0) := by
    by_cases h : p = 2
    · left; rw [hc, if_pos h]; exact ⟨by simpa using h, rfl⟩
    · right; rw [hc, if_neg h]; exact ⟨by simpa using h, rfl⟩
  have hp2 : p = 2 → c = 31 := fun h => by rw [hc, if_pos h]
  have HP2 := Lib.hid hp2
  have hb : mnewB k p c = false ∨ (mnewB k p c = true ∧ 15 < n) ∨ (mnewB k p c = true ∧ ¬ 15 < n) := by cases mnewB k p c <;> simp; omega
  clear hc hp2
  go_enter Try.func3, Try.ntmps3
  go_upto_if 29 with fail
  go_cut [9] from 28 (fun c9 wc => c9 = .int .i64 c ∧ wc = w)
  case first =>
    rcases hpc with ⟨h1, rfl⟩ | ⟨h1, rfl⟩
    all_goals
      go_wp2_with fail
      go_meet
      case rel => exact ⟨rfl, rfl⟩
  case rest =>
    obtain ⟨rfl, rfl⟩ := hcut
    clear hpc
    rcases hb with hb | ⟨hb, hl⟩ | ⟨hb, hl⟩
    · have HB := Lib.hid hb
      clear hb
      go_wp2_with fail
      refine (mnew_no k p c rob wc HB.out).mono ?_
      rintro e w0 ⟨rfl, rfl⟩
      go_wp2_with fail
      refine (known13 wc).mono ?_
      rintro e w1 ⟨rfl, hC⟩
      have H1 := Lib.hid hC
      clear hC
      go_wp2
      go_ret
      exact ⟨rfl, H1.out⟩
    · have HB := Lib.hid hb
      have q1 : (15 : Int) < (n : Int) := by omega
      clear hb hl
      go_wp2_with fail
      refine (fnewF k p c rob wc wc (Chg.refl _ _) HB.out).mono ?_
      rintro e w0 ⟨cb, ab, mb, rfl, hF, hC⟩
      have H0 := Lib.hid hC
      clear hF hC
      go_wp2_with fail
      refine (known13 w0).mono ?_
      rintro e w1 ⟨rfl, hC⟩
      have H1 := Lib.hid (H0.out.trans hC)
      clear hC
      go_wp2
      go_ret
      exact ⟨rfl, H1.out⟩
    · have HB := Lib.hid hb
      have q1 : ¬ (15 : Int) < (n : Int) := by omega
      have hn15 : n ≤ 15 := by omega
      obtain ⟨f1, f2, f3⟩ := ost_first k p rob c HP2.out
      have HF := Lib.hid (And.intro f1 (And.intro f2 f3))
      clear hb hl f1 f2 f3
      go_wp2_with fail
      refine (fnewF k p c rob wc wc (Chg.refl _ _) HB.out).mono ?_
      rintro e w0 ⟨cb, ab, mb, rfl, hF, hC⟩
      have H0 := Lib.hid hF
      clear hF hC
      go_wp2_with fail
      refine (flockF 15 1 1 H0.out (by omega) (show (0 : Int) ≤ 0 by omega)).mono ?_
      rintro e w1 ⟨rfl, hF⟩
      rw [HF.out.1, HF.out.2.1]
      rw [HF.out.2.2] at hF
      have hC1 : Chg [] w1 (w1.alloc (.cells ((List.replicate 16 false).map Value.bool).toArray 33)) := (Chg.refl _ _).alloc _
      have hA : InAt (w1.alloc (.cells ((List.replicate 16 false).map Value.bool).toArray 33)) w1.heap.size (List.replicate 16 false) := ⟨by simp, heap_alloc_eq w1 _⟩
      have hlt := hF.m.lt
      have hge := hF.c.size
      have H1 := Lib.hid (And.intro (hF.calm hC1) (And.intro hA (And.intro hlt hge)))
      clear hF hC1 hA hlt hge
      go_wp2
      clear q1
      go_loopw [15, 16] (fun cn i wr => ∃ (t : Nat) (B : List Bool), t ≤ n ∧ cn = .int .i64 (Lp ts t).length ∧ i = .int .i64 t ∧ FM wc wr cb ab mb (t + 1) (ost k p c rob 15 (Lp ts t)) ∧ InAt wr w1.heap.size B ∧ InOk B (Lp ts t)) (fun _ i _ => n - (intOf i).toNat)
      case atStart => exact ⟨0, List.replicate 16 false, by omega, rfl, rfl, H1.out.1.mono (by omega), H1.out.2.1, fun j _ => by rw [getB_rep]; rfl⟩
      case round =>
        obtain ⟨t, B, ht, rfl, rfl, hF, hA, hI⟩ := hrel
        have HK := Lib.hid (And.intro hF (And.intro hA hI))
        clear hF hA hI
        by_cases hlt : t < n
        · obtain ⟨y, hy⟩ : ∃ y, ts[t]? = some y := ⟨_, List.getElem?_eq_getElem (by have := HN.out; omega)⟩
          obtain ⟨g, o, cap', hsl, hcells⟩ := HV.out.addr (fun e => by have := HN.out; rw [e] at this; simp at this; omega)
          cases hsl
          have hcy := hcells t y hy
          have d0 := cell_kept' hcy HK.out.1.c (by simp)
          have hyd : ts.getD t 0 = y := by simp [List.getD_eq_getElem?_getD, hy]
          have HCY := Lib.hid hcy
          have HYD := Lib.hid hyd
          have hLp : (prB y = true ∧ Lp ts (t + 1) = Lp ts t ++ [((t : Int), y)]) ∨ (prB y = false ∧ Lp ts (t + 1) = Lp ts t) := by
            rw [Lp, hyd]
            cases prB y <;> simp
          have hnh : hasR (Lp ts t) t = false := by rw [Lp_has]; simp
          have hlen : (Lp ts t).length ≤ 16 := HK.out.1.m.list.facts.2.2
          have hw3 : (prB y = true ∧ decide (1 ≤ y) = true ∧ decide (y ≤ 31) = true) ∨ (prB y = false ∧ decide (1 ≤ y) = false) ∨ (prB y = false ∧ decide (1 ≤ y) = true ∧ decide (y ≤ 31) = false) := by
            unfold prB
            by_cases h1 : 1 ≤ y <;> by_cases h2 : y ≤ 31 <;> simp [h1, h2]
          have HH := Lib.hid (And.intro hnh hLp)
          clear hy hcells hcy hyd hLp hnh
          generalize hm : (Lp ts t).length = m at *
          have HM := Lib.hid hm
          clear hm
          have ht16 : t < 16 := by omega
          rcases hw3 with ⟨h0, h1, h2⟩ | ⟨h0, h1⟩ | ⟨h0, h1, h2⟩
          · as_aux_lemma =>
            have hpb : prB (ts.getD t 0) = true := by rw [HYD.out]; exact h0
            have HPB := Lib.hid hpb
            clear hpb
            obtain ⟨g1, g2, g3⟩ := ost_lock (k := k) (rob := rob) HP2.out (show (0 : Int) ≤ t ∧ (t : Int) < 15 by omega) HH.out.1 h0
            have hLn : Lp ts (t + 1) = Lp ts t ++ [((t : Int), y)] := by
              rcases HH.out.2 with h | h
              · exact h.2
              · rw [h.1] at h0; cases h0
            have HG := Lib.hid (And.intro g1 (And.intro g2 (And.intro g3 hLn)))
            clear g1 g2 g3 hLn h0
            go_wp2_with fail
            refine (mlockc cb ab mb _ _ t y 1 wr HK.out.1.m (by omega) (show (0 : Int) ≤ 1 by omega)).mono ?_
            rintro e w2 ⟨rfl, hM, hC2⟩
            have hF := HK.out.1.step hM hC2 (by simp)
            clear hM
            rw [HG.out.1, HG.out.2.1]
            rw [HG.out.2.2.1] at hF
            have d1 := cell_kept' HCY.out hF.c (by simp)
            have hA2 := HK.out.2.1.kept hC2 (by have := H1.out.2.2; simp; omega)
            have z1 := hA2.cell ht16
            have z2 := frozenB hA2.2 t
            have HZ := Lib.hid (And.intro (hF.setIn (ib := w1.heap.size) H1.out.2.2.1 H1.out.2.2.2 t (.bool true)) (hA2.set t true))
            clear hF hC2 hA2
            go_wp2
            go_roundw
            case rel =>
              refine ⟨t + 1, B.set t true, by omega, by rw [HG.out.2.2.2, List.length_append, HM.out]; go_num, by go_num, by rw [HG.out.2.2.2]; exact HZ.out.1, HZ.out.2, ?_⟩
              intro j hj
              rw [getB_set HK.out.2.1.1 ht16, Lp_has]
              by_cases hjt : j = t
              · subst hjt
                rw [if_pos rfl]
                rw [HPB.out]; simp
              · rw [if_neg hjt, HK.out.2.2 j hj, Lp_has]
                by_cases hj2 : j < t
                · have : j < t + 1 := by omega
                  simp [hj2, this]
                · have : ¬ j < t + 1 := by omega
                  simp [hj2, this]
            case measure => simp [intOf]; omega
          · as_aux_lemma =>
            have hpb : prB (ts.getD t 0) = false := by rw [HYD.out]; exact h0
            have HPB := Lib.hid hpb
            clear hpb
            obtain ⟨g1, g2, g3⟩ := ost_no (ost k p c rob 15 (Lp ts t)) t y h0
            have hLn : Lp ts (t + 1) = Lp ts t := by
              rcases HH.out.2 with h | h
              · rw [h.1] at h0; cases h0
              · exact h.2
            have HG := Lib.hid (And.intro g1 (And.intro g2 (And.intro g3 hLn)))
            clear g1 g2 g3 hLn h0
            go_wp2_with fail
            refine (mlockc cb ab mb _ _ t y 1 wr HK.out.1.m (by omega) (show (0 : Int) ≤ 1 by omega)).mono ?_
            rintro e w2 ⟨rfl, hM, hC2⟩
            have hF := HK.out.1.step hM hC2 (by simp)
            clear hM
            rw [HG.out.1, HG.out.2.1]
            rw [HG.out.2.2.1] at hF
            have d1 := cell_kept' HCY.out hF.c (by simp)
            have hA2 := HK.out.2.1.kept hC2 (by have := H1.out.2.2; simp; omega)
            have z1 := hA2.cell ht16
            have z2 := frozenB hA2.2 t
            have HZ := Lib.hid (And.intro (hF.setIn (ib := w1.heap.size) H1.out.2.2.1 H1.out.2.2.2 t (.bool false)) (hA2.set t false))
            clear hF hC2 hA2
            go_wp2
            go_roundw
            case rel =>
              refine ⟨t + 1, B.set t false, by omega, by rw [HG.out.2.2.2, HM.out], by go_num, by rw [HG.out.2.2.2]; exact HZ.out.1, HZ.out.2, ?_⟩
              intro j hj
              rw [getB_set HK.out.2.1.1 ht16, Lp_has]
              by_cases hjt : j = t
              · subst hjt
                rw [if_pos rfl]
                rw [HPB.out]; simp
              · rw [if_neg hjt, HK.out.2.2 j hj, Lp_has]
                by_cases hj2 : j < t
                · have : j < t + 1 := by omega
                  simp [hj2, this]
                · have : ¬ j < t + 1 := by omega
                  simp [hj2, this]
            case measure => simp [intOf]; omega
          · as_aux_lemma =>
            have hpb : prB (ts.getD t 0) = false := by rw [HYD.out]; exact h0
            have HPB := Lib.hid hpb
            clear hpb
            obtain ⟨g1, g2, g3⟩ := ost_no (ost k p c rob 15 (Lp ts t)) t y h0
            have hLn : Lp ts (t + 1) = Lp ts t := by
              rcases HH.out.2 with h | h
              · rw [h.1] at h0; cases h0
              · exact h.2
            have HG := Lib.hid (And.intro g1 (And.intro g2 (And.intro g3 hLn)))
            clear g1 g2 g3 hLn h0
            go_wp2_with fail
            refine (mlockc cb ab mb _ _ t y 1 wr HK.out.1.m (by omega) (show (0 : Int) ≤ 1 by omega)).mono ?_
            rintro e w2 ⟨rfl, hM, hC2⟩
            have hF := HK.out.1.step hM hC2 (by simp)
            clear hM
            rw [HG.out.1, HG.out.2.1]
            rw [HG.out.2.2.1] at hF
            have d1 := cell_kept' HCY.out hF.c (by simp)
            have hA2 := HK.out.2.1.kept hC2 (by have := H1.out.2.2; simp; omega)
            have z1 := hA2.cell ht16
            have z2 := frozenB hA2.2 t
            have HZ := Lib.hid (And.intro (hF.setIn (ib := w1.heap.size) H1.out.2.2.1 H1.out.2.2.2 t (.bool false)) (hA2.set t false))
            clear hF hC2 hA2
            go_wp2
            go_roundw
            case rel =>
              refine ⟨t + 1, B.set t false, by omega, by rw [HG.out.2.2.2, HM.out], by go_num, by rw [HG.out.2.2.2]; exact HZ.out.1, HZ.out.2, ?_⟩
              intro j hj
              rw [getB_set HK.out.2.1.1 ht16, Lp_has]
              by_cases hjt : j = t
              · subst hjt
                rw [if_pos rfl]
                rw [HPB.out]; simp
              · rw [if_neg hjt, HK.out.2.2 j hj, Lp_has]
                by_cases hj2 : j < t
                · have : j < t + 1 := by omega
                  simp [hj2, this]
                · have : ¬ j < t + 1 := by omega
                  simp [hj2, this]
            case measure => simp [intOf]; omega
        · as_aux_lemma =>
          obtain rfl : t = n := by omega
          obtain ⟨m, hm⟩ : ∃ m, m = (Lp ts t).length := ⟨_, rfl⟩
          have hm16 : m ≤ 16 := by rw [hm]; exact HK.out.1.m.list.facts.2.2
          rw [← hm]
          have HM := Lib.hid hm
          clear hm ht hlt
          go_wp2
          go_loopw [20, 21] (fun la i wr => ∃ (j : Nat) (own : Int) (L : WL) (B : List Bool), la = .int .i64 own ∧ i = .int .i64 j ∧ j + L.length = m ∧ FM wc wr cb ab mb (t + 1) (ost k p c rob own L) ∧ okT own ∧ InAt wr w1.heap.size B ∧ InOk B L ∧ L.Pairwise (fun x y => x.1 < y.1) ∧ ∀ x ∈ L, ∃ j : Nat, j < t ∧ x.1 = j ∧ x.2 = ts.getD j 0) (fun _ i _ => m - (intOf i).toNat)
          case atStart => exact ⟨0, 15, Lp ts t, B, rfl, rfl, by rw [HM.out]; omega, HK.out.1, by unfold okT; omega, HK.out.2.1, HK.out.2.2, Lp_sorted ts t, fun x hx => by obtain ⟨j, h1, h2, h3, _⟩ := Lp_mem x hx; exact ⟨j, h1, h2, h3⟩⟩
          case round =>
            obtain ⟨j, own, L, B2, rfl, rfl, hjm, hF, hown, hA, hI, hsort, hmem⟩ := hrel
            obtain ⟨u1, u2, u3⟩ := ost_un (k := k) (p := p) (c := c) (rob := rob) (L := L) hown
            have hU := funlockF own hF (show (1 : Int) ≤ 32767 by omega)
            rw [u1, u2, u3] at hU
            have HR := Lib.hid (And.intro hF (And.intro hA (And.intro hI (And.intro hsort hmem))))
            clear hF hA hI hsort hmem u1 u2 u3 hown
            by_cases hlt : j < m
            · cases ho : ordL L with
              | nil =>
                have := (ord_nil_iff HR.out.1.m.list.lok).1 ho
                subst this
                simp at hjm
                omega
              | cons x r =>
                have hlok : ListOk L := HR.out.1.m.list.lok
                obtain ⟨hxm, hbest⟩ := head_best hlok HR.out.2.2.2.1 ho
                have hW : (ost k p c rob own L).nextW = [(x.1, 0)] := by unfold MS.nextW; show (match ordL L with | [] => [] | x :: _ => [(x.1, (ost k p c rob own L).told)]) = _; rw [ho]; rfl
                have hS : (ost k p c rob own L).nextS = ost k p c rob x.1 (takeL L) := by unfold MS.nextS; show (match ordL L with | [] => _ | x :: _ => _) = _; rw [ho]; rfl
                rw [hW, hS] at hU
                obtain ⟨xn, hx1, hx2, hx3⟩ := HR.out.2.2.2.2 x hxm
                have hokx := (hlok.ok x hxm).1
                have hlen := take_len hlok ho
                have hhas := fun i => take_has hlok ho i
                have hfil := take_filter hlok ho
                rw [hx2] at hU hokx
                have hxB : B2.getD xn false = true := by
                  rw [HR.out.2.2.1 xn (by omega)]
                  exact hasR_mem.2 ⟨x.2, by rw [← hx2]; exact hxm⟩
                have HX := Lib.hid (And.intro hbest (And.intro hhas (And.intro hfil (And.intro hx2 (And.intro hx3 hokx)))))
                have HU := Lib.hid hU
                have hx16 : xn < 16 := by omega
                have hx14 : ¬ (14 : Int) < (xn : Int) := by omega
                clear hxm hbest hW hS hU hokx hhas hfil ho hx2 hx3
                go_wp2_with fail
                refine HU.out.mono ?_
                rintro e w2 ⟨v2, rfl, hO, hF, hC2⟩
                obtain ⟨b1, o1, c1, rfl, hc1⟩ := hO.pairs.addr (by simp)
                obtain ⟨e1, e2⟩ := hc1 0 _ rfl
                simp only [Nat.zero_mul, Nat.add_zero] at e1 e2
                rw [show [((xn : Int), (0 : Int))].length = 1 from rfl]
                have hA2 := HR.out.2.1.kept hC2 (by have := H1.out.2.2; simp; omega)
                have z1 := hA2.cell hx16
                rw [hxB] at z1
                have z2 := frozenB hA2.2 xn
                have H2 := Lib.hid (And.intro hF hA2)
                obtain ⟨g, o, cap', hsl, hcells⟩ := HV.out.addr (fun e => by have := HN.out; rw [e] at this; simp at this; omega)
                cases hsl
                have hd : ∀ i : Nat, i < t → w2.cell? ⟨g, o + i, none⟩ = some (.int .i64 (ts.getD i 0)) := fun i hi => by
                  have hy : ts[i]? = some (ts.getD i 0) := by rw [List.getElem?_eq_getElem (by have := HN.out; omega)]; simp [List.getD_eq_getElem?_getD, List.getElem?_eq_getElem (show i < ts.length by have := HN.out; omega)]
                  exact cell_kept' (hcells i _ hy) hF.c (by simp)
                have dx := hd xn hx1
                have HD := Lib.hid hd
                clear hO hF hC2 hc1 hA2 hcells hd hxB
                go_wp2
                go_loopw [25] (fun i wy => ∃ i1 : Nat, i1 ≤ t ∧ i = .int .i64 i1 ∧ ∃ q, wy = w2.drewN q) (fun i _ => t - (intOf i).toNat)
                case atStart => exact ⟨0, by omega, rfl, 0, rfl⟩
                case round =>
                  obtain ⟨i1, hi1, rfl, qn, rfl⟩ := hrel
                  by_cases hil : i1 < t
                  · have y1 := H2.out.2.cell (show i1 < 16 by omega)
                    have dy := HD.out i1 hil
                    have hbo : B2.getD i1 false = hasR L i1 := HR.out.2.2.1 i1 (by omega)
                    have hways : B2.getD i1 false = false ∨ (B2.getD i1 false = true ∧ decide (ts.getD xn 0 < ts.getD i1 0) = false ∧ ((ts.getD i1 0 == ts.getD xn 0) = false ∨ ((ts.getD i1 0 == ts.getD xn 0) = true ∧ decide ((i1 : Int) < (xn : Int)) = false))) := by
                      cases hh : B2.getD i1 false with
                      | false => exact .inl rfl
                      | true =>
                        right
                        rw [hh] at hbo
                        obtain ⟨q, hq⟩ := hasR_mem.1 hbo.symm
                        obtain ⟨j2, h5, h6, h7⟩ := HR.out.2.2.2.2 _ hq
                        have : i1 = j2 := by simp at h6; omega
                        subst this
                        have hb := HX.out.1 _ hq
                        rw [h7, HX.out.2.2.2.2.1, HX.out.2.2.2.1] at hb
                        exact ⟨rfl, hb⟩
                    generalize B2.getD i1 false = bo at *
                    generalize ts.getD i1 0 = py at *
                    generalize ts.getD xn 0 = px at *
                    clear hbo
                    have hways2 : bo = false ∨ (bo = true ∧ decide (px < py) = false ∧ ((py == px) = false ∨ ((py == px) = true ∧ ¬ i1 < xn))) := by
                      rcases hways with h | ⟨h, h1, h2 | ⟨h2, h3⟩⟩
                      · exact .inl h
                      · exact .inr ⟨h, h1, .inl h2⟩
                      · exact .inr ⟨h, h1, .inr ⟨h2, by have := of_decide_eq_false h3; omega⟩⟩
                    clear hways
                    rcases hways2 with rfl | ⟨rfl, h1, h2 | ⟨h2, h3⟩⟩
                    all_goals
                      go_wp2
                      go_quiet (fail)
                      go_wp2
                      go_roundw
                      case rel => exact ⟨i1 + 1, by omega, by go_num, qn + nq, rfl⟩
                      case measure => simp [intOf]; omega
                  · clear hi1
                    have hCq : Chg [] w2 (w2.drewN qn) := (Chg.refl _ _).drewN _
                    have HZ := Lib.hid (And.intro ((H2.out.1.calm hCq).setIn (ib := w1.heap.size) H1.out.2.2.1 H1.out.2.2.2 xn (.bool false)) ((H2.out.2.kept hCq (by simp)).set xn false))
                    clear hCq
                    go_wp2
                    go_roundw
                    case rel =>
                      refine ⟨j + 1, xn, takeL L, B2.set xn false, rfl, by go_num, by omega, HZ.out.1, HX.out.2.2.2.2.2, HZ.out.2, ?_, ?_, ?_⟩
                      · intro i hi
                        rw [getB_set HR.out.2.1.1 hx16, HX.out.2.1, HX.out.2.2.2.1]
                        by_cases hix : i = xn
                        · subst hix; simp
                        · rw [if_neg hix, HR.out.2.2.1 i hi]
                          have : ((i : Int) == (xn : Int)) = false := by simp; omega
                          rw [this]; simp
                      · rw [HX.out.2.2.1]
                        exact HR.out.2.2.2.1.filter _
                      · intro z hz
                        exact HR.out.2.2.2.2 z (takeL_sub L z hz)
                    case measure => simp [intOf]; omega
            · have hl0 : L = [] := List.eq_nil_of_length_eq_zero (by omega)
              subst hl0
              have hW : (ost k p c rob own []).nextW = [] := rfl
              rw [hW] at hU
              have HU := Lib.hid hU
              clear hU hW
              go_wp2_with fail
              refine HU.out.mono ?_
              rintro e w2 ⟨v2, rfl, hO, hF, hC2⟩
              obtain ⟨va, vc, rfl⟩ := hO.pairs.slice
              have HA := Lib.hid (fatF hF)
              clear hO hF hC2
              rw [show ([] : WL).length = 0 from rfl]
              go_wp2_with fail
              refine HA.out.mono ?_
              rintro e w3 ⟨rfl, hF, hC⟩
              rw [show ((ost k p c rob own []).nextS).own = -1 from rfl]
              have H3 := Lib.hid hF.c
              clear hF hC
              go_wp2_with fail
              refine (known13 w3).mono ?_
              rintro e w4 ⟨rfl, hC⟩
              have H4 := Lib.hid (H3.out.trans hC)
              clear hC
              go_wp2
              go_ret
              exact ⟨rfl, H4.out⟩

end Go.Proofs.Ytagnobmdcchcaaa
