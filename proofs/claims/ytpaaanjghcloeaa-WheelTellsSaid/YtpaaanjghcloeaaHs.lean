
/- metronomelaw07.WheelTells: the law's own arrays; the plain law; the walk. -/
import Derived.Test.YtpaaanjghcloeaaHr
import Derived.Test.YtpaaanjghcloeaaRow
import Derived.BigRegion
namespace Go.Proofs.Ytpaaanjghcloeaa
open Go.RowKit

/-! ### The arrays -/
def hasL (M : HL) : List Bool := (List.range 64).map fun (n : Nat) => hasH M n
theorem hasL_len (M : HL) : (hasL M).length = 64 := by simp [hasL]
theorem hasL_at {M : HL} {n : Nat} (hn : n < 64) : (hasL M)[n]? = some (hasH M n) := by
  unfold hasL
  rw [List.getElem?_map, List.getElem?_range hn]
  rfl
theorem hasL_set {M M' : HL} {i : Nat} {v : Bool} (h1 : hasH M' i = v) (h2 : ∀ j : Nat, j ≠ i → hasH M' j = hasH M j) : (hasL M).set i v = hasL M' := by
  apply List.ext_getElem?
  intro j
  by_cases hj : j < 64
  · rw [hasL_at hj]
    by_cases e : i = j
    · subst e
      rw [List.getElem?_set_self (by rw [hasL_len]; exact hj), h1]
    · rw [List.getElem?_set_ne e, hasL_at hj, h2 j (fun e2 => e e2.symm)]
  · rw [List.getElem?_eq_none (by rw [List.length_set, hasL_len]; omega), List.getElem?_eq_none (by rw [hasL_len]; omega)]
theorem has_del {M : HL} {n m : Int} : hasH (delH M n) m = if m = n then false else hasH M m := by
  by_cases h : m = n
  · subst h
    rw [if_pos rfl, del_has]
  · rw [if_neg h]
    unfold hasH delH
    rw [Bool.eq_iff_iff, List.any_eq_true, List.any_eq_true]
    constructor
    · rintro ⟨x, hx, e⟩; exact ⟨x, (List.mem_filter.1 hx).1, e⟩
    · rintro ⟨x, hx, e⟩
      refine ⟨x, List.mem_filter.2 ⟨hx, ?_⟩, e⟩
      have e' : x.1 = m := by simpa using e
      have : x.1 ≠ n := by rw [e']; exact h
      simpa using this
theorem has_snoc {M : HL} {x : H1} {m : Int} : hasH (M ++ [x]) m = (hasH M m || x.1 == m) := by unfold hasH; simp
theorem hasL_setS {M : HL} {i : Nat} {t c : Int} : (hasL M).set i true = hasL (delH M i ++ [((i : Int), t, c)]) := by
  refine hasL_set (by rw [has_snoc]; simp) (fun j hj => ?_)
  have hj1 : ¬ (j : Int) = (i : Int) := by omega
  have hj2 : ((i : Int) == (j : Int)) = false := by simp; omega
  rw [has_snoc, has_del, if_neg hj1]
  simp only [hj2, Bool.or_false]
theorem hasL_canS {M : HL} {i : Nat} : (hasL M).set i false = hasL (delH M i) := by
  refine hasL_set (by rw [has_del, if_pos rfl]) (fun j hj => by rw [has_del, if_neg (by omega)])

def AtOk (M : HL) (A : List Int) : Prop := A.length = 64 ∧ ∀ x ∈ M, A[x.1.toNat]? = some x.2.1
theorem AtOk.sub {M M' : HL} {A : List Int} (h : AtOk M A) (hs : ∀ x ∈ M', x ∈ M) : AtOk M' A := ⟨h.1, fun x hx => h.2 x (hs x hx)⟩
theorem AtOk.set {M : HL} {A : List Int} {i : Nat} {t c : Int} (h : AtOk M A) (hi : i < 64) (hM : ∀ x ∈ M, 0 ≤ x.1) : AtOk (delH M i ++ [((i : Int), t, c)]) (A.set i t) := by
  refine ⟨by rw [List.length_set]; exact h.1, fun x hx => ?_⟩
  rcases List.mem_append.1 hx with hx | hx
  · obtain ⟨h1, h2⟩ := List.mem_filter.1 hx
    have hne : x.1 ≠ (i : Int) := by simpa using h2
    have := hM x h1
    rw [List.getElem?_set_ne (by omega)]
    exact h.2 x h1
  · simp at hx
    subst hx
    show (A.set i t)[((i : Int)).toNat]? = _
    rw [Int.toNat_natCast, List.getElem?_set_self (by rw [h.1]; exact hi)]

/-! ### What stands in memory -/
structure TP (w : World) (b : Nat) (vs : List Value) (s : HS) (ab hb : Nat) (A : List Int) (H : List Bool) (w' : World) : Prop where
  at_ : HAt w' b vs s
  chg : Chg [] w w'
  own : ∀ x ∈ blocksH b vs, w.heap.size ≤ x
  ca : w'.heap[ab]? = some (.cells (A.map (Value.int .i64)).toArray 26 (0, 0))
  cb : w'.heap[hb]? = some (.cells (H.map Value.bool).toArray 27 (0, 0))
  na : ab ∉ blocksH b vs
  nb : hb ∉ blocksH b vs
  la : w.heap.size ≤ ab
  lb : w.heap.size ≤ hb
theorem TP.ne {w w' : World} {b : Nat} {vs : List Value} {s : HS} {ab hb : Nat} {A : List Int} {H : List Bool} (h : TP w b vs s ab hb A H w') : ab ≠ hb := fun e => by
  have h1 := h.ca
  rw [e, h.cb] at h1
  injection h1 with h1
  injection h1 with _ h2 _
  exact absurd h2 (by decide)
theorem TP.next {w w1 w2 : World} {b : Nat} {vs : List Value} {s s' : HS} {ab hb : Nat} {A : List Int} {H : List Bool} (h : TP w b vs s ab hb A H w1) (hN : NextH b vs s' w1 w2) : ∃ vs', TP w b vs' s' ab hb A H w2 := by
  obtain ⟨vs', hA, hC, hB⟩ := hN
  have l1 := lt_of_blk h.ca
  have l2 := lt_of_blk h.cb
  refine ⟨vs', hA, h.chg.trans' hC (fun x hx => .inr (h.own x hx)), fun x hx => ?_, hC.blk h.ca h.na, hC.blk h.cb h.nb, fun hx => ?_, fun hx => ?_, h.la, h.lb⟩
  · rcases hB x hx with h1 | h1
    · exact h.own x h1
    · exact Nat.le_trans h.chg.size h1
  · rcases hB _ hx with h1 | h1
    · exact h.na h1
    · omega
  · rcases hB _ hx with h1 | h1
    · exact h.nb h1
    · omega
theorem TP.calm {w w1 w2 : World} {b : Nat} {vs : List Value} {s : HS} {ab hb : Nat} {A : List Int} {H : List Bool} (h : TP w b vs s ab hb A H w1) (hC : Chg [] w1 w2) : TP w b vs s ab hb A H w2 :=
  ⟨h.at_.calm hC, h.chg.trans hC, h.own, hC.blk h.ca (by simp), hC.blk h.cb (by simp), h.na, h.nb, h.la, h.lb⟩
theorem TP.seta {w w1 : World} {b : Nat} {vs : List Value} {s : HS} {ab hb : Nat} {A : List Int} {H : List Bool} (h : TP w b vs s ab hb A H w1) (i : Nat) (t : Int) : TP w b vs s ab hb (A.set i t) H (w1.setCell ⟨ab, i, none⟩ (.int .i64 t)) := by
  have hC : Chg [ab] w1 (w1.setCell ⟨ab, i, none⟩ (.int .i64 t)) := (Chg.refl _ _).setCell _ _ (by simp)
  refine ⟨h.at_.kept hC (fun x hx => by simp at hx; subst hx; exact h.na), h.chg.trans' hC (fun x hx => .inr (by simp at hx; subst hx; exact h.la)), h.own, ?_, hC.blk h.cb (by simp; exact fun e => h.ne e.symm), h.na, h.nb, h.la, h.lb⟩
  have := blk_setCell (i := i) h.ca (.int .i64 t)
  rw [this, List.setIfInBounds_toArray, List.map_set]
theorem TP.setb {w w1 : World} {b : Nat} {vs : List Value} {s : HS} {ab hb : Nat} {A : List Int} {H : List Bool} (h : TP w b vs s ab hb A H w1) (i : Nat) (t : Bool) : TP w b vs s ab hb A (H.set i t) (w1.setCell ⟨hb, i, none⟩ (.bool t)) := by
  have hC : Chg [hb] w1 (w1.setCell ⟨hb, i, none⟩ (.bool t)) := (Chg.refl _ _).setCell _ _ (by simp)
  refine ⟨h.at_.kept hC (fun x hx => by simp at hx; subst hx; exact h.nb), h.chg.trans' hC (fun x hx => .inr (by simp at hx; subst hx; exact h.lb)), h.own, hC.blk h.ca (by simp; exact h.ne), ?_, h.na, h.nb, h.la, h.lb⟩
  have := blk_setCell (i := i) h.cb (.bool t)
  rw [this, List.setIfInBounds_toArray, List.map_set]
theorem TP.cellA {w w1 : World} {b : Nat} {vs : List Value} {s : HS} {ab hb : Nat} {A : List Int} {H : List Bool} (h : TP w b vs s ab hb A H w1) {i : Nat} {t : Int} (hi : A[i]? = some t) : w1.cell? ⟨ab, i, none⟩ = some (.int .i64 t) :=
  cellB h.ca (by rw [List.getElem?_toArray, List.getElem?_map, hi]; rfl)
theorem TP.cellH {w w1 : World} {b : Nat} {vs : List Value} {s : HS} {ab hb : Nat} {A : List Int} {H : List Bool} (h : TP w b vs s ab hb A H w1) {i : Nat} {t : Bool} (hi : H[i]? = some t) : w1.cell? ⟨hb, i, none⟩ = some (.bool t) :=
  cellB h.cb (by rw [List.getElem?_toArray, List.getElem?_map, hi]; rfl)

def atz : List Int := List.replicate 64 0
theorem newA64 : ∀ w, (Instr.alloc 26 true (.tuple #[])).run Try.prog w = .ok (.pointer (some ⟨w.heap.size, 0, none⟩)) (w.alloc (.cells (atz.map (Value.int .i64)).toArray 26 (0, 0))) := fun w => by kernel_rfl
theorem newB64 : ∀ w, (Instr.alloc 27 true (.tuple #[])).run Try.prog w = .ok (.pointer (some ⟨w.heap.size, 0, none⟩)) (w.alloc (.cells ((hasL []).map Value.bool).toArray 27 (0, 0))) := fun w => by kernel_rfl

theorem IntsAt.kept {S : List Nat} {w w' : World} {a : Option Addr} {l : List Int} (h : IntsAt w a l) (hC : Chg S w w') (hS : ∀ g, a = some ⟨g, 0, none⟩ → g ∉ S) : IntsAt w' a l := by
  rcases h with h | ⟨g, e, h⟩
  · exact .inl h
  · exact .inr ⟨g, e, fun j x hj => cell_kept (h j x hj) hC (hS g e)⟩
theorem dueL_map (s : HS) (now : Int) : s.dueL now = (ordH (s.M.filter fun x => decide (x.2.1 ≤ now))).map (·.1) := rfl

/-- Behind the steps. -/
def Tells1 (w : World) (n : Nat) (b ab hb : Nat) (w' : World) : Prop := ∃ vs s A, TP w b vs s ab hb A (hasL s.M) w' ∧ AtOk s.M A ∧ s.c ≤ n

set_option maxRecDepth 100000 in
set_option maxHeartbeats 8000000 in
theorem wheelTells_any (v0 : Value) (z1 z2 : Int) (R : List (Nat → Int)) (w : World) (h0 : IsRows 3 w v0 R) :
    Calls Try.prog 3 #[v0, .int .i64 z1, .int .i64 z2] w fun e w' => e = .returned (.bool true) ∧ Chg [] w w' := by
  obtain ⟨a0, cap0, rfl⟩ := h0.slice
  obtain ⟨N, hN⟩ : ∃ N, N = R.length := ⟨_, rfl⟩
  rw [← hN] at h0 ⊢
  have H0 := Lib.hid (And.intro h0 hN)
  clear h0 hN
  have hways : decide ((100 : Int) < (N : Int)) = true ∨ (decide ((100 : Int) < (N : Int)) = false ∧ decide (z1 < 0) = true) ∨ (decide ((100 : Int) < (N : Int)) = false ∧ decide (z1 < 0) = false ∧ decide (1073741824 < z1) = true) ∨
      (decide ((100 : Int) < (N : Int)) = false ∧ decide (z1 < 0) = false ∧ decide (1073741824 < z1) = false ∧ decide (z2 < 0) = true) ∨
      (decide ((100 : Int) < (N : Int)) = false ∧ decide (z1 < 0) = false ∧ decide (1073741824 < z1) = false ∧ decide (z2 < 0) = false ∧ decide (300 < z2) = true) ∨
      (decide ((100 : Int) < (N : Int)) = false ∧ decide (z1 < 0) = false ∧ decide (1073741824 < z1) = false ∧ decide (z2 < 0) = false ∧ decide (300 < z2) = false) := by
    simp only [decide_eq_true_eq, decide_eq_false_iff_not]
    omega
  rcases hways with d1 | ⟨d1, d2⟩ | ⟨d1, d2, d3⟩ | ⟨d1, d2, d3, d4⟩ | ⟨d1, d2, d3, d4, d5⟩ | ⟨d1, d2, d3, d4, d5⟩
  iterate 5
    · go_enter Try.func3, Try.ntmps3
      go_wp2_with fail
      refine (knownc w).mono ?_
      rintro e w' ⟨rfl, hC⟩
      have HC := Lib.hid hC
      clear hC
      go_wp2
      go_ret
      exact ⟨rfl, HC.out⟩
  · have hN1 : N ≤ 100 := by simp at d1; omega
    have hz1 : 0 ≤ z1 ∧ z1 ≤ 1073741824 := by simp at d2 d3; omega
    have hz2 : 0 ≤ z2 ∧ z2 ≤ 300 := by simp at d4 d5; omega
    go_enter Try.func3, Try.ntmps3
    go_wp2_with fail
    refine (newc w).mono ?_
    rintro e w1 ⟨b, rfl, hb, hA, hC⟩
    obtain ⟨ab, hab⟩ : ∃ ab, ab = w1.heap.size := ⟨_, rfl⟩
    obtain ⟨w3, hw3⟩ : ∃ w3, w3 = ((w1.alloc (.cells (atz.map (Value.int .i64)).toArray 26 (0, 0))).alloc (.cells ((hasL []).map Value.bool).toArray 27 (0, 0))) := ⟨_, rfl⟩
    have hbl := hA.lt b (mem_blocks.2 (.inl rfl))
    have hw1s := hC.size
    have hT0 : TP w b vs0 hs0 ab (ab + 1) atz (hasL []) w3 := by
      have hC13 : Chg [] w1 w3 := by rw [hw3]; exact ((Chg.refl _ _).alloc _).alloc _
      refine ⟨hA.calm hC13, hC.trans hC13, fun x hx => by rw [blocks0] at hx; simp at hx; omega, ?_, ?_, fun hx => by rw [blocks0] at hx; simp at hx; omega, fun hx => by rw [blocks0] at hx; simp at hx; omega, by omega, by omega⟩
      · rw [hw3, hab]; exact blk_alloc (heap_alloc_eq w1 _) _
      · rw [hw3, hab]
        have := heap_alloc_eq (w1.alloc (.cells (atz.map (Value.int .i64)).toArray 26 (0, 0))) (.cells ((hasL []).map Value.bool).toArray 27 (0, 0))
        rwa [World.size_alloc] at this
    have HT0 := Lib.hid hT0
    clear hA hC hT0 hb hbl hw1s
    go_wp2_with (first | (refine wpList_new (P := Try.prog) rfl 26 rfl _ (newA64 _) ?_) | (refine wpList_new (P := Try.prog) rfl 27 rfl _ (newB64 _) ?_))
    rw [← hw3, ← hab]
    clear hw3 hab
    go_loopw [10] (fun i wr => ∃ k : Nat, k ≤ N ∧ i = .int .i64 k ∧ Tells1 w k b ab (ab + 1) wr) (fun i _ => N - (intOf i).toNat)
    case atStart => exact ⟨0, by omega, rfl, vs0, hs0, _, HT0.out, ⟨by simp [atz], by simp [hs0]⟩, by simp [hs0]⟩
    case round =>
      obtain ⟨k, hk, rfl, hT⟩ := hrel
      by_cases hlt : k < N
      · obtain ⟨x, hx⟩ : ∃ x, R[k]? = some x := ⟨_, List.getElem?_eq_getElem (by have := H0.out.2; omega)⟩
        obtain ⟨g, o, cp, hg, hd⟩ := (show IsRows 3 w (.slice a0 R.length cap0) R from by rw [← H0.out.2]; exact H0.out.1).addr (fun e => by rw [e] at hx; simp at hx)
        cases hg
        obtain ⟨vs, s, A, hP, hAt, hc⟩ := hT
        have hrow := IsRows.row hd hP.chg hx
        have d0 := hrow 0 (by omega)
        have d1' := hrow 1 (by omega)
        have d2' := hrow 2 (by omega)
        rw [Nat.add_zero] at d0
        obtain ⟨kd, hkd⟩ : ∃ kd, kd = x 0 := ⟨_, rfl⟩
        obtain ⟨id, hid⟩ : ∃ id, id = x 1 := ⟨_, rfl⟩
        obtain ⟨tm, htm⟩ : ∃ tm, tm = x 2 := ⟨_, rfl⟩
        rw [← hkd] at d0
        rw [← hid] at d1'
        rw [← htm] at d2'
        obtain ⟨bx, hbx⟩ : ∃ bx, bx = wr.heap.size := ⟨_, rfl⟩
        obtain ⟨wb, hwb⟩ : ∃ wb, wb = wr.alloc (.cells #[.int .i64 kd, .int .i64 id, .int .i64 tm] 29 (0, 0)) := ⟨_, rfl⟩
        have hCb : Chg [] wr wb := by rw [hwb]; exact (Chg.refl _ _).alloc _
        have hnew : wb.heap[bx]? = some (.cells #[.int .i64 kd, .int .i64 id, .int .i64 tm] 29 (0, 0)) := by rw [hwb, hbx]; exact heap_alloc_eq wr _
        have hnbx : bx ∉ blocksH b vs := fun hm => by have := hP.at_.lt bx hm; omega
        have hxa : bx ≠ ab := by have := lt_of_blk hP.ca; omega
        have hxb : bx ≠ ab + 1 := by have := lt_of_blk hP.cb; omega
        have hax : ab ≠ bx := fun e => hxa e.symm
        have hbx' : ab + 1 ≠ bx := fun e => hxb e.symm
        have hPb := hP.calm hCb
        have c0 := cellB hnew (i := 0) (v := .int .i64 kd) rfl
        have c1 := cellB hnew (i := 1) (v := .int .i64 id) rfl
        have c2 := cellB hnew (i := 2) (v := .int .i64 tm) rfl
        have HX := Lib.hid (And.intro hPb (And.intro hAt (And.intro hc (And.intro hnew hnbx))))
        have hs0 : 0 ≤ s.c := hP.at_.inv.c0
        clear hx hd hP hAt hc hrow hkd hid htm hCb hnew hnbx hPb
        by_cases hk1 : kd = 1
        · subst hk1
          have hS := setc b vs s id tm wb HX.out.1.at_ (by have := HX.out.2.2.1; omega)
          by_cases hok : okId id ∧ okAt tm
          · have hE : HS.setE id tm = 0 := if_pos hok
            have hSS : s.setS id tm = ⟨delH s.M id ++ [(id, tm, s.c + 1)], s.c + 1⟩ := if_pos hok
            rw [hE, hSS] at hS
            obtain ⟨i, rfl⟩ := Int.eq_ofNat_of_zero_le hok.1.1
            have hi : i < 64 := by have := hok.1.2; omega
            have hiz : (i : Int) < 64 := by omega
            have hi0 : (0 : Int) ≤ (i : Int) := by omega
            have HS := Lib.hid hS
            clear hS hE hSS hok
            go_wp2_with fail
            rw [← hwb, ← hbx]
            clear hwb hbx
            refine HS.out.mono ?_
            rintro e w2 ⟨rfl, hN⟩
            obtain ⟨vs2, hP2⟩ := HX.out.1.next hN
            obtain ⟨_, _, hC2, _⟩ := hN
            have hbx2 := hC2.blk HX.out.2.2.2.1 HX.out.2.2.2.2
            have c0 := cellB hbx2 (i := 0) (v := .int .i64 1) rfl
            have c1 := cellB hbx2 (i := 1) (v := .int .i64 (i : Int)) rfl
            have c2 := cellB hbx2 (i := 2) (v := .int .i64 tm) rfl
            obtain ⟨ta, hta⟩ : ∃ ta, A[i]? = some ta := ⟨_, List.getElem?_eq_getElem (by rw [HX.out.2.1.1]; exact hi)⟩
            have ca := hP2.cellA hta
            have cb := hP2.cellH (hasL_at hi)
            have fa := frozenB hP2.ca
            have fb := frozenB hP2.cb
            have hab : ab ≠ ab + 1 := by omega
            have H2 := Lib.hid hP2
            clear hP2 hC2 hbx2 hta
            go_wp2
            go_region
            go_wp2
            go_roundw
            case rel =>
              refine ⟨k + 1, by omega, by go_num, vs2, ⟨delH s.M i ++ [((i : Int), tm, s.c + 1)], s.c + 1⟩, A.set i tm, ?_, HX.out.2.1.set hi (fun x hx => (HX.out.1.at_.inv.ok x hx).1), by have := HX.out.2.2.1; simp only; omega⟩
              rw [← hasL_setS]
              first | exact (((H2.out.seta i tm).setb i true).calm (Chg.refl _ _).drew) | exact (((H2.out.calm (Chg.refl _ _).drew).seta i tm).setb i true)
            case measure => simp [intOf]; omega
          · have hE : HS.setE id tm = 2 := if_neg hok
            have hSS : s.setS id tm = s := if_neg hok
            rw [hE, hSS] at hS
            have HS := Lib.hid hS
            clear hS hE hSS hok
            go_wp2_with fail
            rw [← hwb, ← hbx]
            clear hwb hbx
            refine HS.out.mono ?_
            rintro e w2 ⟨rfl, hN⟩
            obtain ⟨vs2, hP2⟩ := HX.out.1.next hN
            obtain ⟨_, _, hC2, _⟩ := hN
            have hbx2 := hC2.blk HX.out.2.2.2.1 HX.out.2.2.2.2
            have c0 := cellB hbx2 (i := 0) (v := .int .i64 1) rfl
            have H2 := Lib.hid hP2
            clear hP2 hC2 hbx2
            go_wp2
            go_roundw
            case rel => exact ⟨k + 1, by omega, by go_num, vs2, s, A, H2.out, HX.out.2.1, by have := HX.out.2.2.1; omega⟩
            case measure => simp [intOf]; omega
        · have e1 : (kd == 1) = false := by simpa using hk1
          by_cases hk2 : kd = 2
          · subst hk2
            have hS := cancelc b vs s id wb HX.out.1.at_
            by_cases hok : okId id ∧ hasH s.M id = true
            · have hE : s.canE id = 0 := by unfold HS.canE; rw [if_pos hok.1, if_pos hok.2]
              have hSS : s.canS id = ⟨delH s.M id, s.c⟩ := rfl
              rw [hE, hSS] at hS
              obtain ⟨i, rfl⟩ := Int.eq_ofNat_of_zero_le hok.1.1
              have hi : i < 64 := by have := hok.1.2; omega
              have hiz : (i : Int) < 64 := by omega
              have hi0 : (0 : Int) ≤ (i : Int) := by omega
              have HS := Lib.hid hS
              clear hS hE hSS hok
              go_wp2_with fail
              rw [← hwb, ← hbx]
              clear hwb hbx
              refine HS.out.mono ?_
              rintro e w2 ⟨rfl, hN⟩
              obtain ⟨vs2, hP2⟩ := HX.out.1.next hN
              obtain ⟨_, _, hC2, _⟩ := hN
              have hbx2 := hC2.blk HX.out.2.2.2.1 HX.out.2.2.2.2
              have c0 := cellB hbx2 (i := 0) (v := .int .i64 2) rfl
              have c1 := cellB hbx2 (i := 1) (v := .int .i64 (i : Int)) rfl
              have cb := hP2.cellH (hasL_at hi)
              have fb := frozenB hP2.cb
              have H2 := Lib.hid hP2
              clear hP2 hC2 hbx2
              go_wp2
              go_roundw
              case rel =>
                refine ⟨k + 1, by omega, by go_num, vs2, ⟨delH s.M i, s.c⟩, A, ?_, HX.out.2.1.sub (fun x hx => (List.mem_filter.1 hx).1), by have := HX.out.2.2.1; simp only; omega⟩
                rw [← hasL_canS]
                exact H2.out.setb i false
              case measure => simp [intOf]; omega
            · have hE : (s.canE id == 0) = false := by
                unfold HS.canE
                by_cases h1 : okId id
                · rw [if_pos h1, if_neg (fun h2 => hok ⟨h1, h2⟩)]; rfl
                · rw [if_neg h1]; rfl
              have hSS : s.canS id = s := by
                have hf : hasH s.M id = false := by
                  cases hh : hasH s.M id with
                  | false => rfl
                  | true =>
                    obtain ⟨y, hy, e⟩ := has_iff.1 hh
                    have h3 := HX.out.1.at_.inv.ok y hy
                    rw [e] at h3
                    exact absurd ⟨⟨h3.1, h3.2.1⟩, hh⟩ hok
                unfold HS.canS
                rw [del_none hf]
              rw [hSS] at hS
              generalize s.canE id = ce at hS hE
              have HS := Lib.hid hS
              clear hS hSS hok
              go_wp2_with fail
              rw [← hwb, ← hbx]
              clear hwb hbx
              refine HS.out.mono ?_
              rintro e w2 ⟨rfl, hN⟩
              obtain ⟨vs2, hP2⟩ := HX.out.1.next hN
              have H2 := Lib.hid hP2
              clear hP2 hN
              go_wp2
              go_roundw
              case rel => exact ⟨k + 1, by omega, by go_num, vs2, s, A, H2.out, HX.out.2.1, by have := HX.out.2.2.1; omega⟩
              case measure => simp [intOf]; omega
          · have e2 : (kd == 2) = false := by simpa using hk2
            go_wp2
            rw [← hwb]
            clear hwb hbx
            go_roundw
            case rel => exact ⟨k + 1, by omega, by go_num, vs, s, A, HX.out.1, HX.out.2.1, by have := HX.out.2.2.1; omega⟩
            case measure => simp [intOf]; omega
      · have hkN : k = N := by omega
        subst hkN
        obtain ⟨T, rfl⟩ := Int.eq_ofNat_of_zero_le hz2.1
        have HT := Lib.hid hT
        have hT300 : T ≤ 300 := by omega
        have hzw : IntKind.i64.wrap (z1 + (T : Int)) = z1 + (T : Int) := by rw [IntKind.wrap_i64]; omega
        clear hT
        go_wp2
        obtain ⟨wo, rfl⟩ : ∃ wo : World, wo = wr := ⟨_, rfl⟩
        go_loopw [12] (fun nw wr => ∃ j : Nat, j ≤ T ∧ nw = .int .i64 (z1 + j) ∧ ∃ vs s A, TP w b vs s ab (ab + 1) A (hasL s.M) wr ∧ AtOk s.M A ∧ (0 < j → ∀ x ∈ s.M, z1 + j ≤ x.2.1)) (fun nw _ => (z1 + T - intOf nw).toNat)
        case atStart =>
          obtain ⟨vs, s, A, hP, hAt, _⟩ := HT.out
          exact ⟨0, by omega, by simp, vs, s, A, hP, hAt, by omega⟩
        case round =>
          obtain ⟨j, hj, rfl, vs, s, A, hP, hAt, hmin⟩ := hrel
          by_cases hjT : j < T
          · obtain ⟨nw, hnw⟩ : ∃ nw : Int, nw = z1 + (j : Int) := ⟨_, rfl⟩
            have hd : decide (nw < z1 + (T : Int)) = true := decide_eq_true (by omega)
            have hnww : IntKind.i64.wrap (nw + 1) = nw + 1 := by rw [IntKind.wrap_i64]; omega
            have hD := duec b vs s nw wr hP.at_
            obtain ⟨L, hL⟩ : ∃ L, L = ordH (s.M.filter fun x => decide (x.2.1 ≤ nw)) := ⟨_, rfl⟩
            have hdl : s.dueL nw = L.map (·.1) := by rw [hL]; rfl
            rw [hdl] at hD
            have hids : (L.map (·.1)).Nodup := by rw [hL]; exact ord_ids hP.at_.inv _
            have hmem : ∀ x ∈ L, x ∈ s.M ∧ x.2.1 ≤ nw := fun x hx => by
              rw [hL] at hx
              have := List.mem_filter.1 (ordH_mem.1 hx)
              exact ⟨this.1, of_decide_eq_true this.2⟩
            have hend : goneH s.M L L.length = (s.dueS nw).M := by rw [hL]; exact gone_end hP.at_.inv _ rfl
            have hfew : L.length ≤ 64 := by rw [hL, ordH_len]; exact Nat.le_trans (List.length_filter_le _ _) hP.at_.inv.few
            have hlow : ab + 1 < wr.heap.size := lt_of_blk hP.cb
            have hmin' : nw = z1 ∨ ∀ x ∈ s.M, nw ≤ x.2.1 := by
              rcases Nat.eq_zero_or_pos j with h | h
              · left; rw [hnw, h]; simp
              · right; rw [hnw]; exact hmin h
            rw [← hnw]
            have HX := Lib.hid (And.intro hP (And.intro hAt (And.intro hids (And.intro hmem (And.intro hend (And.intro hmin' hnw))))))
            have HD := Lib.hid hD
            clear hP hAt hmin hmin' hD hL hdl hids hmem hend hnw
            go_wp2_with fail
            refine HD.out.mono ?_
            rintro e w2 ⟨v, vs2, rfl, ho, hA, hC, hB, _⟩
            obtain ⟨vs3, hP2⟩ := HX.out.1.next ⟨vs2, hA, hC, hB⟩
            have hge := own_ge ho
            obtain ⟨a, cap, rfl, hI⟩ := IntsAt.of_own ho rfl
            have hgs : ∀ g, a = some ⟨g, 0, none⟩ → g ∉ [ab + 1] := fun g e => by
              subst e
              have := hge g (by simp [Value.ownBlock])
              simp
              omega
            obtain ⟨n2, hn2⟩ : ∃ n2, n2 = (L.map (·.1)).length := ⟨_, rfl⟩
            rw [← hn2]
            have hn2L : n2 = L.length := by rw [hn2, List.length_map]
            have hn264 : n2 ≤ 64 := by omega
            have H2 := Lib.hid (And.intro hP2 (And.intro hI (And.intro hgs hn2L)))
            clear hA hC hB ho hge hI hgs hP2 hn2 hn2L
            obtain ⟨wo2, rfl⟩ : ∃ wo2 : World, wo2 = wr := ⟨_, rfl⟩
            go_wp2
            go_loopw [14] (fun i w' => ∃ q : Nat, q ≤ n2 ∧ i = .int .i64 q ∧ TP w b vs3 (s.dueS nw) ab (ab + 1) A (hasL (goneH s.M L q)) w' ∧ IntsAt w' a (L.map (·.1))) (fun i _ => n2 - (intOf i).toNat)
            case atStart => exact ⟨0, by omega, rfl, by rw [gone_zero]; exact H2.out.1, H2.out.2.1⟩
            case round =>
              obtain ⟨q, hq, rfl, hP3, hI3⟩ := hrel
              by_cases hqn : q < n2
              · obtain ⟨x, hx⟩ : ∃ x, L[q]? = some x := ⟨_, List.getElem?_eq_getElem (by have := H2.out.2.2.2; omega)⟩
                have hxm := HX.out.2.2.2.1 x (List.mem_of_getElem? hx)
                have hxo := HX.out.1.at_.inv.ok x hxm.1
                have hhas := gone_has hx hxm.1 HX.out.2.2.1
                have hgsx := gone_succ (M := s.M) hx
                have hxa := HX.out.2.1.2 x hxm.1
                have hx1 : (L.map (·.1))[q]? = some x.1 := by rw [List.getElem?_map, hx]; rfl
                obtain ⟨g, rfl, hdd⟩ := hI3.resolve_left (fun e => by rw [e] at hx1; simp at hx1)
                have d0 := hdd q x.1 hx1
                have hmx : nw = z1 ∨ nw ≤ x.2.1 := by
                  rcases HX.out.2.2.2.2.2.1 with h | h
                  · exact .inl h
                  · exact .inr (h x hxm.1)
                obtain ⟨x1, x2, x3⟩ := x
                dsimp only at hxm hxo hhas hgsx hxa d0 hmx
                obtain ⟨i, rfl⟩ := Int.eq_ofNat_of_zero_le hxo.1
                have hi : i < 64 := by omega
                have hiz : (i : Int) < 64 := by omega
                have hi0 : (0 : Int) ≤ (i : Int) := by omega
                have f1 : decide ((i : Int) < 0) = false := decide_eq_false (by omega)
                have f2 : decide (64 ≤ (i : Int)) = false := decide_eq_false (by omega)
                have f3 : decide (nw < x2) = false := decide_eq_false (by omega)
                rw [Int.toNat_natCast] at hxa
                have ca := hP3.cellA hxa
                have cb := hP3.cellH (hasL_at (M := goneH s.M L q) hi)
                rw [hhas] at cb
                have fb := frozenB hP3.cb
                have hwq : (0 : Int) ≤ (q : Int) ∧ (q : Int) < (n2 : Int) := by omega
                have H3 := Lib.hid (And.intro hP3 (And.intro hdd (And.intro hgsx (H2.out.2.2.1 g rfl))))
                have hway : decide (x2 < nw) = false ∨ (decide (x2 < nw) = true ∧ (nw != z1) = false) := by
                  rcases hmx with h | h
                  · by_cases hlt : x2 < nw
                    · right; exact ⟨decide_eq_true hlt, by simp [h]⟩
                    · left; exact decide_eq_false hlt
                  · left; exact decide_eq_false (by omega)
                clear hP3 hdd hgsx hx hxm hxo hhas hxa hx1 hmx hI3
                rcases hway with f4 | ⟨f4, f5⟩
                all_goals
                  go_wp2
                  go_roundw
                  case rel =>
                    refine ⟨q + 1, by omega, by go_num, ?_, .inr ⟨g, rfl, fun j y hj => cell_kept (H3.out.2.1 j y hj) ((Chg.refl [ab + 1] _).setCell _ _ (by simp)) H3.out.2.2.2⟩⟩
                    rw [H3.out.2.2.1, ← hasL_canS]
                    exact H3.out.1.setb i false
                  case measure => simp [intOf]; omega
              · have hqn2 : q = n2 := by omega
                subst hqn2
                have hP4 := hP3
                rw [H2.out.2.2.2, HX.out.2.2.2.2.1] at hP4
                have H4 := Lib.hid hP4
                clear hP3 hP4 hI3
                go_wp2
                obtain ⟨wo3, rfl⟩ : ∃ wo3 : World, wo3 = wr := ⟨_, rfl⟩
                go_loopw [16] (fun i w' => ∃ r : Nat, r ≤ 64 ∧ i = .int .i64 r ∧ w' = wo3) (fun i _ => 64 - (intOf i).toNat)
                case atStart => exact ⟨0, by omega, rfl, rfl⟩
                case round =>
                  obtain ⟨r, hr, rfl, rfl⟩ := hrel
                  by_cases hr64 : r < 64
                  · have hrz : (0 : Int) ≤ (r : Int) ∧ (r : Int) < 64 := by omega
                    have cb := H4.out.cellH (hasL_at (M := (s.dueS nw).M) hr64)
                    cases hh : hasH (s.dueS nw).M r with
                    | false =>
                      rw [hh] at cb
                      have HH := Lib.hid hh
                      clear hh
                      go_wp2
                      go_roundw
                      case rel => exact ⟨r + 1, by omega, by go_num, by trivial⟩
                      case measure => simp [intOf]; omega
                    | true =>
                      rw [hh] at cb
                      obtain ⟨y, hy, hyr⟩ := has_iff.1 hh
                      obtain ⟨hy1, hy2⟩ := List.mem_filter.1 hy
                      have hya := HX.out.2.1.2 y hy1
                      rw [hyr, Int.toNat_natCast] at hya
                      have ca := H4.out.cellA hya
                      have f6 : decide (y.2.1 ≤ nw) = false := by simpa using hy2
                      generalize y.2.1 = y2 at ca f6
                      have HH := Lib.hid hh
                      clear hh hy hy1 hy2 hya hyr
                      go_wp2
                      go_roundw
                      case rel => exact ⟨r + 1, by omega, by go_num, by trivial⟩
                      case measure => simp [intOf]; omega
                  · have hr64' : r = 64 := by omega
                    subst hr64'
                    go_wp2
                    go_roundw
                    case rel =>
                      refine ⟨j + 1, by omega, by rw [HX.out.2.2.2.2.2.2]; congr 1; omega, vs3, s.dueS nw, A, H4.out, HX.out.2.1.sub (fun x hx => (List.mem_filter.1 hx).1), fun _ x hx => ?_⟩
                      have h1 := (List.mem_filter.1 hx).2
                      have h2 : ¬ x.2.1 ≤ nw := by simpa using h1
                      have := HX.out.2.2.2.2.2.2
                      omega
                    case measure => have := HX.out.2.2.2.2.2.2; simp [intOf]; omega
          · have hd : decide (z1 + (j : Int) < z1 + (T : Int)) = false := decide_eq_false (by omega)
            have HC := Lib.hid hP.chg
            clear hP hAt hmin
            go_wp2_with fail
            refine (knownc wr).mono ?_
            rintro e w' ⟨rfl, hC⟩
            have HC2 := Lib.hid hC
            clear hC
            go_wp2
            go_ret
            exact ⟨rfl, HC.out.trans HC2.out⟩

end Go.Proofs.Ytpaaanjghcloeaa
