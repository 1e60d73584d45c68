
/- metronomeref09: the document's list, as it lies in memory; may, find, Prio, Same. -/
import Derived.Test.YtohkjiibjljmmaaWo
namespace Go.Proofs.Ytohkjiibjljmmaa
open Go.RowKit

/-- The reference's list at block rb holds the pairs l, by coming. -/
def RAt (w : World) (rb : Nat) (l : WL) : Prop := ∃ v, w.heap[rb]? = some (.cells #[v] 42 (0, 0)) ∧ w.ownsRow 0 68 2 v l.length (flatW l)

/-- The block holds no pairs. -/
def NotW (w : World) (k : Nat) : Prop := ∀ cs fr, w.heap[k]? ≠ some (.cells cs 68 fr)
theorem NotW.of {w : World} {k : Nat} {o : Obj} (h : w.heap[k]? = some o) (ho : ∀ cs fr, o ≠ .cells cs 68 fr) : NotW w k := fun cs fr e => ho cs fr (by rw [h] at e; exact Option.some.inj e)
theorem NotW.ge {w : World} {k : Nat} (h : w.heap.size ≤ k) : NotW w k := fun cs fr e => by
  have := lt_of_blk e
  omega
theorem WAt.notW {w : World} {ab mb : Nat} {N : Int} {L : WL} (h : WAt w ab mb N L) : NotW w ab ∧ NotW w mb := by
  obtain ⟨n, L1, h, rfl, hn⟩ := h
  obtain ⟨M, hM, _⟩ := h.map
  refine ⟨NotW.of h.head (fun cs fr e => by cases e), ?_⟩
  intro cs fr e
  obtain ⟨es, clock, h1, _⟩ := hM
  rw [h1] at e
  cases e
theorem RAt.notW {w : World} {rb : Nat} {l : WL} (h : RAt w rb l) : NotW w rb := by
  obtain ⟨v, h, _⟩ := h
  exact NotW.of h (fun cs fr e => by cases e)
theorem RAt.lt {w : World} {rb : Nat} {l : WL} (h : RAt w rb l) : rb < w.heap.size := by
  obtain ⟨v, h, _⟩ := h
  exact lt_of_blk h
theorem RAt.kept {S : List Nat} {w w' : World} {rb : Nat} {l : WL} (h : RAt w rb l) (hC : Chg S w w') (hS : ∀ k ∈ S, k ≠ rb ∧ NotW w k) : RAt w' rb l := by
  obtain ⟨v, h1, h2⟩ := h
  refine ⟨v, hC.blk h1 (fun hm => (hS _ hm).1 rfl), own_kept h2 hC (fun k hk hm => ?_)⟩
  obtain ⟨cs, hcs⟩ := own_cells h2 k hm
  exact (hS k hk).2 _ _ hcs
theorem RAt.ne {w : World} {rb ab mb : Nat} {N : Int} {l L : WL} (h : RAt w rb l) (hW : WAt w ab mb N L) : ab ≠ rb ∧ mb ≠ rb := by
  obtain ⟨v, h1, h2⟩ := h
  obtain ⟨n, L1, h, rfl, hn⟩ := hW
  obtain ⟨M, hM, _⟩ := h.map
  obtain ⟨es, clock, h3, _⟩ := hM
  constructor
  · rintro rfl
    rw [h.head] at h1
    cases h1
  · rintro rfl
    rw [h3] at h1
    cases h1
/-- A step of the program's list leaves the reference's. -/
theorem RAt.step {w w' : World} {rb ab mb : Nat} {N : Int} {l L : WL} (h : RAt w rb l) (hW : WAt w ab mb N L) (hC : Chg [ab, mb] w w') : RAt w' rb l :=
  h.kept hC (fun k hk => by
    simp at hk
    rcases hk with rfl | rfl
    · exact ⟨(h.ne hW).1, hW.notW.1⟩
    · exact ⟨(h.ne hW).2, hW.notW.2⟩)
theorem RAt.calm {w w' : World} {rb : Nat} {l : WL} (h : RAt w rb l) (hC : Chg [] w w') : RAt w' rb l := h.kept hC (by simp)

/-- The place of a thread; -1: none. -/
def findL (l : WL) (t : Int) : Int := match l.findIdx? (fun x => x.1 == t) with | none => -1 | some i => i

theorem findL_none {l : WL} {t : Int} (h : hasR l t = false) : findL l t = -1 := by
  have h1 : l.findIdx? (fun x => x.1 == t) = none := List.findIdx?_eq_none_iff.2 (fun x hx => by
    rw [Bool.eq_false_iff]
    intro e
    have e' : x.1 = t := by simpa using e
    have h2 : hasR l t = true := hasR_mem.2 ⟨x.2, by rw [← e']; exact hx⟩
    rw [h] at h2
    cases h2)
  unfold findL
  rw [h1]
theorem findL_some {l : WL} {t : Int} (h : hasR l t = true) : ∃ i : Nat, findL l t = i ∧ i < l.length ∧ l[i]? = some (t, prioR l t) ∧ (∀ j : Nat, j < i → ∀ x, l[j]? = some x → x.1 ≠ t) := by
  induction l with
  | nil => simp [hasR] at h
  | cons x l ih =>
    obtain ⟨k, q⟩ := x
    by_cases hc : k = t
    · subst hc
      refine ⟨0, by simp [findL, List.findIdx?_cons], by simp, by simp [prioR], by omega⟩
    · have hc1 : (k == t) = false := by simpa using hc
      have hc2 : (t == k) = false := by simp; omega
      have h' : hasR l t = true := by unfold hasR at h ⊢; rwa [List.lookup_cons, hc2] at h
      obtain ⟨i, h1, h2, h3, h4⟩ := ih h'
      refine ⟨i + 1, ?_, by simp; omega, ?_, ?_⟩
      · unfold findL at h1 ⊢
        rw [List.findIdx?_cons, hc1]
        cases hf : l.findIdx? (fun x => x.1 == t) with
        | none => rw [hf] at h1; simp only at h1; omega
        | some j => rw [hf] at h1; simp only at h1; simp; omega
      · have : prioR ((k, q) :: l) t = prioR l t := by unfold prioR; rw [List.lookup_cons, hc2]
        rw [this]
        simpa using h3
      · intro j hj y hy
        cases j with
        | zero => simp at hy; subst hy; exact hc
        | succ j => exact h4 j (by omega) y (by simpa using hy)

def mayB (t p : Int) : Bool := decide (0 ≤ t ∧ t < 16 ∧ 1 ≤ p ∧ p ≤ 31)
set_option maxRecDepth 100000 in
theorem mayc (t p : Int) (w : World) : Calls Try.prog 47 #[.int .i64 t, .int .i64 p] w fun e w' => e = .returned (.bool (mayB t p)) ∧ w = w' := by
  obtain ⟨r, hr⟩ : ∃ r, r = mayB t p := ⟨_, rfl⟩
  rw [← hr]
  have HR := Lib.hid hr
  clear hr
  by_cases h1 : 0 ≤ t
  · have d1 : decide (0 ≤ t) = true := by simpa using h1
    by_cases h2 : t < 16
    · have d2 : decide (t < 16) = true := by simpa using h2
      by_cases h3 : 1 ≤ p
      · have d3 : decide (1 ≤ p) = true := by simpa using h3
        have hr : decide (p ≤ 31) = r := by rw [HR.out]; unfold mayB; simp [h1, h2, h3]
        clear h1 h2 h3
        go_enter Try.func47, Try.ntmps47
        go_wp2
        go_ret
        exact ⟨rfl, rfl⟩
      · have d3 : decide (1 ≤ p) = false := by simpa using h3
        have hr : r = false := by rw [HR.out]; unfold mayB; simp [h3]
        subst hr
        go_enter Try.func47, Try.ntmps47
        go_wp2
        go_ret
        exact ⟨rfl, rfl⟩
    · have d2 : decide (t < 16) = false := by simpa using h2
      have hr : r = false := by rw [HR.out]; unfold mayB; simp [h2]
      subst hr
      go_enter Try.func47, Try.ntmps47
      go_wp2
      go_ret
      exact ⟨rfl, rfl⟩
  · have d1 : decide (0 ≤ t) = false := by simpa using h1
    have hr : r = false := by rw [HR.out]; unfold mayB; simp [h1]
    subst hr
    go_enter Try.func47, Try.ntmps47
    go_wp2
    go_ret
    exact ⟨rfl, rfl⟩

theorem RAt.open {w : World} {rb : Nat} {l : WL} (h : RAt w rb l) : ∃ a cap, w.heap[rb]? = some (.cells #[.slice a l.length cap] 42 (0, 0)) ∧ (l = [] ∨ ∃ g, a = some ⟨g, 0, none⟩ ∧ ∀ j x, l[j]? = some x → w.cell? ⟨g, j * 2, none⟩ = some (.int .i64 x.1) ∧ w.cell? ⟨g, j * 2 + 1, none⟩ = some (.int .i64 x.2)) := by
  obtain ⟨v, h1, h2⟩ := h
  rcases h2.2 with ⟨e1, e2⟩ | ⟨g, cap, cur, e1, _⟩
  · exact ⟨none, 0, by rw [h1, e1, e2], .inl (List.eq_nil_of_length_eq_zero e2)⟩
  · refine ⟨some ⟨g, 0, none⟩, cap, by rw [h1, e1], ?_⟩
    by_cases hn : l = []
    · exact .inl hn
    · right
      obtain ⟨b, o, c, e2, h3⟩ := (IsPairs.of_own h2).addr hn
      rw [e1] at e2
      simp at e2
      obtain ⟨⟨rfl, rfl⟩, rfl⟩ := e2
      exact ⟨g, rfl, fun j x hj => by have := h3 j x hj; rwa [Nat.zero_add] at this⟩

set_option maxRecDepth 100000 in
set_option maxHeartbeats 1000000 in
theorem findc (rb : Nat) (l : WL) (t : Int) (w : World) (h : RAt w rb l) (hl : l.length < 4611686018427387904) :
    Calls Try.prog 48 #[.pointer (some ⟨rb, 0, none⟩), .int .i64 t] w fun e w' => e = .returned (.int .i64 (findL l t)) ∧ w = w' := by
  obtain ⟨a, cap, hb, hc⟩ := h.open
  have c0 := cellB hb (i := 0) rfl
  clear hb h
  by_cases hh : hasR l t = true
  · obtain ⟨i, h1, h2, h3, h4⟩ := findL_some hh
    rw [h1]
    have hn : l ≠ [] := fun e => by subst e; simp at h2
    obtain ⟨g, rfl, hd⟩ := hc.resolve_left hn
    have HC := Lib.hid (And.intro hd (And.intro h3 h4))
    generalize hL : l.length = n at *
    have HL := Lib.hid hL
    clear hc hd h3 h4 hh h1 hn hL
    go_enter Try.func48, Try.ntmps48
    go_wp2
    go_loopw [5] (fun s wr => ∃ k : Nat, k ≤ i ∧ s = .int .i64 k ∧ wr = w) (fun s _ => n - (intOf s).toNat)
    case atStart => exact ⟨0, by omega, rfl, rfl⟩
    case round =>
      obtain ⟨k, hk, rfl, rfl⟩ := hrel
      obtain ⟨x, hx⟩ : ∃ x, l[k]? = some x := ⟨_, List.getElem?_eq_getElem (by have := HL.out; omega)⟩
      have d1 := (HC.out.1 k x hx).1
      obtain ⟨x1, x2⟩ := x
      by_cases hki : k = i
      · subst hki
        have e := HC.out.2.1
        rw [hx] at e
        obtain ⟨rfl, _⟩ := Prod.mk.inj (Option.some.inj e)
        have hb : ((x1 : Int) == x1) = true := by simp
        clear e hx
        go_wp2
        go_ret
        exact ⟨rfl, rfl⟩
      · have hne := HC.out.2.2 k (by omega) _ hx
        have hb : ((x1 : Int) == t) = false := by simpa using hne
        clear hne hx
        go_wp2
        go_roundw
        case rel => exact ⟨k + 1, by omega, by go_num, by trivial⟩
        case measure => simp [intOf]; omega
  · have hf : hasR l t = false := by simpa using hh
    rw [findL_none hf]
    by_cases hn : l = []
    · subst hn
      clear hc hh hf hl
      go_enter Try.func48, Try.ntmps48
      go_wp2
      refine wp_loop_rounds 1 ?_
      rw [rounds_succ]
      go_wp2
      go_ret
      exact ⟨rfl, rfl⟩
    · obtain ⟨g, rfl, hd⟩ := hc.resolve_left hn
      have h4 : ∀ (k : Nat) x, l[k]? = some x → x.1 ≠ t := fun k x hx e => by
        have := hasR_mem.2 (⟨x.2, by rw [← e]; exact List.mem_of_getElem? hx⟩ : ∃ p, (t, p) ∈ l)
        rw [hf] at this
        cases this
      have HC := Lib.hid (And.intro hd h4)
      generalize hL : l.length = n at *
      have HL := Lib.hid hL
      clear hc hd h4 hh hn hL hf
      go_enter Try.func48, Try.ntmps48
      go_wp2
      go_loopw [5] (fun s wr => ∃ k : Nat, k ≤ n ∧ s = .int .i64 k ∧ wr = w) (fun s _ => n - (intOf s).toNat)
      case atStart => exact ⟨0, by omega, rfl, rfl⟩
      case round =>
        obtain ⟨k, hk, rfl, rfl⟩ := hrel
        by_cases hlt : k < n
        · obtain ⟨x, hx⟩ : ∃ x, l[k]? = some x := ⟨_, List.getElem?_eq_getElem (by have := HL.out; omega)⟩
          have d1 := (HC.out.1 k x hx).1
          have hne := HC.out.2 k _ hx
          obtain ⟨x1, x2⟩ := x
          have hb : ((x1 : Int) == t) = false := by simpa using hne
          clear hne hx
          go_wp2
          go_roundw
          case rel => exact ⟨k + 1, by omega, by go_num, by trivial⟩
          case measure => simp [intOf]; omega
        · go_wp2
          go_ret
          exact ⟨rfl, rfl⟩

set_option maxRecDepth 100000 in
set_option maxHeartbeats 1000000 in
theorem rpriocc (rb : Nat) (l : WL) (t : Int) (w : World) (h : RAt w rb l) (hl : l.length < 4611686018427387904) :
    Calls Try.prog 43 #[.pointer (some ⟨rb, 0, none⟩), .int .i64 t] w fun e w' => e = .returned (.tuple #[.int .i64 (prioR l t), .bool (hasR l t)]) ∧ w = w' := by
  have hF := findc rb l t w h hl
  obtain ⟨a, cap, hb, hc⟩ := h.open
  have c0 := cellB hb (i := 0) rfl
  clear hb h
  by_cases hh : hasR l t = true
  · obtain ⟨i, h1, h2, h3, h4⟩ := findL_some hh
    rw [h1] at hF
    have hn : l ≠ [] := fun e => by subst e; simp at h2
    obtain ⟨g, rfl, hd⟩ := hc.resolve_left hn
    have d1 := (hd i _ h3).2
    rw [hh]
    simp only at d1
    generalize prioR l t = p at *
    generalize hL : l.length = n at *
    have HF := Lib.hid hF
    clear hc hd h3 h4 hh h1 hn hL hF
    go_enter Try.func43, Try.ntmps43
    go_wp2_with (go_at_call 48; refine HF.out.mono ?_; rintro e w' ⟨rfl, rfl⟩)
    go_ret2
    exact ⟨rfl, rfl⟩
  · have hf : hasR l t = false := by simpa using hh
    have hp : prioR l t = 0 := by
      unfold prioR
      unfold hasR at hf
      cases hq : l.lookup t with
      | none => rfl
      | some q => rw [hq] at hf; cases hf
    rw [findL_none hf] at hF
    rw [hp, hf]
    have HF := Lib.hid hF
    clear hc hh hf hl hF hp
    go_enter Try.func43, Try.ntmps43
    go_wp2_with (go_at_call 48; refine HF.out.mono ?_; rintro e w' ⟨rfl, rfl⟩)
    go_ret2
    exact ⟨rfl, rfl⟩

set_option maxRecDepth 100000 in
set_option maxHeartbeats 1000000 in
theorem rsame (r1 r2 : Nat) (l1 l2 : WL) (w : World) (h1 : RAt w r1 l1) (h2 : RAt w r2 l2) (hl1 : l1.length < 4611686018427387904) (hl2 : l2.length < 4611686018427387904) :
    Calls Try.prog 17 #[.pointer (some ⟨r1, 0, none⟩), .pointer (some ⟨r2, 0, none⟩)] w fun e w' => e = .returned (.bool (decide (l1 = l2))) ∧ Chg [] w w' := by
  obtain ⟨a1, cap1, hb1, hc1⟩ := h1.open
  obtain ⟨a2, cap2, hb2, hc2⟩ := h2.open
  have c1 := cellB hb1 (i := 0) rfl
  have c2 := cellB hb2 (i := 0) rfl
  clear hb1 hb2 h1 h2
  by_cases hl : l1.length = l2.length
  · by_cases hnil : l1 = []
    · subst hnil
      have : l2 = [] := List.eq_nil_of_length_eq_zero hl.symm
      subst this
      clear hc1 hc2 hl hl1 hl2
      go_enter Try.func17, Try.ntmps17
      go_wp2
      go_quiet (fail)
      go_wp2
      refine wp_loop_rounds 1 ?_
      rw [rounds_succ]
      go_wp2
      go_ret
      exact ⟨rfl, (Chg.refl _ _).drewN _⟩
    · have hnil' : l2 ≠ [] := fun e => hnil (List.eq_nil_of_length_eq_zero (by rw [hl, e]; rfl))
      obtain ⟨g1, rfl, hd1⟩ := hc1.resolve_left hnil
      obtain ⟨g2, rfl, hd2⟩ := hc2.resolve_left hnil'
      rw [hl] at c1
      have HL := Lib.hid hl
      have H1 := Lib.hid hd1
      have H2 := Lib.hid hd2
      generalize hn : l2.length = n at *
      have HN := Lib.hid hn
      have hb : ((n : Int) != (n : Int)) = false := by simp
      clear hc1 hc2 hl hd1 hd2 hn hnil hnil' hl1
      go_enter Try.func17, Try.ntmps17
      go_wp2
      go_quiet (fail)
      go_wp2
      go_loopw [5] (fun i wr => ∃ k : Nat, k ≤ n ∧ i = .int .i64 k ∧ l1.take k = l2.take k ∧ ∃ q, wr = w.drewN q) (fun i _ => n - (intOf i).toNat)
      case atStart => exact ⟨0, by omega, rfl, by simp, _, rfl⟩
      case round =>
        obtain ⟨k, hk, rfl, htk, q, rfl⟩ := hrel
        have HK := Lib.hid htk
        clear htk
        by_cases hlt : k < n
        · obtain ⟨t, hkt⟩ : ∃ t, l1[k]? = some t := ⟨_, List.getElem?_eq_getElem (by rw [HL.out]; exact hlt)⟩
          obtain ⟨u, hku⟩ : ∃ u, l2[k]? = some u := ⟨_, List.getElem?_eq_getElem (by rw [HN.out]; exact hlt)⟩
          obtain ⟨t1, t2⟩ := t
          obtain ⟨u1, u2⟩ := u
          obtain ⟨d1, d1'⟩ := H1.out k _ hkt
          obtain ⟨d2, d2'⟩ := H2.out k _ hku
          have HT := Lib.hid (And.intro hkt hku)
          clear hkt hku
          by_cases htu : t1 = u1 ∧ t2 = u2
          · obtain ⟨rfl, rfl⟩ := htu
            have hne : neqP t1 t2 t1 t2 = false := by simp [neqP]
            go_wp2
            go_quiet (fail)
            go_wp2
            go_roundw
            case rel => exact ⟨k + 1, by omega, by go_num, by rw [List.take_add_one, List.take_add_one, HK.out, HT.out.1, HT.out.2], q + nq, rfl⟩
            case measure => simp [intOf]; omega
          · have hne : neqP t1 t2 u1 u2 = true := decide_eq_true htu
            have hd : decide (l1 = l2) = false := by
              apply decide_eq_false
              intro e
              have h1 := HT.out.1
              rw [e, HT.out.2] at h1
              have h1 := Option.some.inj h1
              exact htu ⟨(congrArg Prod.fst h1).symm, (congrArg Prod.snd h1).symm⟩
            have HD := Lib.hid hd
            clear hd htu
            go_wp2
            go_quiet (fail)
            go_wp2
            go_ret
            exact ⟨ret_bool HD.out.symm, ((Chg.refl _ _).drewN _).drewN _⟩
        · have : k = n := by omega
          have hd : decide (l1 = l2) = true := by
            apply decide_eq_true
            have := HK.out
            rwa [List.take_of_length_le (by rw [HL.out]; omega), List.take_of_length_le (by rw [HN.out]; omega)] at this
          have HD := Lib.hid hd
          clear hd
          go_wp2
          go_ret
          exact ⟨ret_bool HD.out.symm, (Chg.refl _ _).drewN _⟩
  · have hd : decide (l1 = l2) = false := by
      apply decide_eq_false
      intro e
      exact hl (by rw [e])
    rw [hd]
    have hb : ((l1.length : Int) != (l2.length : Int)) = true := by rw [bne_iff_ne]; omega
    generalize l1.length = n1 at *
    generalize l2.length = n2 at *
    clear hd hc1 hc2 hl
    go_enter Try.func17, Try.ntmps17
    go_wp2
    go_quiet (fail)
    go_wp2
    go_ret
    exact ⟨rfl, (Chg.refl _ _).drewN _⟩

end Go.Proofs.Ytohkjiibjljmmaa
