/- Ra, Rb, Rc, Rd, Re, Rf, joined. -/
import Derived.Test.YtiiafhlckmkcnaaGreatWo
import Derived.Deep.RegionLaw
import Derived.BigRegion
/- metronomeref09: the document's list, as it lies in memory; may, find, Prio, Same. -/
namespace Go.Proofs.YtiiafhlckmkcnaaGreat
open Go.RowKit

/-- The reference's list at block rb holds the pairs l, by coming. -/
def RAt (w : World) (rb : Nat) (l : WL) : Prop := ∃ v, w.heap[rb]? = some (.cells #[v] 53 (0, 0)) ∧ w.ownsRow 0 104 2 v l.length (flatW l)

/-- The block holds no pairs. -/
def NotW (w : World) (k : Nat) : Prop := ∀ cs fr, w.heap[k]? ≠ some (.cells cs 104 fr)
theorem NotW.of {w : World} {k : Nat} {o : Obj} (h : w.heap[k]? = some o) (ho : ∀ cs fr, o ≠ .cells cs 104 fr) : NotW w k := fun cs fr e => ho cs fr (by rw [h] at e; exact Option.some.inj e)
theorem NotW.ge {w : World} {k : Nat} (h : w.heap.size ≤ k) : NotW w k := fun cs fr e => by
  have := lt_of_blk e
  omega
theorem WAt.notW {w : World} {ab mb : Nat} {N : Int} {L : WL} (h : WAt w ab mb N L) : NotW w ab ∧ NotW w mb := by
  obtain ⟨n, L1, h, rfl, hn⟩ := h
  obtain ⟨M, hM, _⟩ := h.map
  refine ⟨NotW.of h.head (fun cs fr e => by cases e), ?_⟩
  intro cs fr e
  obtain ⟨es, clock, h1, _⟩ := hM
  rw [h1] at e
  cases e
theorem RAt.notW {w : World} {rb : Nat} {l : WL} (h : RAt w rb l) : NotW w rb := by
  obtain ⟨v, h, _⟩ := h
  exact NotW.of h (fun cs fr e => by cases e)
theorem RAt.lt {w : World} {rb : Nat} {l : WL} (h : RAt w rb l) : rb < w.heap.size := by
  obtain ⟨v, h, _⟩ := h
  exact lt_of_blk h
theorem RAt.kept {S : List Nat} {w w' : World} {rb : Nat} {l : WL} (h : RAt w rb l) (hC : Chg S w w') (hS : ∀ k ∈ S, k ≠ rb ∧ NotW w k) : RAt w' rb l := by
  obtain ⟨v, h1, h2⟩ := h
  refine ⟨v, hC.blk h1 (fun hm => (hS _ hm).1 rfl), own_kept h2 hC (fun k hk hm => ?_)⟩
  obtain ⟨cs, hcs⟩ := own_cells h2 k hm
  exact (hS k hk).2 _ _ hcs
theorem RAt.ne {w : World} {rb ab mb : Nat} {N : Int} {l L : WL} (h : RAt w rb l) (hW : WAt w ab mb N L) : ab ≠ rb ∧ mb ≠ rb := by
  obtain ⟨v, h1, h2⟩ := h
  obtain ⟨n, L1, h, rfl, hn⟩ := hW
  obtain ⟨M, hM, _⟩ := h.map
  obtain ⟨es, clock, h3, _⟩ := hM
  constructor
  · rintro rfl
    rw [h.head] at h1
    cases h1
  · rintro rfl
    rw [h3] at h1
    cases h1
/-- A step of the program's list leaves the reference's. -/
theorem RAt.step {w w' : World} {rb ab mb : Nat} {N : Int} {l L : WL} (h : RAt w rb l) (hW : WAt w ab mb N L) (hC : Chg [ab, mb] w w') : RAt w' rb l :=
  h.kept hC (fun k hk => by
    simp at hk
    rcases hk with rfl | rfl
    · exact ⟨(h.ne hW).1, hW.notW.1⟩
    · exact ⟨(h.ne hW).2, hW.notW.2⟩)
theorem RAt.calm {w w' : World} {rb : Nat} {l : WL} (h : RAt w rb l) (hC : Chg [] w w') : RAt w' rb l := h.kept hC (by simp)

/-- The place of a thread; -1: none. -/
def findL (l : WL) (t : Int) : Int := match l.findIdx? (fun x => x.1 == t) with | none => -1 | some i => i

theorem findL_none {l : WL} {t : Int} (h : hasR l t = false) : findL l t = -1 := by
  have h1 : l.findIdx? (fun x => x.1 == t) = none := List.findIdx?_eq_none_iff.2 (fun x hx => by
    rw [Bool.eq_false_iff]
    intro e
    have e' : x.1 = t := by simpa using e
    have h2 : hasR l t = true := hasR_mem.2 ⟨x.2, by rw [← e']; exact hx⟩
    rw [h] at h2
    cases h2)
  unfold findL
  rw [h1]
theorem findL_some {l : WL} {t : Int} (h : hasR l t = true) : ∃ i : Nat, findL l t = i ∧ i < l.length ∧ l[i]? = some (t, prioR l t) ∧ (∀ j : Nat, j < i → ∀ x, l[j]? = some x → x.1 ≠ t) := by
  induction l with
  | nil => simp [hasR] at h
  | cons x l ih =>
    obtain ⟨k, q⟩ := x
    by_cases hc : k = t
    · subst hc
      refine ⟨0, by simp [findL, List.findIdx?_cons], by simp, by simp [prioR], by omega⟩
    · have hc1 : (k == t) = false := by simpa using hc
      have hc2 : (t == k) = false := by simp; omega
      have h' : hasR l t = true := by unfold hasR at h ⊢; rwa [List.lookup_cons, hc2] at h
      obtain ⟨i, h1, h2, h3, h4⟩ := ih h'
      refine ⟨i + 1, ?_, by simp; omega, ?_, ?_⟩
      · unfold findL at h1 ⊢
        rw [List.findIdx?_cons, hc1]
        cases hf : l.findIdx? (fun x => x.1 == t) with
        | none => rw [hf] at h1; simp only at h1; omega
        | some j => rw [hf] at h1; simp only at h1; simp; omega
      · have : prioR ((k, q) :: l) t = prioR l t := by unfold prioR; rw [List.lookup_cons, hc2]
        rw [this]
        simpa using h3
      · intro j hj y hy
        cases j with
        | zero => simp at hy; subst hy; exact hc
        | succ j => exact h4 j (by omega) y (by simpa using hy)

def mayB (t p : Int) : Bool := decide (0 ≤ t ∧ t < 16 ∧ 1 ≤ p ∧ p ≤ 31)
set_option maxRecDepth 100000 in
theorem mayc (t p : Int) (w : World) : Calls Tryz.prog 78 #[.int .i64 t, .int .i64 p] w fun e w' => e = .returned (.bool (mayB t p)) ∧ w = w' := by
  obtain ⟨r, hr⟩ : ∃ r, r = mayB t p := ⟨_, rfl⟩
  rw [← hr]
  have HR := Lib.hid hr
  clear hr
  by_cases h1 : 0 ≤ t
  · have d1 : decide (0 ≤ t) = true := by simpa using h1
    by_cases h2 : t < 16
    · have d2 : decide (t < 16) = true := by simpa using h2
      by_cases h3 : 1 ≤ p
      · have d3 : decide (1 ≤ p) = true := by simpa using h3
        have hr : decide (p ≤ 31) = r := by rw [HR.out]; unfold mayB; simp [h1, h2, h3]
        clear h1 h2 h3
        go_enter Tryz.func78, Tryz.ntmps78
        go_wp2
        go_ret
        exact ⟨rfl, rfl⟩
      · have d3 : decide (1 ≤ p) = false := by simpa using h3
        have hr : r = false := by rw [HR.out]; unfold mayB; simp [h3]
        subst hr
        go_enter Tryz.func78, Tryz.ntmps78
        go_wp2
        go_ret
        exact ⟨rfl, rfl⟩
    · have d2 : decide (t < 16) = false := by simpa using h2
      have hr : r = false := by rw [HR.out]; unfold mayB; simp [h2]
      subst hr
      go_enter Tryz.func78, Tryz.ntmps78
      go_wp2
      go_ret
      exact ⟨rfl, rfl⟩
  · have d1 : decide (0 ≤ t) = false := by simpa using h1
    have hr : r = false := by rw [HR.out]; unfold mayB; simp [h1]
    subst hr
    go_enter Tryz.func78, Tryz.ntmps78
    go_wp2
    go_ret
    exact ⟨rfl, rfl⟩

theorem RAt.open {w : World} {rb : Nat} {l : WL} (h : RAt w rb l) : ∃ a cap, w.heap[rb]? = some (.cells #[.slice a l.length cap] 53 (0, 0)) ∧ (l = [] ∨ ∃ g, a = some ⟨g, 0, none⟩ ∧ ∀ j x, l[j]? = some x → w.cell? ⟨g, j * 2, none⟩ = some (.int .i64 x.1) ∧ w.cell? ⟨g, j * 2 + 1, none⟩ = some (.int .i64 x.2)) := by
  obtain ⟨v, h1, h2⟩ := h
  rcases h2.2 with ⟨e1, e2⟩ | ⟨g, cap, cur, e1, _⟩
  · exact ⟨none, 0, by rw [h1, e1, e2], .inl (List.eq_nil_of_length_eq_zero e2)⟩
  · refine ⟨some ⟨g, 0, none⟩, cap, by rw [h1, e1], ?_⟩
    by_cases hn : l = []
    · exact .inl hn
    · right
      obtain ⟨b, o, c, e2, h3⟩ := (IsPairs.of_own h2).addr hn
      rw [e1] at e2
      simp at e2
      obtain ⟨⟨rfl, rfl⟩, rfl⟩ := e2
      exact ⟨g, rfl, fun j x hj => by have := h3 j x hj; rwa [Nat.zero_add] at this⟩

set_option maxRecDepth 100000 in
set_option maxHeartbeats 1000000 in
theorem findc (rb : Nat) (l : WL) (t : Int) (w : World) (h : RAt w rb l) (hl : l.length < 4611686018427387904) :
    Calls Tryz.prog 79 #[.pointer (some ⟨rb, 0, none⟩), .int .i64 t] w fun e w' => e = .returned (.int .i64 (findL l t)) ∧ w = w' := by
  obtain ⟨a, cap, hb, hc⟩ := h.open
  have c0 := cellB hb (i := 0) rfl
  clear hb h
  by_cases hh : hasR l t = true
  · obtain ⟨i, h1, h2, h3, h4⟩ := findL_some hh
    rw [h1]
    have hn : l ≠ [] := fun e => by subst e; simp at h2
    obtain ⟨g, rfl, hd⟩ := hc.resolve_left hn
    have HC := Lib.hid (And.intro hd (And.intro h3 h4))
    generalize hL : l.length = n at *
    have HL := Lib.hid hL
    clear hc hd h3 h4 hh h1 hn hL
    go_enter Tryz.func79, Tryz.ntmps79
    go_wp2
    go_loopw [5] (fun s wr => ∃ k : Nat, k ≤ i ∧ s = .int .i64 k ∧ wr = w) (fun s _ => n - (intOf s).toNat)
    case atStart => exact ⟨0, by omega, rfl, rfl⟩
    case round =>
      obtain ⟨k, hk, rfl, rfl⟩ := hrel
      obtain ⟨x, hx⟩ : ∃ x, l[k]? = some x := ⟨_, List.getElem?_eq_getElem (by have := HL.out; omega)⟩
      have d1 := (HC.out.1 k x hx).1
      obtain ⟨x1, x2⟩ := x
      by_cases hki : k = i
      · subst hki
        have e := HC.out.2.1
        rw [hx] at e
        obtain ⟨rfl, _⟩ := Prod.mk.inj (Option.some.inj e)
        have hb : ((x1 : Int) == x1) = true := by simp
        clear e hx
        go_wp2
        go_ret
        exact ⟨rfl, rfl⟩
      · have hne := HC.out.2.2 k (by omega) _ hx
        have hb : ((x1 : Int) == t) = false := by simpa using hne
        clear hne hx
        go_wp2
        go_roundw
        case rel => exact ⟨k + 1, by omega, by go_num, by trivial⟩
        case measure => simp [intOf]; omega
  · have hf : hasR l t = false := by simpa using hh
    rw [findL_none hf]
    by_cases hn : l = []
    · subst hn
      clear hc hh hf hl
      go_enter Tryz.func79, Tryz.ntmps79
      go_wp2
      refine wp_loop_rounds 1 ?_
      rw [rounds_succ]
      go_wp2
      go_ret
      exact ⟨rfl, rfl⟩
    · obtain ⟨g, rfl, hd⟩ := hc.resolve_left hn
      have h4 : ∀ (k : Nat) x, l[k]? = some x → x.1 ≠ t := fun k x hx e => by
        have := hasR_mem.2 (⟨x.2, by rw [← e]; exact List.mem_of_getElem? hx⟩ : ∃ p, (t, p) ∈ l)
        rw [hf] at this
        cases this
      have HC := Lib.hid (And.intro hd h4)
      generalize hL : l.length = n at *
      have HL := Lib.hid hL
      clear hc hd h4 hh hn hL hf
      go_enter Tryz.func79, Tryz.ntmps79
      go_wp2
      go_loopw [5] (fun s wr => ∃ k : Nat, k ≤ n ∧ s = .int .i64 k ∧ wr = w) (fun s _ => n - (intOf s).toNat)
      case atStart => exact ⟨0, by omega, rfl, rfl⟩
      case round =>
        obtain ⟨k, hk, rfl, rfl⟩ := hrel
        by_cases hlt : k < n
        · obtain ⟨x, hx⟩ : ∃ x, l[k]? = some x := ⟨_, List.getElem?_eq_getElem (by have := HL.out; omega)⟩
          have d1 := (HC.out.1 k x hx).1
          have hne := HC.out.2 k _ hx
          obtain ⟨x1, x2⟩ := x
          have hb : ((x1 : Int) == t) = false := by simpa using hne
          clear hne hx
          go_wp2
          go_roundw
          case rel => exact ⟨k + 1, by omega, by go_num, by trivial⟩
          case measure => simp [intOf]; omega
        · go_wp2
          go_ret
          exact ⟨rfl, rfl⟩

set_option maxRecDepth 100000 in
set_option maxHeartbeats 1000000 in
theorem rpriocc (rb : Nat) (l : WL) (t : Int) (w : World) (h : RAt w rb l) (hl : l.length < 4611686018427387904) :
    Calls Tryz.prog 66 #[.pointer (some ⟨rb, 0, none⟩), .int .i64 t] w fun e w' => e = .returned (.tuple #[.int .i64 (prioR l t), .bool (hasR l t)]) ∧ w = w' := by
  have hF := findc rb l t w h hl
  obtain ⟨a, cap, hb, hc⟩ := h.open
  have c0 := cellB hb (i := 0) rfl
  clear hb h
  by_cases hh : hasR l t = true
  · obtain ⟨i, h1, h2, h3, h4⟩ := findL_some hh
    rw [h1] at hF
    have hn : l ≠ [] := fun e => by subst e; simp at h2
    obtain ⟨g, rfl, hd⟩ := hc.resolve_left hn
    have d1 := (hd i _ h3).2
    rw [hh]
    simp only at d1
    generalize prioR l t = p at *
    generalize hL : l.length = n at *
    have HF := Lib.hid hF
    clear hc hd h3 h4 hh h1 hn hL hF
    go_enter Tryz.func66, Tryz.ntmps66
    go_wp2_with (go_at_call 79; refine HF.out.mono ?_; rintro e w' ⟨rfl, rfl⟩)
    go_ret2
    exact ⟨rfl, rfl⟩
  · have hf : hasR l t = false := by simpa using hh
    have hp : prioR l t = 0 := by
      unfold prioR
      unfold hasR at hf
      cases hq : l.lookup t with
      | none => rfl
      | some q => rw [hq] at hf; cases hf
    rw [findL_none hf] at hF
    rw [hp, hf]
    have HF := Lib.hid hF
    clear hc hh hf hl hF hp
    go_enter Tryz.func66, Tryz.ntmps66
    go_wp2_with (go_at_call 79; refine HF.out.mono ?_; rintro e w' ⟨rfl, rfl⟩)
    go_ret2
    exact ⟨rfl, rfl⟩

set_option maxRecDepth 100000 in
set_option maxHeartbeats 1000000 in
theorem rsame (r1 r2 : Nat) (l1 l2 : WL) (w : World) (h1 : RAt w r1 l1) (h2 : RAt w r2 l2) (hl1 : l1.length < 4611686018427387904) (hl2 : l2.length < 4611686018427387904) :
    Calls Tryz.prog 29 #[.pointer (some ⟨r1, 0, none⟩), .pointer (some ⟨r2, 0, none⟩)] w fun e w' => e = .returned (.bool (decide (l1 = l2))) ∧ Chg [] w w' := by
  obtain ⟨a1, cap1, hb1, hc1⟩ := h1.open
  obtain ⟨a2, cap2, hb2, hc2⟩ := h2.open
  have c1 := cellB hb1 (i := 0) rfl
  have c2 := cellB hb2 (i := 0) rfl
  clear hb1 hb2 h1 h2
  by_cases hl : l1.length = l2.length
  · by_cases hnil : l1 = []
    · subst hnil
      have : l2 = [] := List.eq_nil_of_length_eq_zero hl.symm
      subst this
      clear hc1 hc2 hl hl1 hl2
      go_enter Tryz.func29, Tryz.ntmps29
      go_wp2
      go_quiet (fail)
      go_wp2
      refine wp_loop_rounds 1 ?_
      rw [rounds_succ]
      go_wp2
      go_ret
      exact ⟨rfl, (Chg.refl _ _).drewN _⟩
    · have hnil' : l2 ≠ [] := fun e => hnil (List.eq_nil_of_length_eq_zero (by rw [hl, e]; rfl))
      obtain ⟨g1, rfl, hd1⟩ := hc1.resolve_left hnil
      obtain ⟨g2, rfl, hd2⟩ := hc2.resolve_left hnil'
      rw [hl] at c1
      have HL := Lib.hid hl
      have H1 := Lib.hid hd1
      have H2 := Lib.hid hd2
      generalize hn : l2.length = n at *
      have HN := Lib.hid hn
      have hb : ((n : Int) != (n : Int)) = false := by simp
      clear hc1 hc2 hl hd1 hd2 hn hnil hnil' hl1
      go_enter Tryz.func29, Tryz.ntmps29
      go_wp2
      go_quiet (fail)
      go_wp2
      go_loopw [5] (fun i wr => ∃ k : Nat, k ≤ n ∧ i = .int .i64 k ∧ l1.take k = l2.take k ∧ ∃ q, wr = w.drewN q) (fun i _ => n - (intOf i).toNat)
      case atStart => exact ⟨0, by omega, rfl, by simp, _, rfl⟩
      case round =>
        obtain ⟨k, hk, rfl, htk, q, rfl⟩ := hrel
        have HK := Lib.hid htk
        clear htk
        by_cases hlt : k < n
        · obtain ⟨t, hkt⟩ : ∃ t, l1[k]? = some t := ⟨_, List.getElem?_eq_getElem (by rw [HL.out]; exact hlt)⟩
          obtain ⟨u, hku⟩ : ∃ u, l2[k]? = some u := ⟨_, List.getElem?_eq_getElem (by rw [HN.out]; exact hlt)⟩
          obtain ⟨t1, t2⟩ := t
          obtain ⟨u1, u2⟩ := u
          obtain ⟨d1, d1'⟩ := H1.out k _ hkt
          obtain ⟨d2, d2'⟩ := H2.out k _ hku
          have HT := Lib.hid (And.intro hkt hku)
          clear hkt hku
          by_cases htu : t1 = u1 ∧ t2 = u2
          · obtain ⟨rfl, rfl⟩ := htu
            have hne : neqP t1 t2 t1 t2 = false := by simp [neqP]
            go_wp2
            go_quiet (fail)
            go_wp2
            go_roundw
            case rel => exact ⟨k + 1, by omega, by go_num, by rw [List.take_add_one, List.take_add_one, HK.out, HT.out.1, HT.out.2], q + nq, rfl⟩
            case measure => simp [intOf]; omega
          · have hne : neqP t1 t2 u1 u2 = true := decide_eq_true htu
            have hd : decide (l1 = l2) = false := by
              apply decide_eq_false
              intro e
              have h1 := HT.out.1
              rw [e, HT.out.2] at h1
              have h1 := Option.some.inj h1
              exact htu ⟨(congrArg Prod.fst h1).symm, (congrArg Prod.snd h1).symm⟩
            have HD := Lib.hid hd
            clear hd htu
            go_wp2
            go_quiet (fail)
            go_wp2
            go_ret
            exact ⟨ret_bool HD.out.symm, ((Chg.refl _ _).drewN _).drewN _⟩
        · have : k = n := by omega
          have hd : decide (l1 = l2) = true := by
            apply decide_eq_true
            have := HK.out
            rwa [List.take_of_length_le (by rw [HL.out]; omega), List.take_of_length_le (by rw [HN.out]; omega)] at this
          have HD := Lib.hid hd
          clear hd
          go_wp2
          go_ret
          exact ⟨ret_bool HD.out.symm, (Chg.refl _ _).drewN _⟩
  · have hd : decide (l1 = l2) = false := by
      apply decide_eq_false
      intro e
      exact hl (by rw [e])
    rw [hd]
    have hb : ((l1.length : Int) != (l2.length : Int)) = true := by rw [bne_iff_ne]; omega
    generalize l1.length = n1 at *
    generalize l2.length = n2 at *
    clear hd hc1 hc2 hl
    go_enter Tryz.func29, Tryz.ntmps29
    go_wp2
    go_quiet (fail)
    go_wp2
    go_ret
    exact ⟨rfl, (Chg.refl _ _).drewN _⟩

end Go.Proofs.YtiiafhlckmkcnaaGreat

/- metronomeref09: Put, Change: append of a whole slice to one's own. -/
namespace Go.Proofs.YtiiafhlckmkcnaaGreat
open Go.RowKit

/-- The value is m elements that are there to be read: news. -/
def SrcAt (w : World) (x : Value) (m : Nat) (news : List Value) : Prop :=
  (x = .slice none 0 0 ∧ m = 0 ∧ news = []) ∨ ∃ ad c, x = .slice (some ad) m c ∧ ∀ j u, news[j]? = some u → w.cell? (ad.add j) = some u

theorem SrcAt.calm {w w' : World} {x : Value} {m : Nat} {news : List Value} (h : SrcAt w x m news) (hC : Chg [] w w') : SrcAt w' x m news := by
  rcases h with h | ⟨ad, c, h1, h2⟩
  · exact .inl h
  · exact .inr ⟨ad, c, h1, fun j u hj => cell_calm (h2 j u hj) hC⟩
where cell_calm {w w' : World} {p : Addr} {v : Value} (h : w.cell? p = some v) (hC : Chg [] w w') : w'.cell? p = some v :=
  (World.cell?_of_block (hC.block p.block (World.block_lt_of_cell? _ _ h) (by simp))).trans h

section
variable {P : Program}
theorem run_more {w : World} (B : Nat) (t ty e : TypeId) (i : TypeInfo) (z : Value) (size bytes : Nat) (ht : P.underlying t = some (.slice e)) (hi : P.info? e = some i) (hz : i.zero = some z)
    (hsize : i.size = size) (hby : i.bytes = bytes) (hzs : z.cells.size = size) (hsz : 0 < size)
    (v : Value) (n : Nat) (xs : List Value) (hown : w.ownsRow B e size v n xs) (x : Value) (m : Nat) (news : List Value) (hx : SrcAt w x m news) (hl : news.length = m * size) (h1 : ∀ u ∈ news, u.oneCell' = true)
    (h63 : n + m ≤ maxLen) (hbytes : (n + m) * bytes ≤ 140737488355328) (hB : B ≤ w.heap.size) :
    ∃ v' w', (Builtin.append_ #[t, t] ty #[v, x]).run P w = .ok v' w' ∧ w'.ownsRow B e size v' (n + m) (xs ++ news) ∧
      Chg v.ownBlock.toList w w' ∧ (v'.ownBlock = v.ownBlock ∨ ∃ k, w.heap.size ≤ k ∧ v'.ownBlock = some k) := by
  rcases hx with ⟨rfl, rfl, rfl⟩ | ⟨ad, c, rfl, hc⟩
  · exact ⟨v, w, run_append_owned_none w B t ty e i size ht hi v n xs hown, by simpa using hown, Chg.refl _ _, .inl rfl⟩
  · obtain ⟨v', w', hr, h2, h3, h4, h5⟩ := run_append_own_at (P := P) w B t ty e i z size bytes ht hi hz hsize hby hzs hsz v n xs hown ad m c news hl hc h1 h63 hbytes hB
    refine ⟨v', w', hr, h2, Chg.of_grown h3 (fun k hk => by simp [hk]), ?_⟩
    rcases h5 with h5 | h5
    · exact .inl h5
    · exact .inr ⟨_, Nat.le_refl _, h5⟩

theorem wpList_run {w : World} {ops : Array Oper} {rest : List Oper} {o : Oper} {a : Act} {Q : Exit → Act → World → Prop} (hgd : o.guard = none) (s x : Operand) (t ty : TypeId)
    (ho : o.op = .call { callee := .builtin .append, args := #[s, x], argTypes := #[t, t] }) (hty : o.type = ty) (v u v' : Value) (hs : a.eval s = v) (hx : a.eval x = u) (w' : World)
    (hr : (Builtin.append_ #[t, t] ty #[v, u]).run P w = .ok v' w') (h : wpList P ops Q rest (a.put o.dst v') w') : wpList P ops Q (o :: rest) a w := by
  subst hty
  refine wpList_plain hgd fun K hK => ?_
  unfold Oper.wp execOp
  simp only [ho, resolve, invoke, builtin, Sem.run_bind, Sem.run_pure, Result.andThen_ok, List.map_toArray, List.map_cons, List.map_nil, hs, hx, hr]
  exact hK _ _ h

/-- The same, at a step of a region that draws its order. -/
theorem step_run {ops : Array Oper} {o : Oper} {a : Act} {w : World} {K : Act → World → Prop} {Q : Exit → Act → World → Prop} {E : Prop} (hgd : o.guard = none) (s x : Operand) (t ty : TypeId)
    (ho : o.op = .call { callee := .builtin .append, args := #[s, x], argTypes := #[t, t] }) (hty : o.type = ty) (v u v' : Value) (hs : a.eval s = v) (hx : a.eval x = u) (w' : World)
    (hr : (Builtin.append_ #[t, t] ty #[v, u]).run P w = .ok v' w') (hK : K (a.put o.dst v') w') : if Region.wanted o (yielded ops a.tmps) = true then Oper.wp P o a w K Q else E := by
  have hw : Region.wanted o (yielded ops a.tmps) = true := by simp [Region.wanted, hgd]
  rw [if_pos hw]
  subst hty
  unfold Oper.wp execOp
  simp only [ho, resolve, invoke, builtin, Sem.run_bind, Sem.run_pure, Result.andThen_ok, List.map_toArray, List.map_cons, List.map_nil, hs, hx, hr]
  exact hK
end

theorem flatW_one (l : WL) : ∀ u ∈ flatW l, u.oneCell' = true := by
  intro u hu
  unfold flatW at hu
  obtain ⟨x, _, hx⟩ := List.mem_flatMap.1 hu
  simp at hx
  rcases hx with rfl | rfl <;> rfl

theorem own_take {cur : Array Value} {m : Nat} {xs : List Value} (h : cur.toList.take m = xs) : ∀ (j : Nat) (u : Value), xs[j]? = some u → cur[j]? = some u := fun j u hj => by
  rw [← h, List.getElem?_take] at hj
  split at hj
  · simpa using hj
  · cases hj

theorem RAt.src {w : World} {rb : Nat} {l : WL} (h : RAt w rb l) : ∃ a cap, w.heap[rb]? = some (.cells #[.slice a l.length cap] 53 (0, 0)) ∧ SrcAt w (.slice a l.length cap) l.length (flatW l) := by
  obtain ⟨v, h1, h2⟩ := h
  rcases h2.2 with ⟨e1, e2⟩ | ⟨g, cap, cur, e1, _, e3, _, _, _, e4⟩
  · have : l = [] := List.eq_nil_of_length_eq_zero e2
    subst this
    exact ⟨none, 0, by rw [h1, e1]; rfl, .inl ⟨rfl, rfl, rfl⟩⟩
  · refine ⟨some ⟨g, 0, none⟩, cap, by rw [h1, e1], .inr ⟨_, _, rfl, fun j u hj => ?_⟩⟩
    rw [show ((⟨g, 0, none⟩ : Addr).add j) = ⟨g, j, none⟩ by unfold Addr.add; split <;> simp_all]
    exact cellB e3 (own_take e4 j u hj)

/-- A copy of the pairs, appended to nothing. -/
theorem run_fresh {w : World} {x : Value} {l : WL} (hx : SrcAt w x l.length (flatW l)) (hl : l.length ≤ 1000000) : ∃ v' w', (Builtin.append_ #[51, 51] 51 #[.slice none 0 0, x]).run Tryz.prog w = .ok v' w' ∧ w'.ownsRow w.heap.size 104 2 v' l.length (flatW l) ∧ Chg [] w w' := by
  obtain ⟨i0, hi, hz0, hz1, hz2⟩ := info_parts infoWaiter
  obtain ⟨v', w', hr, h2, h3, _⟩ := run_more (P := Tryz.prog) (w := w) w.heap.size 51 51 104 i0 (.agg #[.int .i64 0, .int .i64 0]) 2 16 Tryz.underlying51 hi hz0 hz1 hz2 rfl (by decide)
    (.slice none 0 0) 0 [] (World.ownsRow_nil ..) x l.length (flatW l) hx (flatW_len l) (flatW_one l) (by unfold maxLen; omega) (by omega) (Nat.le_refl _)
  exact ⟨v', w', hr, by simpa using h2, by simpa [Value.ownBlock] using h3⟩

theorem RAt.made {w w1 : World} {rb : Nat} {l l' : WL} {v : Value} (h : RAt w rb l) (ho : w1.ownsRow w.heap.size 104 2 v l'.length (flatW l')) (hC : Chg [] w w1) : RAt (w1.setCell ⟨rb, 0, none⟩ v) rb l' ∧ Chg [rb] w (w1.setCell ⟨rb, 0, none⟩ v) := by
  have hlt := h.lt
  obtain ⟨v0, h1, _⟩ := h
  have h1 := hC.blk h1 (by simp)
  refine ⟨⟨v, by rw [blk_setCell h1]; rfl, own_mono (own_kept ho ((Chg.refl [rb] w1).setCell _ _ (by simp)) (fun k hk => by simp at hk; subst hk; exact own_notin ho hlt)) (Nat.zero_le _)⟩, (hC.mono (by simp)).setCell _ _ (by simp)⟩

def rputL (l : WL) (t p : Int) : WL := putL l t p
theorem ask_may {l : WL} {t p : Int} (b : Bool) : (mayB t p = false ∧ askR l t p b = 2) ∨ (mayB t p = true ∧ askR l t p b = if hasR l t = true then (if b then 0 else 7) else (if b then 6 else 0)) := by
  unfold mayB askR hasR
  by_cases h : 0 ≤ t ∧ t < 16 ∧ 1 ≤ p ∧ p ≤ 31
  · right
    exact ⟨by simpa using h, by rw [if_neg (by omega)]⟩
  · left
    exact ⟨by simpa using h, by rw [if_pos (by omega)]⟩

set_option maxRecDepth 100000 in
set_option maxHeartbeats 1000000 in
theorem rputc (rb : Nat) (l : WL) (t p : Int) (w : World) (h : RAt w rb l) (hl : l.length ≤ 999999) :
    Calls Tryz.prog 46 #[.pointer (some ⟨rb, 0, none⟩), .int .i64 t, .int .i64 p] w fun e w' => e = .returned (.int .i64 (askR l t p false)) ∧ RAt w' rb (putL l t p) ∧ Chg [rb] w w' := by
  have hM := mayc t p w
  have hF := findc rb l t w h (by omega)
  have HR := Lib.hid h
  rcases ask_may (l := l) (t := t) (p := p) false with ⟨h1, h2⟩ | ⟨h1, h2⟩
  · have hp : putL l t p = l := by unfold putL; rw [if_neg (by rw [h2]; decide)]
    rw [h2, hp]
    rw [h1] at hM
    have HM := Lib.hid hM
    clear h hM hF hl h1 h2 hp
    go_enter Tryz.func46, Tryz.ntmps46
    go_wp2_with (go_at_call 78; refine HM.out.mono ?_; rintro e w' ⟨rfl, rfl⟩)
    go_ret
    exact ⟨rfl, HR.out, Chg.refl _ _⟩
  · rw [h1] at hM
    cases hh : hasR l t with
    | true =>
      rw [hh] at h2
      simp only [if_true, Bool.false_eq_true, if_false] at h2
      have hp : putL l t p = l := by unfold putL; rw [if_neg (by rw [h2]; decide)]
      rw [h2, hp]
      obtain ⟨i, hi1, _⟩ := findL_some hh
      rw [hi1] at hF
      have HM := Lib.hid (And.intro hM hF)
      clear h hM hF hl h1 h2 hp hi1 hh
      go_enter Tryz.func46, Tryz.ntmps46
      go_wp2_with (first | (go_at_call 78; refine HM.out.1.mono ?_; rintro e w' ⟨rfl, rfl⟩) | (go_at_call 79; refine HM.out.2.mono ?_; rintro e w' ⟨rfl, rfl⟩))
      go_ret
      exact ⟨rfl, HR.out, Chg.refl _ _⟩
    | false =>
      rw [hh] at h2
      simp only [Bool.false_eq_true, if_false] at h2
      have hp : putL l t p = l ++ [(t, p)] := by unfold putL; rw [if_pos h2]
      rw [h2, hp]
      rw [findL_none hh] at hF
      obtain ⟨i0, hi, hz0, hz1, hz2⟩ := info_parts infoWaiter
      obtain ⟨a, cap, hb, hs⟩ := h.src
      have c0 : w.cell? ⟨rb, 0, none⟩ = some (.slice a l.length cap) := cellB hb (i := 0) rfl
      obtain ⟨v1, w1, hr, ho, hC⟩ := run_fresh hs (by omega)
      have hsz := hC.size
      have hd1 : l.length + 1 ≤ maxLen := by unfold maxLen; omega
      have hd2 : (l.length + 1) * 16 ≤ 140737488355328 := by omega
      have f0 := frozenB hb 0
      have HM := Lib.hid (And.intro hM hF)
      have H1 := Lib.hid (And.intro hr (And.intro ho (And.intro hC hb)))
      clear h hM hF hl h1 h2 hp hh hb hs hr ho hC
      generalize hn : l.length = n at *
      have HN := Lib.hid hn
      clear hn
      go_enter Tryz.func46, Tryz.ntmps46
      have hfz := fun (W : World) (hW : W.heap[rb]? = some (.cells #[.slice a n cap] 53 (0, 0))) => frozenB hW 0
      go_wp2_with (first
        | (go_at_call 78; refine HM.out.1.mono ?_; rintro e w' ⟨rfl, rfl⟩)
        | (go_at_call 79; refine HM.out.2.mono ?_; rintro e w' ⟨rfl, rfl⟩)
        | (at_builtin; refine wpList_run rfl _ _ 51 51 rfl rfl (.slice none 0 0) (.slice a n cap) v1 rfl rfl w1 H1.out.1 ?_)
        | (at_builtin; refine wpList_push rfl _ _ 51 rfl w.heap.size 104 i0 (.agg #[.int .i64 0, .int .i64 0]) 2 16 Tryz.underlying51 hi hz0 hz1 hz2 rfl (by decide) v1 n (flatW l) rfl H1.out.2.1 [.int .i64 t, .int .i64 p] rfl rfl (by simp [Value.oneCell']) hd1 hd2 hsz ?_; intro v2 w2 ho2 hC2 hloc hnn; obtain ⟨va, vc, rfl⟩ := own_slice ho2; have hC3 := H1.out.2.2.1.trans' hC2 (fun k hk => .inr (own_ge H1.out.2.1 k hk)); have f2 := hfz w2 (hC3.blk H1.out.2.2.2 (by simp)); have c2 := cellB (hC3.blk H1.out.2.2.2 (by simp)) (i := 0) rfl))
      have hfin := RAt.made (l' := l ++ [(t, p)]) HR.out (by rw [List.length_append, flatW_snoc, HN.out]; exact ho2) hC3
      go_ret
      exact ⟨rfl, hfin.1, hfin.2⟩

theorem own_blk {w : World} {B : Nat} {e : TypeId} {size : Nat} {v : Value} {n : Nat} {xs : List Value} (h : w.ownsRow B e size v n xs) (hn : n ≠ 0) : ∃ g cap cur, v = .slice (some ⟨g, 0, none⟩) n cap ∧ B ≤ g ∧ w.heap[g]? = some (.cells cur e (0, 0)) ∧ n ≤ cap ∧ cap ≤ maxLen ∧ cur.size = cap * size ∧ cur.toList.take (n * size) = xs := by
  rcases h.2 with ⟨_, h2⟩ | h
  · exact absurd h2 hn
  · exact h

theorem own_set {w : World} {B g n cap size : Nat} {e : TypeId} {xs : List Value} (h : w.ownsRow B e size (.slice (some ⟨g, 0, none⟩) n cap) n xs) (j : Nat) (u : Value) : (w.setCell ⟨g, j, none⟩ u).ownsRow B e size (.slice (some ⟨g, 0, none⟩) n cap) n (xs.set j u) := by
  refine ⟨by rw [List.length_set]; exact h.1, ?_⟩
  rcases h.2 with ⟨h1, _⟩ | ⟨g', cap', cur, h1, h2, h3, h4, h5, h6, h7⟩
  · cases h1
  · simp at h1
    obtain ⟨rfl, rfl⟩ := h1
    refine .inr ⟨g, cap, cur.setIfInBounds j u, rfl, h2, blk_setCell h3 u, h4, h5, by simpa using h6, ?_⟩
    rw [Array.toList_setIfInBounds, List.take_set, h7]

theorem flatW_set {l : WL} {i : Nat} {t q p : Int} (h : l[i]? = some (t, q)) : (flatW l).set (i * 2 + 1) (.int .i64 p) = flatW (l.set i (t, p)) := by
  induction l generalizing i with
  | nil => simp at h
  | cons y l ih =>
    cases i with
    | zero => simp at h; subst h; simp [flatW]
    | succ i =>
      have := ih (i := i) (by simpa using h)
      have e : ∀ z (l : WL), flatW (z :: l) = .int .i64 z.1 :: .int .i64 z.2 :: flatW l := fun z l => by simp [flatW]
      rw [List.set_cons_succ, e, e, ← this, show (i + 1) * 2 + 1 = (i * 2 + 1) + 1 + 1 by omega, List.set_cons_succ, List.set_cons_succ]

theorem wupd_set {l : WL} {i : Nat} {t q p : Int} (h : l[i]? = some (t, q)) (hn : ∀ j : Nat, j < i → ∀ x, l[j]? = some x → x.1 ≠ t) : wupd l t p = l.set i (t, p) := by
  induction l generalizing i with
  | nil => simp at h
  | cons y l ih =>
    obtain ⟨k, x⟩ := y
    cases i with
    | zero => simp at h; obtain ⟨rfl, rfl⟩ := h; simp [wupd]
    | succ i =>
      have h0 := hn 0 (by omega) (k, x) rfl
      have : ¬ t = k := fun e => h0 e.symm
      rw [wupd, if_neg this, ih (i := i) (by simpa using h) (fun j hj y hy => hn (j + 1) (by omega) y (by simpa using hy))]
      rfl

theorem wdel_cut {l : WL} {i : Nat} {t q : Int} (h : l[i]? = some (t, q)) (hn : ∀ j : Nat, j < i → ∀ x, l[j]? = some x → x.1 ≠ t) : wdel l t = l.take i ++ l.drop (i + 1) := by
  induction l generalizing i with
  | nil => simp at h
  | cons y l ih =>
    obtain ⟨k, x⟩ := y
    cases i with
    | zero => simp at h; obtain ⟨rfl, rfl⟩ := h; simp [wdel]
    | succ i =>
      have h0 := hn 0 (by omega) (k, x) rfl
      have : ¬ t = k := fun e => h0 e.symm
      rw [wdel, if_neg this, ih (i := i) (by simpa using h) (fun j hj y hy => hn (j + 1) (by omega) y (by simpa using hy))]
      rfl

set_option maxRecDepth 100000 in
set_option maxHeartbeats 1000000 in
theorem rchangec (rb : Nat) (l : WL) (t p : Int) (w : World) (h : RAt w rb l) (hl : l.length ≤ 999999) :
    Calls Tryz.prog 54 #[.pointer (some ⟨rb, 0, none⟩), .int .i64 t, .int .i64 p] w fun e w' => e = .returned (.int .i64 (askR l t p true)) ∧ RAt w' rb (chgL l t p) ∧ Chg [rb] w w' := by
  have hM := mayc t p w
  have hF := findc rb l t w h (by omega)
  have HR := Lib.hid h
  rcases ask_may (l := l) (t := t) (p := p) true with ⟨h1, h2⟩ | ⟨h1, h2⟩
  · have hp : chgL l t p = l := by unfold chgL; rw [if_neg (by rw [h2]; decide)]
    rw [h2, hp]
    rw [h1] at hM
    have HM := Lib.hid hM
    clear h hM hF hl h1 h2 hp
    go_enter Tryz.func54, Tryz.ntmps54
    go_wp2_with (go_at_call 78; refine HM.out.mono ?_; rintro e w' ⟨rfl, rfl⟩)
    go_ret
    exact ⟨rfl, HR.out, Chg.refl _ _⟩
  · rw [h1] at hM
    cases hh : hasR l t with
    | false =>
      rw [hh] at h2
      simp only [if_true, Bool.false_eq_true, if_false] at h2
      have hp : chgL l t p = l := by unfold chgL; rw [if_neg (by rw [h2]; decide)]
      rw [h2, hp]
      rw [findL_none hh] at hF
      have HM := Lib.hid (And.intro hM hF)
      clear h hM hF hl h1 h2 hp hh
      go_enter Tryz.func54, Tryz.ntmps54
      go_wp2_with (first | (go_at_call 78; refine HM.out.1.mono ?_; rintro e w' ⟨rfl, rfl⟩) | (go_at_call 79; refine HM.out.2.mono ?_; rintro e w' ⟨rfl, rfl⟩))
      go_ret
      exact ⟨rfl, HR.out, Chg.refl _ _⟩
    | true =>
      rw [hh] at h2
      simp only [if_true] at h2
      obtain ⟨i, hi1, hi2, hi3, hi4⟩ := findL_some hh
      have hp : chgL l t p = l.set i (t, p) := by unfold chgL; rw [if_pos h2, wupd_set hi3 hi4]
      rw [h2, hp]
      rw [hi1] at hF
      obtain ⟨a, cap, hb, hs⟩ := h.src
      have c0 : w.cell? ⟨rb, 0, none⟩ = some (.slice a l.length cap) := cellB hb (i := 0) rfl
      obtain ⟨v1, w1, hr, ho, hC⟩ := run_fresh hs (by omega)
      obtain ⟨g, cap1, cur, rfl, hg, hgb, _⟩ := own_blk ho (by omega)
      have hlt := h.lt
      have hb1 := hC.blk hb (by simp)
      have f1 := frozenB hb1 0
      have hx := own_take (xs := flatW l) (cur := cur) (m := l.length * 2) (by
        obtain ⟨g', c', cur', e1, _, e3, _, _, _, e4⟩ := own_blk ho (by omega)
        simp at e1
        obtain ⟨rfl, rfl⟩ := e1
        rw [hgb] at e3
        cases e3
        exact e4) _ _ (flatW_at hi3).2
      have cg := cellB hgb hx
      have fg := frozenB hgb (i * 2 + 1)
      have hne : ¬ rb = g := by omega
      have cr := cellB hb1 (i := 0) rfl
      have ho2 := own_set ho (i * 2 + 1) (.int .i64 p)
      rw [flatW_set hi3] at ho2
      have hC2 := hC.setCell ⟨g, i * 2 + 1, none⟩ (.int .i64 p) (.inr hg)
      have ho3 : (w1.setCell ⟨g, i * 2 + 1, none⟩ (.int .i64 p)).ownsRow w.heap.size 104 2 (.slice (some ⟨g, 0, none⟩) l.length cap1) (l.set i (t, p)).length (flatW (l.set i (t, p))) := by rw [List.length_set]; exact ho2
      have hfin := RAt.made (l' := l.set i (t, p)) h ho3 hC2
      have HM := Lib.hid (And.intro hM hF)
      have H1 := Lib.hid (And.intro hr hfin)
      clear h hM hF h1 h2 hp hh hb hs hr ho hC hi1 hi3 hi4 hgb hb1 hx ho2 hC2 ho3 hfin
      generalize hn : l.length = n at *
      have HN := Lib.hid hn
      clear hn
      go_enter Tryz.func54, Tryz.ntmps54
      go_wp2_with (first
        | (go_at_call 78; refine HM.out.1.mono ?_; rintro e w' ⟨rfl, rfl⟩)
        | (go_at_call 79; refine HM.out.2.mono ?_; rintro e w' ⟨rfl, rfl⟩)
        | (at_builtin; refine wpList_run rfl _ _ 51 51 rfl rfl (.slice none 0 0) (.slice a n cap) (.slice (some ⟨g, 0, none⟩) n cap1) rfl rfl w1 H1.out.1 ?_))
      go_ret
      exact ⟨rfl, H1.out.2.1, H1.out.2.2⟩

end Go.Proofs.YtiiafhlckmkcnaaGreat

/- metronomeref09: Leave. -/
namespace Go.Proofs.YtiiafhlckmkcnaaGreat
open Go.RowKit

theorem flatW_append (l m : WL) : flatW (l ++ m) = flatW l ++ flatW m := by simp [flatW]

set_option maxRecDepth 100000 in
set_option maxHeartbeats 2000000 in
theorem rleavec (rb : Nat) (l : WL) (t : Int) (w : World) (h : RAt w rb l) (hl : l.length ≤ 999999) :
    Calls Tryz.prog 51 #[.pointer (some ⟨rb, 0, none⟩), .int .i64 t] w fun e w' => e = .returned (.int .i64 (askR l t 1 true)) ∧ RAt w' rb (lvL l t) ∧ Chg [rb] w w' := by
  have hM := mayc t 1 w
  have hF := findc rb l t w h (by omega)
  have HR := Lib.hid h
  rcases ask_may (l := l) (t := t) (p := 1) true with ⟨h1, h2⟩ | ⟨h1, h2⟩
  · have hp : lvL l t = l := by unfold lvL; rw [if_neg (by rw [h2]; decide)]
    rw [h2, hp]
    rw [h1] at hM
    have HM := Lib.hid hM
    clear h hM hF hl h1 h2 hp
    go_enter Tryz.func51, Tryz.ntmps51
    go_wp2_with (go_at_call 78; refine HM.out.mono ?_; rintro e w' ⟨rfl, rfl⟩)
    go_ret
    exact ⟨rfl, HR.out, Chg.refl _ _⟩
  · rw [h1] at hM
    cases hh : hasR l t with
    | false =>
      rw [hh] at h2
      simp only [if_true, Bool.false_eq_true, if_false] at h2
      have hp : lvL l t = l := by unfold lvL; rw [if_neg (by rw [h2]; decide)]
      rw [h2, hp]
      rw [findL_none hh] at hF
      have HM := Lib.hid (And.intro hM hF)
      clear h hM hF hl h1 h2 hp hh
      go_enter Tryz.func51, Tryz.ntmps51
      go_wp2_with (first | (go_at_call 78; refine HM.out.1.mono ?_; rintro e w' ⟨rfl, rfl⟩) | (go_at_call 79; refine HM.out.2.mono ?_; rintro e w' ⟨rfl, rfl⟩))
      go_ret
      exact ⟨rfl, HR.out, Chg.refl _ _⟩
    | true =>
      rw [hh] at h2
      simp only [if_true] at h2
      obtain ⟨i, hi1, hi2, hi3, hi4⟩ := findL_some hh
      have hp : lvL l t = l.take i ++ l.drop (i + 1) := by unfold lvL; rw [if_pos h2, wdel_cut hi3 hi4]
      rw [h2, hp]
      rw [hi1] at hF
      obtain ⟨v, hb, hv⟩ := h
      obtain ⟨g, cap, cur, rfl, _, hgb, hnc, hcm, _, hcur⟩ := own_blk hv (by omega)
      have c0 : w.cell? ⟨rb, 0, none⟩ = some (.slice (some ⟨g, 0, none⟩) l.length cap) := cellB hb (i := 0) rfl
      have hcell : ∀ j u, (flatW l)[j]? = some u → w.drew.cell? ⟨g, j, none⟩ = some u := fun j u hj => cellB (w := w.drew) hgb (own_take hcur j u hj)
      have hadd : ∀ o j : Nat, ((⟨g, o, none⟩ : Addr).add j) = ⟨g, o + j, none⟩ := fun o j => by unfold Addr.add; split <;> simp_all
      have hs1 : SrcAt w.drew (.slice (some ⟨g, 0, none⟩) i cap) (l.take i).length (flatW (l.take i)) := .inr ⟨⟨g, 0, none⟩, cap, by rw [List.length_take, Nat.min_eq_left (by omega)], fun j u hj => by
        rw [hadd, Nat.zero_add]
        refine hcell j u ?_
        have e : flatW l = flatW (l.take i) ++ flatW (l.drop i) := by rw [← flatW_append, List.take_append_drop]
        rw [e, List.getElem?_append_left (List.getElem?_eq_some_iff.1 hj).1]
        exact hj⟩
      obtain ⟨v1, w1, hr1, ho1, hC1⟩ := run_fresh hs1 (by rw [List.length_take]; omega)
      obtain ⟨A, hA, hs2⟩ : ∃ A, (if cap = i + 1 then (⟨g, 0, none⟩ : Addr) else ⟨g, (i + 1) * 2, none⟩) = A ∧ SrcAt w1 (.slice (some A) (l.length - (i + 1)) (cap - (i + 1))) (l.drop (i + 1)).length (flatW (l.drop (i + 1))) := by
        refine ⟨_, rfl, .inr ⟨_, cap - (i + 1), by rw [List.length_drop], fun j u hj => ?_⟩⟩
        have hjl := (List.getElem?_eq_some_iff.1 hj).1
        rw [flatW_len, List.length_drop] at hjl
        rw [if_neg (by omega), hadd]
        have e : flatW l = flatW (l.take (i + 1)) ++ flatW (l.drop (i + 1)) := by rw [← flatW_append, List.take_append_drop]
        have hlen : (flatW (l.take (i + 1))).length = (i + 1) * 2 := by rw [flatW_len, List.length_take, Nat.min_eq_left (by omega)]
        have := hcell ((i + 1) * 2 + j) u (by rw [e, ← hlen, List.getElem?_append_right (by omega), Nat.add_sub_cancel_left]; exact hj)
        exact SrcAt.calm.cell_calm this hC1
      obtain ⟨i0, hi, hz0, hz1, hz2⟩ := info_parts infoWaiter
      have hlt : w.heap.size ≤ w1.heap.size := hC1.size
      have hd1 : (l.take i).length + (l.drop (i + 1)).length ≤ 999999 := by rw [List.length_take, List.length_drop]; omega
      obtain ⟨v2, w2, hr2, ho2, hC2, _⟩ := run_more (P := Tryz.prog) (w := w1) w.heap.size 51 51 104 i0 (.agg #[.int .i64 0, .int .i64 0]) 2 16 Tryz.underlying51 hi hz0 hz1 hz2 rfl (by decide)
        v1 _ _ ho1 _ _ _ hs2 (flatW_len _) (flatW_one _) (by unfold maxLen; omega) (by omega) hlt
      have hC0 : Chg [] w w1 := ((Chg.refl [] w).drew).trans hC1
      have hC3 : Chg [] w w2 := hC0.trans' hC2 (fun k hk => .inr (own_ge ho1 k hk))
      rw [← flatW_append, ← List.length_append] at ho2
      have hfin := RAt.made (l' := l.take i ++ l.drop (i + 1)) HR.out ho2 hC3
      obtain ⟨va1, vc1, e1⟩ := own_slice ho1
      obtain ⟨va2, vc2, e2⟩ := own_slice ho2
      have c1 : w1.cell? ⟨rb, 0, none⟩ = some (.slice (some ⟨g, 0, none⟩) l.length cap) := cellB (hC0.blk hb (by simp)) (i := 0) rfl
      have c2 : w2.cell? ⟨rb, 0, none⟩ = some (.slice (some ⟨g, 0, none⟩) l.length cap) := cellB (hC3.blk hb (by simp)) (i := 0) rfl
      have f2 := frozenB (hC3.blk hb (by simp)) 0
      subst e1
      subst e2
      generalize (l.take i).length = n1 at *
      generalize (l.take i ++ l.drop (i + 1)).length = n2 at *
      have HM := Lib.hid (And.intro hM hF)
      have H1 := Lib.hid (And.intro hr1 (And.intro hr2 hfin))
      have hA' : (if cap = i + 1 then (some ⟨g, 0, none⟩ : Option Addr) else some ⟨g, (i + 1) * 2, none⟩) = some A := by rw [← hA]; split <;> rfl
      clear hM hF h1 h2 hp hh hb hs1 hs2 hr1 hr2 ho1 ho2 hC1 hC2 hC0 hC3 hi1 hi3 hi4 hgb hfin hcell hadd hcur hv hi hd1 hA hlt hl
      generalize hn : l.length = n at *
      have HN := Lib.hid hn
      clear hn
      have hic : i ≤ cap := by omega
      have hin : i + 1 ≤ n := by omega
      have hwr : IntKind.i64.wrap ((i : Int) + 1) = (i : Int) + 1 := by unfold maxLen at hcm; simp [IntKind.wrap, IntKind.signed, IntKind.bits]; omega
      have hw1 : (0 : Int) ≤ (i : Int) + 1 := by omega
      have hw2 : (i : Int) + 1 ≤ (n : Int) := by omega
      go_enter Tryz.func51, Tryz.ntmps51
      go_wp2_with (first | (go_at_call 78; refine HM.out.1.mono ?_; rintro e w' ⟨rfl, rfl⟩) | (go_at_call 79; refine HM.out.2.mono ?_; rintro e w' ⟨rfl, rfl⟩))
      go_region_law (first
        | (refine step_run rfl _ _ 51 51 rfl rfl (.slice none 0 0) (.slice (some ⟨g, 0, none⟩) i cap) (.slice va1 n1 vc1) (by simp [Act.eval]) (by simp [Act.eval, Act.put]) w1 H1.out.1 ?_)
        | (refine step_run rfl _ _ 51 51 rfl rfl (.slice va1 n1 vc1) (.slice (some A) (n - (i + 1)) (cap - (i + 1))) (.slice va2 n2 vc2) (by simp [Act.eval, Act.put]) (by simp [Act.eval, Act.put]) w2 H1.out.2.1 ?_))
      all_goals (go_wp2; go_ret; exact ⟨rfl, H1.out.2.2⟩)

end Go.Proofs.YtiiafhlckmkcnaaGreat

/- metronomeref09: Order, List, First, Take, Clear. -/
namespace Go.Proofs.YtiiafhlckmkcnaaGreat
open Go.RowKit

def ordK (l : WL) (k : Nat) : WL := (List.range k).flatMap fun (i : Nat) => l.filter fun x => x.2 == 31 - (i : Int)
theorem ordK_succ (l : WL) (k : Nat) : ordK l (k + 1) = ordK l k ++ l.filter (fun x => x.2 == 31 - (k : Int)) := by simp [ordK, List.range_succ]
theorem ordK_len (l : WL) (k : Nat) : (ordK l k).length ≤ k * l.length := by
  induction k with
  | zero => simp [ordK]
  | succ k ih =>
    rw [ordK_succ, List.length_append, Nat.add_mul]
    have := List.length_filter_le (fun x : Int × Int => x.2 == 31 - (k : Int)) l
    omega

/-- What has been gathered within a round. -/
def ordI (l : WL) (k i : Nat) : WL := ordK l k ++ (l.take i).filter (fun x => x.2 == 31 - (k : Int))
theorem ordI_zero (l : WL) (k : Nat) : ordI l k 0 = ordK l k := by simp [ordI]
theorem ordI_all (l : WL) (k i : Nat) (h : l.length ≤ i) : ordI l k i = ordK l (k + 1) := by rw [ordI, List.take_of_length_le h, ordK_succ]
theorem ordI_yes {l : WL} {k i : Nat} {x : Int × Int} (h : l[i]? = some x) (hp : x.2 = 31 - (k : Int)) : ordI l k (i + 1) = ordI l k i ++ [x] := by
  simp [ordI, List.take_add_one, h, hp]
theorem ordI_no {l : WL} {k i : Nat} {x : Int × Int} (h : l[i]? = some x) (hp : ¬ x.2 = 31 - (k : Int)) : ordI l k (i + 1) = ordI l k i := by
  simp [ordI, List.take_add_one, h, hp]
theorem ordI_len (l : WL) (k i : Nat) : (ordI l k i).length ≤ (k + 1) * l.length := by
  have h1 := ordK_len l k
  have h2 := List.length_filter_le (fun x : Int × Int => x.2 == 31 - (k : Int)) (l.take i)
  have h3 := List.length_take_le i l
  have h3 : (l.take i).length ≤ l.length := by rw [List.length_take]; omega
  rw [ordI, List.length_append, Nat.add_mul]
  omega

set_option maxRecDepth 100000 in
set_option maxHeartbeats 2000000 in
theorem rorderc (rb : Nat) (l : WL) (w : World) (h : RAt w rb l) (hl : l.length ≤ 999999) :
    Calls Tryz.prog 68 #[.pointer (some ⟨rb, 0, none⟩)] w (PairsPost (ordL l) w) := by
  obtain ⟨i0, hi, hz0, hz1, hz2⟩ := info_parts infoWaiter
  obtain ⟨a, cap, hb, hc⟩ := h.open
  have HR := Lib.hid h
  have HB := Lib.hid (And.intro hb hc)
  obtain ⟨n, hn⟩ : ∃ n, n = l.length := ⟨_, rfl⟩
  rw [← hn] at HB hl
  have HN := Lib.hid hn
  clear hb hc h hn
  go_enter Tryz.func68, Tryz.ntmps68
  go_wp2
  go_loopw [3, 4] (fun s p wr => ∃ k : Nat, k ≤ 31 ∧ p = .int .i64 (31 - k) ∧ (∃ a c, s = .slice a (ordK l k).length c) ∧ wr.ownsRow w.heap.size 104 2 s (ordK l k).length (flatW (ordK l k)) ∧ Chg [] w wr) (fun _ p _ => (intOf p).toNat)
  case atStart => exact ⟨0, by omega, rfl, ⟨none, 0, rfl⟩, World.ownsRow_nil .., Chg.refl _ _⟩
  case round =>
    obtain ⟨k, hk, rfl, ⟨va, vc, rfl⟩, ho, hC⟩ := hrel
    by_cases hlt : k < 31
    · have HO := Lib.hid (And.intro ho hC)
      clear ho hC
      have hge : (1 : Int) ≤ 31 - (k : Int) := by omega
      go_wp2
      go_loopw [3, 5] (fun s p wr => ∃ i : Nat, i ≤ n ∧ p = .int .i64 i ∧ (∃ a c, s = .slice a (ordI l k i).length c) ∧ wr.ownsRow w.heap.size 104 2 s (ordI l k i).length (flatW (ordI l k i)) ∧ Chg [] w wr) (fun _ p _ => n - (intOf p).toNat)
      case atStart => exact ⟨0, by omega, rfl, by rw [ordI_zero]; exact ⟨va, vc, rfl⟩, by rw [ordI_zero]; exact HO.out.1, HO.out.2⟩
      case round =>
        obtain ⟨i, hin, rfl, ⟨va', vc', rfl⟩, ho, hC⟩ := hrel
        have c0 : wr.cell? ⟨rb, 0, none⟩ = some (.slice a n cap) := cellB (hC.blk HB.out.1 (by simp)) (i := 0) rfl
        by_cases hlt2 : i < n
        · obtain ⟨x, hx⟩ : ∃ x, l[i]? = some x := ⟨_, List.getElem?_eq_getElem (by have := HN.out; omega)⟩
          obtain ⟨g, hag, hd⟩ := HB.out.2.resolve_left (fun e => by rw [e] at hx; simp at hx)
          have d1 := SrcAt.calm.cell_calm (hd i x hx).1 hC
          have d2 := SrcAt.calm.cell_calm (hd i x hx).2 hC
          subst hag
          have hlen := ordI_len l k i
          rw [← HN.out] at hlen
          have hkn : (k + 1) * n ≤ 31 * 999999 := Nat.mul_le_mul (by omega) hl
          obtain ⟨t, q⟩ := x
          simp only at d1 d2
          have hB1 : w.heap.size ≤ wr.heap.size := hC.size
          have HO2 := Lib.hid (And.intro ho hC)
          by_cases hq : q = 31 - (k : Int)
          · subst hq
            have hbq : ((31 - (k : Int) : Int) == 31 - (k : Int)) = true := by simp
            have HY := Lib.hid (ordI_yes hx rfl)
            have hd1 : (ordI l k i).length + 1 ≤ maxLen := by unfold maxLen; omega
            have hd2 : ((ordI l k i).length + 1) * 16 ≤ 140737488355328 := by omega
            generalize hm : (ordI l k i).length = m at *
            have HMM := Lib.hid hm
            clear hx hd hlen hkn ho hC hm
            go_wp2_with (at_builtin; refine wpList_push rfl _ _ 51 rfl w.heap.size 104 i0 (.agg #[.int .i64 0, .int .i64 0]) 2 16 Tryz.underlying51 hi hz0 hz1 hz2 rfl (by decide) (.slice va' m vc') m _ rfl HO2.out.1 [.int .i64 t, .int .i64 (31 - (k : Int))] rfl rfl (by simp [Value.oneCell']) hd1 hd2 hB1 ?_; intro v2 w2 ho2 hC2 hloc hnn; obtain ⟨va2, vc2, rfl⟩ := own_slice ho2)
            go_roundw
            case rel =>
              have e1 : (ordI l k (i + 1)).length = m + 1 := by rw [HY.out, List.length_append, HMM.out]; rfl
              have e2 : flatW (ordI l k (i + 1)) = flatW (ordI l k i) ++ [.int .i64 t, .int .i64 (31 - (k : Int))] := by rw [HY.out, flatW_snoc]
              exact ⟨i + 1, by omega, by go_num, by rw [e1]; exact ⟨_, _, rfl⟩, by rw [e1, e2]; exact ho2, HO2.out.2.trans' hC2 (fun j hj => .inr (own_ge HO2.out.1 j hj))⟩
            case measure => simp [intOf]; omega
          · have hbq : ((q : Int) == 31 - (k : Int)) = false := by simpa using hq
            have HY := Lib.hid (ordI_no hx hq)
            clear hx hd hlen hkn ho hC hq
            go_wp2
            go_roundw
            case rel => exact ⟨i + 1, by omega, by go_num, by rw [HY.out]; exact ⟨_, _, rfl⟩, by rw [HY.out]; exact HO2.out.1, HO2.out.2⟩
            case measure => simp [intOf]; omega
        · have HO2 := Lib.hid (And.intro ho hC)
          have HY := Lib.hid (ordI_all l k i (by have := HN.out; omega))
          clear ho hC
          go_wp2
          go_roundw
          case rel => exact ⟨k + 1, by omega, by go_num, by rw [← HY.out]; exact ⟨_, _, rfl⟩, by rw [← HY.out]; exact HO2.out.1, HO2.out.2⟩
          case measure => simp [intOf]; omega
    · have hk31 : k = 31 := by omega
      subst hk31
      have e : ordK l 31 = ordL l := rfl
      rw [e] at ho
      rw [e]
      have HO := Lib.hid (And.intro ho hC)
      clear ho hC e
      go_wp2
      go_ret
      exact ⟨_, rfl, HO.out.1, HO.out.2⟩

end Go.Proofs.YtiiafhlckmkcnaaGreat

/- metronomeref09: List, First, Take, Clear. -/
namespace Go.Proofs.YtiiafhlckmkcnaaGreat
open Go.RowKit

set_option maxRecDepth 100000 in
set_option maxHeartbeats 2000000 in
theorem rlistc (rb : Nat) (l : WL) (w : World) (h : RAt w rb l) (hl : l.length ≤ 999999) (hok : ListOk l) :
    Calls Tryz.prog 36 #[.pointer (some ⟨rb, 0, none⟩)] w (IntsPost (ordT l) w) := by
  obtain ⟨i0, hi, hz0, hz1, hz2⟩ := info_parts infoInt
  have hO := rorderc rb l w h hl
  have hlen : (ordL l).length ≤ 999999 := by rw [ordT_len hok]; exact hl
  unfold ordT
  generalize ordL l = m at *
  have HO := Lib.hid hO
  clear hO h hok hl
  go_enter Tryz.func36, Tryz.ntmps36
  go_wp2_with fail
  refine HO.out.mono ?_
  rintro e w1 ⟨v, rfl, ho, hC⟩
  have hp := IsPairs.of_own ho
  by_cases hn : m = []
  · subst hn
    obtain ⟨a, cap, rfl⟩ := hp.slice
    clear ho hp hlen
    go_wp2
    refine wp_loop_rounds 1 ?_
    rw [rounds_succ]
    go_wp2
    go_ret
    exact ⟨_, rfl, World.ownsRow_nil .., hC⟩
  · obtain ⟨b, o, cap, rfl, hc⟩ := hp.addr hn
    have HC := Lib.hid (And.intro hC hc)
    obtain ⟨n, hnn⟩ : ∃ n, n = m.length := ⟨_, rfl⟩
    rw [← hnn] at hlen ⊢
    have HN := Lib.hid hnn
    have HB0 := hC.size
    clear hp hc hC hn hnn ho
    go_wp2
    go_loopw [4, 5] (fun s p wr => ∃ i : Nat, i ≤ n ∧ p = .int .i64 i ∧ (∃ a c, s = .slice a i c) ∧ wr.ownsRow w1.heap.size 3 1 s i (((m.take i).map (·.1)).map (Value.int .i64)) ∧ Chg [] w1 wr) (fun _ p _ => n - (intOf p).toNat)
    case atStart => exact ⟨0, by omega, rfl, ⟨none, 0, rfl⟩, World.ownsRow_nil .., Chg.refl _ _⟩
    case round =>
      obtain ⟨i, hin, rfl, ⟨va, vc, rfl⟩, ho, hC⟩ := hrel
      have HO2 := Lib.hid (And.intro ho hC)
      have hB1 : w1.heap.size ≤ wr.heap.size := hC.size
      by_cases hlt : i < n
      · obtain ⟨x, hx⟩ : ∃ x, m[i]? = some x := ⟨_, List.getElem?_eq_getElem (by have := HN.out; omega)⟩
        have d1 := SrcAt.calm.cell_calm (HC.out.2 i x hx).1 hC
        obtain ⟨t, q⟩ := x
        simp only at d1
        have hd1 : i + 1 ≤ maxLen := by unfold maxLen; omega
        have hd2 : (i + 1) * 8 ≤ 140737488355328 := by omega
        have HX := Lib.hid (show (((m.take (i + 1)).map (·.1)).map (Value.int .i64)) = (((m.take i).map (·.1)).map (Value.int .i64)) ++ [.int .i64 t] by simp [List.take_add_one, hx])
        clear hx ho hC
        go_wp2_with (at_builtin; refine wpList_push rfl _ _ 80 rfl w1.heap.size 3 i0 (.int .i64 0) 1 8 Tryz.underlying80 hi hz0 hz1 hz2 rfl (by decide) (.slice va i vc) i _ rfl HO2.out.1 [.int .i64 t] rfl rfl (by simp [Value.oneCell']) hd1 hd2 hB1 ?_; intro v2 w2 ho2 hC2 hloc hnn; obtain ⟨va2, vc2, rfl⟩ := own_slice ho2)
        go_roundw
        case rel => exact ⟨i + 1, by omega, by go_num, ⟨_, _, rfl⟩, by rw [HX.out]; exact ho2, HO2.out.2.trans' hC2 (fun j hj => .inr (own_ge HO2.out.1 j hj))⟩
        case measure => simp [intOf]; omega
      · have : i = n := by omega
        subst this
        have HX := Lib.hid (show m.take i = m from List.take_of_length_le (by have := HN.out; omega))
        clear ho hC
        go_wp2
        go_ret
        refine ⟨_, rfl, ?_, HC.out.1.trans HO2.out.2⟩
        have := HO2.out.1
        rw [HX.out] at this
        rw [List.length_map, ← HN.out]
        exact own_mono this HB0

set_option maxRecDepth 100000 in
set_option maxHeartbeats 1000000 in
theorem rfirstc (rb : Nat) (l : WL) (w : World) (h : RAt w rb l) (hl : l.length ≤ 999999) :
    Calls Tryz.prog 77 #[.pointer (some ⟨rb, 0, none⟩)] w fun e w' => e = .returned (.tuple #[.int .i64 (headT (ordL l)), .bool (headB (ordL l))]) ∧ Chg [] w w' := by
  have hO := rorderc rb l w h hl
  generalize ordL l = m at *
  have HO := Lib.hid hO
  clear hO h hl
  go_enter Tryz.func77, Tryz.ntmps77
  go_wp2_with fail
  refine HO.out.mono ?_
  rintro e w1 ⟨v, rfl, ho, hC⟩
  have hp := IsPairs.of_own ho
  cases m with
  | nil =>
    obtain ⟨a, cap, rfl⟩ := hp.slice
    have hb : (((([] : WL).length : Nat) : Int) == 0) = true := rfl
    clear ho hp
    go_wp2
    go_ret2
    exact ⟨rfl, hC⟩
  | cons x m =>
    obtain ⟨b, o, cap, rfl, hc⟩ := hp.addr (by simp)
    have d1 := (hc 0 x rfl).1
    have hb : (((x :: m).length : Int) == 0) = false := by
      rw [beq_eq_false_iff_ne, List.length_cons]; omega
    have hpos : (0 : Int) < ((x :: m).length : Int) := by rw [List.length_cons]; omega
    obtain ⟨t, p⟩ := x
    rw [Nat.zero_mul, Nat.add_zero] at d1
    simp only at d1
    generalize ((t, p) :: m).length = n at *
    clear ho hp hc
    go_wp2
    go_ret2
    exact ⟨rfl, hC⟩

set_option maxRecDepth 100000 in
set_option maxHeartbeats 1000000 in
theorem rtakec (rb : Nat) (l : WL) (w : World) (h : RAt w rb l) (hl : l.length ≤ 999999) (hok : ListOk l) :
    Calls Tryz.prog 45 #[.pointer (some ⟨rb, 0, none⟩)] w fun e w' => e = .returned (.tuple #[.int .i64 (headT (ordL l)), .bool (headB (ordL l))]) ∧ RAt w' rb (takeL l) ∧ Chg [rb] w w' := by
  have hF := rfirstc rb l w h hl
  have hp := ordL_perm hok
  cases ho : ordL l with
  | nil =>
    rw [ho] at hF
    have ht : takeL l = l := by unfold takeL; rw [ho]
    rw [ht]
    simp only [headT, headB] at hF ⊢
    have HF := Lib.hid hF
    have HR := Lib.hid h
    clear hF h hp ht ho hok
    go_enter Tryz.func45, Tryz.ntmps45
    go_wp2_with (go_at_call 77; refine HF.out.mono ?_; rintro e w' ⟨rfl, hC⟩)
    go_ret2
    exact ⟨rfl, HR.out.calm hC, hC.mono (by simp)⟩
  | cons x r =>
    rw [ho] at hF
    have hx : x ∈ l := hp.mem_iff.1 (by rw [ho]; simp)
    have hhx : hasR l x.1 = true := hasR_mem.2 ⟨x.2, hx⟩
    have hxt := (hok.ok x hx).1
    unfold okT at hxt
    have ha : askR l x.1 1 true = 0 := by
      unfold askR
      unfold hasR at hhx
      rw [if_neg (by omega), if_pos hhx]
      rfl
    have ht : lvL l x.1 = takeL l := by unfold takeL lvL; rw [ho, if_pos ha]
    obtain ⟨t, p⟩ := x
    simp only [headT, headB] at hF ha ht ⊢
    have HF := Lib.hid hF
    have HR := Lib.hid h
    have HL := Lib.hid (fun (W : World) (hW : RAt W rb l) => rleavec rb l t W hW hl)
    rw [ha, ht] at HL
    clear hF h hp ht ho hok ha hxt hhx hx hl
    go_enter Tryz.func45, Tryz.ntmps45
    go_wp2_with fail
    refine HF.out.mono ?_
    rintro e w1 ⟨rfl, hC⟩
    go_wp2_with fail
    refine (HL.out w1 (HR.out.calm hC)).mono ?_
    rintro e w2 ⟨rfl, h2, hC2⟩
    have H2 := Lib.hid (And.intro h2 ((hC.mono (by simp)).trans hC2))
    clear h2 hC2 hC
    go_wp2
    go_ret2
    exact ⟨rfl, H2.out.1, H2.out.2⟩

def RClearPost (rb : Nat) (l : WL) (w : World) (e : Ending) (w' : World) : Prop :=
  ∃ v, e = .returned v ∧ w'.ownsRow w.heap.size 3 1 v (ordT l).length ((ordT l).map (Value.int .i64)) ∧ RAt w' rb [] ∧ Chg [rb] w w'

end Go.Proofs.YtiiafhlckmkcnaaGreat

/- metronomeref09: Copy. -/
namespace Go.Proofs.YtiiafhlckmkcnaaGreat
open Go.RowKit

def RCopyP (l : WL) (w : World) (e : Ending) (w' : World) : Prop :=
  ∃ rb, e = .returned (.pointer (some ⟨rb, 0, none⟩)) ∧ w.heap.size ≤ rb ∧ RAt w' rb l ∧ Chg [] w w'

end Go.Proofs.YtiiafhlckmkcnaaGreat
