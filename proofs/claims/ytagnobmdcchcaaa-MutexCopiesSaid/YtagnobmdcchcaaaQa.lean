
/- metronomeref13: the document's mutex, as it lies in memory; thread, priority, At, has, first, Stands, Consistent. -/
import Derived.Test.YtagnobmdcchcaaaRc
import Derived.Test.YtagnobmdcchcaaaMe
import Derived.Test.YtagnobmdcchcaaaMf
namespace Go.Proofs.Ytagnobmdcchcaaa
open Go.RowKit

/-- k is the first place of those with the greatest priority. -/
def IsFirst (l : WL) (k : Nat) : Prop := k < l.length ∧ ∀ (j : Nat) x y, l[j]? = some x → l[k]? = some y → x.2 ≤ y.2 ∧ (j < k → x.2 < y.2)

theorem flat_head {f : Nat → WL} {y : Int × Int} {r : WL} {i0 : Nat} (h0 : f i0 = y :: r) : ∀ ls : List Nat, ls.Pairwise (· < ·) → i0 ∈ ls → (∀ i ∈ ls, i < i0 → f i = []) → ∃ r', ls.flatMap f = y :: r' := by
  intro ls
  induction ls with
  | nil => intro _ h; cases h
  | cons a ls ih =>
    intro hp hm hn
    rw [List.flatMap_cons]
    by_cases ha : a = i0
    · subst ha
      rw [h0]
      exact ⟨_, rfl⟩
    · have hm' : i0 ∈ ls := by
        rcases List.mem_cons.1 hm with h | h
        · exact absurd h.symm ha
        · exact h
      have hlt : a < i0 := (List.pairwise_cons.1 hp).1 i0 hm'
      rw [hn a (by simp) hlt, List.nil_append]
      exact ih (List.pairwise_cons.1 hp).2 hm' (fun i hi => hn i (List.mem_cons_of_mem _ hi))

theorem first_ord {l : WL} (hL : ListOk l) {k : Nat} {y : Int × Int} (h : IsFirst l k) (hy : l[k]? = some y) : (∃ r, ordL l = y :: r) ∧ takeL l = l.take k ++ l.drop (k + 1) := by
  have hym := List.mem_of_getElem? hy
  have hp := (hL.ok y hym).2
  have ho : ∃ r, ordL l = y :: r := by
    unfold ordL
    have hsplit : l = l.take k ++ y :: l.drop (k + 1) := by
      obtain ⟨hk, he⟩ := List.getElem?_eq_some_iff.1 hy
      rw [← he, ← List.drop_eq_getElem_cons hk, List.take_append_drop]
    refine flat_head (f := fun i => l.filter fun x => x.2 == 31 - (i : Int)) (y := y) (r := (l.drop (k + 1)).filter fun x => x.2 == y.2) (i0 := (31 - y.2).toNat) ?_ (List.range 31) List.pairwise_lt_range (by unfold okP at hp; simp; omega) ?_
    · have e : (31 : Int) - ((31 - y.2).toNat : Nat) = y.2 := by unfold okP at hp; omega
      simp only [e]
      conv => lhs; rw [hsplit]
      rw [List.filter_append, List.filter_cons_of_pos (by simp)]
      have : (l.take k).filter (fun x => x.2 == y.2) = [] := List.filter_eq_nil_iff.2 fun x hx => by
        obtain ⟨j, hj⟩ := List.getElem?_of_mem hx
        have hjk : j < k := by
          have := (List.getElem?_eq_some_iff.1 hj).1
          rw [List.length_take] at this; omega
        rw [List.getElem?_take_of_lt hjk] at hj
        have := (h.2 j x y hj hy).2 hjk
        simp; omega
      rw [this, List.nil_append]
    · intro i _ hi
      refine List.filter_eq_nil_iff.2 fun x hx => ?_
      obtain ⟨j, hj⟩ := List.getElem?_of_mem hx
      have := (h.2 j x y hj hy).1
      simp; omega
  refine ⟨ho, ?_⟩
  obtain ⟨r, hr⟩ := ho
  unfold takeL
  rw [hr]
  obtain ⟨t, q⟩ := y
  refine wdel_cut hy (fun j hj x hx e => ?_)
  obtain ⟨hk, he⟩ := List.getElem?_eq_some_iff.1 hy
  obtain ⟨hj2, he2⟩ := List.getElem?_eq_some_iff.1 hx
  have hne := List.pairwise_iff_getElem.1 (List.pairwise_map.1 hL.nodup) j k hj2 hk hj
  rw [he, he2] at hne
  exact hne e

/-- The cells of the document's mutex. -/
def qcells (v : Value) (s : MS) : Array Value := #[.int .i64 s.k, .int .i64 s.p, .int .i64 s.c, .bool s.rob, .int .i64 s.own, .int .i64 s.cnt, .int .i64 s.st, v]
/-- The document's mutex at block rc; gs: the block of its list, if it has one. -/
def QM (w : World) (rc : Nat) (gs : List Nat) (s : MS) : Prop := ∃ v, w.heap[rc]? = some (.cells (qcells v s) 65 (0, 0)) ∧ w.ownsRow 0 67 2 v s.L.length (flatW s.L) ∧ v.ownBlock.toList = gs
theorem QM.gcells {w : World} {rc : Nat} {gs : List Nat} {s : MS} (h : QM w rc gs s) : ∀ k ∈ gs, ∃ cs, w.heap[k]? = some (.cells cs 67 (0, 0)) := by
  obtain ⟨v, h1, h2, rfl⟩ := h
  exact own_cells h2
theorem QM.head {w : World} {rc : Nat} {gs : List Nat} {s : MS} (h : QM w rc gs s) : ∃ cs, w.heap[rc]? = some (.cells cs 65 (0, 0)) := by
  obtain ⟨v, h1, _⟩ := h
  exact ⟨_, h1⟩
theorem QM.notin {w : World} {rc : Nat} {gs : List Nat} {s : MS} (h : QM w rc gs s) : rc ∉ gs := fun hm => by
  obtain ⟨cs, hcs⟩ := h.gcells rc hm
  obtain ⟨ds, hds⟩ := h.head
  exact blk_ne hcs hds (by decide) rfl
theorem QM.lt {w : World} {rc : Nat} {gs : List Nat} {s : MS} (h : QM w rc gs s) : ∀ k ∈ rc :: gs, k < w.heap.size := by
  intro k hk
  rcases List.mem_cons.1 hk with rfl | hk
  · obtain ⟨ds, hds⟩ := h.head
    exact lt_of_blk hds
  · obtain ⟨cs, hcs⟩ := h.gcells k hk
    exact lt_of_blk hcs
theorem QM.kept {S : List Nat} {w w' : World} {rc : Nat} {gs : List Nat} {s : MS} (h : QM w rc gs s) (hC : Chg S w w') (hS : ∀ k ∈ S, k ≠ rc ∧ k ∉ gs) : QM w' rc gs s := by
  obtain ⟨v, h1, h2, rfl⟩ := h
  exact ⟨v, hC.blk h1 (fun hm => (hS _ hm).1 rfl), own_kept h2 hC (fun k hk => (hS k hk).2), rfl⟩
theorem QM.calm {w w' : World} {rc : Nat} {gs : List Nat} {s : MS} (h : QM w rc gs s) (hC : Chg [] w w') : QM w' rc gs s := h.kept hC (by simp)
theorem QM.put {w : World} {rc : Nat} {gs : List Nat} {s : MS} (h : QM w rc gs s) (i : Nat) (x : Value) (s' : MS) (hs : ∀ v, (qcells v s).setIfInBounds i x = qcells v s') (hL : s'.L = s.L) : QM (w.setCell ⟨rc, i, none⟩ x) rc gs s' ∧ Chg [rc] w (w.setCell ⟨rc, i, none⟩ x) := by
  have hn := h.notin
  have hC : Chg [rc] w (w.setCell ⟨rc, i, none⟩ x) := (Chg.refl _ _).setCell _ _ (by simp)
  obtain ⟨v, h1, h2, rfl⟩ := h
  refine ⟨⟨v, by rw [← hs]; exact blk_setCell h1 x, ?_, rfl⟩, hC⟩
  rw [hL]
  exact own_kept h2 hC (fun k hk => by simp at hk; subst hk; exact hn)
theorem QM.putOwn {w : World} {rc : Nat} {gs : List Nat} {s : MS} (h : QM w rc gs s) (x : Int) : QM (w.setCell ⟨rc, 4, none⟩ (.int .i64 x)) rc gs { s with own := x } ∧ Chg [rc] w (w.setCell ⟨rc, 4, none⟩ (.int .i64 x)) := h.put 4 _ _ (fun _ => rfl) rfl
theorem QM.putCnt {w : World} {rc : Nat} {gs : List Nat} {s : MS} (h : QM w rc gs s) (x : Int) : QM (w.setCell ⟨rc, 5, none⟩ (.int .i64 x)) rc gs { s with cnt := x } ∧ Chg [rc] w (w.setCell ⟨rc, 5, none⟩ (.int .i64 x)) := h.put 5 _ _ (fun _ => rfl) rfl
theorem QM.putSt {w : World} {rc : Nat} {gs : List Nat} {s : MS} (h : QM w rc gs s) (x : Int) : QM (w.setCell ⟨rc, 6, none⟩ (.int .i64 x)) rc gs { s with st := x } ∧ Chg [rc] w (w.setCell ⟨rc, 6, none⟩ (.int .i64 x)) := h.put 6 _ _ (fun _ => rfl) rfl
theorem QM.putC {w : World} {rc : Nat} {gs : List Nat} {s : MS} (h : QM w rc gs s) (x : Int) : QM (w.setCell ⟨rc, 2, none⟩ (.int .i64 x)) rc gs { s with c := x } ∧ Chg [rc] w (w.setCell ⟨rc, 2, none⟩ (.int .i64 x)) := h.put 2 _ _ (fun _ => rfl) rfl
/-- The list's block behind a call: as it was, or new. -/
def Nxt (w : World) (gs gs' : List Nat) : Prop := gs' = gs ∨ ∀ k ∈ gs', w.heap.size ≤ k
/-- What a call leaves. -/
def QP (rc : Nat) (gs : List Nat) (s' : MS) (w w' : World) : Prop := ∃ gs', QM w' rc gs' s' ∧ Nxt w gs gs' ∧ Chg (rc :: gs) w w'
theorem QP.same {w w' : World} {rc : Nat} {gs : List Nat} {s' : MS} (h : QM w' rc gs s') (hC : Chg (rc :: gs) w w') : QP rc gs s' w w' := ⟨gs, h, .inl rfl, hC⟩
/-- Two calls, one behind the other. -/
theorem QP.trans {w w1 w2 : World} {rc : Nat} {gs : List Nat} {s1 s2 : MS} (h : QP rc gs s1 w w1) (g : ∀ gs1, QM w1 rc gs1 s1 → QP rc gs1 s2 w1 w2) : QP rc gs s2 w w2 := by
  obtain ⟨gs1, h1, h2, h3⟩ := h
  obtain ⟨gs2, g1, g2, g3⟩ := g gs1 h1
  have hs := h3.size
  have hC : Chg (rc :: gs) w w2 := h3.trans' g3 (fun k hk => by
    rcases List.mem_cons.1 hk with rfl | hk
    · exact .inl (by simp)
    · rcases h2 with rfl | h2
      · exact .inl (List.mem_cons_of_mem _ hk)
      · exact .inr (h2 k hk))
  refine ⟨gs2, g1, ?_, hC⟩
  rcases g2 with rfl | g2
  · exact h2
  · exact .inr (fun k hk => Nat.le_trans hs (g2 k hk))
/-- A new list is laid in. -/
theorem QM.made {w w1 : World} {rc : Nat} {gs : List Nat} {s : MS} {l' : WL} {v : Value} (h : QM w rc gs s) (ho : w1.ownsRow w.heap.size 67 2 v l'.length (flatW l')) (hC : Chg [] w w1) : QP rc gs { s with L := l' } w (w1.setCell ⟨rc, 7, none⟩ v) := by
  have hlt := h.lt rc (by simp)
  obtain ⟨v0, h1, _⟩ := h
  have h1 := hC.blk h1 (by simp)
  exact ⟨_, ⟨v, by rw [blk_setCell h1]; rfl, own_mono (own_kept ho ((Chg.refl [rc] w1).setCell _ _ (by simp)) (fun k hk => by simp at hk; subst hk; exact own_notin ho hlt)) (Nat.zero_le _), rfl⟩, .inr (own_ge ho), (hC.mono (by simp)).setCell _ _ (by simp)⟩
/-- The list, grown in its place or anew, is laid in. -/
theorem QM.pushed {w w1 : World} {rc : Nat} {gs : List Nat} {s : MS} {l' : WL} {v0 v : Value} (h : QM w rc gs s) (h0 : v0.ownBlock.toList = gs) (ho : w1.ownsRow 0 67 2 v l'.length (flatW l')) (hC : Chg v0.ownBlock.toList w w1) (hloc : v.ownBlock = v0.ownBlock ∨ ∃ k, w.heap.size ≤ k ∧ v.ownBlock = some k) : QP rc gs { s with L := l' } w (w1.setCell ⟨rc, 7, none⟩ v) := by
  have hlt := h.lt rc (by simp)
  have hn := h.notin
  rw [h0] at hC
  obtain ⟨v1, h1, _⟩ := h
  have h1 := hC.blk h1 hn
  refine ⟨_, ⟨v, by rw [blk_setCell h1]; rfl, own_kept ho ((Chg.refl [rc] w1).setCell _ _ (by simp)) (fun k hk hm => ?_), rfl⟩, ?_, (hC.mono (fun k hk => .inl (List.mem_cons_of_mem _ hk))).setCell _ _ (by simp)⟩
  · simp at hk
    subst hk
    rcases hloc with e | ⟨j, hj, e⟩
    · rw [e, h0] at hm; exact hn hm
    · rw [e] at hm; simp at hm; omega
  · rcases hloc with e | ⟨j, hj, e⟩
    · exact .inl (by rw [e, h0])
    · right
      intro k hk
      rw [e] at hk
      simp at hk
      omega
theorem QM.open {w : World} {rc : Nat} {gs : List Nat} {s : MS} (h : QM w rc gs s) : ∃ a cap, w.heap[rc]? = some (.cells (qcells (.slice a s.L.length cap) s) 65 (0, 0)) ∧ (s.L = [] ∨ ∃ g, a = some ⟨g, 0, none⟩ ∧ ∀ j x, s.L[j]? = some x → w.cell? ⟨g, j * 2, none⟩ = some (.int .i64 x.1) ∧ w.cell? ⟨g, j * 2 + 1, none⟩ = some (.int .i64 x.2)) := by
  obtain ⟨v, h1, h2, -⟩ := h
  rcases h2.2 with ⟨e1, e2⟩ | ⟨g, cap, cur, e1, _⟩
  · exact ⟨none, 0, by rw [h1, e1, e2], .inl (List.eq_nil_of_length_eq_zero e2)⟩
  · refine ⟨some ⟨g, 0, none⟩, cap, by rw [h1, e1], ?_⟩
    by_cases hn : s.L = []
    · exact .inl hn
    · right
      obtain ⟨b, o, c, e2, h3⟩ := (IsPairs.of_own h2).addr hn
      rw [e1] at e2
      simp at e2
      obtain ⟨⟨rfl, rfl⟩, rfl⟩ := e2
      exact ⟨g, rfl, fun j x hj => by have := h3 j x hj; rwa [Nat.zero_add] at this⟩
theorem QM.src {w : World} {rc : Nat} {gs : List Nat} {s : MS} (h : QM w rc gs s) : ∃ a cap, w.heap[rc]? = some (.cells (qcells (.slice a s.L.length cap) s) 65 (0, 0)) ∧ SrcAt w (.slice a s.L.length cap) s.L.length (flatW s.L) := by
  obtain ⟨v, h1, h2, -⟩ := h
  rcases h2.2 with ⟨e1, e2⟩ | ⟨g, cap, cur, e1, _, e3, _, _, _, e4⟩
  · have : s.L = [] := List.eq_nil_of_length_eq_zero e2
    exact ⟨none, 0, by rw [h1, e1, this]; rfl, by rw [this]; exact .inl ⟨rfl, rfl, rfl⟩⟩
  · refine ⟨some ⟨g, 0, none⟩, cap, by rw [h1, e1], .inr ⟨_, _, rfl, fun j u hj => ?_⟩⟩
    rw [show ((⟨g, 0, none⟩ : Addr).add j) = ⟨g, j, none⟩ by unfold Addr.add; split <;> simp_all]
    exact cellB e3 (own_take e4 j u hj)

theorem infoW13 : (Try.prog.info? 67).map (fun i => (i.zero, i.size, i.bytes)) = some (some (.agg #[.int .i64 0, .int .i64 0]), 2, 16) := by kernel_rfl
/-- A copy of the pairs, appended to nothing. -/
theorem run_fresh13 {w : World} {x : Value} {l : WL} (hx : SrcAt w x l.length (flatW l)) (hl : l.length ≤ 1000000) : ∃ v' w', (Builtin.append_ #[63, 63] 63 #[.slice none 0 0, x]).run Try.prog w = .ok v' w' ∧ w'.ownsRow w.heap.size 67 2 v' l.length (flatW l) ∧ Chg [] w w' := by
  obtain ⟨i0, hi, hz0, hz1, hz2⟩ := info_parts infoW13
  obtain ⟨v', w', hr, h2, h3, _⟩ := run_more (P := Try.prog) (w := w) w.heap.size 63 63 67 i0 (.agg #[.int .i64 0, .int .i64 0]) 2 16 Try.underlying63 hi hz0 hz1 hz2 rfl (by decide)
    (.slice none 0 0) 0 [] (World.ownsRow_nil ..) x l.length (flatW l) hx (flatW_len l) (flatW_one l) (by unfold maxLen; omega) (by omega) (Nat.le_refl _)
  exact ⟨v', w', hr, by simpa using h2, by simpa [Value.ownBlock] using h3⟩

set_option maxRecDepth 100000 in
theorem qthreadc (t : Int) (w : World) : Calls Try.prog 64 #[.int .i64 t] w fun e w' => e = .returned (.bool (thB t)) ∧ w = w' := by
  unfold thB
  by_cases h1 : 0 ≤ t
  · have d1 : decide (0 ≤ t) = true := by simpa using h1
    rw [d1, Bool.true_and]
    obtain ⟨r, hr⟩ : ∃ r, r = decide (t < 16) := ⟨_, rfl⟩
    rw [← hr]
    have hr' := hr.symm
    clear h1 hr
    go_enter Try.func64, Try.ntmps64
    go_wp2
    go_ret
    exact ⟨rfl, rfl⟩
  · have d1 : decide (0 ≤ t) = false := by simpa using h1
    rw [d1, Bool.false_and]
    go_enter Try.func64, Try.ntmps64
    go_wp2
    go_ret
    exact ⟨rfl, rfl⟩

set_option maxRecDepth 100000 in
theorem qprioc (t : Int) (w : World) : Calls Try.prog 65 #[.int .i64 t] w fun e w' => e = .returned (.bool (prB t)) ∧ w = w' := by
  unfold prB
  by_cases h1 : 1 ≤ t
  · have d1 : decide (1 ≤ t) = true := by simpa using h1
    rw [d1, Bool.true_and]
    obtain ⟨r, hr⟩ : ∃ r, r = decide (t ≤ 31) := ⟨_, rfl⟩
    rw [← hr]
    have hr' := hr.symm
    clear h1 hr
    go_enter Try.func65, Try.ntmps65
    go_wp2
    go_ret
    exact ⟨rfl, rfl⟩
  · have d1 : decide (1 ≤ t) = false := by simpa using h1
    rw [d1, Bool.false_and]
    go_enter Try.func65, Try.ntmps65
    go_wp2
    go_ret
    exact ⟨rfl, rfl⟩

set_option maxRecDepth 100000 in
set_option maxHeartbeats 1000000 in
theorem qatc (rc : Nat) (gs : List Nat) (s : MS) (t : Int) (w : World) (h : QM w rc gs s) (hl : s.L.length ≤ 999999) :
    Calls Try.prog 66 #[.pointer (some ⟨rc, 0, none⟩), .int .i64 t] w fun e w' => e = .returned (.int .i64 (findL s.L t)) ∧ w = w' := by
  obtain ⟨a, cap, hb, hc⟩ := h.open
  have c0 := cellB hb (i := 7) (v := .slice a s.L.length cap) rfl
  clear hb h
  generalize s.L = l at *
  by_cases hh : hasR l t = true
  · obtain ⟨i, h1, h2, h3, h4⟩ := findL_some hh
    rw [h1]
    have hn : l ≠ [] := fun e => by subst e; simp at h2
    obtain ⟨g, rfl, hd⟩ := hc.resolve_left hn
    have HC := Lib.hid (And.intro hd (And.intro h3 h4))
    generalize hL : l.length = n at *
    have HL := Lib.hid hL
    clear hc hd h3 h4 hh h1 hn hL
    go_enter Try.func66, Try.ntmps66
    go_wp2
    go_loopw [5] (fun s wr => ∃ k : Nat, k ≤ i ∧ s = .int .i64 k ∧ wr = w) (fun s _ => n - (intOf s).toNat)
    case atStart => exact ⟨0, by omega, rfl, rfl⟩
    case round =>
      obtain ⟨k, hk, rfl, rfl⟩ := hrel
      obtain ⟨x, hx⟩ : ∃ x, l[k]? = some x := ⟨_, List.getElem?_eq_getElem (by have := HL.out; omega)⟩
      have d1 := (HC.out.1 k x hx).1
      obtain ⟨x1, x2⟩ := x
      by_cases hki : k = i
      · subst hki
        have e := HC.out.2.1
        rw [hx] at e
        obtain ⟨rfl, _⟩ := Prod.mk.inj (Option.some.inj e)
        have hb : ((x1 : Int) == x1) = true := by simp
        clear e hx
        go_wp2
        go_ret
        exact ⟨rfl, rfl⟩
      · have hne := HC.out.2.2 k (by omega) _ hx
        have hb : ((x1 : Int) == t) = false := by simpa using hne
        clear hne hx
        go_wp2
        go_roundw
        case rel => exact ⟨k + 1, by omega, by go_num, by trivial⟩
        case measure => simp [intOf]; omega
  · have hf : hasR l t = false := by simpa using hh
    rw [findL_none hf]
    by_cases hn : l = []
    · subst hn
      clear hc hh hf hl
      go_enter Try.func66, Try.ntmps66
      go_wp2
      refine wp_loop_rounds 1 ?_
      rw [rounds_succ]
      go_wp2
      go_ret
      exact ⟨rfl, rfl⟩
    · obtain ⟨g, rfl, hd⟩ := hc.resolve_left hn
      have h4 : ∀ (k : Nat) x, l[k]? = some x → x.1 ≠ t := fun k x hx e => by
        have := hasR_mem.2 (⟨x.2, by rw [← e]; exact List.mem_of_getElem? hx⟩ : ∃ p, (t, p) ∈ l)
        rw [hf] at this
        cases this
      have HC := Lib.hid (And.intro hd h4)
      generalize hL : l.length = n at *
      have HL := Lib.hid hL
      clear hc hd h4 hh hn hL hf
      go_enter Try.func66, Try.ntmps66
      go_wp2
      go_loopw [5] (fun s wr => ∃ k : Nat, k ≤ n ∧ s = .int .i64 k ∧ wr = w) (fun s _ => n - (intOf s).toNat)
      case atStart => exact ⟨0, by omega, rfl, rfl⟩
      case round =>
        obtain ⟨k, hk, rfl, rfl⟩ := hrel
        by_cases hlt : k < n
        · obtain ⟨x, hx⟩ : ∃ x, l[k]? = some x := ⟨_, List.getElem?_eq_getElem (by have := HL.out; omega)⟩
          have d1 := (HC.out.1 k x hx).1
          have hne := HC.out.2 k _ hx
          obtain ⟨x1, x2⟩ := x
          have hb : ((x1 : Int) == t) = false := by simpa using hne
          clear hne hx
          go_wp2
          go_roundw
          case rel => exact ⟨k + 1, by omega, by go_num, by trivial⟩
          case measure => simp [intOf]; omega
        · go_wp2
          go_ret
          exact ⟨rfl, rfl⟩

/-- What first answers. -/
def FirstP (l : WL) (w : World) (e : Ending) (w' : World) : Prop := Chg [] w w' ∧ ((l = [] ∧ e = .returned (.int .i64 (-1))) ∨ ∃ k : Nat, IsFirst l k ∧ e = .returned (.int .i64 (k : Int)))

set_option maxRecDepth 100000 in
set_option maxHeartbeats 2000000 in
theorem qfirstc (rc : Nat) (gs : List Nat) (s : MS) (w : World) (h : QM w rc gs s) (hl : s.L.length ≤ 999999) :
    Calls Try.prog 70 #[.pointer (some ⟨rc, 0, none⟩)] w (FirstP s.L w) := by
  obtain ⟨a, cap, hb, hc⟩ := h.open
  have c0 := cellB hb (i := 7) (v := .slice a s.L.length cap) rfl
  clear hb h
  generalize s.L = l at *
  by_cases hn : l = []
  · subst hn
    clear hc hl
    go_enter Try.func70, Try.ntmps70
    go_wp2
    refine wp_loop_rounds 1 ?_
    rw [rounds_succ]
    go_wp2
    go_ret
    exact ⟨Chg.refl _ _, .inl ⟨rfl, rfl⟩⟩
  · obtain ⟨g, rfl, hd⟩ := hc.resolve_left hn
    have hn0 : 0 < l.length := List.length_pos_iff.2 hn
    have HC := Lib.hid hd
    obtain ⟨n, hL⟩ : ∃ n, n = l.length := ⟨_, rfl⟩
    rw [← hL] at c0 hl hn0
    have HL := Lib.hid hL
    clear hc hd hn hL
    go_enter Try.func70, Try.ntmps70
    go_wp2
    go_loopw [3, 4] (fun kk ii wr => ∃ i : Nat, i ≤ n ∧ ii = .int .i64 i ∧ (∃ q, wr = w.drewN q) ∧ ((i = 0 ∧ kk = .int .i64 (-1)) ∨ ∃ k : Nat, kk = .int .i64 k ∧ k < i ∧ ∀ (j : Nat) x y, j < i → l[j]? = some x → l[k]? = some y → x.2 ≤ y.2 ∧ (j < k → x.2 < y.2))) (fun _ i _ => n - (intOf i).toNat)
    case atStart => exact ⟨0, by omega, rfl, ⟨0, rfl⟩, .inl ⟨rfl, rfl⟩⟩
    case round =>
      obtain ⟨i, hi, rfl, ⟨qn, rfl⟩, hk⟩ := hrel
      by_cases hlt : i < n
      · obtain ⟨x, hx⟩ : ∃ x, l[i]? = some x := ⟨_, List.getElem?_eq_getElem (by have := HL.out; omega)⟩
        have d1 := (HC.out i x hx).2
        rcases hk with ⟨rfl, rfl⟩ | ⟨k, rfl, hki, hf⟩
        · have HX := Lib.hid hx
          clear hx
          go_wp2
          go_quiet (fail)
          go_wp2
          go_roundw
          case rel =>
            refine ⟨1, by omega, by go_num, ⟨qn + nq, rfl⟩, .inr ⟨0, rfl, by omega, fun j x y hj hx hy => ?_⟩⟩
            have : j = 0 := by omega
            subst this
            rw [hx] at hy
            cases hy
            exact ⟨Int.le_refl _, fun h => by omega⟩
          case measure => simp [intOf]; omega
        · obtain ⟨y, hy⟩ : ∃ y, l[k]? = some y := ⟨_, List.getElem?_eq_getElem (by have := HL.out; omega)⟩
          have d2 := (HC.out k y hy).2
          have HX := Lib.hid (And.intro hx (And.intro hy hf))
          clear hx hy hf
          obtain ⟨x1, x2⟩ := x
          obtain ⟨y1, y2⟩ := y
          have q0 : decide ((k : Int) < 0) = false := decide_eq_false (by omega)
          by_cases hgt : y2 < x2
          · have q1 : decide (y2 < x2) = true := decide_eq_true hgt
            have HG := Lib.hid hgt
            clear hgt
            go_wp2
            go_quiet (fail)
            go_wp2
            go_roundw
            case rel =>
              refine ⟨i + 1, by omega, by go_num, ⟨qn + nq, rfl⟩, .inr ⟨i, rfl, by omega, fun j x y hj hx' hy' => ?_⟩⟩
              rw [HX.out.1] at hy'
              cases hy'
              by_cases hji : j = i
              · subst hji
                rw [HX.out.1] at hx'
                cases hx'
                exact ⟨Int.le_refl _, fun h => by omega⟩
              · have := (HX.out.2.2 j x _ (by omega) hx' HX.out.2.1).1
                have hg := HG.out
                simp only at this ⊢
                exact ⟨by omega, fun _ => by omega⟩
            case measure => simp [intOf]; omega
          · have q1 : decide (y2 < x2) = false := decide_eq_false hgt
            have HG := Lib.hid hgt
            clear hgt
            go_wp2
            go_quiet (fail)
            go_wp2
            go_roundw
            case rel =>
              refine ⟨i + 1, by omega, by go_num, ⟨qn + nq, rfl⟩, .inr ⟨k, rfl, by omega, fun j x y hj hx' hy' => ?_⟩⟩
              by_cases hji : j = i
              · subst hji
                rw [HX.out.1] at hx'
                cases hx'
                rw [HX.out.2.1] at hy'
                cases hy'
                have hg := HG.out
                simp only
                exact ⟨by omega, fun h => by omega⟩
              · exact HX.out.2.2 j x y (by omega) hx' hy'
            case measure => simp [intOf]; omega
      · have hin : i = n := by omega
        have HF := Lib.hid hk
        rcases hk with ⟨rfl, rfl⟩ | ⟨k, rfl, hki, hf⟩
        · omega
        · have HF2 := Lib.hid hf
          clear hf hi
          go_wp2
          go_ret
          refine ⟨(Chg.refl _ _).drewN _, .inr ⟨k, ⟨by have := HL.out; omega, fun j x y hx hy => HF2.out j x y (by have := (List.getElem?_eq_some_iff.1 hx).1; have := HL.out; omega) hx hy⟩, rfl⟩⟩

end Go.Proofs.Ytagnobmdcchcaaa
