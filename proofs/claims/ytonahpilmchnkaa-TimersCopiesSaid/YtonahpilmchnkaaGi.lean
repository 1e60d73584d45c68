
/- Timers: one that is off, plain: the others are as they would be. -/
import Derived.Test.YtonahpilmchnkaaGd
namespace Go.Proofs.Ytonahpilmchnkaa

abbrev KL := List (Int × Int)
def keyT (x : H1) : Int × Int := (x.1, x.2.1)
def insK (l : KL) (x : Int × Int) : KL := l.takeWhile (fun y => decide (y.2 ≤ x.2)) ++ x :: l.dropWhile (fun y => decide (y.2 ≤ x.2))
def ordK (l : KL) : KL := l.foldl insK []
theorem take_keyT (L : HL) (t : Int) : (L.map keyT).takeWhile (fun y => decide (y.2 ≤ t)) = (L.takeWhile fun y => decide (y.2.1 ≤ t)).map keyT := by
  induction L with
  | nil => rfl
  | cons x L ih =>
    rw [List.map_cons, List.takeWhile_cons, List.takeWhile_cons]
    show (if decide (x.2.1 ≤ t) = true then _ else _) = _
    split
    · rw [ih, List.map_cons]
    · rfl
theorem drop_keyT (L : HL) (t : Int) : (L.map keyT).dropWhile (fun y => decide (y.2 ≤ t)) = (L.dropWhile fun y => decide (y.2.1 ≤ t)).map keyT := by
  induction L with
  | nil => rfl
  | cons x L ih =>
    rw [List.map_cons, List.dropWhile_cons, List.dropWhile_cons]
    show (if decide (x.2.1 ≤ t) = true then _ else _) = _
    split
    · rw [ih]
    · rw [List.map_cons]
theorem ins_keyT (L : HL) (x : H1) : (insH L x).map keyT = insK (L.map keyT) (keyT x) := by
  unfold insH insK
  rw [List.map_append, List.map_cons]
  show _ = (L.map keyT).takeWhile (fun y => decide (y.2 ≤ x.2.1)) ++ keyT x :: (L.map keyT).dropWhile (fun y => decide (y.2 ≤ x.2.1))
  rw [take_keyT, drop_keyT]
theorem fold_keyT (M : HL) : ∀ L : HL, (M.foldl insH L).map keyT = (M.map keyT).foldl insK (L.map keyT) := by
  induction M with
  | nil => intro L; rfl
  | cons x M ih => intro L; rw [List.foldl_cons, List.map_cons, List.foldl_cons, ih, ins_keyT]
theorem ord_keyT (M : HL) : (ordH M).map keyT = ordK (M.map keyT) := fold_keyT M []
theorem filter_keyT (M : HL) (p : Int × Int → Bool) : (M.map keyT).filter p = (M.filter fun x => p (keyT x)).map keyT := List.filter_map

def notId (i : Int) (x : Int × Int) : Bool := !(x.1 == i)
structure OffT (i : Nat) (s s' : TS) : Prop where
  n : s'.n = s.n
  ent : ∀ j, j ≠ i → s'.L[j]? = s.L[j]?
  key : ∀ c, isC c → (s'.W c).M.map keyT = ((s.W c).M.map keyT).filter (notId i)
  off : ∀ e, s'.L[i]? = some e → e.armed = false
theorem del_keyT (M : HL) (i : Int) : (delH M i).map keyT = (M.map keyT).filter (notId i) := by
  rw [filter_keyT]
  rfl
theorem off_none {M : HL} {i : Int} (h : ∀ x ∈ M, x.1 ≠ i) : (M.map keyT).filter (notId i) = M.map keyT := by
  rw [List.filter_eq_self]
  intro y hy
  obtain ⟨x, hx, rfl⟩ := List.mem_map.1 hy
  have := h x hx
  unfold notId keyT
  simp [this]
theorem rests_key {s : TS} (h : TInv s) {i : Nat} {e : TE} (he : s.L[i]? = some e) {c : Int} (hc : isC c) : ((s.rests i).W c).M.map keyT = ((s.W c).M.map keyT).filter (notId i) := by
  unfold TS.rests
  rw [he]
  dsimp only
  have hno : ∀ x ∈ (s.W c).M, x.1 = (i : Int) → e.armed = true ∧ e.clock = c := fun x hx e1 => by
    obtain ⟨j, y, g1, g2, g3, g4, _⟩ := h.has c hc x hx
    have : j = i := by omega
    subst this
    rw [he] at g2
    cases g2
    exact ⟨g3, g4⟩
  split
  · by_cases hk : c = e.clock
    · subst hk
      rw [updW_same]
      exact del_keyT _ _
    · rw [updW_other hk]
      exact (off_none fun x hx e1 => hk (hno x hx e1).2.symm).symm
  · rename_i ha
    exact (off_none fun x hx e1 => ha (hno x hx e1).1).symm
theorem OffT.stop {s : TS} (h : TInv s) {i : Nat} (hi : i < s.n) : OffT i s (s.stopS i) := by
  obtain ⟨e, he⟩ : ∃ e, s.L[i]? = some e := ⟨_, List.getElem?_eq_getElem (by have := h.len; have := h.n8; omega)⟩
  rw [show s.stopS (i : Int) = s.rests i from by unfold TS.stopS; rw [if_pos ⟨by omega, by omega⟩, Int.toNat_natCast]]
  refine ⟨TS.rests_n _ _, fun j hj => ?_, fun c hc => rests_key h he hc, fun e2 he2 => ?_⟩
  · rw [TS.rests_L he, List.getElem?_set_ne (fun e1 => hj e1.symm)]
  · rw [TS.rests_get he] at he2
    cases he2
    rfl
theorem OffT.clear {s : TS} (h : TInv s) {i : Nat} (hi : i < s.n) : OffT i s (s.clearS i) := by
  obtain ⟨e, he⟩ : ∃ e, s.L[i]? = some e := ⟨_, List.getElem?_eq_getElem (by have := h.len; have := h.n8; omega)⟩
  rw [show s.clearS (i : Int) = ⟨s.n, (s.rests i).L.set i TE.zero, (s.rests i).W⟩ from by unfold TS.clearS; rw [if_pos ⟨by omega, by omega⟩, Int.toNat_natCast]]
  refine ⟨rfl, fun j hj => ?_, fun c hc => rests_key h he hc, fun e2 he2 => ?_⟩
  · show ((s.rests i).L.set i TE.zero)[j]? = _
    rw [TS.rests_L he, List.set_set, List.getElem?_set_ne (fun e1 => hj e1.symm)]
  · rcases get_set he2 with ⟨_, rfl⟩ | ⟨h1, _⟩
    · rfl
    · exact absurd rfl h1

/-! ### Due -/
theorem set_key {h h' : HS} {i : Nat} (hk : h'.M.map keyT = (h.M.map keyT).filter (notId i)) (n t : Int) : (h'.setS n t).M.map keyT = ((h.setS n t).M.map keyT).filter (notId i) ∨ n = i := by
  by_cases hn : n = (i : Int)
  · exact .inr hn
  · left
    unfold HS.setS
    split
    · dsimp only
      rw [List.map_append, List.map_append, List.filter_append, del_keyT, del_keyT, hk, List.filter_filter, List.filter_filter]
      congr 1
      · refine List.filter_congr fun x _ => ?_
        rw [Bool.and_comm]
      · have : notId i (n, t) = true := by unfold notId; simp [hn]
        show [(n, t)] = List.filter (notId i) [(n, t)]
        rw [List.filter_cons_of_pos this]
        rfl
    · exact hk
theorem set_key_own {h : HS} {i : Nat} (t : Int) : ((h.setS i t).M.map keyT).filter (notId i) = (h.M.map keyT).filter (notId i) := by
  unfold HS.setS
  split
  · dsimp only
    rw [List.map_append, List.filter_append, del_keyT, List.filter_filter]
    have : notId (i : Int) ((i : Int), t) = false := by unfold notId; simp
    show _ ++ List.filter (notId i) [((i : Int), t)] = _
    rw [List.filter_cons_of_neg (by rw [this]; simp)]
    simp
  · rfl
structure OffD (i : Nat) (p p' : TS × List Int) : Prop where
  t : OffT i p.1 p'.1
  l : p'.2 = p.2.filter (fun x => !(x == (i : Int)))
theorem OffD.own {i : Nat} {p p' : TS × List Int} (h : OffD i p p') (c now : Int) : OffD i (TS.due1 c now p (i : Int)) p' := by
  unfold TS.due1
  rw [Int.toNat_natCast]
  split
  · exact h
  · rename_i e he
    refine ⟨⟨h.t.n, fun j hj => ?_, fun k hk => ?_, h.t.off⟩, ?_⟩
    · rw [h.t.ent j hj]
      exact (List.getElem?_set_ne (fun e1 => hj e1.symm)).symm
    · rw [h.t.key k hk]
      dsimp only
      by_cases e1 : k = c
      · subst e1
        rw [updW_same]
        unfold TE.dueW
        split
        · rw [set_key_own]
        · rfl
      · rw [updW_other e1]
    · rw [h.l]
      dsimp only
      split
      · rfl
      · rw [List.filter_append, List.filter_cons_of_neg (by simp)]
        simp
theorem OffD.other {i j : Nat} {p p' : TS × List Int} (h : OffD i p p') (c now : Int) (hc : isC c) (hj : j ≠ i) : OffD i (TS.due1 c now p (j : Int)) (TS.due1 c now p' (j : Int)) := by
  unfold TS.due1
  rw [Int.toNat_natCast, h.t.ent j hj]
  split
  · exact h
  · rename_i e he
    refine ⟨⟨h.t.n, fun m hm => ?_, fun k hk => ?_, fun e2 he2 => ?_⟩, ?_⟩
    · dsimp only
      by_cases e1 : j = m
      · subst e1
        rw [List.getElem?_set_self (by have := h.t.ent j hj; rw [he] at this; exact (List.getElem?_eq_some_iff.1 this).1), List.getElem?_set_self (List.getElem?_eq_some_iff.1 he).1]
      · rw [List.getElem?_set_ne e1, List.getElem?_set_ne e1]
        exact h.t.ent m hm
    · dsimp only
      by_cases e1 : k = c
      · subst e1
        rw [updW_same, updW_same]
        unfold TE.dueW
        split
        · exact (set_key (h.t.key k hk) (j : Int) _).resolve_right (by omega)
        · exact h.t.key k hk
      · rw [updW_other e1, updW_other e1]
        exact h.t.key k hk
    · dsimp only at he2
      rw [List.getElem?_set_ne hj] at he2
      exact h.t.off e2 he2
    · dsimp only
      rw [h.l]
      split
      · rfl
      · rw [List.filter_append, List.filter_cons_of_pos (by simp; omega)]
        rfl
theorem OffD.fold {i : Nat} (c now : Int) (hc : isC c) (l : List Int) (hl : ∀ x ∈ l, 0 ≤ x) : ∀ p p' : TS × List Int, OffD i p p' → OffD i (l.foldl (TS.due1 c now) p) ((l.filter (fun x => !(x == (i : Int)))).foldl (TS.due1 c now) p') := by
  induction l with
  | nil => intro p p' h; exact h
  | cons x l ih =>
    intro p p' h
    obtain ⟨j, rfl⟩ := Int.eq_ofNat_of_zero_le (hl x List.mem_cons_self)
    by_cases e : j = i
    · subst e
      rw [List.filter_cons_of_neg (by simp), List.foldl_cons]
      exact ih (fun y hy => hl y (List.mem_cons_of_mem _ hy)) _ _ (h.own c now)
    · rw [List.filter_cons_of_pos (by simp; omega), List.foldl_cons, List.foldl_cons]
      exact ih (fun y hy => hl y (List.mem_cons_of_mem _ hy)) _ _ (h.other c now hc e)
theorem OffT.wheel {i : Nat} {s s' : TS} (h : OffT i s s') (hI : TInv s) {c : Int} (hc : isC c) (now : Int) : (s'.W c).dueL now = ((s.W c).dueL now).filter (fun x => !(x == (i : Int))) := by
  have key : ∀ M : HL, (ordH M).map (·.1) = (ordK (M.map keyT)).map (·.1) := fun M => by
    rw [← ord_keyT, List.map_map]
    rfl
  have hf : ∀ M : HL, (M.filter fun x => decide (x.2.1 ≤ now)).map keyT = (M.map keyT).filter fun y => decide (y.2 ≤ now) := fun M => by rw [filter_keyT]; rfl
  unfold HS.dueL
  rw [key, hf, h.key c hc, List.filter_filter]
  have e1 : ((s.W c).M.map keyT).filter (fun a => decide (a.2 ≤ now) && notId i a) = (((s.W c).M.filter fun x => decide (x.2.1 ≤ now)).filter fun x => !(x.1 == (i : Int))).map keyT := by
    rw [filter_keyT, List.filter_filter]
    congr 1
    refine List.filter_congr fun x _ => ?_
    unfold notId keyT
    rw [Bool.and_comm]
  rw [e1, ← key, ordH_filter ((hI.wh c hc).filter (fun x => decide (x.2.1 ≤ now))).sets, List.filter_map]
  rfl
theorem OffT.due {i : Nat} {s s' : TS} (h : OffT i s s') (hI : TInv s) (c now : Int) : s'.dueL c now = (s.dueL c now).filter (fun x => !(x == (i : Int))) ∧ OffT i (s.dueS c now) (s'.dueS c now) := by
  unfold TS.dueL TS.dueS
  by_cases hok : isC c ∧ okAt now
  · rw [if_pos hok, if_pos hok, if_pos hok, if_pos hok]
    have hp0 : OffD i (⟨s.n, s.L, updW s.W c ((s.W c).dueS now)⟩, []) (⟨s'.n, s'.L, updW s'.W c ((s'.W c).dueS now)⟩, []) := by
      refine ⟨⟨h.n, h.ent, fun k hk => ?_, h.off⟩, rfl⟩
      dsimp only
      by_cases e1 : k = c
      · subst e1
        rw [updW_same, updW_same]
        unfold HS.dueS
        dsimp only
        have hf : ∀ M : HL, (M.filter fun x => !decide (x.2.1 ≤ now)).map keyT = (M.map keyT).filter fun y => !decide (y.2 ≤ now) := fun M => by rw [filter_keyT]; rfl
        rw [hf, hf, h.key k hk, List.filter_filter, List.filter_filter]
        refine List.filter_congr fun x _ => ?_
        rw [Bool.and_comm]
      · rw [updW_other e1, updW_other e1]
        exact h.key k hk
    have hl : ∀ x ∈ (s.W c).dueL now, 0 ≤ x := fun x hx => by
      obtain ⟨j, hj⟩ := List.getElem?_of_mem hx
      obtain ⟨m, _, h1, _⟩ := hI.due hok.1 hj
      omega
    have hF := OffD.fold c now hok.1 _ hl _ _ hp0
    rw [← h.wheel hI hok.1 now] at hF
    exact ⟨hF.l, hF.t⟩
  · rw [if_neg hok, if_neg hok, if_neg hok, if_neg hok]
    exact ⟨rfl, h⟩

end Go.Proofs.Ytonahpilmchnkaa
