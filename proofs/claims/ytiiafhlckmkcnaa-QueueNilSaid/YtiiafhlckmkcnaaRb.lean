
/- metronomeref09: Put, Change: append of a whole slice to one's own. -/
import Derived.Test.YtiiafhlckmkcnaaRa
import Derived.Deep.RegionLaw
namespace Go.Proofs.Ytiiafhlckmkcnaa
open Go.RowKit

/-- The value is m elements that are there to be read: news. -/
def SrcAt (w : World) (x : Value) (m : Nat) (news : List Value) : Prop :=
  (x = .slice none 0 0 ∧ m = 0 ∧ news = []) ∨ ∃ ad c, x = .slice (some ad) m c ∧ ∀ j u, news[j]? = some u → w.cell? (ad.add j) = some u

theorem SrcAt.calm {w w' : World} {x : Value} {m : Nat} {news : List Value} (h : SrcAt w x m news) (hC : Chg [] w w') : SrcAt w' x m news := by
  rcases h with h | ⟨ad, c, h1, h2⟩
  · exact .inl h
  · exact .inr ⟨ad, c, h1, fun j u hj => cell_calm (h2 j u hj) hC⟩
where cell_calm {w w' : World} {p : Addr} {v : Value} (h : w.cell? p = some v) (hC : Chg [] w w') : w'.cell? p = some v :=
  (World.cell?_of_block (hC.block p.block (World.block_lt_of_cell? _ _ h) (by simp))).trans h

section
variable {P : Program}
theorem run_more {w : World} (B : Nat) (t ty e : TypeId) (i : TypeInfo) (z : Value) (size bytes : Nat) (ht : P.underlying t = some (.slice e)) (hi : P.info? e = some i) (hz : i.zero = some z)
    (hsize : i.size = size) (hby : i.bytes = bytes) (hzs : z.cells.size = size) (hsz : 0 < size)
    (v : Value) (n : Nat) (xs : List Value) (hown : w.ownsRow B e size v n xs) (x : Value) (m : Nat) (news : List Value) (hx : SrcAt w x m news) (hl : news.length = m * size) (h1 : ∀ u ∈ news, u.oneCell' = true)
    (h63 : n + m ≤ maxLen) (hbytes : (n + m) * bytes ≤ 140737488355328) (hB : B ≤ w.heap.size) :
    ∃ v' w', (Builtin.append_ #[t, t] ty #[v, x]).run P w = .ok v' w' ∧ w'.ownsRow B e size v' (n + m) (xs ++ news) ∧
      Chg v.ownBlock.toList w w' ∧ (v'.ownBlock = v.ownBlock ∨ ∃ k, w.heap.size ≤ k ∧ v'.ownBlock = some k) := by
  rcases hx with ⟨rfl, rfl, rfl⟩ | ⟨ad, c, rfl, hc⟩
  · exact ⟨v, w, run_append_owned_none w B t ty e i size ht hi v n xs hown, by simpa using hown, Chg.refl _ _, .inl rfl⟩
  · obtain ⟨v', w', hr, h2, h3, h4, h5⟩ := run_append_own_at (P := P) w B t ty e i z size bytes ht hi hz hsize hby hzs hsz v n xs hown ad m c news hl hc h1 h63 hbytes hB
    refine ⟨v', w', hr, h2, Chg.of_grown h3 (fun k hk => by simp [hk]), ?_⟩
    rcases h5 with h5 | h5
    · exact .inl h5
    · exact .inr ⟨_, Nat.le_refl _, h5⟩

theorem wpList_run {w : World} {ops : Array Oper} {rest : List Oper} {o : Oper} {a : Act} {Q : Exit → Act → World → Prop} (hgd : o.guard = none) (s x : Operand) (t ty : TypeId)
    (ho : o.op = .call { callee := .builtin .append, args := #[s, x], argTypes := #[t, t] }) (hty : o.type = ty) (v u v' : Value) (hs : a.eval s = v) (hx : a.eval x = u) (w' : World)
    (hr : (Builtin.append_ #[t, t] ty #[v, u]).run P w = .ok v' w') (h : wpList P ops Q rest (a.put o.dst v') w') : wpList P ops Q (o :: rest) a w := by
  subst hty
  refine wpList_plain hgd fun K hK => ?_
  unfold Oper.wp execOp
  simp only [ho, resolve, invoke, builtin, Sem.run_bind, Sem.run_pure, Result.andThen_ok, List.map_toArray, List.map_cons, List.map_nil, hs, hx, hr]
  exact hK _ _ h

/-- The same, at a step of a region that draws its order. -/
theorem step_run {ops : Array Oper} {o : Oper} {a : Act} {w : World} {K : Act → World → Prop} {Q : Exit → Act → World → Prop} {E : Prop} (hgd : o.guard = none) (s x : Operand) (t ty : TypeId)
    (ho : o.op = .call { callee := .builtin .append, args := #[s, x], argTypes := #[t, t] }) (hty : o.type = ty) (v u v' : Value) (hs : a.eval s = v) (hx : a.eval x = u) (w' : World)
    (hr : (Builtin.append_ #[t, t] ty #[v, u]).run P w = .ok v' w') (hK : K (a.put o.dst v') w') : if Region.wanted o (yielded ops a.tmps) = true then Oper.wp P o a w K Q else E := by
  have hw : Region.wanted o (yielded ops a.tmps) = true := by simp [Region.wanted, hgd]
  rw [if_pos hw]
  subst hty
  unfold Oper.wp execOp
  simp only [ho, resolve, invoke, builtin, Sem.run_bind, Sem.run_pure, Result.andThen_ok, List.map_toArray, List.map_cons, List.map_nil, hs, hx, hr]
  exact hK
end

theorem flatW_one (l : WL) : ∀ u ∈ flatW l, u.oneCell' = true := by
  intro u hu
  unfold flatW at hu
  obtain ⟨x, _, hx⟩ := List.mem_flatMap.1 hu
  simp at hx
  rcases hx with rfl | rfl <;> rfl

theorem own_take {cur : Array Value} {m : Nat} {xs : List Value} (h : cur.toList.take m = xs) : ∀ (j : Nat) (u : Value), xs[j]? = some u → cur[j]? = some u := fun j u hj => by
  rw [← h, List.getElem?_take] at hj
  split at hj
  · simpa using hj
  · cases hj

/-- A copy of the pairs, appended to nothing. -/
theorem run_fresh {w : World} {x : Value} {l : WL} (hx : SrcAt w x l.length (flatW l)) (hl : l.length ≤ 1000000) : ∃ v' w', (Builtin.append_ #[94, 94] 94 #[.slice none 0 0, x]).run Try.prog w = .ok v' w' ∧ w'.ownsRow w.heap.size 96 2 v' l.length (flatW l) ∧ Chg [] w w' := by
  obtain ⟨i0, hi, hz0, hz1, hz2⟩ := info_parts infoWaiter
  obtain ⟨v', w', hr, h2, h3, _⟩ := run_more (P := Try.prog) (w := w) w.heap.size 94 94 96 i0 (.agg #[.int .i64 0, .int .i64 0]) 2 16 Try.underlying94 hi hz0 hz1 hz2 rfl (by decide)
    (.slice none 0 0) 0 [] (World.ownsRow_nil ..) x l.length (flatW l) hx (flatW_len l) (flatW_one l) (by unfold maxLen; omega) (by omega) (Nat.le_refl _)
  exact ⟨v', w', hr, by simpa using h2, by simpa [Value.ownBlock] using h3⟩

def rputL (l : WL) (t p : Int) : WL := putL l t p
theorem ask_may {l : WL} {t p : Int} (b : Bool) : (mayB t p = false ∧ askR l t p b = 2) ∨ (mayB t p = true ∧ askR l t p b = if hasR l t = true then (if b then 0 else 7) else (if b then 6 else 0)) := by
  unfold mayB askR hasR
  by_cases h : 0 ≤ t ∧ t < 16 ∧ 1 ≤ p ∧ p ≤ 31
  · right
    exact ⟨by simpa using h, by rw [if_neg (by omega)]⟩
  · left
    exact ⟨by simpa using h, by rw [if_pos (by omega)]⟩

theorem own_blk {w : World} {B : Nat} {e : TypeId} {size : Nat} {v : Value} {n : Nat} {xs : List Value} (h : w.ownsRow B e size v n xs) (hn : n ≠ 0) : ∃ g cap cur, v = .slice (some ⟨g, 0, none⟩) n cap ∧ B ≤ g ∧ w.heap[g]? = some (.cells cur e (0, 0)) ∧ n ≤ cap ∧ cap ≤ maxLen ∧ cur.size = cap * size ∧ cur.toList.take (n * size) = xs := by
  rcases h.2 with ⟨_, h2⟩ | h
  · exact absurd h2 hn
  · exact h

theorem own_set {w : World} {B g n cap size : Nat} {e : TypeId} {xs : List Value} (h : w.ownsRow B e size (.slice (some ⟨g, 0, none⟩) n cap) n xs) (j : Nat) (u : Value) : (w.setCell ⟨g, j, none⟩ u).ownsRow B e size (.slice (some ⟨g, 0, none⟩) n cap) n (xs.set j u) := by
  refine ⟨by rw [List.length_set]; exact h.1, ?_⟩
  rcases h.2 with ⟨h1, _⟩ | ⟨g', cap', cur, h1, h2, h3, h4, h5, h6, h7⟩
  · cases h1
  · simp at h1
    obtain ⟨rfl, rfl⟩ := h1
    refine .inr ⟨g, cap, cur.setIfInBounds j u, rfl, h2, blk_setCell h3 u, h4, h5, by simpa using h6, ?_⟩
    rw [Array.toList_setIfInBounds, List.take_set, h7]

theorem flatW_set {l : WL} {i : Nat} {t q p : Int} (h : l[i]? = some (t, q)) : (flatW l).set (i * 2 + 1) (.int .i64 p) = flatW (l.set i (t, p)) := by
  induction l generalizing i with
  | nil => simp at h
  | cons y l ih =>
    cases i with
    | zero => simp at h; subst h; simp [flatW]
    | succ i =>
      have := ih (i := i) (by simpa using h)
      have e : ∀ z (l : WL), flatW (z :: l) = .int .i64 z.1 :: .int .i64 z.2 :: flatW l := fun z l => by simp [flatW]
      rw [List.set_cons_succ, e, e, ← this, show (i + 1) * 2 + 1 = (i * 2 + 1) + 1 + 1 by omega, List.set_cons_succ, List.set_cons_succ]

theorem wupd_set {l : WL} {i : Nat} {t q p : Int} (h : l[i]? = some (t, q)) (hn : ∀ j : Nat, j < i → ∀ x, l[j]? = some x → x.1 ≠ t) : wupd l t p = l.set i (t, p) := by
  induction l generalizing i with
  | nil => simp at h
  | cons y l ih =>
    obtain ⟨k, x⟩ := y
    cases i with
    | zero => simp at h; obtain ⟨rfl, rfl⟩ := h; simp [wupd]
    | succ i =>
      have h0 := hn 0 (by omega) (k, x) rfl
      have : ¬ t = k := fun e => h0 e.symm
      rw [wupd, if_neg this, ih (i := i) (by simpa using h) (fun j hj y hy => hn (j + 1) (by omega) y (by simpa using hy))]
      rfl

theorem wdel_cut {l : WL} {i : Nat} {t q : Int} (h : l[i]? = some (t, q)) (hn : ∀ j : Nat, j < i → ∀ x, l[j]? = some x → x.1 ≠ t) : wdel l t = l.take i ++ l.drop (i + 1) := by
  induction l generalizing i with
  | nil => simp at h
  | cons y l ih =>
    obtain ⟨k, x⟩ := y
    cases i with
    | zero => simp at h; obtain ⟨rfl, rfl⟩ := h; simp [wdel]
    | succ i =>
      have h0 := hn 0 (by omega) (k, x) rfl
      have : ¬ t = k := fun e => h0 e.symm
      rw [wdel, if_neg this, ih (i := i) (by simpa using h) (fun j hj y hy => hn (j + 1) (by omega) y (by simpa using hy))]
      rfl

end Go.Proofs.Ytiiafhlckmkcnaa
