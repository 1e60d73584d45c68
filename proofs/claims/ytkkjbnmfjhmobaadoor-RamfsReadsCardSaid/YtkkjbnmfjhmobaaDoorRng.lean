
/- Going over a map keyed by int, in whatever order, while other blocks are written; a slice of the call's own that is appended to. No program in sight. -/
import Derived.Test.YtkkjbnmfjhmobaaDoorBlk
import Derived.Maps.AppendAt
namespace Go.Proofs.YtkkjbnmfjhmobaaDoor
open Go.RowKit Go.ChangeMaps Go.MapKept

def leftL (es : Array MapEntry) (seen : Array Nat) : List MapEntry := es.toList.filter fun e => !seen.contains e.born

/-- Block r goes over the map at block b, whose rows are M; the rows of rest are still to come. -/
def RngP (w : World) (b r : Nat) (M rest : List (Int × Value)) : Prop :=
  ∃ es clock seen, w.heap[b]? = some (.map es clock) ∧ MapE es clock M ∧ w.heap[r]? = some (.mapIter (some b) clock seen clock) ∧
    (leftL es seen).map (fun e => (e.key, e.val)) = rest.map (fun p => (Value.int .i64 p.1, p.2))

/-- How many rows are still to come. -/
def rleft (w : World) (b r : Nat) : Nat :=
  match w.heap[b]?, w.heap[r]? with
  | some (.map es _), some (.mapIter _ _ seen _) => (leftL es seen).length
  | _, _ => 0

theorem RngP.left {w : World} {b r : Nat} {M rest : List (Int × Value)} (h : RngP w b r M rest) : rleft w b r = rest.length := by
  obtain ⟨es, clock, seen, hb, _, hr, hl⟩ := h
  have := congrArg List.length hl
  simpa [rleft, hb, hr] using this
theorem RngP.map {w : World} {b r : Nat} {M rest : List (Int × Value)} (h : RngP w b r M rest) : MapI w b M := by
  obtain ⟨es, clock, seen, hb, hE, hr, hl⟩ := h
  exact ⟨es, clock, hb, hE⟩
theorem RngP.kept {S : List Nat} {w w' : World} {b r : Nat} {M rest : List (Int × Value)} (h : RngP w b r M rest) (hC : Chg S w w') (hb : b ∉ S) (hr : r ∉ S) : RngP w' b r M rest := by
  obtain ⟨es, clock, seen, h1, hE, h2, hl⟩ := h
  exact ⟨es, clock, seen, hC.blk h1 hb, hE, hC.blk h2 hr, hl⟩
theorem RngP.lt {w : World} {b r : Nat} {M rest : List (Int × Value)} (h : RngP w b r M rest) : r < w.heap.size := by
  obtain ⟨es, clock, seen, h1, hE, h2, hl⟩ := h
  exact lt_of_blk h2

section
variable {P : Program}

/-- 'range m': the iterator is the new block. -/
theorem run_range_I {w : World} {t k e : TypeId} (ht : P.underlying t = some (.map k e)) {b : Nat} {M : List (Int × Value)} (hM : MapI w b M) :
    ∃ o, (Instr.range t (.map (some b))).run P w = .ok (.pointer (some ⟨w.heap.size, 0, none⟩)) (w.alloc o) ∧ RngP (w.alloc o) b w.heap.size M M := by
  obtain ⟨es, clock, hb, hE⟩ := hM
  refine ⟨_, run_range_map w t k e b es clock ht hb, es, clock, #[], blk_alloc hb _, hE, heap_alloc_eq w _, ?_⟩
  have : leftL es #[] = es.toList := List.filter_eq_self.2 (fun x _ => by simp)
  rw [this]
  exact hE.rows

theorem leftL_push (es : Array MapEntry) (seen : Array Nat) (e : MapEntry) : leftL es (seen.push e.born) = (leftL es seen).filter (fun x => !(x.born == e.born)) := by
  unfold leftL
  rw [List.filter_filter]
  congr 1
  funext x
  rw [contains_push]
  cases seen.contains x.born <;> cases hx : x.born == e.born <;> simp

theorem filter_born (e : MapEntry) : ∀ (l : List MapEntry), (l.map (·.born)).Nodup → ∀ l1 l2, l = l1 ++ e :: l2 → l.filter (fun x => !(x.born == e.born)) = l1 ++ l2 := by
  intro l hn l1 l2 hl
  subst hl
  rw [List.filter_append, List.filter_cons]
  have hn' := hn
  simp only [List.map_append, List.map_cons, List.nodup_append, List.nodup_cons] at hn'
  obtain ⟨_, ⟨h2, _⟩, h3⟩ := hn'
  have e1 : l1.filter (fun x => !(x.born == e.born)) = l1 := List.filter_eq_self.2 (fun x hx => by
    have := h3 x.born (List.mem_map.2 ⟨x, hx, rfl⟩) e.born (by simp)
    simpa using this)
  have e2 : l2.filter (fun x => !(x.born == e.born)) = l2 := List.filter_eq_self.2 (fun x hx => by
    have : x.born ≠ e.born := fun h => h2 (List.mem_map.2 ⟨x, hx, h⟩)
    simpa using this)
  rw [e1, e2]
  simp

/-- 'next': nothing is left; or one row of those that are left comes, whichever. -/
theorem run_next_I1 {w : World} (ty : TypeId) {b r : Nat} {M rest : List (Int × Value)} (h : RngP w b r M rest) :
    (rest = [] ∧ (Instr.next (.pointer (some ⟨r, 0, none⟩)) false ty).run P w = .ok (.tuple #[.bool false]) w) ∨
    ∃ p r1 r2 w1, rest = r1 ++ p :: r2 ∧ (Instr.next (.pointer (some ⟨r, 0, none⟩)) false ty).run P w = .ok (.tuple #[.bool true, .int .i64 p.1, p.2]) w1 ∧ RngP w1 b r M (r1 ++ r2) ∧
      (Instr.entry (.pointer (some ⟨r, 0, none⟩))).run P w1 = .ok (.tuple #[.int .i64 p.1, p.2]) w1 ∧ Chg [r] w w1 ∧ w1.heap.size = w.heap.size := by
  obtain ⟨es, clock, seen, hb, hE, hr, hl⟩ := h
  have hbr : b ≠ r := by
    intro e; subst e; rw [hr] at hb; cases hb
  have htest := next_test_false seen es clock clock hE.old (Nat.le_refl _)
  have hfl : (es.filter fun e => !seen.contains e.born).toList = leftL es seen := by simp [leftL]
  have hmem : ∀ x ∈ leftL es seen, x.born < clock := fun x hx => hE.old x (List.mem_filter.1 hx).1
  simp only [Instr.next, getObj, Sem.run_bind, Sem.run, hr, hb, Result.andThen, htest, Bool.false_eq_true, if_false]
  generalize hL : (es.filter fun e => !seen.contains e.born) = L
  rw [hL] at hfl
  have e1 : L.filter (fun x => decide (x.born < clock)) = L := Array.filter_eq_self.2 (fun x hx => by
    have := hmem x (by rw [← hfl]; simpa using hx)
    simpa using this)
  have e2 : L.filter (fun x => decide (x.born ≥ clock)) = #[] := by
    rw [Array.filter_eq_empty_iff]
    intro x hx
    have := hmem x (by rw [← hfl]; simpa using hx)
    simp
    omega
  simp only [e1, e2, Array.append_empty]
  by_cases h0 : L.size = 0
  · left
    have hLe : L = #[] := Array.eq_empty_of_size_eq_zero h0
    subst hLe
    have : rest = [] := by
      have h1 := congrArg List.length hl
      rw [← hfl] at h1
      simpa using h1.symm
    exact ⟨this, by simp [choose, Sem.run, Question.forced]⟩
  · right
    have hne : L.isEmpty = false := by simp [Array.isEmpty, h0]
    simp only [hne, Bool.false_eq_true, if_false, Array.empty_append, Array.size_map]
    have hch : ∃ (j : Nat) (w1 : World), j < L.size ∧ w1.heap = w.heap ∧ Chg [] w w1 ∧ (choose (Question.mapNext L.size)).run P w = .ok j w1 := by
      by_cases hf : L.size ≤ 1
      · exact ⟨0, w, by omega, rfl, Chg.refl _ _, by simp [choose, Sem.run, Question.forced, hf]⟩
      · exact ⟨_, w.drew, Nat.mod_lt _ (by omega), rfl, (Chg.refl _ _).drew, by
          simp only [choose, Sem.run, Question.forced, decide_eq_true_eq, hf, if_false, Question.cut]
          rfl⟩
    obtain ⟨j, w1, hj, hh, hC, hrun⟩ := hch
    have hjl : j < (leftL es seen).length := by rw [← hfl]; simpa using hj
    have hjr : j < rest.length := by
      have h1 := congrArg List.length hl
      simp at h1
      omega
    have hLj : L[j] = (leftL es seen)[j] := by
      rw [← Array.getElem_toList (h := hj)]
      simp only [hfl]
    have hkv : L[j].key = .int .i64 rest[j].1 ∧ L[j].val = rest[j].2 := by
      have h1 := congrArg (fun l => l[j]?) hl
      simp [hjl, hjr] at h1
      rw [hLj]
      exact h1
    have hset : (setObj r (.mapIter (some b) clock (seen.push L[j].born) clock)).run P w1 = .ok () (setBlock w1 r (.mapIter (some b) clock (seen.push L[j].born) clock)) := by
      simp [setObj, Sem.run, hh, hr, setBlock]
    have hin : L[j] ∈ leftL es seen := by rw [hLj]; exact List.getElem_mem _
    have hin2 : L[j] ∈ es.toList := (List.mem_filter.1 hin).1
    have hb1 : (setBlock w1 r (.mapIter (some b) clock (seen.push L[j].born) clock)).heap[b]? = some (.map es clock) := blk_setBlock_ne (by rw [hh]; exact hb) hbr _
    have hr1 : (setBlock w1 r (.mapIter (some b) clock (seen.push L[j].born) clock)).heap[r]? = some (.mapIter (some b) clock (seen.push L[j].born) clock) := blk_setBlock (o := .mapIter (some b) clock seen clock) (by rw [hh]; exact hr) _
    have hsplit : leftL es seen = (leftL es seen).take j ++ L[j] :: (leftL es seen).drop (j + 1) := by
      rw [hLj, List.getElem_cons_drop, List.take_append_drop]
    refine ⟨rest[j], rest.take j, rest.drop (j + 1), setBlock w1 r (.mapIter (some b) clock (seen.push L[j].born) clock), by rw [List.getElem_cons_drop, List.take_append_drop], ?_, ⟨es, clock, _, hb1, hE, hr1, ?_⟩, ?_, ?_, by simp [setBlock, hh]⟩
    · simp only [hrun, Array.getElem?_map, Array.getElem?_eq_getElem hj, Option.map_some, Sem.run_bind, hset, Result.andThen, hkv.1, hkv.2]
      rfl
    · have hnd : ((leftL es seen).map (·.born)).Nodup := hE.born.sublist (List.Sublist.map _ List.filter_sublist)
      have e3 : (leftL es seen).filter (fun x => !(x.born == L[j].born)) = (leftL es seen).take j ++ (leftL es seen).drop (j + 1) := filter_born _ _ hnd _ _ hsplit
      rw [leftL_push, e3]
      simp only [List.map_append, List.map_take, List.map_drop, hl]
    · have hf : es.find? (·.born == L[j].born) = some L[j] := by rw [← Array.find?_toList]; exact find_born L[j] es.toList hE.born hin2
      simp only [Instr.entry, getObj, Sem.run_bind, Sem.run, hr1, hb1, Result.andThen, Array.back?_push, bne_self_eq_false, Bool.false_eq_true, if_false, hf]
      rw [← hkv.1, ← hkv.2]
      rfl
    · exact (hC.mono (by simp)).setBlock _ _ (by simp)

/-- .. whatever type the operation bears. -/
theorem run_next_I {w : World} {b r : Nat} {M rest : List (Int × Value)} (h : RngP w b r M rest) :
    (rest = [] ∧ ∀ ty, (Instr.next (.pointer (some ⟨r, 0, none⟩)) false ty).run P w = .ok (.tuple #[.bool false]) w) ∨
    ∃ p r1 r2 w1, rest = r1 ++ p :: r2 ∧ (∀ ty, (Instr.next (.pointer (some ⟨r, 0, none⟩)) false ty).run P w = .ok (.tuple #[.bool true, .int .i64 p.1, p.2]) w1) ∧ RngP w1 b r M (r1 ++ r2) ∧
      (Instr.entry (.pointer (some ⟨r, 0, none⟩))).run P w1 = .ok (.tuple #[.int .i64 p.1, p.2]) w1 ∧ Chg [r] w w1 ∧ w1.heap.size = w.heap.size := by
  rcases run_next_I1 (P := P) 0 h with ⟨h1, h2⟩ | ⟨p, r1, r2, w1, h1, h2, h3⟩
  · exact .inl ⟨h1, fun _ => h2⟩
  · exact .inr ⟨p, r1, r2, w1, h1, fun _ => h2, h3⟩

theorem own_notin {w : World} {B : Nat} {e : TypeId} {size : Nat} {v : Value} {n : Nat} {xs : List Value} (h : w.ownsRow B e size v n xs) {k : Nat} (hk : k < B) : k ∉ v.ownBlock.toList := by
  intro hm
  have := h.lt k (by simpa using hm)
  omega
theorem own_ge {w : World} {B : Nat} {e : TypeId} {size : Nat} {v : Value} {n : Nat} {xs : List Value} (h : w.ownsRow B e size v n xs) : ∀ k ∈ v.ownBlock.toList, B ≤ k := by
  intro k hm
  exact (h.lt k (by simpa using hm)).1
theorem own_mono {w : World} {B B' : Nat} {e : TypeId} {size : Nat} {v : Value} {n : Nat} {xs : List Value} (h : w.ownsRow B e size v n xs) (hB : B' ≤ B) : w.ownsRow B' e size v n xs := by
  refine ⟨h.1, ?_⟩
  rcases h.2 with h2 | ⟨g, cap, cur, h3, h4, h5⟩
  · exact .inl h2
  · exact .inr ⟨g, cap, cur, h3, Nat.le_trans hB h4, h5⟩
theorem own_kept {S : List Nat} {w w' : World} {B : Nat} {e : TypeId} {size : Nat} {v : Value} {n : Nat} {xs : List Value} (h : w.ownsRow B e size v n xs) (hC : Chg S w w') (hS : ∀ k ∈ S, k ∉ v.ownBlock.toList) : w'.ownsRow B e size v n xs := by
  refine ⟨h.1, ?_⟩
  rcases h.2 with h2 | ⟨g, cap, cur, rfl, h4, h5, h6⟩
  · exact .inl h2
  · exact .inr ⟨g, cap, cur, rfl, h4, hC.blk h5 (fun hm => hS g hm (by simp [Value.ownBlock])), h6⟩

/-- 's = append(s, x)' where s is of the call's own (from block B on): the row may have moved to a new block. -/
theorem run_push {w : World} (B : Nat) (t ty e : TypeId) (i : TypeInfo) (z : Value) (size bytes : Nat) (ht : P.underlying t = some (.slice e)) (hi : P.info? e = some i) (hz : i.zero = some z)
    (hsize : i.size = size) (hby : i.bytes = bytes) (hzs : z.cells.size = size) (hsz : 0 < size)
    (v : Value) (n : Nat) (xs : List Value) (hown : w.ownsRow B e size v n xs) (news : List Value) (hl : news.length = size) (h1 : ∀ u ∈ news, u.oneCell' = true)
    (h63 : n + 1 ≤ maxLen) (hbytes : (n + 1) * bytes ≤ 140737488355328) (hB : B ≤ w.heap.size) :
    ∃ v' w', (Builtin.append_ #[t, t] ty #[v, .slice (some ⟨w.heap.size, 0, none⟩) 1 1]).run P (w.alloc (.cells news.toArray e)) = .ok v' w' ∧ w'.ownsRow B e size v' (n + 1) (xs ++ news) ∧
      Chg v.ownBlock.toList w w' ∧ (v'.ownBlock = v.ownBlock ∨ ∃ k, w.heap.size ≤ k ∧ v'.ownBlock = some k) ∧ v' ≠ .slice none 0 0 := by
  have hown' : (w.alloc (.cells news.toArray e)).ownsRow B e size v n xs := hown.alloc _
  obtain ⟨v', w', hr, h2, h3, h4, h5⟩ := run_append_own_at (P := P) (w.alloc (.cells news.toArray e)) B t ty e i z size bytes ht hi hz hsize hby hzs hsz v n xs hown' ⟨w.heap.size, 0, none⟩ 1 1 news (by omega)
    (fun j u hj => by simpa [Addr.add] using (show (w.alloc (.cells news.toArray e)).cell? ((⟨w.heap.size, 0, none⟩ : Addr).add j) = some u by
      rw [show ((⟨w.heap.size, 0, none⟩ : Addr).add j) = ⟨w.heap.size, j, none⟩ by unfold Addr.add; split <;> simp_all]
      rw [World.cell?_alloc_new]
      simpa using hj)) h1 h63 hbytes (by simp; omega)
  refine ⟨v', w', hr, h2, ?_, ?_, ?_⟩
  · exact ((Chg.refl _ w).alloc _).trans (Chg.of_grown h3 (fun k hk => by simp [hk]))
  · rcases h5 with h5 | h5
    · exact .inl h5
    · exact .inr ⟨w.heap.size + 1, by omega, by simpa using h5⟩
  · intro e1
    have := (h4.1 e1).2
    omega

theorem wpList_push {w : World} {ops : Array Oper} {rest : List Oper} {o : Oper} {a : Act} {Q : Exit → Act → World → Prop} (hgd : o.guard = none) (s x : Operand) (t : TypeId)
    (ho : o.op = .call { callee := .builtin .append, args := #[s, x], argTypes := #[t, t] })
    (B : Nat) (e : TypeId) (i : TypeInfo) (z : Value) (size bytes : Nat) (ht : P.underlying t = some (.slice e)) (hi : P.info? e = some i) (hz : i.zero = some z)
    (hsize : i.size = size) (hby : i.bytes = bytes) (hzs : z.cells.size = size) (hsz : 0 < size)
    (v : Value) (n : Nat) (xs : List Value) (hs : a.eval s = v) (hown : w.ownsRow B e size v n xs) (news : List Value) (hx : a.eval x = .slice (some ⟨w.heap.size, 0, none⟩) 1 1) (hl : news.length = size) (h1 : ∀ u ∈ news, u.oneCell' = true)
    (h63 : n + 1 ≤ maxLen) (hbytes : (n + 1) * bytes ≤ 140737488355328) (hB : B ≤ w.heap.size)
    (h : ∀ v' w', w'.ownsRow B e size v' (n + 1) (xs ++ news) → Chg v.ownBlock.toList w w' → (v'.ownBlock = v.ownBlock ∨ ∃ k, w.heap.size ≤ k ∧ v'.ownBlock = some k) → v' ≠ .slice none 0 0 → wpList P ops Q rest (a.put o.dst v') w') :
    wpList P ops Q (o :: rest) a (w.alloc (.cells news.toArray e)) := by
  refine wpList_plain hgd fun K hK => ?_
  obtain ⟨v', w', hr, h2, h3, h4, h5⟩ := run_push (P := P) (w := w) B t o.type e i z size bytes ht hi hz hsize hby hzs hsz v n xs hown news hl h1 h63 hbytes hB
  unfold Oper.wp execOp
  simp only [ho, resolve, invoke, builtin, Sem.run_bind, Sem.run_pure, Result.andThen_ok, List.map_toArray, List.map_cons, List.map_nil, hs, hx, hr]
  exact hK _ _ (h v' w' h2 h3 h4 h5)
end

end Go.Proofs.YtkkjbnmfjhmobaaDoor
