
/- Going over a map keyed by string (written by wip/smap.py out of XRng). No program in sight. -/
import Derived.Test.YtkkjbnmfjhmobaaDoorRng
import Derived.Test.YtkkjbnmfjhmobaaDoorSBlk
namespace Go.Proofs.YtkkjbnmfjhmobaaDoor
open Go.RowKit Go.ChangeMaps Go.MapKept

/-- Block r goes over the map at block b, whose rows are M; the rows of rest are still to come. -/
def SRngP (w : World) (b r : Nat) (M rest : List (ByteArray × Value)) : Prop :=
  ∃ es clock seen, w.heap[b]? = some (.map es clock) ∧ SMapE es clock M ∧ w.heap[r]? = some (.mapIter (some b) clock seen clock) ∧
    (leftL es seen).map (fun e => (e.key, e.val)) = rest.map (fun p => (Value.string p.1, p.2))

/-- How many rows are still to come. -/
def sRleft (w : World) (b r : Nat) : Nat :=
  match w.heap[b]?, w.heap[r]? with
  | some (.map es _), some (.mapIter _ _ seen _) => (leftL es seen).length
  | _, _ => 0

theorem SRngP.left {w : World} {b r : Nat} {M rest : List (ByteArray × Value)} (h : SRngP w b r M rest) : sRleft w b r = rest.length := by
  obtain ⟨es, clock, seen, hb, _, hr, hl⟩ := h
  have := congrArg List.length hl
  simpa [sRleft, hb, hr] using this
theorem SRngP.map {w : World} {b r : Nat} {M rest : List (ByteArray × Value)} (h : SRngP w b r M rest) : SMapI w b M := by
  obtain ⟨es, clock, seen, hb, hE, hr, hl⟩ := h
  exact ⟨es, clock, hb, hE⟩
theorem SRngP.kept {S : List Nat} {w w' : World} {b r : Nat} {M rest : List (ByteArray × Value)} (h : SRngP w b r M rest) (hC : Chg S w w') (hb : b ∉ S) (hr : r ∉ S) : SRngP w' b r M rest := by
  obtain ⟨es, clock, seen, h1, hE, h2, hl⟩ := h
  exact ⟨es, clock, seen, hC.blk h1 hb, hE, hC.blk h2 hr, hl⟩
theorem SRngP.lt {w : World} {b r : Nat} {M rest : List (ByteArray × Value)} (h : SRngP w b r M rest) : r < w.heap.size := by
  obtain ⟨es, clock, seen, h1, hE, h2, hl⟩ := h
  exact lt_of_blk h2

section
variable {P : Program}

/-- 'range m': the iterator is the new block. -/
theorem sRun_range_I {w : World} {t k e : TypeId} (ht : P.underlying t = some (.map k e)) {b : Nat} {M : List (ByteArray × Value)} (hM : SMapI w b M) :
    ∃ o, (Instr.range t (.map (some b))).run P w = .ok (.pointer (some ⟨w.heap.size, 0, none⟩)) (w.alloc o) ∧ SRngP (w.alloc o) b w.heap.size M M := by
  obtain ⟨es, clock, hb, hE⟩ := hM
  refine ⟨_, run_range_map w t k e b es clock ht hb, es, clock, #[], blk_alloc hb _, hE, heap_alloc_eq w _, ?_⟩
  have : leftL es #[] = es.toList := List.filter_eq_self.2 (fun x _ => by simp)
  rw [this]
  exact hE.rows

/-- 'next': nothing is left; or one row of those that are left comes, whichever. -/
theorem sRun_next_I1 {w : World} (ty : TypeId) {b r : Nat} {M rest : List (ByteArray × Value)} (h : SRngP w b r M rest) :
    (rest = [] ∧ (Instr.next (.pointer (some ⟨r, 0, none⟩)) false ty).run P w = .ok (.tuple #[.bool false]) w) ∨
    ∃ p r1 r2 w1, rest = r1 ++ p :: r2 ∧ (Instr.next (.pointer (some ⟨r, 0, none⟩)) false ty).run P w = .ok (.tuple #[.bool true, .string p.1, p.2]) w1 ∧ SRngP w1 b r M (r1 ++ r2) ∧
      (Instr.entry (.pointer (some ⟨r, 0, none⟩))).run P w1 = .ok (.tuple #[.string p.1, p.2]) w1 ∧ Chg [r] w w1 ∧ w1.heap.size = w.heap.size := by
  obtain ⟨es, clock, seen, hb, hE, hr, hl⟩ := h
  have hbr : b ≠ r := by
    intro e; subst e; rw [hr] at hb; cases hb
  have htest := next_test_false seen es clock clock hE.old (Nat.le_refl _)
  have hfl : (es.filter fun e => !seen.contains e.born).toList = leftL es seen := by simp [leftL]
  have hmem : ∀ x ∈ leftL es seen, x.born < clock := fun x hx => hE.old x (List.mem_filter.1 hx).1
  simp only [Instr.next, getObj, Sem.run_bind, Sem.run, hr, hb, Result.andThen, htest, Bool.false_eq_true, if_false]
  generalize hL : (es.filter fun e => !seen.contains e.born) = L
  rw [hL] at hfl
  have e1 : L.filter (fun x => decide (x.born < clock)) = L := Array.filter_eq_self.2 (fun x hx => by
    have := hmem x (by rw [← hfl]; simpa using hx)
    simpa using this)
  have e2 : L.filter (fun x => decide (x.born ≥ clock)) = #[] := by
    rw [Array.filter_eq_empty_iff]
    intro x hx
    have := hmem x (by rw [← hfl]; simpa using hx)
    simp
    omega
  simp only [e1, e2, Array.append_empty]
  by_cases h0 : L.size = 0
  · left
    have hLe : L = #[] := Array.eq_empty_of_size_eq_zero h0
    subst hLe
    have : rest = [] := by
      have h1 := congrArg List.length hl
      rw [← hfl] at h1
      simpa using h1.symm
    exact ⟨this, by simp [choose, Sem.run, Question.forced]⟩
  · right
    have hne : L.isEmpty = false := by simp [Array.isEmpty, h0]
    simp only [hne, Bool.false_eq_true, if_false, Array.empty_append, Array.size_map]
    have hch : ∃ (j : Nat) (w1 : World), j < L.size ∧ w1.heap = w.heap ∧ Chg [] w w1 ∧ (choose (Question.mapNext L.size)).run P w = .ok j w1 := by
      by_cases hf : L.size ≤ 1
      · exact ⟨0, w, by omega, rfl, Chg.refl _ _, by simp [choose, Sem.run, Question.forced, hf]⟩
      · exact ⟨_, w.drew, Nat.mod_lt _ (by omega), rfl, (Chg.refl _ _).drew, by
          simp only [choose, Sem.run, Question.forced, decide_eq_true_eq, hf, if_false, Question.cut]
          rfl⟩
    obtain ⟨j, w1, hj, hh, hC, hrun⟩ := hch
    have hjl : j < (leftL es seen).length := by rw [← hfl]; simpa using hj
    have hjr : j < rest.length := by
      have h1 := congrArg List.length hl
      simp at h1
      omega
    have hLj : L[j] = (leftL es seen)[j] := by
      rw [← Array.getElem_toList (h := hj)]
      simp only [hfl]
    have hkv : L[j].key = .string rest[j].1 ∧ L[j].val = rest[j].2 := by
      have h1 := congrArg (fun l => l[j]?) hl
      simp [hjl, hjr] at h1
      rw [hLj]
      exact h1
    have hset : (setObj r (.mapIter (some b) clock (seen.push L[j].born) clock)).run P w1 = .ok () (setBlock w1 r (.mapIter (some b) clock (seen.push L[j].born) clock)) := by
      simp [setObj, Sem.run, hh, hr, setBlock]
    have hin : L[j] ∈ leftL es seen := by rw [hLj]; exact List.getElem_mem _
    have hin2 : L[j] ∈ es.toList := (List.mem_filter.1 hin).1
    have hb1 : (setBlock w1 r (.mapIter (some b) clock (seen.push L[j].born) clock)).heap[b]? = some (.map es clock) := blk_setBlock_ne (by rw [hh]; exact hb) hbr _
    have hr1 : (setBlock w1 r (.mapIter (some b) clock (seen.push L[j].born) clock)).heap[r]? = some (.mapIter (some b) clock (seen.push L[j].born) clock) := blk_setBlock (o := .mapIter (some b) clock seen clock) (by rw [hh]; exact hr) _
    have hsplit : leftL es seen = (leftL es seen).take j ++ L[j] :: (leftL es seen).drop (j + 1) := by
      rw [hLj, List.getElem_cons_drop, List.take_append_drop]
    refine ⟨rest[j], rest.take j, rest.drop (j + 1), setBlock w1 r (.mapIter (some b) clock (seen.push L[j].born) clock), by rw [List.getElem_cons_drop, List.take_append_drop], ?_, ⟨es, clock, _, hb1, hE, hr1, ?_⟩, ?_, ?_, by simp [setBlock, hh]⟩
    · simp only [hrun, Array.getElem?_map, Array.getElem?_eq_getElem hj, Option.map_some, Sem.run_bind, hset, Result.andThen, hkv.1, hkv.2]
      rfl
    · have hnd : ((leftL es seen).map (·.born)).Nodup := hE.born.sublist (List.Sublist.map _ List.filter_sublist)
      have e3 : (leftL es seen).filter (fun x => !(x.born == L[j].born)) = (leftL es seen).take j ++ (leftL es seen).drop (j + 1) := filter_born _ _ hnd _ _ hsplit
      rw [leftL_push, e3]
      simp only [List.map_append, List.map_take, List.map_drop, hl]
    · have hf : es.find? (·.born == L[j].born) = some L[j] := by rw [← Array.find?_toList]; exact find_born L[j] es.toList hE.born hin2
      simp only [Instr.entry, getObj, Sem.run_bind, Sem.run, hr1, hb1, Result.andThen, Array.back?_push, bne_self_eq_false, Bool.false_eq_true, if_false, hf]
      rw [← hkv.1, ← hkv.2]
      rfl
    · exact (hC.mono (by simp)).setBlock _ _ (by simp)

/-- .. whatever type the operation bears. -/
theorem sRun_next_I {w : World} {b r : Nat} {M rest : List (ByteArray × Value)} (h : SRngP w b r M rest) :
    (rest = [] ∧ ∀ ty, (Instr.next (.pointer (some ⟨r, 0, none⟩)) false ty).run P w = .ok (.tuple #[.bool false]) w) ∨
    ∃ p r1 r2 w1, rest = r1 ++ p :: r2 ∧ (∀ ty, (Instr.next (.pointer (some ⟨r, 0, none⟩)) false ty).run P w = .ok (.tuple #[.bool true, .string p.1, p.2]) w1) ∧ SRngP w1 b r M (r1 ++ r2) ∧
      (Instr.entry (.pointer (some ⟨r, 0, none⟩))).run P w1 = .ok (.tuple #[.string p.1, p.2]) w1 ∧ Chg [r] w w1 ∧ w1.heap.size = w.heap.size := by
  rcases sRun_next_I1 (P := P) 0 h with ⟨h1, h2⟩ | ⟨p, r1, r2, w1, h1, h2, h3⟩
  · exact .inl ⟨h1, fun _ => h2⟩
  · exact .inr ⟨p, r1, r2, w1, h1, fun _ => h2, h3⟩
end
end Go.Proofs.YtkkjbnmfjhmobaaDoor
