
/- Plain laws on worlds, block by block: what a step leaves as it was (Chg); cells of a known block; maps keyed by int as a list of pairs (MapI) and what lookup, update, delete, len and clear do to them. No program in sight. -/
import Derived.WalkKit
import Derived.WalkSpells
import Derived.WalkLawsBesides
import Derived.StillTailTactics
import Derived.Deep.QuietTactic
import Derived.BigQuiet
import Derived.Lib.Hide
namespace Go.Proofs.YtkkjbnmfjhmobaaDoor
open Go.RowKit Go.ChangeMaps Go.MapKept

/-- All but the blocks of S is as it was; new blocks may have come. -/
structure Chg (S : List Nat) (w w' : World) : Prop where
  os : w'.os = w.os
  tape : w'.tape = w.tape
  output : w'.output = w.output
  size : w.heap.size ≤ w'.heap.size
  block : ∀ k, k < w.heap.size → k ∉ S → w'.heap[k]? = w.heap[k]?

theorem Chg.refl (S : List Nat) (w : World) : Chg S w w := ⟨rfl, rfl, rfl, Nat.le_refl _, fun _ _ _ => rfl⟩

theorem lt_of_blk {w : World} {k : Nat} {o : Obj} (h : w.heap[k]? = some o) : k < w.heap.size := (Array.getElem?_eq_some_iff.1 h).1

theorem Chg.trans' {S S2 : List Nat} {a b c : World} (h : Chg S a b) (g : Chg S2 b c) (hS : ∀ k ∈ S2, k ∈ S ∨ a.heap.size ≤ k) : Chg S a c :=
  ⟨g.os.trans h.os, g.tape.trans h.tape, g.output.trans h.output, Nat.le_trans h.size g.size, fun k hk hn =>
    (g.block k (Nat.lt_of_lt_of_le hk h.size) (fun hm => by rcases hS k hm with h1 | h1; exact hn h1; omega)).trans (h.block k hk hn)⟩

theorem Chg.trans {S : List Nat} {a b c : World} (h : Chg S a b) (g : Chg S b c) : Chg S a c := h.trans' g fun _ hk => .inl hk

theorem Chg.mono {S S2 : List Nat} {a b : World} (h : Chg S a b) (hS : ∀ k ∈ S, k ∈ S2 ∨ a.heap.size ≤ k) : Chg S2 a b := (Chg.refl S2 a).trans' h hS

theorem Chg.blk {S : List Nat} {a b : World} {k : Nat} {o : Obj} (h : Chg S a b) (hb : a.heap[k]? = some o) (hn : k ∉ S) : b.heap[k]? = some o :=
  (h.block k (lt_of_blk hb) hn).trans hb

theorem Chg.drew {S : List Nat} {a b : World} (h : Chg S a b) : Chg S a b.drew := ⟨h.os, h.tape, h.output, h.size, h.block⟩
theorem Chg.drewN {S : List Nat} {a b : World} (h : Chg S a b) (n : Nat) : Chg S a (b.drewN n) := ⟨h.os, h.tape, h.output, h.size, h.block⟩

theorem heap_alloc_lt (w : World) (o : Obj) (k : Nat) (h : k < w.heap.size) : (w.alloc o).heap[k]? = w.heap[k]? := Below.heap_alloc w o k h
theorem heap_alloc_eq (w : World) (o : Obj) : (w.alloc o).heap[w.heap.size]? = some o := heap_alloc_new w o

theorem Chg.alloc {S : List Nat} {a b : World} (h : Chg S a b) (o : Obj) : Chg S a (b.alloc o) :=
  h.trans ⟨rfl, rfl, rfl, by simp, fun k hk _ => heap_alloc_lt _ _ _ hk⟩

theorem Chg.setCell {S : List Nat} {a b : World} (h : Chg S a b) (p : Addr) (v : Value) (hp : p.block ∈ S ∨ a.heap.size ≤ p.block) : Chg S a (b.setCell p v) :=
  h.trans' (S2 := [p.block]) ⟨rfl, rfl, rfl, by simp [World.setCell], fun k _ hn => Below.heap_setCell _ _ _ _ (by simpa using hn)⟩ (by simpa using hp)

theorem Chg.setBlock {S : List Nat} {a b : World} (h : Chg S a b) (r : Nat) (o : Obj) (hp : r ∈ S ∨ a.heap.size ≤ r) : Chg S a (setBlock b r o) :=
  h.trans' (S2 := [r]) ⟨rfl, rfl, rfl, by simp [Go.ChangeMaps.setBlock], fun k _ hn => by
    have : r ≠ k := fun e => hn (by simp [e])
    simp [Go.ChangeMaps.setBlock, this]⟩ (by simpa using hp)

theorem Chg.below {B : Nat} {a b : World} (h : Chg [] a b) (hB : B ≤ a.heap.size) : Below B a b :=
  ⟨h.os, h.tape, h.output, h.size, fun k hk => h.block k (Nat.lt_of_lt_of_le hk hB) (by simp)⟩
theorem Chg.of_below {S : List Nat} {a b : World} (h : Below a.heap.size a b) : Chg S a b := ⟨h.os, h.tape, h.output, h.size, fun k hk _ => h.block k hk⟩
theorem Chg.of_grown {S : List Nat} {a b : World} {row : Option Nat} (hg : a.grownBy b row) (hr : ∀ k, row = some k → k ∈ S) : Chg S a b :=
  ⟨hg.os, hg.tape, hg.output, hg.size, fun k hk hn => hg.block k hk (fun e => hn (hr k e.symm))⟩

theorem ret_i64 {a b : Int} (h : a = b) : Ending.returned (.int .i64 a) = .returned (.int .i64 b) := by rw [h]
theorem ret_bool {a b : Bool} (h : a = b) : Ending.returned (.bool a) = .returned (.bool b) := by rw [h]

/-- A region that draws: reads ahead of one last stretch that is forced. -/
theorem region_still_tail {P : Program} {id : Nat} {Q : Exit → Act → World → Prop} {a : Act} {w : World} {l : List Oper} (n : Nat) (hm : P.follows .mixedOrders = true) (hB : Region.lexTailB .any l.toArray n = true)
    (h : wpStill P l.toArray w.drew (fun a' => wpList P l.toArray Q (l.drop n) a' w.drew) (l.take n) a) : (Code.region id l.toArray true).wp P Q a w := wp_region_still_tail n hm hB h

/-! ### cells of a known block -/
theorem cellB {w : World} {b i : Nat} {cs : Array Value} {T : TypeId} {fr : Nat × Nat} {v : Value} (h : w.heap[b]? = some (.cells cs T fr)) (hi : cs[i]? = some v) : w.cell? ⟨b, i, none⟩ = some v := by
  simp [World.cell?, h, hi]
theorem frozenB {w : World} {b : Nat} {cs : Array Value} {T : TypeId} (h : w.heap[b]? = some (.cells cs T (0, 0))) (i : Nat) : w.frozen? ⟨b, i, none⟩ = false := by
  simp [World.frozen?, h]
theorem blk_setCell {w : World} {b i : Nat} {cs : Array Value} {T : TypeId} {fr : Nat × Nat} (h : w.heap[b]? = some (.cells cs T fr)) (v : Value) : (w.setCell ⟨b, i, none⟩ v).heap[b]? = some (.cells (cs.setIfInBounds i v) T fr) := by
  simp [World.setCell, Array.getElem?_modify, h]
theorem blk_setCell_ne {w : World} {b : Nat} {p : Addr} {o : Obj} (h : w.heap[b]? = some o) (hn : b ≠ p.block) (v : Value) : (w.setCell p v).heap[b]? = some o :=
  (Below.heap_setCell _ _ _ _ hn).trans h
theorem blk_alloc {w : World} {b : Nat} {o : Obj} (h : w.heap[b]? = some o) (x : Obj) : (w.alloc x).heap[b]? = some o := (heap_alloc_lt _ _ _ (lt_of_blk h)).trans h
theorem blk_setBlock {w : World} {b : Nat} {o : Obj} (h : w.heap[b]? = some o) (x : Obj) : (setBlock w b x).heap[b]? = some x := by
  have := lt_of_blk h
  simp [setBlock, this]
theorem blk_setBlock_ne {w : World} {b r : Nat} {o : Obj} (h : w.heap[b]? = some o) (hn : b ≠ r) (x : Obj) : (setBlock w r x).heap[b]? = some o := by
  have : r ≠ b := fun e => hn e.symm
  simp [setBlock, this, h]

/-! ### maps keyed by int -/
structure MapE (es : Array MapEntry) (clock : Nat) (M : List (Int × Value)) : Prop where
  rows : es.toList.map (fun e => (e.key, e.val)) = M.map (fun p => (Value.int .i64 p.1, p.2))
  born : (es.toList.map (·.born)).Nodup
  old : ∀ e ∈ es.toList, e.born < clock
  keys : (M.map (·.1)).Nodup

def MapI (w : World) (b : Nat) (M : List (Int × Value)) : Prop := ∃ es clock, w.heap[b]? = some (.map es clock) ∧ MapE es clock M

def mupd : List (Int × Value) → Int → Value → List (Int × Value)
  | [], a, v => [(a, v)]
  | (k, x) :: r, a, v => if a = k then (a, v) :: r else (k, x) :: mupd r a v
def mdel : List (Int × Value) → Int → List (Int × Value)
  | [], _ => []
  | (k, x) :: r, a => if a = k then r else (k, x) :: mdel r a

theorem findNow_I (a : Int) : ∀ (es : List MapEntry) (M : List (Int × Value)) (i : Nat), es.map (fun e => (e.key, e.val)) = M.map (fun p => (Value.int .i64 p.1, p.2)) →
    Instr.findNow (.int .i64) (.int .i64 a) es i = some ((M.findIdx? (fun p => a == p.1)).bind fun j => (M[j]?).map fun p => (i + j, p.2))
  | [], [], i, _ => by simp [Instr.findNow]
  | [], _ :: _, _, h => by simp at h
  | _ :: _, [], _, h => by simp at h
  | e :: es, p :: M, i, h => by
    simp only [List.map_cons, List.cons.injEq, Prod.mk.injEq] at h
    obtain ⟨⟨h1, h2⟩, h3⟩ := h
    simp only [Instr.findNow, h1, Instr.sameNow, if_true]
    by_cases hc : a = p.1
    · simp [hc, List.findIdx?_cons, h2]
    · have hc' : (a == p.1) = false := by simpa using hc
      simp only [hc', List.findIdx?_cons, Bool.false_eq_true, if_false]
      rw [findNow_I a es M (i + 1) h3]
      cases hf : M.findIdx? (fun q => a == q.1) with
      | none => simp
      | some j => simp [Nat.add_assoc, Nat.add_comm 1 j]

theorem lookup_findIdx (a : Int) : ∀ (M : List (Int × Value)), ((M.findIdx? (fun p => a == p.1)).bind fun j => (M[j]?).map fun p => p.2) = M.lookup a
  | [] => by simp
  | p :: M => by
    obtain ⟨k, x⟩ := p
    by_cases hc : a = k
    · simp [hc, List.findIdx?_cons]
    · have hc' : (a == k) = false := by simpa using hc
      simp only [List.findIdx?_cons, hc', Bool.false_eq_true, if_false, List.lookup_cons]
      rw [← lookup_findIdx a M]
      cases hf : M.findIdx? (fun q => a == q.1) with
      | none => simp
      | some j => simp


theorem findIdx_lookup_none {a : Int} : ∀ {M : List (Int × Value)}, M.findIdx? (fun p => a == p.1) = none → M.lookup a = none
  | [], _ => rfl
  | (k, x) :: M, h => by
    rw [List.findIdx?_cons] at h
    by_cases hc : a = k
    · simp [hc] at h
    · have hc' : (a == k) = false := by simpa using hc
      simp only [hc', Bool.false_eq_true, if_false, Option.map_eq_none_iff] at h
      rw [List.lookup_cons, hc']
      exact findIdx_lookup_none h

theorem mupd_set {a : Int} {v : Value} : ∀ {M : List (Int × Value)} {j : Nat}, M.findIdx? (fun p => a == p.1) = some j → mupd M a v = M.set j (a, v)
  | [], _, h => by simp at h
  | (k, x) :: M, j, h => by
    rw [List.findIdx?_cons] at h
    by_cases hc : a = k
    · simp [hc] at h
      subst h
      simp [mupd, hc]
    · have hc' : (a == k) = false := by simpa using hc
      simp only [hc', Bool.false_eq_true, if_false, Option.map_eq_some_iff] at h
      obtain ⟨i, hi, rfl⟩ := h
      simp [mupd, hc, mupd_set hi]

theorem mupd_push {a : Int} {v : Value} : ∀ {M : List (Int × Value)}, M.findIdx? (fun p => a == p.1) = none → mupd M a v = M ++ [(a, v)]
  | [], _ => rfl
  | (k, x) :: M, h => by
    rw [List.findIdx?_cons] at h
    by_cases hc : a = k
    · simp [hc] at h
    · have hc' : (a == k) = false := by simpa using hc
      simp only [hc', Bool.false_eq_true, if_false, Option.map_eq_none_iff] at h
      simp [mupd, hc, mupd_push h]

theorem mdel_erase {a : Int} : ∀ {M : List (Int × Value)} {j : Nat}, M.findIdx? (fun p => a == p.1) = some j → mdel M a = M.eraseIdx j
  | [], _, h => by simp at h
  | (k, x) :: M, j, h => by
    rw [List.findIdx?_cons] at h
    by_cases hc : a = k
    · simp [hc] at h
      subst h
      simp [mdel, hc]
    · have hc' : (a == k) = false := by simpa using hc
      simp only [hc', Bool.false_eq_true, if_false, Option.map_eq_some_iff] at h
      obtain ⟨i, hi, rfl⟩ := h
      simp [mdel, hc, mdel_erase hi]

theorem mdel_none {a : Int} : ∀ {M : List (Int × Value)}, M.findIdx? (fun p => a == p.1) = none → mdel M a = M
  | [], _ => rfl
  | (k, x) :: M, h => by
    rw [List.findIdx?_cons] at h
    by_cases hc : a = k
    · simp [hc] at h
    · have hc' : (a == k) = false := by simpa using hc
      simp only [hc', Bool.false_eq_true, if_false, Option.map_eq_none_iff] at h
      simp [mdel, hc, mdel_none h]

theorem notmem_of_findIdx_none {a : Int} {M : List (Int × Value)} (h : M.findIdx? (fun p => a == p.1) = none) : a ∉ M.map (·.1) := by
  intro hm
  obtain ⟨p, hp, rfl⟩ := List.mem_map.1 hm
  have := List.findIdx?_eq_none_iff.1 h p hp
  simp at this

theorem key_of_findIdx {a : Int} : ∀ {M : List (Int × Value)} {j : Nat}, M.findIdx? (fun p => a == p.1) = some j → ∃ x, M[j]? = some (a, x)
  | [], _, h => by simp at h
  | (k, x) :: M, j, h => by
    rw [List.findIdx?_cons] at h
    by_cases hc : a = k
    · simp [hc] at h
      subst h
      exact ⟨x, by simp [hc]⟩
    · have hc' : (a == k) = false := by simpa using hc
      simp only [hc', Bool.false_eq_true, if_false, Option.map_eq_some_iff] at h
      obtain ⟨i, hi, rfl⟩ := h
      obtain ⟨y, hy⟩ := key_of_findIdx hi
      exact ⟨y, by simpa using hy⟩

theorem map_eraseIdx {α β : Type} (f : α → β) : ∀ (l : List α) (j : Nat), (l.eraseIdx j).map f = (l.map f).eraseIdx j
  | [], _ => by simp
  | _ :: l, 0 => by simp
  | _ :: l, j + 1 => by simp [map_eraseIdx f l j]

section
variable {P : Program}

theorem run_checkKey_int (w : World) (k : TypeId) (n : Nat) (b : Bool) (q : IntKind) (a : Int) (hk : P.underlying k = some (.int q)) : (Instr.checkKey b (n + 1) k (.int q a)).run P w = .ok () w := by
  simp [Instr.checkKey, run_underlying hk]

theorem run_checkKey_I (w : World) (k : TypeId) (b : Bool) (q : IntKind) (a : Int) (hk : P.underlying k = some (.int q)) : (Instr.checkKey b 10000 k (.int q a)).run P w = .ok () w :=
  run_checkKey_int w k 9999 b q a hk

theorem run_findKey_I {w : World} {k : TypeId} (hk : P.underlying k = some (.int .i64)) (a : Int) {es : Array MapEntry} {M : List (Int × Value)}
    (h : es.toList.map (fun e => (e.key, e.val)) = M.map (fun p => (Value.int .i64 p.1, p.2))) :
    (Instr.findKey k (.int .i64 a) es.toList).run P w = .ok ((M.findIdx? (fun p => a == p.1)).bind fun j => (M[j]?).map fun p => (j, p.2)) w := by
  have h1 := findNow_I a es.toList M 0 h
  simp only [Nat.zero_add] at h1
  simp [Instr.findKey, run_underlying hk, h1]

theorem run_lookup_I {w : World} {t k e : TypeId} (ht : P.underlying t = some (.map k e)) (hk : P.underlying k = some (.int .i64)) {z : Value} (hz : (zeroValue e).run P w = .ok z w)
    {b : Nat} {M : List (Int × Value)} (hM : MapI w b M) (a : Int) :
    (Instr.lookup t (.map (some b)) (.int .i64 a) true).run P w = .ok (.tuple #[(M.lookup a).getD z, .bool (M.lookup a).isSome]) w := by
  obtain ⟨es, clock, hb, hE⟩ := hM
  have hf := run_findKey_I (w := w) hk a hE.rows
  have hl := lookup_findIdx a M
  have hck := run_checkKey_I w k es.isEmpty .i64 a hk
  cases hj : M.findIdx? (fun p => a == p.1) with
  | none =>
    rw [hj] at hf
    simp [Instr.lookup, run_underlying ht, Result.andThen, MapKept.run_getObj_map hb, hck, hf, hz, findIdx_lookup_none hj]
  | some j =>
    obtain ⟨x, hx⟩ := key_of_findIdx hj
    rw [hj] at hl hf
    simp [hx] at hl hf
    simp [Instr.lookup, run_underlying ht, Result.andThen, MapKept.run_getObj_map hb, hck, hf, ← hl]

theorem run_lookup_I1 {w : World} {t k e : TypeId} (ht : P.underlying t = some (.map k e)) (hk : P.underlying k = some (.int .i64)) {z : Value} (hz : (zeroValue e).run P w = .ok z w)
    {b : Nat} {M : List (Int × Value)} (hM : MapI w b M) (a : Int) :
    (Instr.lookup t (.map (some b)) (.int .i64 a) false).run P w = .ok ((M.lookup a).getD z) w := by
  obtain ⟨es, clock, hb, hE⟩ := hM
  have hf := run_findKey_I (w := w) hk a hE.rows
  have hl := lookup_findIdx a M
  have hck := run_checkKey_I w k es.isEmpty .i64 a hk
  cases hj : M.findIdx? (fun p => a == p.1) with
  | none =>
    rw [hj] at hf
    simp [Instr.lookup, run_underlying ht, Result.andThen, MapKept.run_getObj_map hb, hck, hf, hz, findIdx_lookup_none hj]
  | some j =>
    obtain ⟨x, hx⟩ := key_of_findIdx hj
    rw [hj] at hl hf
    simp [hx] at hl hf
    simp [Instr.lookup, run_underlying ht, Result.andThen, MapKept.run_getObj_map hb, hck, hf, ← hl]

theorem run_setObj_map {w : World} {b : Nat} {es : Array MapEntry} {clock : Nat} (hb : w.heap[b]? = some (.map es clock)) (o : Obj) : (setObj b o).run P w = .ok () (setBlock w b o) := by
  simp [setObj, Sem.run, hb, setBlock]

theorem run_update_I {w : World} {t k e : TypeId} (ht : P.underlying t = some (.map k e)) (hk : P.underlying k = some (.int .i64))
    {b : Nat} {M : List (Int × Value)} (hM : MapI w b M) (a : Int) (v : Value) :
    ∃ w1, (Instr.mapUpdate t (.map (some b)) (.int .i64 a) v).run P w = .ok () w1 ∧ MapI w1 b (mupd M a v) ∧ Chg [b] w w1 := by
  obtain ⟨es, clock, hb, hE⟩ := hM
  have hf := run_findKey_I (w := w) hk a hE.rows
  simp only [Instr.mapUpdate, Sem.run_bind, run_underlying ht, Result.andThen, MapKept.run_getObj_map hb, run_checkKey_I w k _ _ a hk, hf]
  have hlen : es.toList.length = M.length := by simpa using congrArg List.length hE.rows
  cases hj : M.findIdx? (fun p => a == p.1) with
  | none =>
    refine ⟨setBlock w b (.map (es.push { key := .int .i64 a, val := v, born := clock }) (clock + 1)), by simp [run_setObj_map hb], ⟨_, _, blk_setBlock hb _, ?_⟩, (Chg.refl _ _).setBlock _ _ (by simp)⟩
    rw [mupd_push hj]
    refine ⟨by simp [hE.rows], ?_, ?_, ?_⟩
    · simp only [Array.toList_push, List.map_append, List.map_cons, List.map_nil]
      refine List.nodup_append.2 ⟨hE.born, by simp, ?_⟩
      intro x hx y hy
      simp at hy
      subst hy
      obtain ⟨e0, he0, rfl⟩ := List.mem_map.1 hx
      have := hE.old e0 he0
      omega
    · intro e0 he0
      simp only [Array.toList_push, List.mem_append, List.mem_singleton] at he0
      rcases he0 with he0 | rfl
      · have := hE.old e0 he0; omega
      · simp
    · simp only [List.map_append, List.map_cons, List.map_nil]
      refine List.nodup_append.2 ⟨hE.keys, by simp, ?_⟩
      intro x hx y hy
      simp at hy
      subst hy
      intro e1
      subst e1
      exact notmem_of_findIdx_none hj hx
  | some j =>
    obtain ⟨x, hx⟩ := key_of_findIdx hj
    have hjl : j < M.length := (List.getElem?_eq_some_iff.1 hx).1
    have hje : j < es.size := by rw [← Array.length_toList, hlen]; exact hjl
    have hkey : es[j].key = .int .i64 a := by
      have := congrArg (fun l => l[j]?) hE.rows
      simp [hx, hje] at this
      exact this.1
    have hkts : (Instr.keyThatStays (.int .i64 a) (.int .i64 a)).run P w = .ok (.int .i64 a) w := by simp [Instr.keyThatStays, Instr.sameBits]
    refine ⟨setBlock w b (.map (es.modify j fun e => { e with key := .int .i64 a, val := v }) clock), ?_, ⟨_, _, blk_setBlock hb _, ?_⟩, (Chg.refl _ _).setBlock _ _ (by simp)⟩
    · simp [hx, hje, hkey, hkts, Result.andThen, run_setObj_map hb]
    · rw [mupd_set hj]
      have hml : (es.modify j fun e => { e with key := .int .i64 a, val := v }).toList = es.toList.set j { key := .int .i64 a, val := v, born := es[j].born } := by
        apply List.ext_getElem?
        intro i
        rw [Array.getElem?_toList, Array.getElem?_modify, List.getElem?_set]
        by_cases hi : j = i
        · subst hi
          simp [hje]
        · simp [hi]
      have hb2 : (es.toList.set j { key := .int .i64 a, val := v, born := es[j].born }).map (·.born) = es.toList.map (·.born) := by
        rw [List.map_set]
        apply List.ext_getElem?
        intro i
        rw [List.getElem?_set]
        by_cases hi : j = i
        · subst hi
          simp [hje]
        · simp [hi]
      refine ⟨?_, ?_, ?_, ?_⟩
      · rw [hml, List.map_set, hE.rows, List.map_set]
      · rw [hml, hb2]; exact hE.born
      · intro e0 he0
        rw [hml] at he0
        have hm : e0.born ∈ (es.toList.set j { key := .int .i64 a, val := v, born := es[j].born }).map (·.born) := List.mem_map.2 ⟨e0, he0, rfl⟩
        rw [hb2] at hm
        obtain ⟨e1, he1, h2⟩ := List.mem_map.1 hm
        have := hE.old e1 he1
        omega
      · rw [List.map_set]
        have : (M.map (·.1)).set j a = M.map (·.1) := by
          apply List.ext_getElem?
          intro i
          rw [List.getElem?_set]
          by_cases hi : j = i
          · subst hi
            have hx2 : M[j] = (a, x) := by simpa [hjl] using hx
            simp [hjl, hx2]
          · simp [hi]
        rw [this]
        exact hE.keys

theorem run_delete_I {w : World} {t k e : TypeId} (ht : P.underlying t = some (.map k e)) (hk : P.underlying k = some (.int .i64))
    {b : Nat} {M : List (Int × Value)} (hM : MapI w b M) (a : Int) (tk rt : TypeId) :
    ∃ w1, (Builtin.delete_ #[t, tk] rt #[.map (some b), .int .i64 a]).run P w = .ok (.tuple #[]) w1 ∧ MapI w1 b (mdel M a) ∧ Chg [b] w w1 := by
  obtain ⟨es, clock, hb, hE⟩ := hM
  have hf := run_findKey_I (w := w) hk a hE.rows
  have hlen : es.toList.length = M.length := by simpa using congrArg List.length hE.rows
  cases hj : M.findIdx? (fun p => a == p.1) with
  | none =>
    rw [hj] at hf
    refine ⟨setBlock w b (.map es clock), ?_, ⟨_, _, blk_setBlock hb _, ?_⟩, (Chg.refl _ _).setBlock _ _ (by simp)⟩
    · simp [Builtin.delete_, run_underlying ht, MapKept.run_getObj_map hb, run_checkKey_I w k _ _ a hk, hf, run_setObj_map hb, Result.andThen]
    · rw [mdel_none hj]; exact hE
  | some j =>
    obtain ⟨x, hx⟩ := key_of_findIdx hj
    have hjl : j < M.length := (List.getElem?_eq_some_iff.1 hx).1
    have hje : j < es.size := by rw [← Array.length_toList, hlen]; exact hjl
    rw [hj] at hf
    refine ⟨setBlock w b (.map (es.eraseIdxIfInBounds j) clock), ?_, ⟨_, _, blk_setBlock hb _, ?_⟩, (Chg.refl _ _).setBlock _ _ (by simp)⟩
    · simp [Builtin.delete_, run_underlying ht, MapKept.run_getObj_map hb, run_checkKey_I w k _ _ a hk, hf, hx, run_setObj_map hb, Result.andThen]
    · rw [mdel_erase hj]
      have hml : (es.eraseIdxIfInBounds j).toList = es.toList.eraseIdx j := by simp [Array.eraseIdxIfInBounds, hje]
      refine ⟨?_, ?_, ?_, ?_⟩
      · rw [hml, map_eraseIdx, hE.rows, map_eraseIdx]
      · rw [hml, map_eraseIdx]; exact hE.born.sublist (List.eraseIdx_sublist ..)
      · intro e0 he0
        rw [hml] at he0
        exact hE.old e0 ((List.eraseIdx_sublist ..).subset he0)
      · rw [map_eraseIdx]; exact hE.keys.sublist (List.eraseIdx_sublist ..)

theorem run_len_I {w : World} {t k e : TypeId} (ht : P.underlying t = some (.map k e)) {b : Nat} {M : List (Int × Value)} (hM : MapI w b M) (rt : TypeId) :
    (Builtin.len_ #[t] rt #[.map (some b)]).run P w = .ok (.int .i64 (M.length : Int)) w := by
  obtain ⟨es, clock, hb, hE⟩ := hM
  have hlen : es.size = M.length := by simpa using congrArg List.length hE.rows
  simp [Builtin.len_, run_underlying ht, MapKept.run_getObj_map hb, Result.andThen, hlen, goInt]

theorem run_clear_I {w : World} {t k e : TypeId} (ht : P.underlying t = some (.map k e)) {b : Nat} {M : List (Int × Value)} (hM : MapI w b M) (rt : TypeId) :
    ∃ w1, (Builtin.clear_ #[t] rt #[.map (some b)]).run P w = .ok (.tuple #[]) w1 ∧ MapI w1 b [] ∧ Chg [b] w w1 := by
  obtain ⟨es, clock, hb, hE⟩ := hM
  exact ⟨setBlock w b (.map #[] clock), by simp [Builtin.clear_, run_underlying ht, MapKept.run_getObj_map hb, Result.andThen, run_setObj_map hb], ⟨_, _, blk_setBlock hb _, ⟨rfl, by simp, by simp, by simp⟩⟩, (Chg.refl _ _).setBlock _ _ (by simp)⟩
end

theorem MapI.kept {S : List Nat} {w w' : World} {b : Nat} {M : List (Int × Value)} (h : MapI w b M) (hC : Chg S w w') (hn : b ∉ S) : MapI w' b M := by
  obtain ⟨es, clock, hb, hE⟩ := h
  exact ⟨es, clock, hC.blk hb hn, hE⟩
theorem MapI.lt {w : World} {b : Nat} {M : List (Int × Value)} (h : MapI w b M) : b < w.heap.size := by
  obtain ⟨es, clock, hb, hE⟩ := h
  exact lt_of_blk hb

/-! ### the order of a map's rows does not matter -/
theorem lookup_mem {M : List (Int × Value)} {a : Int} {v : Value} (hn : (M.map (·.1)).Nodup) : M.lookup a = some v ↔ (a, v) ∈ M := by
  induction M with
  | nil => simp
  | cons p M ih =>
    obtain ⟨k, x⟩ := p
    have hn' := List.nodup_cons.1 hn
    rw [List.lookup_cons]
    by_cases hc : a = k
    · subst hc
      simp only [beq_self_eq_true, List.mem_cons, Prod.mk.injEq, true_and]
      constructor
      · intro h; exact .inl (Option.some.inj h).symm
      · rintro (rfl | h)
        · rfl
        · exact absurd (List.mem_map.2 ⟨_, h, rfl⟩) hn'.1
    · have hc' : (a == k) = false := by simpa using hc
      simp only [hc', List.mem_cons, Prod.mk.injEq, hc, false_and, false_or]
      exact ih hn'.2

theorem lookup_perm {M M' : List (Int × Value)} (h : M.Perm M') (hn : (M.map (·.1)).Nodup) (a : Int) : M.lookup a = M'.lookup a := by
  have hn' : (M'.map (·.1)).Nodup := (h.map (·.1)).nodup_iff.1 hn
  cases hc : M.lookup a with
  | some v => exact ((lookup_mem hn').2 (h.mem_iff.1 ((lookup_mem hn).1 hc))).symm
  | none =>
    cases hc' : M'.lookup a with
    | none => rfl
    | some v =>
      have := (lookup_mem hn).2 (h.mem_iff.2 ((lookup_mem hn').1 hc'))
      rw [hc] at this
      cases this

theorem mdel_filter {a : Int} : ∀ {M : List (Int × Value)}, (M.map (·.1)).Nodup → mdel M a = M.filter (fun p => !(p.1 == a))
  | [], _ => rfl
  | (k, x) :: M, hn => by
    have hn' := List.nodup_cons.1 hn
    by_cases hc : a = k
    · subst hc
      have : M.filter (fun p => !(p.1 == a)) = M := List.filter_eq_self.2 (fun p hp => by
        have : p.1 ≠ a := fun e => hn'.1 (List.mem_map.2 ⟨p, hp, e⟩)
        simpa using this)
      simp [mdel, this]
    · have hc' : ¬ k = a := fun e => hc e.symm
      simp [mdel, hc, hc', mdel_filter hn'.2]

theorem mdel_perm {M M' : List (Int × Value)} (h : M.Perm M') (hn : (M.map (·.1)).Nodup) (a : Int) : (mdel M a).Perm (mdel M' a) := by
  rw [mdel_filter hn, mdel_filter ((h.map (·.1)).nodup_iff.1 hn)]
  exact h.filter _

theorem mupd_perm1 {a : Int} {v : Value} : ∀ {M : List (Int × Value)}, (M.map (·.1)).Nodup → (mupd M a v).Perm ((a, v) :: M.filter (fun p => !(p.1 == a)))
  | [], _ => .refl _
  | (k, x) :: M, hn => by
    have hn' := List.nodup_cons.1 hn
    by_cases hc : a = k
    · subst hc
      have : M.filter (fun p => !(p.1 == a)) = M := List.filter_eq_self.2 (fun p hp => by
        have : p.1 ≠ a := fun e => hn'.1 (List.mem_map.2 ⟨p, hp, e⟩)
        simpa using this)
      simp [mupd, this]
    · have hc' : ¬ k = a := fun e => hc e.symm
      simp only [mupd, hc, if_false, List.filter_cons, beq_eq_false_iff_ne.2 hc', Bool.not_false, if_true]
      exact ((mupd_perm1 hn'.2).cons _).trans (List.Perm.swap ..)

theorem mupd_perm {M M' : List (Int × Value)} (h : M.Perm M') (hn : (M.map (·.1)).Nodup) (a : Int) (v : Value) : (mupd M a v).Perm (mupd M' a v) :=
  (mupd_perm1 hn).trans (((h.filter _).cons _).trans (mupd_perm1 ((h.map (·.1)).nodup_iff.1 hn)).symm)

theorem MapI.nodup {w : World} {b : Nat} {M : List (Int × Value)} (h : MapI w b M) : (M.map (·.1)).Nodup := by
  obtain ⟨es, clock, hb, hE⟩ := h
  exact hE.keys

/-- Block b is a map whose rows are those of M, in whatever order. -/
def MapP (w : World) (b : Nat) (M : List (Int × Value)) : Prop := ∃ M', MapI w b M' ∧ M'.Perm M

theorem MapP.nodup {w : World} {b : Nat} {M : List (Int × Value)} (h : MapP w b M) : (M.map (·.1)).Nodup := by
  obtain ⟨M', hm, hp⟩ := h
  exact (hp.map (·.1)).nodup_iff.1 hm.nodup
theorem MapP.kept {S : List Nat} {w w' : World} {b : Nat} {M : List (Int × Value)} (h : MapP w b M) (hC : Chg S w w') (hn : b ∉ S) : MapP w' b M := by
  obtain ⟨M', hm, hp⟩ := h
  exact ⟨M', hm.kept hC hn, hp⟩
theorem MapP.lt {w : World} {b : Nat} {M : List (Int × Value)} (h : MapP w b M) : b < w.heap.size := by
  obtain ⟨M', hm, hp⟩ := h
  exact hm.lt
theorem MapP.ne {w : World} {b a : Nat} {M : List (Int × Value)} {cs : Array Value} {T : TypeId} {fr : Nat × Nat} (h : MapP w b M) (ha : w.heap[a]? = some (.cells cs T fr)) : b ≠ a := by
  intro e
  obtain ⟨M', ⟨es, cl, hb, _⟩, _⟩ := h
  rw [e, ha] at hb
  cases hb

section
variable {P : Program}
theorem run_lookup_P {w : World} {t k e : TypeId} (ht : P.underlying t = some (.map k e)) (hk : P.underlying k = some (.int .i64)) {z : Value} (hz : (zeroValue e).run P w = .ok z w)
    {b : Nat} {M : List (Int × Value)} (hM : MapP w b M) (a : Int) :
    (Instr.lookup t (.map (some b)) (.int .i64 a) true).run P w = .ok (.tuple #[(M.lookup a).getD z, .bool (M.lookup a).isSome]) w := by
  obtain ⟨M', hm, hp⟩ := hM
  rw [run_lookup_I ht hk hz hm a, lookup_perm hp hm.nodup]
theorem run_lookup_P1 {w : World} {t k e : TypeId} (ht : P.underlying t = some (.map k e)) (hk : P.underlying k = some (.int .i64)) {z : Value} (hz : (zeroValue e).run P w = .ok z w)
    {b : Nat} {M : List (Int × Value)} (hM : MapP w b M) (a : Int) :
    (Instr.lookup t (.map (some b)) (.int .i64 a) false).run P w = .ok ((M.lookup a).getD z) w := by
  obtain ⟨M', hm, hp⟩ := hM
  rw [run_lookup_I1 ht hk hz hm a, lookup_perm hp hm.nodup]
theorem run_update_P {w : World} {t k e : TypeId} (ht : P.underlying t = some (.map k e)) (hk : P.underlying k = some (.int .i64))
    {b : Nat} {M : List (Int × Value)} (hM : MapP w b M) (a : Int) (v : Value) :
    ∃ w1, (Instr.mapUpdate t (.map (some b)) (.int .i64 a) v).run P w = .ok () w1 ∧ MapP w1 b (mupd M a v) ∧ Chg [b] w w1 := by
  obtain ⟨M', hm, hp⟩ := hM
  obtain ⟨w1, hr, hm1, hc⟩ := run_update_I ht hk hm a v
  exact ⟨w1, hr, ⟨_, hm1, mupd_perm hp hm.nodup a v⟩, hc⟩
theorem run_delete_P {w : World} {t k e : TypeId} (ht : P.underlying t = some (.map k e)) (hk : P.underlying k = some (.int .i64))
    {b : Nat} {M : List (Int × Value)} (hM : MapP w b M) (a : Int) (tk rt : TypeId) :
    ∃ w1, (Builtin.delete_ #[t, tk] rt #[.map (some b), .int .i64 a]).run P w = .ok (.tuple #[]) w1 ∧ MapP w1 b (mdel M a) ∧ Chg [b] w w1 := by
  obtain ⟨M', hm, hp⟩ := hM
  obtain ⟨w1, hr, hm1, hc⟩ := run_delete_I ht hk hm a tk rt
  exact ⟨w1, hr, ⟨_, hm1, mdel_perm hp hm.nodup a⟩, hc⟩
theorem run_len_P {w : World} {t k e : TypeId} (ht : P.underlying t = some (.map k e)) {b : Nat} {M : List (Int × Value)} (hM : MapP w b M) (rt : TypeId) :
    (Builtin.len_ #[t] rt #[.map (some b)]).run P w = .ok (.int .i64 (M.length : Int)) w := by
  obtain ⟨M', hm, hp⟩ := hM
  rw [run_len_I ht hm rt, hp.length_eq]
theorem run_clear_P {w : World} {t k e : TypeId} (ht : P.underlying t = some (.map k e)) {b : Nat} {M : List (Int × Value)} (hM : MapP w b M) (rt : TypeId) :
    ∃ w1, (Builtin.clear_ #[t] rt #[.map (some b)]).run P w = .ok (.tuple #[]) w1 ∧ MapP w1 b [] ∧ Chg [b] w w1 := by
  obtain ⟨M', hm, hp⟩ := hM
  obtain ⟨w1, hr, hm1, hc⟩ := run_clear_I ht hm rt
  exact ⟨w1, hr, ⟨_, hm1, .refl _⟩, hc⟩
end
theorem MapP.made (w : World) : MapP (w.alloc (.map #[] 0)) w.heap.size [] := ⟨[], ⟨#[], 0, heap_alloc_eq w _, ⟨rfl, by simp, by simp, by simp⟩⟩, .refl _⟩

end Go.Proofs.YtkkjbnmfjhmobaaDoor
