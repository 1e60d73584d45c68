/- Blk, Wspec, Wa, Wb, Wc, Wd, Rng, joined. -/
import Derived.WalkKit
import Derived.WalkSpells
import Derived.WalkLawsBesides
import Derived.StillTailTactics
import Derived.Deep.QuietTactic
import Derived.BigQuiet
import Derived.Lib.Hide
import Derived.Test.YtiiafhlckmkcnaaGreatRows
import Derived.Sort.Grow
import Derived.Lib.Small
import Derived.LoopN
import Derived.Maps.AppendAt
/- Plain laws on worlds, block by block: what a step leaves as it was (Chg); cells of a known block; maps keyed by int as a list of pairs (MapI) and what lookup, update, delete, len and clear do to them. No program in sight. -/
namespace Go.Proofs.YtiiafhlckmkcnaaGreat
open Go.RowKit Go.ChangeMaps Go.MapKept

/-- All but the blocks of S is as it was; new blocks may have come. -/
structure Chg (S : List Nat) (w w' : World) : Prop where
  os : w'.os = w.os
  tape : w'.tape = w.tape
  output : w'.output = w.output
  size : w.heap.size ≤ w'.heap.size
  block : ∀ k, k < w.heap.size → k ∉ S → w'.heap[k]? = w.heap[k]?

theorem Chg.refl (S : List Nat) (w : World) : Chg S w w := ⟨rfl, rfl, rfl, Nat.le_refl _, fun _ _ _ => rfl⟩

theorem lt_of_blk {w : World} {k : Nat} {o : Obj} (h : w.heap[k]? = some o) : k < w.heap.size := (Array.getElem?_eq_some_iff.1 h).1

theorem Chg.trans' {S S2 : List Nat} {a b c : World} (h : Chg S a b) (g : Chg S2 b c) (hS : ∀ k ∈ S2, k ∈ S ∨ a.heap.size ≤ k) : Chg S a c :=
  ⟨g.os.trans h.os, g.tape.trans h.tape, g.output.trans h.output, Nat.le_trans h.size g.size, fun k hk hn =>
    (g.block k (Nat.lt_of_lt_of_le hk h.size) (fun hm => by rcases hS k hm with h1 | h1; exact hn h1; omega)).trans (h.block k hk hn)⟩

theorem Chg.trans {S : List Nat} {a b c : World} (h : Chg S a b) (g : Chg S b c) : Chg S a c := h.trans' g fun _ hk => .inl hk

theorem Chg.mono {S S2 : List Nat} {a b : World} (h : Chg S a b) (hS : ∀ k ∈ S, k ∈ S2 ∨ a.heap.size ≤ k) : Chg S2 a b := (Chg.refl S2 a).trans' h hS

theorem Chg.blk {S : List Nat} {a b : World} {k : Nat} {o : Obj} (h : Chg S a b) (hb : a.heap[k]? = some o) (hn : k ∉ S) : b.heap[k]? = some o :=
  (h.block k (lt_of_blk hb) hn).trans hb

theorem Chg.drew {S : List Nat} {a b : World} (h : Chg S a b) : Chg S a b.drew := ⟨h.os, h.tape, h.output, h.size, h.block⟩
theorem Chg.drewN {S : List Nat} {a b : World} (h : Chg S a b) (n : Nat) : Chg S a (b.drewN n) := ⟨h.os, h.tape, h.output, h.size, h.block⟩

theorem heap_alloc_lt (w : World) (o : Obj) (k : Nat) (h : k < w.heap.size) : (w.alloc o).heap[k]? = w.heap[k]? := Below.heap_alloc w o k h
theorem heap_alloc_eq (w : World) (o : Obj) : (w.alloc o).heap[w.heap.size]? = some o := heap_alloc_new w o

theorem Chg.alloc {S : List Nat} {a b : World} (h : Chg S a b) (o : Obj) : Chg S a (b.alloc o) :=
  h.trans ⟨rfl, rfl, rfl, by simp, fun k hk _ => heap_alloc_lt _ _ _ hk⟩

theorem Chg.setCell {S : List Nat} {a b : World} (h : Chg S a b) (p : Addr) (v : Value) (hp : p.block ∈ S ∨ a.heap.size ≤ p.block) : Chg S a (b.setCell p v) :=
  h.trans' (S2 := [p.block]) ⟨rfl, rfl, rfl, by simp [World.setCell], fun k _ hn => Below.heap_setCell _ _ _ _ (by simpa using hn)⟩ (by simpa using hp)

theorem Chg.setBlock {S : List Nat} {a b : World} (h : Chg S a b) (r : Nat) (o : Obj) (hp : r ∈ S ∨ a.heap.size ≤ r) : Chg S a (setBlock b r o) :=
  h.trans' (S2 := [r]) ⟨rfl, rfl, rfl, by simp [Go.ChangeMaps.setBlock], fun k _ hn => by
    have : r ≠ k := fun e => hn (by simp [e])
    simp [Go.ChangeMaps.setBlock, this]⟩ (by simpa using hp)

theorem Chg.below {B : Nat} {a b : World} (h : Chg [] a b) (hB : B ≤ a.heap.size) : Below B a b :=
  ⟨h.os, h.tape, h.output, h.size, fun k hk => h.block k (Nat.lt_of_lt_of_le hk hB) (by simp)⟩
theorem Chg.of_below {S : List Nat} {a b : World} (h : Below a.heap.size a b) : Chg S a b := ⟨h.os, h.tape, h.output, h.size, fun k hk _ => h.block k hk⟩
theorem Chg.of_grown {S : List Nat} {a b : World} {row : Option Nat} (hg : a.grownBy b row) (hr : ∀ k, row = some k → k ∈ S) : Chg S a b :=
  ⟨hg.os, hg.tape, hg.output, hg.size, fun k hk hn => hg.block k hk (fun e => hn (hr k e.symm))⟩

theorem ret_i64 {a b : Int} (h : a = b) : Ending.returned (.int .i64 a) = .returned (.int .i64 b) := by rw [h]
theorem ret_bool {a b : Bool} (h : a = b) : Ending.returned (.bool a) = .returned (.bool b) := by rw [h]

/-- A region that draws: reads ahead of one last stretch that is forced. -/
theorem region_still_tail {P : Program} {id : Nat} {Q : Exit → Act → World → Prop} {a : Act} {w : World} {l : List Oper} (n : Nat) (hm : P.follows .mixedOrders = true) (hB : Region.lexTailB .any l.toArray n = true)
    (h : wpStill P l.toArray w.drew (fun a' => wpList P l.toArray Q (l.drop n) a' w.drew) (l.take n) a) : (Code.region id l.toArray true).wp P Q a w := wp_region_still_tail n hm hB h

/-! ### cells of a known block -/
theorem cellB {w : World} {b i : Nat} {cs : Array Value} {T : TypeId} {fr : Nat × Nat} {v : Value} (h : w.heap[b]? = some (.cells cs T fr)) (hi : cs[i]? = some v) : w.cell? ⟨b, i, none⟩ = some v := by
  simp [World.cell?, h, hi]
theorem frozenB {w : World} {b : Nat} {cs : Array Value} {T : TypeId} (h : w.heap[b]? = some (.cells cs T (0, 0))) (i : Nat) : w.frozen? ⟨b, i, none⟩ = false := by
  simp [World.frozen?, h]
theorem blk_setCell {w : World} {b i : Nat} {cs : Array Value} {T : TypeId} {fr : Nat × Nat} (h : w.heap[b]? = some (.cells cs T fr)) (v : Value) : (w.setCell ⟨b, i, none⟩ v).heap[b]? = some (.cells (cs.setIfInBounds i v) T fr) := by
  simp [World.setCell, Array.getElem?_modify, h]
theorem blk_setCell_ne {w : World} {b : Nat} {p : Addr} {o : Obj} (h : w.heap[b]? = some o) (hn : b ≠ p.block) (v : Value) : (w.setCell p v).heap[b]? = some o :=
  (Below.heap_setCell _ _ _ _ hn).trans h
theorem blk_alloc {w : World} {b : Nat} {o : Obj} (h : w.heap[b]? = some o) (x : Obj) : (w.alloc x).heap[b]? = some o := (heap_alloc_lt _ _ _ (lt_of_blk h)).trans h
theorem blk_setBlock {w : World} {b : Nat} {o : Obj} (h : w.heap[b]? = some o) (x : Obj) : (setBlock w b x).heap[b]? = some x := by
  have := lt_of_blk h
  simp [setBlock, this]
theorem blk_setBlock_ne {w : World} {b r : Nat} {o : Obj} (h : w.heap[b]? = some o) (hn : b ≠ r) (x : Obj) : (setBlock w r x).heap[b]? = some o := by
  have : r ≠ b := fun e => hn e.symm
  simp [setBlock, this, h]

/-! ### maps keyed by int -/
structure MapE (es : Array MapEntry) (clock : Nat) (M : List (Int × Value)) : Prop where
  rows : es.toList.map (fun e => (e.key, e.val)) = M.map (fun p => (Value.int .i64 p.1, p.2))
  born : (es.toList.map (·.born)).Nodup
  old : ∀ e ∈ es.toList, e.born < clock
  keys : (M.map (·.1)).Nodup

def MapI (w : World) (b : Nat) (M : List (Int × Value)) : Prop := ∃ es clock, w.heap[b]? = some (.map es clock) ∧ MapE es clock M

def mupd : List (Int × Value) → Int → Value → List (Int × Value)
  | [], a, v => [(a, v)]
  | (k, x) :: r, a, v => if a = k then (a, v) :: r else (k, x) :: mupd r a v
def mdel : List (Int × Value) → Int → List (Int × Value)
  | [], _ => []
  | (k, x) :: r, a => if a = k then r else (k, x) :: mdel r a

theorem findNow_I (a : Int) : ∀ (es : List MapEntry) (M : List (Int × Value)) (i : Nat), es.map (fun e => (e.key, e.val)) = M.map (fun p => (Value.int .i64 p.1, p.2)) →
    Instr.findNow (.int .i64) (.int .i64 a) es i = some ((M.findIdx? (fun p => a == p.1)).bind fun j => (M[j]?).map fun p => (i + j, p.2))
  | [], [], i, _ => by simp [Instr.findNow]
  | [], _ :: _, _, h => by simp at h
  | _ :: _, [], _, h => by simp at h
  | e :: es, p :: M, i, h => by
    simp only [List.map_cons, List.cons.injEq, Prod.mk.injEq] at h
    obtain ⟨⟨h1, h2⟩, h3⟩ := h
    simp only [Instr.findNow, h1, Instr.sameNow, if_true]
    by_cases hc : a = p.1
    · simp [hc, List.findIdx?_cons, h2]
    · have hc' : (a == p.1) = false := by simpa using hc
      simp only [hc', List.findIdx?_cons, Bool.false_eq_true, if_false]
      rw [findNow_I a es M (i + 1) h3]
      cases hf : M.findIdx? (fun q => a == q.1) with
      | none => simp
      | some j => simp [Nat.add_assoc, Nat.add_comm 1 j]

theorem lookup_findIdx (a : Int) : ∀ (M : List (Int × Value)), ((M.findIdx? (fun p => a == p.1)).bind fun j => (M[j]?).map fun p => p.2) = M.lookup a
  | [] => by simp
  | p :: M => by
    obtain ⟨k, x⟩ := p
    by_cases hc : a = k
    · simp [hc, List.findIdx?_cons]
    · have hc' : (a == k) = false := by simpa using hc
      simp only [List.findIdx?_cons, hc', Bool.false_eq_true, if_false, List.lookup_cons]
      rw [← lookup_findIdx a M]
      cases hf : M.findIdx? (fun q => a == q.1) with
      | none => simp
      | some j => simp


theorem findIdx_lookup_none {a : Int} : ∀ {M : List (Int × Value)}, M.findIdx? (fun p => a == p.1) = none → M.lookup a = none
  | [], _ => rfl
  | (k, x) :: M, h => by
    rw [List.findIdx?_cons] at h
    by_cases hc : a = k
    · simp [hc] at h
    · have hc' : (a == k) = false := by simpa using hc
      simp only [hc', Bool.false_eq_true, if_false, Option.map_eq_none_iff] at h
      rw [List.lookup_cons, hc']
      exact findIdx_lookup_none h

theorem mupd_set {a : Int} {v : Value} : ∀ {M : List (Int × Value)} {j : Nat}, M.findIdx? (fun p => a == p.1) = some j → mupd M a v = M.set j (a, v)
  | [], _, h => by simp at h
  | (k, x) :: M, j, h => by
    rw [List.findIdx?_cons] at h
    by_cases hc : a = k
    · simp [hc] at h
      subst h
      simp [mupd, hc]
    · have hc' : (a == k) = false := by simpa using hc
      simp only [hc', Bool.false_eq_true, if_false, Option.map_eq_some_iff] at h
      obtain ⟨i, hi, rfl⟩ := h
      simp [mupd, hc, mupd_set hi]

theorem mupd_push {a : Int} {v : Value} : ∀ {M : List (Int × Value)}, M.findIdx? (fun p => a == p.1) = none → mupd M a v = M ++ [(a, v)]
  | [], _ => rfl
  | (k, x) :: M, h => by
    rw [List.findIdx?_cons] at h
    by_cases hc : a = k
    · simp [hc] at h
    · have hc' : (a == k) = false := by simpa using hc
      simp only [hc', Bool.false_eq_true, if_false, Option.map_eq_none_iff] at h
      simp [mupd, hc, mupd_push h]

theorem mdel_erase {a : Int} : ∀ {M : List (Int × Value)} {j : Nat}, M.findIdx? (fun p => a == p.1) = some j → mdel M a = M.eraseIdx j
  | [], _, h => by simp at h
  | (k, x) :: M, j, h => by
    rw [List.findIdx?_cons] at h
    by_cases hc : a = k
    · simp [hc] at h
      subst h
      simp [mdel, hc]
    · have hc' : (a == k) = false := by simpa using hc
      simp only [hc', Bool.false_eq_true, if_false, Option.map_eq_some_iff] at h
      obtain ⟨i, hi, rfl⟩ := h
      simp [mdel, hc, mdel_erase hi]

theorem mdel_none {a : Int} : ∀ {M : List (Int × Value)}, M.findIdx? (fun p => a == p.1) = none → mdel M a = M
  | [], _ => rfl
  | (k, x) :: M, h => by
    rw [List.findIdx?_cons] at h
    by_cases hc : a = k
    · simp [hc] at h
    · have hc' : (a == k) = false := by simpa using hc
      simp only [hc', Bool.false_eq_true, if_false, Option.map_eq_none_iff] at h
      simp [mdel, hc, mdel_none h]

theorem notmem_of_findIdx_none {a : Int} {M : List (Int × Value)} (h : M.findIdx? (fun p => a == p.1) = none) : a ∉ M.map (·.1) := by
  intro hm
  obtain ⟨p, hp, rfl⟩ := List.mem_map.1 hm
  have := List.findIdx?_eq_none_iff.1 h p hp
  simp at this

theorem key_of_findIdx {a : Int} : ∀ {M : List (Int × Value)} {j : Nat}, M.findIdx? (fun p => a == p.1) = some j → ∃ x, M[j]? = some (a, x)
  | [], _, h => by simp at h
  | (k, x) :: M, j, h => by
    rw [List.findIdx?_cons] at h
    by_cases hc : a = k
    · simp [hc] at h
      subst h
      exact ⟨x, by simp [hc]⟩
    · have hc' : (a == k) = false := by simpa using hc
      simp only [hc', Bool.false_eq_true, if_false, Option.map_eq_some_iff] at h
      obtain ⟨i, hi, rfl⟩ := h
      obtain ⟨y, hy⟩ := key_of_findIdx hi
      exact ⟨y, by simpa using hy⟩

theorem map_eraseIdx {α β : Type} (f : α → β) : ∀ (l : List α) (j : Nat), (l.eraseIdx j).map f = (l.map f).eraseIdx j
  | [], _ => by simp
  | _ :: l, 0 => by simp
  | _ :: l, j + 1 => by simp [map_eraseIdx f l j]

section
variable {P : Program}

theorem run_checkKey_int (w : World) (k : TypeId) (n : Nat) (b : Bool) (q : IntKind) (a : Int) (hk : P.underlying k = some (.int q)) : (Instr.checkKey b (n + 1) k (.int q a)).run P w = .ok () w := by
  simp [Instr.checkKey, run_underlying hk]

theorem run_checkKey_I (w : World) (k : TypeId) (b : Bool) (q : IntKind) (a : Int) (hk : P.underlying k = some (.int q)) : (Instr.checkKey b 10000 k (.int q a)).run P w = .ok () w :=
  run_checkKey_int w k 9999 b q a hk

theorem run_findKey_I {w : World} {k : TypeId} (hk : P.underlying k = some (.int .i64)) (a : Int) {es : Array MapEntry} {M : List (Int × Value)}
    (h : es.toList.map (fun e => (e.key, e.val)) = M.map (fun p => (Value.int .i64 p.1, p.2))) :
    (Instr.findKey k (.int .i64 a) es.toList).run P w = .ok ((M.findIdx? (fun p => a == p.1)).bind fun j => (M[j]?).map fun p => (j, p.2)) w := by
  have h1 := findNow_I a es.toList M 0 h
  simp only [Nat.zero_add] at h1
  simp [Instr.findKey, run_underlying hk, h1]

theorem run_lookup_I {w : World} {t k e : TypeId} (ht : P.underlying t = some (.map k e)) (hk : P.underlying k = some (.int .i64)) {z : Value} (hz : (zeroValue e).run P w = .ok z w)
    {b : Nat} {M : List (Int × Value)} (hM : MapI w b M) (a : Int) :
    (Instr.lookup t (.map (some b)) (.int .i64 a) true).run P w = .ok (.tuple #[(M.lookup a).getD z, .bool (M.lookup a).isSome]) w := by
  obtain ⟨es, clock, hb, hE⟩ := hM
  have hf := run_findKey_I (w := w) hk a hE.rows
  have hl := lookup_findIdx a M
  have hck := run_checkKey_I w k es.isEmpty .i64 a hk
  cases hj : M.findIdx? (fun p => a == p.1) with
  | none =>
    rw [hj] at hf
    simp [Instr.lookup, run_underlying ht, Result.andThen, MapKept.run_getObj_map hb, hck, hf, hz, findIdx_lookup_none hj]
  | some j =>
    obtain ⟨x, hx⟩ := key_of_findIdx hj
    rw [hj] at hl hf
    simp [hx] at hl hf
    simp [Instr.lookup, run_underlying ht, Result.andThen, MapKept.run_getObj_map hb, hck, hf, ← hl]

theorem run_lookup_I1 {w : World} {t k e : TypeId} (ht : P.underlying t = some (.map k e)) (hk : P.underlying k = some (.int .i64)) {z : Value} (hz : (zeroValue e).run P w = .ok z w)
    {b : Nat} {M : List (Int × Value)} (hM : MapI w b M) (a : Int) :
    (Instr.lookup t (.map (some b)) (.int .i64 a) false).run P w = .ok ((M.lookup a).getD z) w := by
  obtain ⟨es, clock, hb, hE⟩ := hM
  have hf := run_findKey_I (w := w) hk a hE.rows
  have hl := lookup_findIdx a M
  have hck := run_checkKey_I w k es.isEmpty .i64 a hk
  cases hj : M.findIdx? (fun p => a == p.1) with
  | none =>
    rw [hj] at hf
    simp [Instr.lookup, run_underlying ht, Result.andThen, MapKept.run_getObj_map hb, hck, hf, hz, findIdx_lookup_none hj]
  | some j =>
    obtain ⟨x, hx⟩ := key_of_findIdx hj
    rw [hj] at hl hf
    simp [hx] at hl hf
    simp [Instr.lookup, run_underlying ht, Result.andThen, MapKept.run_getObj_map hb, hck, hf, ← hl]

theorem run_setObj_map {w : World} {b : Nat} {es : Array MapEntry} {clock : Nat} (hb : w.heap[b]? = some (.map es clock)) (o : Obj) : (setObj b o).run P w = .ok () (setBlock w b o) := by
  simp [setObj, Sem.run, hb, setBlock]

theorem run_update_I {w : World} {t k e : TypeId} (ht : P.underlying t = some (.map k e)) (hk : P.underlying k = some (.int .i64))
    {b : Nat} {M : List (Int × Value)} (hM : MapI w b M) (a : Int) (v : Value) :
    ∃ w1, (Instr.mapUpdate t (.map (some b)) (.int .i64 a) v).run P w = .ok () w1 ∧ MapI w1 b (mupd M a v) ∧ Chg [b] w w1 := by
  obtain ⟨es, clock, hb, hE⟩ := hM
  have hf := run_findKey_I (w := w) hk a hE.rows
  simp only [Instr.mapUpdate, Sem.run_bind, run_underlying ht, Result.andThen, MapKept.run_getObj_map hb, run_checkKey_I w k _ _ a hk, hf]
  have hlen : es.toList.length = M.length := by simpa using congrArg List.length hE.rows
  cases hj : M.findIdx? (fun p => a == p.1) with
  | none =>
    refine ⟨setBlock w b (.map (es.push { key := .int .i64 a, val := v, born := clock }) (clock + 1)), by simp [run_setObj_map hb], ⟨_, _, blk_setBlock hb _, ?_⟩, (Chg.refl _ _).setBlock _ _ (by simp)⟩
    rw [mupd_push hj]
    refine ⟨by simp [hE.rows], ?_, ?_, ?_⟩
    · simp only [Array.toList_push, List.map_append, List.map_cons, List.map_nil]
      refine List.nodup_append.2 ⟨hE.born, by simp, ?_⟩
      intro x hx y hy
      simp at hy
      subst hy
      obtain ⟨e0, he0, rfl⟩ := List.mem_map.1 hx
      have := hE.old e0 he0
      omega
    · intro e0 he0
      simp only [Array.toList_push, List.mem_append, List.mem_singleton] at he0
      rcases he0 with he0 | rfl
      · have := hE.old e0 he0; omega
      · simp
    · simp only [List.map_append, List.map_cons, List.map_nil]
      refine List.nodup_append.2 ⟨hE.keys, by simp, ?_⟩
      intro x hx y hy
      simp at hy
      subst hy
      intro e1
      subst e1
      exact notmem_of_findIdx_none hj hx
  | some j =>
    obtain ⟨x, hx⟩ := key_of_findIdx hj
    have hjl : j < M.length := (List.getElem?_eq_some_iff.1 hx).1
    have hje : j < es.size := by rw [← Array.length_toList, hlen]; exact hjl
    have hkey : es[j].key = .int .i64 a := by
      have := congrArg (fun l => l[j]?) hE.rows
      simp [hx, hje] at this
      exact this.1
    have hkts : (Instr.keyThatStays (.int .i64 a) (.int .i64 a)).run P w = .ok (.int .i64 a) w := by simp [Instr.keyThatStays, Instr.sameBits]
    refine ⟨setBlock w b (.map (es.modify j fun e => { e with key := .int .i64 a, val := v }) clock), ?_, ⟨_, _, blk_setBlock hb _, ?_⟩, (Chg.refl _ _).setBlock _ _ (by simp)⟩
    · simp [hx, hje, hkey, hkts, Result.andThen, run_setObj_map hb]
    · rw [mupd_set hj]
      have hml : (es.modify j fun e => { e with key := .int .i64 a, val := v }).toList = es.toList.set j { key := .int .i64 a, val := v, born := es[j].born } := by
        apply List.ext_getElem?
        intro i
        rw [Array.getElem?_toList, Array.getElem?_modify, List.getElem?_set]
        by_cases hi : j = i
        · subst hi
          simp [hje]
        · simp [hi]
      have hb2 : (es.toList.set j { key := .int .i64 a, val := v, born := es[j].born }).map (·.born) = es.toList.map (·.born) := by
        rw [List.map_set]
        apply List.ext_getElem?
        intro i
        rw [List.getElem?_set]
        by_cases hi : j = i
        · subst hi
          simp [hje]
        · simp [hi]
      refine ⟨?_, ?_, ?_, ?_⟩
      · rw [hml, List.map_set, hE.rows, List.map_set]
      · rw [hml, hb2]; exact hE.born
      · intro e0 he0
        rw [hml] at he0
        have hm : e0.born ∈ (es.toList.set j { key := .int .i64 a, val := v, born := es[j].born }).map (·.born) := List.mem_map.2 ⟨e0, he0, rfl⟩
        rw [hb2] at hm
        obtain ⟨e1, he1, h2⟩ := List.mem_map.1 hm
        have := hE.old e1 he1
        omega
      · rw [List.map_set]
        have : (M.map (·.1)).set j a = M.map (·.1) := by
          apply List.ext_getElem?
          intro i
          rw [List.getElem?_set]
          by_cases hi : j = i
          · subst hi
            have hx2 : M[j] = (a, x) := by simpa [hjl] using hx
            simp [hjl, hx2]
          · simp [hi]
        rw [this]
        exact hE.keys

theorem run_delete_I {w : World} {t k e : TypeId} (ht : P.underlying t = some (.map k e)) (hk : P.underlying k = some (.int .i64))
    {b : Nat} {M : List (Int × Value)} (hM : MapI w b M) (a : Int) (tk rt : TypeId) :
    ∃ w1, (Builtin.delete_ #[t, tk] rt #[.map (some b), .int .i64 a]).run P w = .ok (.tuple #[]) w1 ∧ MapI w1 b (mdel M a) ∧ Chg [b] w w1 := by
  obtain ⟨es, clock, hb, hE⟩ := hM
  have hf := run_findKey_I (w := w) hk a hE.rows
  have hlen : es.toList.length = M.length := by simpa using congrArg List.length hE.rows
  cases hj : M.findIdx? (fun p => a == p.1) with
  | none =>
    rw [hj] at hf
    refine ⟨setBlock w b (.map es clock), ?_, ⟨_, _, blk_setBlock hb _, ?_⟩, (Chg.refl _ _).setBlock _ _ (by simp)⟩
    · simp [Builtin.delete_, run_underlying ht, MapKept.run_getObj_map hb, run_checkKey_I w k _ _ a hk, hf, run_setObj_map hb, Result.andThen]
    · rw [mdel_none hj]; exact hE
  | some j =>
    obtain ⟨x, hx⟩ := key_of_findIdx hj
    have hjl : j < M.length := (List.getElem?_eq_some_iff.1 hx).1
    have hje : j < es.size := by rw [← Array.length_toList, hlen]; exact hjl
    rw [hj] at hf
    refine ⟨setBlock w b (.map (es.eraseIdxIfInBounds j) clock), ?_, ⟨_, _, blk_setBlock hb _, ?_⟩, (Chg.refl _ _).setBlock _ _ (by simp)⟩
    · simp [Builtin.delete_, run_underlying ht, MapKept.run_getObj_map hb, run_checkKey_I w k _ _ a hk, hf, hx, run_setObj_map hb, Result.andThen]
    · rw [mdel_erase hj]
      have hml : (es.eraseIdxIfInBounds j).toList = es.toList.eraseIdx j := by simp [Array.eraseIdxIfInBounds, hje]
      refine ⟨?_, ?_, ?_, ?_⟩
      · rw [hml, map_eraseIdx, hE.rows, map_eraseIdx]
      · rw [hml, map_eraseIdx]; exact hE.born.sublist (List.eraseIdx_sublist ..)
      · intro e0 he0
        rw [hml] at he0
        exact hE.old e0 ((List.eraseIdx_sublist ..).subset he0)
      · rw [map_eraseIdx]; exact hE.keys.sublist (List.eraseIdx_sublist ..)

theorem run_len_I {w : World} {t k e : TypeId} (ht : P.underlying t = some (.map k e)) {b : Nat} {M : List (Int × Value)} (hM : MapI w b M) (rt : TypeId) :
    (Builtin.len_ #[t] rt #[.map (some b)]).run P w = .ok (.int .i64 (M.length : Int)) w := by
  obtain ⟨es, clock, hb, hE⟩ := hM
  have hlen : es.size = M.length := by simpa using congrArg List.length hE.rows
  simp [Builtin.len_, run_underlying ht, MapKept.run_getObj_map hb, Result.andThen, hlen, goInt]

theorem run_clear_I {w : World} {t k e : TypeId} (ht : P.underlying t = some (.map k e)) {b : Nat} {M : List (Int × Value)} (hM : MapI w b M) (rt : TypeId) :
    ∃ w1, (Builtin.clear_ #[t] rt #[.map (some b)]).run P w = .ok (.tuple #[]) w1 ∧ MapI w1 b [] ∧ Chg [b] w w1 := by
  obtain ⟨es, clock, hb, hE⟩ := hM
  exact ⟨setBlock w b (.map #[] clock), by simp [Builtin.clear_, run_underlying ht, MapKept.run_getObj_map hb, Result.andThen, run_setObj_map hb], ⟨_, _, blk_setBlock hb _, ⟨rfl, by simp, by simp, by simp⟩⟩, (Chg.refl _ _).setBlock _ _ (by simp)⟩
end

theorem MapI.kept {S : List Nat} {w w' : World} {b : Nat} {M : List (Int × Value)} (h : MapI w b M) (hC : Chg S w w') (hn : b ∉ S) : MapI w' b M := by
  obtain ⟨es, clock, hb, hE⟩ := h
  exact ⟨es, clock, hC.blk hb hn, hE⟩
theorem MapI.lt {w : World} {b : Nat} {M : List (Int × Value)} (h : MapI w b M) : b < w.heap.size := by
  obtain ⟨es, clock, hb, hE⟩ := h
  exact lt_of_blk hb

/-! ### the order of a map's rows does not matter -/
theorem lookup_mem {M : List (Int × Value)} {a : Int} {v : Value} (hn : (M.map (·.1)).Nodup) : M.lookup a = some v ↔ (a, v) ∈ M := by
  induction M with
  | nil => simp
  | cons p M ih =>
    obtain ⟨k, x⟩ := p
    have hn' := List.nodup_cons.1 hn
    rw [List.lookup_cons]
    by_cases hc : a = k
    · subst hc
      simp only [beq_self_eq_true, List.mem_cons, Prod.mk.injEq, true_and]
      constructor
      · intro h; exact .inl (Option.some.inj h).symm
      · rintro (rfl | h)
        · rfl
        · exact absurd (List.mem_map.2 ⟨_, h, rfl⟩) hn'.1
    · have hc' : (a == k) = false := by simpa using hc
      simp only [hc', List.mem_cons, Prod.mk.injEq, hc, false_and, false_or]
      exact ih hn'.2

theorem lookup_perm {M M' : List (Int × Value)} (h : M.Perm M') (hn : (M.map (·.1)).Nodup) (a : Int) : M.lookup a = M'.lookup a := by
  have hn' : (M'.map (·.1)).Nodup := (h.map (·.1)).nodup_iff.1 hn
  cases hc : M.lookup a with
  | some v => exact ((lookup_mem hn').2 (h.mem_iff.1 ((lookup_mem hn).1 hc))).symm
  | none =>
    cases hc' : M'.lookup a with
    | none => rfl
    | some v =>
      have := (lookup_mem hn).2 (h.mem_iff.2 ((lookup_mem hn').1 hc'))
      rw [hc] at this
      cases this

theorem mdel_filter {a : Int} : ∀ {M : List (Int × Value)}, (M.map (·.1)).Nodup → mdel M a = M.filter (fun p => !(p.1 == a))
  | [], _ => rfl
  | (k, x) :: M, hn => by
    have hn' := List.nodup_cons.1 hn
    by_cases hc : a = k
    · subst hc
      have : M.filter (fun p => !(p.1 == a)) = M := List.filter_eq_self.2 (fun p hp => by
        have : p.1 ≠ a := fun e => hn'.1 (List.mem_map.2 ⟨p, hp, e⟩)
        simpa using this)
      simp [mdel, this]
    · have hc' : ¬ k = a := fun e => hc e.symm
      simp [mdel, hc, hc', mdel_filter hn'.2]

theorem mdel_perm {M M' : List (Int × Value)} (h : M.Perm M') (hn : (M.map (·.1)).Nodup) (a : Int) : (mdel M a).Perm (mdel M' a) := by
  rw [mdel_filter hn, mdel_filter ((h.map (·.1)).nodup_iff.1 hn)]
  exact h.filter _

theorem mupd_perm1 {a : Int} {v : Value} : ∀ {M : List (Int × Value)}, (M.map (·.1)).Nodup → (mupd M a v).Perm ((a, v) :: M.filter (fun p => !(p.1 == a)))
  | [], _ => .refl _
  | (k, x) :: M, hn => by
    have hn' := List.nodup_cons.1 hn
    by_cases hc : a = k
    · subst hc
      have : M.filter (fun p => !(p.1 == a)) = M := List.filter_eq_self.2 (fun p hp => by
        have : p.1 ≠ a := fun e => hn'.1 (List.mem_map.2 ⟨p, hp, e⟩)
        simpa using this)
      simp [mupd, this]
    · have hc' : ¬ k = a := fun e => hc e.symm
      simp only [mupd, hc, if_false, List.filter_cons, beq_eq_false_iff_ne.2 hc', Bool.not_false, if_true]
      exact ((mupd_perm1 hn'.2).cons _).trans (List.Perm.swap ..)

theorem mupd_perm {M M' : List (Int × Value)} (h : M.Perm M') (hn : (M.map (·.1)).Nodup) (a : Int) (v : Value) : (mupd M a v).Perm (mupd M' a v) :=
  (mupd_perm1 hn).trans (((h.filter _).cons _).trans (mupd_perm1 ((h.map (·.1)).nodup_iff.1 hn)).symm)

theorem MapI.nodup {w : World} {b : Nat} {M : List (Int × Value)} (h : MapI w b M) : (M.map (·.1)).Nodup := by
  obtain ⟨es, clock, hb, hE⟩ := h
  exact hE.keys

/-- Block b is a map whose rows are those of M, in whatever order. -/
def MapP (w : World) (b : Nat) (M : List (Int × Value)) : Prop := ∃ M', MapI w b M' ∧ M'.Perm M

theorem MapP.nodup {w : World} {b : Nat} {M : List (Int × Value)} (h : MapP w b M) : (M.map (·.1)).Nodup := by
  obtain ⟨M', hm, hp⟩ := h
  exact (hp.map (·.1)).nodup_iff.1 hm.nodup
theorem MapP.kept {S : List Nat} {w w' : World} {b : Nat} {M : List (Int × Value)} (h : MapP w b M) (hC : Chg S w w') (hn : b ∉ S) : MapP w' b M := by
  obtain ⟨M', hm, hp⟩ := h
  exact ⟨M', hm.kept hC hn, hp⟩
theorem MapP.lt {w : World} {b : Nat} {M : List (Int × Value)} (h : MapP w b M) : b < w.heap.size := by
  obtain ⟨M', hm, hp⟩ := h
  exact hm.lt
theorem MapP.ne {w : World} {b a : Nat} {M : List (Int × Value)} {cs : Array Value} {T : TypeId} {fr : Nat × Nat} (h : MapP w b M) (ha : w.heap[a]? = some (.cells cs T fr)) : b ≠ a := by
  intro e
  obtain ⟨M', ⟨es, cl, hb, _⟩, _⟩ := h
  rw [e, ha] at hb
  cases hb

section
variable {P : Program}
theorem run_lookup_P {w : World} {t k e : TypeId} (ht : P.underlying t = some (.map k e)) (hk : P.underlying k = some (.int .i64)) {z : Value} (hz : (zeroValue e).run P w = .ok z w)
    {b : Nat} {M : List (Int × Value)} (hM : MapP w b M) (a : Int) :
    (Instr.lookup t (.map (some b)) (.int .i64 a) true).run P w = .ok (.tuple #[(M.lookup a).getD z, .bool (M.lookup a).isSome]) w := by
  obtain ⟨M', hm, hp⟩ := hM
  rw [run_lookup_I ht hk hz hm a, lookup_perm hp hm.nodup]
theorem run_lookup_P1 {w : World} {t k e : TypeId} (ht : P.underlying t = some (.map k e)) (hk : P.underlying k = some (.int .i64)) {z : Value} (hz : (zeroValue e).run P w = .ok z w)
    {b : Nat} {M : List (Int × Value)} (hM : MapP w b M) (a : Int) :
    (Instr.lookup t (.map (some b)) (.int .i64 a) false).run P w = .ok ((M.lookup a).getD z) w := by
  obtain ⟨M', hm, hp⟩ := hM
  rw [run_lookup_I1 ht hk hz hm a, lookup_perm hp hm.nodup]
theorem run_update_P {w : World} {t k e : TypeId} (ht : P.underlying t = some (.map k e)) (hk : P.underlying k = some (.int .i64))
    {b : Nat} {M : List (Int × Value)} (hM : MapP w b M) (a : Int) (v : Value) :
    ∃ w1, (Instr.mapUpdate t (.map (some b)) (.int .i64 a) v).run P w = .ok () w1 ∧ MapP w1 b (mupd M a v) ∧ Chg [b] w w1 := by
  obtain ⟨M', hm, hp⟩ := hM
  obtain ⟨w1, hr, hm1, hc⟩ := run_update_I ht hk hm a v
  exact ⟨w1, hr, ⟨_, hm1, mupd_perm hp hm.nodup a v⟩, hc⟩
theorem run_delete_P {w : World} {t k e : TypeId} (ht : P.underlying t = some (.map k e)) (hk : P.underlying k = some (.int .i64))
    {b : Nat} {M : List (Int × Value)} (hM : MapP w b M) (a : Int) (tk rt : TypeId) :
    ∃ w1, (Builtin.delete_ #[t, tk] rt #[.map (some b), .int .i64 a]).run P w = .ok (.tuple #[]) w1 ∧ MapP w1 b (mdel M a) ∧ Chg [b] w w1 := by
  obtain ⟨M', hm, hp⟩ := hM
  obtain ⟨w1, hr, hm1, hc⟩ := run_delete_I ht hk hm a tk rt
  exact ⟨w1, hr, ⟨_, hm1, mdel_perm hp hm.nodup a⟩, hc⟩
theorem run_len_P {w : World} {t k e : TypeId} (ht : P.underlying t = some (.map k e)) {b : Nat} {M : List (Int × Value)} (hM : MapP w b M) (rt : TypeId) :
    (Builtin.len_ #[t] rt #[.map (some b)]).run P w = .ok (.int .i64 (M.length : Int)) w := by
  obtain ⟨M', hm, hp⟩ := hM
  rw [run_len_I ht hm rt, hp.length_eq]
theorem run_clear_P {w : World} {t k e : TypeId} (ht : P.underlying t = some (.map k e)) {b : Nat} {M : List (Int × Value)} (hM : MapP w b M) (rt : TypeId) :
    ∃ w1, (Builtin.clear_ #[t] rt #[.map (some b)]).run P w = .ok (.tuple #[]) w1 ∧ MapP w1 b [] ∧ Chg [b] w w1 := by
  obtain ⟨M', hm, hp⟩ := hM
  obtain ⟨w1, hr, hm1, hc⟩ := run_clear_I ht hm rt
  exact ⟨w1, hr, ⟨_, hm1, .refl _⟩, hc⟩
end
theorem MapP.made (w : World) : MapP (w.alloc (.map #[] 0)) w.heap.size [] := ⟨[], ⟨#[], 0, heap_alloc_eq w _, ⟨rfl, by simp, by simp, by simp⟩⟩, .refl _⟩

end Go.Proofs.YtiiafhlckmkcnaaGreat

/- Waiting lists, the plain side: who waits, in the order in which they came, as pairs (thread, priority). No program in sight. -/
namespace Go.Proofs.YtiiafhlckmkcnaaGreat

abbrev WL := List (Int × Int)

def okT (t : Int) : Prop := 0 ≤ t ∧ t < 16
def okP (p : Int) : Prop := 1 ≤ p ∧ p ≤ 31

def wupd : WL → Int → Int → WL
  | [], _, _ => []
  | (k, x) :: r, t, p => if t = k then (k, p) :: r else (k, x) :: wupd r t p
def wdel : WL → Int → WL
  | [], _ => []
  | (k, x) :: r, t => if t = k then r else (k, x) :: wdel r t

/-- Why a thread and a priority are refused; 0: they aren't. -/
def askR (L : WL) (t p : Int) (waits : Bool) : Int :=
  if t < 0 ∨ 16 ≤ t ∨ p < 1 ∨ 31 < p then 2 else if (L.lookup t).isSome then (if waits then 0 else 7) else (if waits then 6 else 0)

/-- The order: by falling priorities, of one priority who came first ahead. -/
def ordL (L : WL) : WL := (List.range 31).flatMap fun (i : Nat) => L.filter fun x => x.2 == 31 - (i : Int)
def ordT (L : WL) : List Int := (ordL L).map (·.1)

def putL (L : WL) (t p : Int) : WL := if askR L t p false = 0 then L ++ [(t, p)] else L
def chgL (L : WL) (t p : Int) : WL := if askR L t p true = 0 then wupd L t p else L
def lvL (L : WL) (t : Int) : WL := if askR L t 1 true = 0 then wdel L t else L
def takeL (L : WL) : WL := match ordL L with | [] => L | x :: _ => wdel L x.1
def headT (l : WL) : Int := match l with | [] => 0 | x :: _ => x.1
def headB (l : WL) : Bool := match l with | [] => false | _ :: _ => true
def prioR (L : WL) (t : Int) : Int := (L.lookup t).getD 0
def hasR (L : WL) (t : Int) : Bool := (L.lookup t).isSome

end Go.Proofs.YtiiafhlckmkcnaaGreat

/- Package waits: what a list in memory is (WAt); there, ask. -/
namespace Go.Proofs.YtiiafhlckmkcnaaGreat
open Go.RowKit

/-- One who waits: thread, priority, when it came. -/
structure W1 where
  t : Int
  p : Int
  c : Int
def W1.row (x : W1) : Int × Value := (x.t, .agg #[.int .i64 x.p, .int .i64 x.c])
def W1.pair (x : W1) : Int × Int := (x.t, x.p)

structure WIn (w : World) (ab mb : Nat) (n : Int) (L1 : List W1) : Prop where
  head : w.heap[ab]? = some (.cells #[.map (some mb), .int .i64 n] 87 (0, 0))
  map : MapP w mb (L1.map W1.row)
  ok : ∀ x ∈ L1, okT x.t ∧ okP x.p ∧ 0 < x.c ∧ x.c ≤ n
  came : L1.Pairwise (fun x y => x.c < y.c)
  low : 0 ≤ n

/-- A waiting list stands at block ab, its map at block mb: who waits are L, by coming; N Puts at most were done. -/
def WAt (w : World) (ab mb : Nat) (N : Int) (L : WL) : Prop := ∃ n L1, WIn w ab mb n L1 ∧ L = L1.map W1.pair ∧ n ≤ N

theorem W1.lookup_row (L1 : List W1) (t : Int) :
    ((L1.map W1.pair).lookup t = none ∧ (L1.map W1.row).lookup t = none) ∨ ∃ x ∈ L1, x.t = t ∧ (L1.map W1.pair).lookup t = some x.p ∧ (L1.map W1.row).lookup t = some (.agg #[.int .i64 x.p, .int .i64 x.c]) := by
  induction L1 with
  | nil => exact .inl ⟨rfl, rfl⟩
  | cons y L1 ih =>
    simp only [List.map_cons, W1.pair, W1.row, List.lookup_cons]
    by_cases hc : t = y.t
    · right
      exact ⟨y, by simp, hc.symm, by simp [hc], by simp [hc]⟩
    · have hc' : (t == y.t) = false := by simpa using hc
      simp only [hc']
      rcases ih with ⟨h1, h2⟩ | ⟨x, hx, h0, h1, h2⟩
      · exact .inl ⟨h1, h2⟩
      · exact .inr ⟨x, by simp [hx], h0, h1, h2⟩

theorem WIn.kept {S : List Nat} {w w' : World} {ab mb : Nat} {n : Int} {L1 : List W1} (h : WIn w ab mb n L1) (hC : Chg S w w') (ha : ab ∉ S) (hm : mb ∉ S) : WIn w' ab mb n L1 :=
  ⟨hC.blk h.head ha, h.map.kept hC hm, h.ok, h.came, h.low⟩
theorem WAt.kept {S : List Nat} {w w' : World} {ab mb : Nat} {N : Int} {L : WL} (h : WAt w ab mb N L) (hC : Chg S w w') (ha : ab ∉ S) (hm : mb ∉ S) : WAt w' ab mb N L := by
  obtain ⟨n, L1, h1, h2, h3⟩ := h
  exact ⟨n, L1, h1.kept hC ha hm, h2, h3⟩
theorem WIn.drew {w : World} {ab mb : Nat} {n : Int} {L1 : List W1} (h : WIn w ab mb n L1) : WIn w.drew ab mb n L1 := ⟨h.head, h.map, h.ok, h.came, h.low⟩
theorem WIn.ne {w : World} {ab mb : Nat} {n : Int} {L1 : List W1} (h : WIn w ab mb n L1) : mb ≠ ab := h.map.ne h.head
theorem WAt.lt {w : World} {ab mb : Nat} {N : Int} {L : WL} (h : WAt w ab mb N L) : ab < w.heap.size ∧ mb < w.heap.size ∧ mb ≠ ab := by
  obtain ⟨n, L1, h1, h2, h3⟩ := h
  exact ⟨lt_of_blk h1.head, h1.map.lt, h1.ne⟩
theorem WAt.mono {w : World} {ab mb : Nat} {N N' : Int} {L : WL} (h : WAt w ab mb N L) (hN : N ≤ N') : WAt w ab mb N' L := by
  obtain ⟨n, L1, h1, h2, h3⟩ := h
  exact ⟨n, L1, h1, h2, by omega⟩

@[go_sem] theorem neq_map_nil (w : World) (r : Option Nat) : (binOp .neq 85 (.map r) (.map none)).run Tryz.prog w = .ok (.bool (!r.isNone)) w :=
  run_neq_map_nil w _ 3 98 r Tryz.underlying85
@[go_sem] theorem field_one1 (x y : Value) (w : World) : (Instr.field 98 (.agg #[x, y]) 1).run Tryz.prog w = .ok y w := by kernel_rfl
theorem zeroOne (w : World) : (zeroValue 98).run Tryz.prog w = .ok (.agg #[.int .i64 0, .int .i64 0]) w := by kernel_rfl

theorem WIn.find1 {w : World} {ab mb : Nat} {n : Int} {L1 : List W1} (h : WIn w ab mb n L1) {x : W1} (hx : (L1.map W1.row).lookup x.t = some (.agg #[.int .i64 x.p, .int .i64 x.c])) :
    (Instr.lookup 85 (.map (some mb)) (.int .i64 x.t) false).run Tryz.prog w = .ok (.agg #[.int .i64 x.p, .int .i64 x.c]) w := by
  have hr := run_lookup_P1 (P := Tryz.prog) Tryz.underlying85 Tryz.underlying3 (zeroOne w) h.map x.t
  rw [hx] at hr
  exact hr

theorem WIn.find {w : World} {ab mb : Nat} {n : Int} {L1 : List W1} (h : WIn w ab mb n L1) (t : Int) :
    ((L1.map W1.pair).lookup t = none ∧ (Instr.lookup 85 (.map (some mb)) (.int .i64 t) true).run Tryz.prog w = .ok (.tuple #[.agg #[.int .i64 0, .int .i64 0], .bool false]) w) ∨
    ∃ x ∈ L1, x.t = t ∧ (L1.map W1.pair).lookup t = some x.p ∧ (Instr.lookup 85 (.map (some mb)) (.int .i64 t) true).run Tryz.prog w = .ok (.tuple #[.agg #[.int .i64 x.p, .int .i64 x.c], .bool true]) w := by
  have hr := run_lookup_P (P := Tryz.prog) Tryz.underlying85 Tryz.underlying3 (zeroOne w) h.map t
  rcases W1.lookup_row L1 t with ⟨h1, h2⟩ | ⟨x, hx, h0, h1, h2⟩
  · rw [h2] at hr
    exact .inl ⟨h1, hr⟩
  · rw [h2] at hr
    exact .inr ⟨x, hx, h0, h1, hr⟩

set_option maxRecDepth 100000 in
set_option maxHeartbeats 400000 in
theorem there_yes (ab : Nat) (mb : Nat) (w : World) (hc : w.cell? ⟨ab, 0, none⟩ = some (.map (some mb))) :
    Calls Tryz.prog 58 #[.pointer (some ⟨ab, 0, none⟩)] w fun e w' => e = .returned (.bool true) ∧ w = w' := by
  go_enter Tryz.func58, Tryz.ntmps58
  go_wp2
  go_ret
  exact ⟨rfl, rfl⟩

set_option maxRecDepth 100000 in
set_option maxHeartbeats 400000 in
theorem ask_any (ab mb : Nat) (n : Int) (L1 : List W1) (t p : Int) (b : Bool) (w : World) (hW : WIn w ab mb n L1) :
    Calls Tryz.prog 76 #[.pointer (some ⟨ab, 0, none⟩), .int .i64 t, .int .i64 p, .bool b] w fun e w' => e = .returned (.int .i64 (askR (L1.map W1.pair) t p b)) ∧ Chg [] w w' := by
  have c0 := cellB hW.head (i := 0) rfl
  have ht := there_yes ab mb w c0
  rcases hW.find t with ⟨h1, h2⟩ | ⟨x, hx, h0, h1, h2⟩
  all_goals
    clear hW
    go_enter Tryz.func76, Tryz.ntmps76
    go_wp2_with (go_at_call 58; refine ht.mono ?_; rintro e w' ⟨rfl, rfl⟩)
    all_goals
      go_ret
      refine ⟨ret_i64 ?_, by first | exact Chg.refl _ _ | exact (Chg.refl _ _).alloc _⟩
      unfold askR
      first
        | rw [if_pos (by omega)]
        | (rw [if_neg (by omega), h1]; cases b <;> simp_all)

end Go.Proofs.YtiiafhlckmkcnaaGreat

/- Package waits: New, Put, Change, Leave, Len, Prio, Has: contracts over lists of (thread, priority). -/
namespace Go.Proofs.YtiiafhlckmkcnaaGreat
open Go.RowKit

theorem WIn.lookup_none {w : World} {ab mb : Nat} {n : Int} {L1 : List W1} {t p : Int} {b : Bool} (_ : WIn w ab mb n L1) (ha : askR (L1.map W1.pair) t p b = 0) : okT t ∧ okP p ∧ (((L1.map W1.pair).lookup t).isSome = b) := by
  unfold askR at ha
  split at ha
  · omega
  · refine ⟨by unfold okT; omega, by unfold okP; omega, ?_⟩
    cases hc : ((L1.map W1.pair).lookup t).isSome <;> cases b <;> simp [hc] at ha ⊢

theorem mupd_new (L1 : List W1) (t p c : Int) : (L1.map W1.pair).lookup t = none → mupd (L1.map W1.row) t (.agg #[.int .i64 p, .int .i64 c]) = (L1 ++ [W1.mk t p c]).map W1.row := by
  induction L1 with
  | nil => intro _; rfl
  | cons y L1 ih =>
    intro h
    simp only [List.map_cons, W1.pair, W1.row, List.lookup_cons] at h ih ⊢
    by_cases hc : t = y.t
    · simp [hc] at h
    · have hc' : (t == y.t) = false := by simpa using hc
      simp only [hc'] at h
      simp only [mupd, hc, if_false, List.cons_append, List.map_cons, ih h]
      rfl

def w1upd : List W1 → Int → Int → List W1
  | [], _, _ => []
  | y :: r, t, p => if t = y.t then ⟨t, p, y.c⟩ :: r else y :: w1upd r t p
def w1del : List W1 → Int → List W1
  | [], _ => []
  | y :: r, t => if t = y.t then r else y :: w1del r t

theorem w1upd_pair (L1 : List W1) (t p : Int) : (w1upd L1 t p).map W1.pair = wupd (L1.map W1.pair) t p := by
  induction L1 with
  | nil => rfl
  | cons y L1 ih =>
    by_cases hc : t = y.t
    · simp [w1upd, wupd, hc, W1.pair]
    · simpa [w1upd, wupd, hc, W1.pair] using ih
theorem w1del_pair (L1 : List W1) (t : Int) : (w1del L1 t).map W1.pair = wdel (L1.map W1.pair) t := by
  induction L1 with
  | nil => rfl
  | cons y L1 ih =>
    by_cases hc : t = y.t
    · simp [w1del, wdel, hc, W1.pair]
    · simpa [w1del, wdel, hc, W1.pair] using ih
theorem w1del_row (L1 : List W1) (t : Int) : (w1del L1 t).map W1.row = mdel (L1.map W1.row) t := by
  induction L1 with
  | nil => rfl
  | cons y L1 ih =>
    by_cases hc : t = y.t
    · simp [w1del, mdel, hc, W1.row]
    · simpa [w1del, mdel, hc, W1.row] using ih
theorem w1del_sub (L1 : List W1) (t : Int) : (w1del L1 t).Sublist L1 := by
  induction L1 with
  | nil => exact .slnil
  | cons y L1 ih =>
    unfold w1del
    split
    · exact List.sublist_cons_self ..
    · exact ih.cons_cons _
/-- The row that is found is the first of its thread; where threads are no twice: the only one. -/
theorem mupd_old (L1 : List W1) (x : W1) (p : Int) : (L1.map W1.row).lookup x.t = some (.agg #[.int .i64 x.p, .int .i64 x.c]) → mupd (L1.map W1.row) x.t (.agg #[.int .i64 p, .int .i64 x.c]) = (w1upd L1 x.t p).map W1.row := by
  induction L1 with
  | nil => intro h; cases h
  | cons y L1 ih =>
    intro h
    simp only [List.map_cons, W1.row, List.lookup_cons] at h ih ⊢
    by_cases hc : x.t = y.t
    · simp [hc] at h
      simp [mupd, w1upd, hc, W1.row, h]
    · have hc' : (x.t == y.t) = false := by simpa using hc
      simp only [hc'] at h
      simp only [mupd, w1upd, hc, if_false, List.map_cons, ih h]
      rfl
theorem w1upd_ok {n : Int} (L1 : List W1) (t p : Int) (hq : okT t) (hp : okP p) (h : ∀ x ∈ L1, okT x.t ∧ okP x.p ∧ 0 < x.c ∧ x.c ≤ n) : ∀ x ∈ w1upd L1 t p, okT x.t ∧ okP x.p ∧ 0 < x.c ∧ x.c ≤ n := by
  induction L1 with
  | nil => intro x hx; cases hx
  | cons y L1 ih =>
    have hy := h y (by simp)
    have ih := ih (fun x hx => h x (by simp [hx]))
    unfold w1upd
    split
    · intro x hx
      rcases List.mem_cons.1 hx with rfl | hx
      · exact ⟨hq, hp, hy.2.2⟩
      · exact h x (by simp [hx])
    · intro x hx
      rcases List.mem_cons.1 hx with rfl | hx
      · exact hy
      · exact ih x hx
theorem w1upd_c (L1 : List W1) (t p : Int) : (w1upd L1 t p).map W1.c = L1.map W1.c := by
  induction L1 with
  | nil => rfl
  | cons y L1 ih =>
    unfold w1upd
    split <;> simp [ih]

set_option maxRecDepth 100000 in
set_option maxHeartbeats 400000 in
theorem put_yes (ab mb : Nat) (n : Int) (L1 : List W1) (t p : Int) (w : World) (hW : WIn w ab mb n L1) (hn : n < 4611686018427387904) (ha : askR (L1.map W1.pair) t p false = 0) :
    Calls Tryz.prog 43 #[.pointer (some ⟨ab, 0, none⟩), .int .i64 t, .int .i64 p] w fun e w' => e = .returned (.int .i64 0) ∧ WIn w' ab mb (n + 1) (L1 ++ [⟨t, p, n + 1⟩]) ∧ Chg [ab, mb] w w' := by
  have hask := ask_any ab mb n L1 t p false w hW
  have hOk := hW.lookup_none ha
  rw [ha] at hask
  have hl := hW.low
  have hne := hW.ne
  have HI := Lib.hid hW
  have HO := Lib.hid hOk
  have hm := hW.map
  have hh := hW.head
  clear hW ha hOk
  go_enter Tryz.func43, Tryz.ntmps43
  go_wp2_with (go_at_call 76; refine hask.mono ?_; rintro e w' ⟨rfl, hC⟩; have b0 := hC.blk hh (by simp); have c0 := cellB b0 (i := 0) rfl; have c1 := cellB b0 (i := 1) rfl; have f1 := frozenB b0 1)
  refine region_still_tail 11 (by kernel_rfl) (by kernel_rfl) ?_
  simp only [List.take_succ_cons, List.take_zero, List.drop_succ_cons, List.drop_zero]
  repeat still_step
  refine wpStill_nil ?_
  have hm2 := (hm.kept hC (by simp)).kept ((Chg.refl [ab] w').setCell ⟨ab, 1, none⟩ (.int .i64 (n + 1)) (by simp)) (by simpa using hne)
  obtain ⟨w2, hrun, hM, hC2⟩ := run_update_P (P := Tryz.prog) Tryz.underlying85 Tryz.underlying3 (show MapP (w'.setCell ⟨ab, 1, none⟩ (.int .i64 (n + 1))).drew mb _ from hm2) t (.agg #[.int .i64 p, .int .i64 (n + 1)])
  have b2 := hC2.blk (k := ab) (blk_setCell (i := 1) b0 (.int .i64 (n + 1))) (by simpa using hne.symm)
  have hC3 : Chg [ab, mb] w w2 := ((hC.mono (by simp)).setCell ⟨ab, 1, none⟩ (.int .i64 (n + 1)) (by simp)).drew.trans' hC2 (by simp)
  clear hm2 hC2 b0 hm hh
  go_wp2
  go_ret
  refine ⟨rfl, ⟨b2, ?_, ?_, ?_, by omega⟩, hC3⟩
  · rw [← mupd_new L1 t p (n + 1) (by have := HO.out.2.2; simpa using this)]
    exact hM
  · intro x hx
    rcases List.mem_append.1 hx with hx | hx
    · have := HI.out.ok x hx
      refine ⟨this.1, this.2.1, this.2.2.1, by omega⟩
    · simp at hx
      subst hx
      exact ⟨HO.out.1, HO.out.2.1, by show 0 < n + 1; omega, by show n + 1 ≤ n + 1; omega⟩
  · refine List.pairwise_append.2 ⟨HI.out.came, by simp, ?_⟩
    intro x hx y hy
    simp at hy
    subst hy
    have := (HI.out.ok x hx).2.2.2
    show x.c < n + 1
    omega

set_option maxRecDepth 100000 in
set_option maxHeartbeats 400000 in
theorem put_no (ab mb : Nat) (n : Int) (L1 : List W1) (t p : Int) (w : World) (hW : WIn w ab mb n L1) (ha : askR (L1.map W1.pair) t p false ≠ 0) :
    Calls Tryz.prog 43 #[.pointer (some ⟨ab, 0, none⟩), .int .i64 t, .int .i64 p] w fun e w' => e = .returned (.int .i64 (askR (L1.map W1.pair) t p false)) ∧ Chg [] w w' := by
  have hask := ask_any ab mb n L1 t p false w hW
  generalize askR (L1.map W1.pair) t p false = r at ha hask ⊢
  have ha' : (r == 0) = false := by simpa using ha
  clear hW ha
  go_enter Tryz.func43, Tryz.ntmps43
  go_wp2_with (go_at_call 76; refine hask.mono ?_; rintro e w' ⟨rfl, hC⟩)
  go_ret
  exact ⟨rfl, hC⟩

set_option maxRecDepth 100000 in
set_option maxHeartbeats 400000 in
theorem change_no (ab mb : Nat) (n : Int) (L1 : List W1) (t p : Int) (w : World) (hW : WIn w ab mb n L1) (ha : askR (L1.map W1.pair) t p true ≠ 0) :
    Calls Tryz.prog 53 #[.pointer (some ⟨ab, 0, none⟩), .int .i64 t, .int .i64 p] w fun e w' => e = .returned (.int .i64 (askR (L1.map W1.pair) t p true)) ∧ Chg [] w w' := by
  have hask := ask_any ab mb n L1 t p true w hW
  generalize askR (L1.map W1.pair) t p true = r at ha hask ⊢
  have ha' : (r == 0) = false := by simpa using ha
  clear hW ha
  go_enter Tryz.func53, Tryz.ntmps53
  go_wp2_with (go_at_call 76; refine hask.mono ?_; rintro e w' ⟨rfl, hC⟩)
  go_ret
  exact ⟨rfl, hC⟩

set_option maxRecDepth 100000 in
set_option maxHeartbeats 400000 in
theorem leave_no (ab mb : Nat) (n : Int) (L1 : List W1) (t : Int) (w : World) (hW : WIn w ab mb n L1) (ha : askR (L1.map W1.pair) t 1 true ≠ 0) :
    Calls Tryz.prog 50 #[.pointer (some ⟨ab, 0, none⟩), .int .i64 t] w fun e w' => e = .returned (.int .i64 (askR (L1.map W1.pair) t 1 true)) ∧ Chg [] w w' := by
  have hask := ask_any ab mb n L1 t 1 true w hW
  generalize askR (L1.map W1.pair) t 1 true = r at ha hask ⊢
  have ha' : (r == 0) = false := by simpa using ha
  clear hW ha
  go_enter Tryz.func50, Tryz.ntmps50
  go_wp2_with (go_at_call 76; refine hask.mono ?_; rintro e w' ⟨rfl, hC⟩)
  go_ret
  exact ⟨rfl, hC⟩

set_option maxRecDepth 100000 in
set_option maxHeartbeats 400000 in
theorem change_yes (ab mb : Nat) (n : Int) (L1 : List W1) (t p : Int) (w : World) (hW : WIn w ab mb n L1) (ha : askR (L1.map W1.pair) t p true = 0) :
    Calls Tryz.prog 53 #[.pointer (some ⟨ab, 0, none⟩), .int .i64 t, .int .i64 p] w fun e w' => e = .returned (.int .i64 0) ∧ WIn w' ab mb n (w1upd L1 t p) ∧ Chg [ab, mb] w w' := by
  have hask := ask_any ab mb n L1 t p true w hW
  have hOk := hW.lookup_none ha
  rw [ha] at hask
  have hne := hW.ne
  obtain ⟨x, hx, rfl, hx1, hx2⟩ : ∃ x ∈ L1, x.t = t ∧ (L1.map W1.pair).lookup t = some x.p ∧ (L1.map W1.row).lookup t = some (.agg #[.int .i64 x.p, .int .i64 x.c]) := by
    rcases W1.lookup_row L1 t with ⟨h1, h2⟩ | h
    · have := hOk.2.2
      rw [h1] at this
      cases this
    · exact h
  have HI := Lib.hid hW
  have HO := Lib.hid hOk
  have HX := Lib.hid hx2
  clear ha hOk hx1
  have hm := hW.map
  have hh := hW.head
  clear hW
  go_enter Tryz.func53, Tryz.ntmps53
  go_wp2_with (go_at_call 76; refine hask.mono ?_; rintro e w' ⟨rfl, hC⟩; have b0 := hC.blk hh (by simp); have c0 := cellB b0 (i := 0) rfl)
  have hl := ((HI.out.kept hC (by simp) (by simp)).drew).find1 HX.out
  refine region_still_tail 14 (by kernel_rfl) (by kernel_rfl) ?_
  simp only [List.take_succ_cons, List.take_zero, List.drop_succ_cons, List.drop_zero]
  repeat still_step
  refine wpStill_nil ?_
  have hm2 := hm.kept hC (by simp)
  obtain ⟨w2, hrun, hM, hC2⟩ := run_update_P (P := Tryz.prog) Tryz.underlying85 Tryz.underlying3 (show MapP w'.drew mb _ from hm2) x.t (.agg #[.int .i64 p, .int .i64 x.c])
  have b2 := hC2.blk (k := ab) b0 (by simpa using hne.symm)
  have hC3 : Chg [ab, mb] w w2 := (hC.mono (by simp)).drew.trans' hC2 (by simp)
  clear hm2 hC2 b0 hm hh hl
  go_wp2
  go_ret
  refine ⟨rfl, ⟨b2, ?_, ?_, ?_, HI.out.low⟩, hC3⟩
  · rw [← mupd_old L1 x p HX.out]
    exact hM
  · exact w1upd_ok L1 x.t p HO.out.1 HO.out.2.1 HI.out.ok
  · have := HI.out.came
    have h1 : (L1.map W1.c).Pairwise (· < ·) := List.pairwise_map.2 this
    rw [← w1upd_c L1 x.t p] at h1
    exact List.pairwise_map.1 h1

set_option maxRecDepth 100000 in
set_option maxHeartbeats 400000 in
theorem leave_yes (ab mb : Nat) (n : Int) (L1 : List W1) (t : Int) (w : World) (hW : WIn w ab mb n L1) (ha : askR (L1.map W1.pair) t 1 true = 0) :
    Calls Tryz.prog 50 #[.pointer (some ⟨ab, 0, none⟩), .int .i64 t] w fun e w' => e = .returned (.int .i64 0) ∧ WIn w' ab mb n (w1del L1 t) ∧ Chg [ab, mb] w w' := by
  have hask := ask_any ab mb n L1 t 1 true w hW
  rw [ha] at hask
  have hne := hW.ne
  have HI := Lib.hid hW
  have hm := hW.map
  have hh := hW.head
  clear hW ha
  go_enter Tryz.func50, Tryz.ntmps50
  go_wp2_with (go_at_call 76; refine hask.mono ?_; rintro e w' ⟨rfl, hC⟩; have b0 := hC.blk hh (by simp); have c0 := cellB b0 (i := 0) rfl; obtain ⟨w2, hrun, hM, hC2⟩ := run_delete_P (P := Tryz.prog) Tryz.underlying85 Tryz.underlying3 (hm.kept hC (by simp)) t 3 0)
  have b2 := hC2.blk (k := ab) b0 (by simpa using hne.symm)
  have hC3 : Chg [ab, mb] w w2 := (hC.mono (by simp)).trans' hC2 (by simp)
  clear hC2 b0 hm hh
  go_ret
  refine ⟨rfl, ⟨b2, ?_, fun x hx => HI.out.ok x ((w1del_sub L1 t).subset hx), HI.out.came.sublist (w1del_sub L1 t), HI.out.low⟩, hC3⟩
  rw [w1del_row]
  exact hM

set_option maxRecDepth 100000 in
set_option maxHeartbeats 400000 in
theorem prio_any (ab mb : Nat) (n : Int) (L1 : List W1) (t : Int) (w : World) (hW : WIn w ab mb n L1) :
    Calls Tryz.prog 88 #[.pointer (some ⟨ab, 0, none⟩), .int .i64 t] w fun e w' => e = .returned (.tuple #[.int .i64 (prioR (L1.map W1.pair) t), .bool ((L1.map W1.pair).lookup t).isSome]) ∧ Chg [] w w' := by
  have c0 := cellB hW.head (i := 0) rfl
  have ht := there_yes ab mb w c0
  rcases hW.find t with ⟨h1, h2⟩ | ⟨x, hx, h0, h1, h2⟩
  all_goals
    unfold prioR
    rw [h1]
    clear hW h1
    go_enter Tryz.func88, Tryz.ntmps88
    go_wp2_with (go_at_call 58; refine ht.mono ?_; rintro e w' ⟨rfl, rfl⟩)
    go_ret2
    exact ⟨rfl, (Chg.refl _ _).alloc _⟩

set_option maxRecDepth 100000 in
set_option maxHeartbeats 400000 in
theorem has_any (ab mb : Nat) (n : Int) (L1 : List W1) (t : Int) (w : World) (hW : WIn w ab mb n L1) :
    Calls Tryz.prog 69 #[.pointer (some ⟨ab, 0, none⟩), .int .i64 t] w fun e w' => e = .returned (.bool ((L1.map W1.pair).lookup t).isSome) ∧ Chg [] w w' := by
  have hp := prio_any ab mb n L1 t w hW
  generalize ((L1.map W1.pair).lookup t).isSome = r at hp ⊢
  generalize prioR (L1.map W1.pair) t = q at hp ⊢
  clear hW
  go_enter Tryz.func69, Tryz.ntmps69
  go_wp2_with (go_at_call 88; refine hp.mono ?_; rintro e w' ⟨rfl, hC⟩)
  go_ret
  exact ⟨rfl, hC⟩

def NewPost (w : World) (e : Ending) (w' : World) : Prop := ∃ ab mb, e = .returned (.pointer (some ⟨ab, 0, none⟩)) ∧ w.heap.size ≤ ab ∧ w.heap.size ≤ mb ∧ WIn w' ab mb 0 [] ∧ Chg [] w w'

set_option maxRecDepth 100000 in
set_option maxHeartbeats 400000 in
theorem new_any (w : World) : Calls Tryz.prog 13 #[] w (NewPost w) := by
  have hmm := @run_makeMap Tryz.prog
  go_enter Tryz.func13, Tryz.ntmps13
  go_wp2
  go_ret
  refine ⟨w.heap.size + 1, w.heap.size, rfl, by omega, by omega, ⟨?_, ?_, by simp, by simp, by omega⟩, ((Chg.refl _ _).alloc _).alloc _⟩
  · have := heap_alloc_eq (w.alloc (.map #[] 0)) (.cells #[.map (some w.heap.size), .int .i64 0] 87)
    rw [World.size_alloc] at this
    exact this
  · exact (MapP.made w).kept ((Chg.refl [] _).alloc _) (by simp)

end Go.Proofs.YtiiafhlckmkcnaaGreat

/- cmp.Compare, cmp.Or at two numbers; the closures by which package waits sorts: they compute, and may lay blocks. -/
namespace Go.Proofs.YtiiafhlckmkcnaaGreat
open Go.RowKit

/-- Draws and new blocks, nothing else. -/
def Grw (w w' : World) : Prop := ∃ q os, w' = Go.Sort.grow (w.drewN q) os
theorem Grw.refl (w : World) : Grw w w := ⟨0, #[], by rw [Go.Sort.grow_empty]; rfl⟩
theorem Grw.trans {a b c : World} (h : Grw a b) (g : Grw b c) : Grw a c := by
  obtain ⟨q, os, rfl⟩ := h
  obtain ⟨q', os', rfl⟩ := g
  exact ⟨q + q', os ++ os', by rw [← Go.Sort.grow_grow]; simp [Go.Sort.grow, World.drewN, Nat.add_assoc]⟩
theorem Grw.drew {a b : World} (h : Grw a b) : Grw a b.drew := h.trans ⟨1, #[], by rw [Go.Sort.grow_empty]; rfl⟩
theorem Grw.alloc {a b : World} (h : Grw a b) (o : Obj) : Grw a (b.alloc o) := h.trans ⟨0, #[o], by rw [Go.Sort.alloc_eq_grow]; rfl⟩
theorem Grw.chg {S : List Nat} {a b : World} (h : Grw a b) : Chg S a b := by
  obtain ⟨q, os, rfl⟩ := h
  refine ⟨rfl, rfl, rfl, by simp [Go.Sort.grow, World.drewN], fun k hk _ => ?_⟩
  simp only [Go.Sort.grow, World.drewN]
  rw [Array.getElem?_append_left hk]

set_option maxRecDepth 100000 in
set_option maxHeartbeats 400000 in
theorem compare_int (x y : Int) (w : World) : Calls Tryz.prog 96 #[.int .i64 x, .int .i64 y] w fun e w' => e = .returned (.int .i64 (Lib.compareInt x y)) ∧ w' = w := by
  rcases Int.lt_trichotomy x y with h | h | h
  · have e1 : Lib.compareInt x y = -1 := by simp [Lib.compareInt, h]
    rw [e1]
    clear e1
    go_enter Tryz.func96, Tryz.ntmps96
    go_wp2
    go_ret
    exact ⟨rfl, rfl⟩
  · subst h
    have e1 : Lib.compareInt x x = 0 := by simp [Lib.compareInt]
    rw [e1]
    clear e1
    go_enter Tryz.func96, Tryz.ntmps96
    go_wp2
    go_ret
    exact ⟨rfl, rfl⟩
  · have e1 : Lib.compareInt x y = 1 := by
      have h' : ¬ x < y := by omega
      simp [Lib.compareInt, h, h']
    rw [e1]
    clear e1
    go_enter Tryz.func96, Tryz.ntmps96
    go_wp2
    go_ret
    exact ⟨rfl, rfl⟩

set_option maxRecDepth 100000 in
set_option maxHeartbeats 400000 in
theorem compare_int64 (x y : Int) (w : World) : Calls Tryz.prog 60 #[.int .i64 x, .int .i64 y] w fun e w' => e = .returned (.int .i64 (Lib.compareInt x y)) ∧ w' = w := by
  rcases Int.lt_trichotomy x y with h | h | h
  · have e1 : Lib.compareInt x y = -1 := by simp [Lib.compareInt, h]
    rw [e1]
    clear e1
    go_enter Tryz.func60, Tryz.ntmps60
    go_wp2
    go_ret
    exact ⟨rfl, rfl⟩
  · subst h
    have e1 : Lib.compareInt x x = 0 := by simp [Lib.compareInt]
    rw [e1]
    clear e1
    go_enter Tryz.func60, Tryz.ntmps60
    go_wp2
    go_ret
    exact ⟨rfl, rfl⟩
  · have e1 : Lib.compareInt x y = 1 := by
      have h' : ¬ x < y := by omega
      simp [Lib.compareInt, h, h']
    rw [e1]
    clear e1
    go_enter Tryz.func60, Tryz.ntmps60
    go_wp2
    go_ret
    exact ⟨rfl, rfl⟩

def orI (x y : Int) : Int := if x = 0 then y else x

set_option maxRecDepth 100000 in
set_option maxHeartbeats 400000 in
theorem or_two (x y : Int) (b : Nat) (w : World) (c0 : w.cell? ⟨b, 0, none⟩ = some (.int .i64 x)) (c1 : w.cell? ⟨b, 1, none⟩ = some (.int .i64 y)) :
    Calls Tryz.prog 95 #[.slice (some ⟨b, 0, none⟩) 2 2] w fun e w' => e = .returned (.int .i64 (orI x y)) ∧ w = w' := by
  unfold orI
  by_cases hx : x = 0
  · subst hx
    by_cases hy : y = 0
    · subst hy
      go_enter Tryz.func95, Tryz.ntmps95
      go_wp2
      refine wp_loop_rounds 3 ?_
      iterate 3
        rw [rounds_succ]
        go_wp2
      go_ret
      exact ⟨rfl, rfl⟩
    · have hy' : (y != 0) = true := by simpa using hy
      go_enter Tryz.func95, Tryz.ntmps95
      go_wp2
      refine wp_loop_rounds 2 ?_
      iterate 2
        rw [rounds_succ]
        go_wp2
      go_ret
      exact ⟨rfl, rfl⟩
  · have hx' : (x != 0) = true := by simpa using hx
    rw [if_neg hx]
    clear hx
    go_enter Tryz.func95, Tryz.ntmps95
    go_wp2
    refine wp_loop_rounds 1 ?_
    rw [rounds_succ]
    go_wp2
    go_ret
    exact ⟨rfl, rfl⟩

/-- The order of a list: falling priorities, of one priority who came first ahead. -/
def cfL (p1 c1 p2 c2 : Int) : Int := orI (Lib.compareInt p2 p1) (Lib.compareInt c1 c2)

set_option maxRecDepth 100000 in
set_option maxHeartbeats 400000 in
theorem list1_any (p1 c1 p2 c2 : Int) (w : World) :
    Calls Tryz.prog 94 #[.agg #[.int .i64 p1, .int .i64 c1], .agg #[.int .i64 p2, .int .i64 c2]] w fun e w' => e = .returned (.int .i64 (cfL p1 c1 p2 c2)) ∧ Grw w w' := by
  unfold cfL
  have k1 := compare_int p2 p1
  have k2 := compare_int64 c1 c2
  generalize Lib.compareInt p2 p1 = r1 at k1 ⊢
  generalize Lib.compareInt c1 c2 = r2 at k2 ⊢
  have k3 := or_two r1 r2
  generalize orI r1 r2 = r at k3 ⊢
  go_enter Tryz.func94, Tryz.ntmps94
  go_wp2
  refine region_still_tail 10 (by kernel_rfl) (by kernel_rfl) ?_
  simp only [List.take_succ_cons, List.take_zero, List.drop_succ_cons, List.drop_zero]
  repeat (first | still_step | still_call (k1 _) | still_call (k2 _))
  refine wpStill_nil ?_
  go_wp2_with (go_at_call 95; refine (k3 _ _ ?c1 ?c2).mono ?_)
  case c1 => simp [go_sem]
  case c2 => simp [go_sem]
  rintro e w' ⟨rfl, rfl⟩
  go_wp2
  go_ret
  exact ⟨rfl, ((((Grw.refl w).alloc _).alloc _).drew).alloc _⟩

set_option maxRecDepth 100000 in
set_option maxHeartbeats 400000 in
theorem same1_any (p1 c1 p2 c2 : Int) (w : World) :
    Calls Tryz.prog 59 #[.agg #[.int .i64 p1, .int .i64 c1], .agg #[.int .i64 p2, .int .i64 c2]] w fun e w' => e = .returned (.int .i64 (Lib.compareInt c1 c2)) ∧ Grw w w' := by
  have k2 := compare_int64 c1 c2
  generalize Lib.compareInt c1 c2 = r2 at k2 ⊢
  go_enter Tryz.func59, Tryz.ntmps59
  go_wp2_with (go_at_call 60; refine (k2 _).mono ?_; rintro e w' ⟨rfl, rfl⟩)
  go_ret
  exact ⟨rfl, ((Grw.refl w).alloc _).alloc _⟩

end Go.Proofs.YtiiafhlckmkcnaaGreat

/- The closure that looks two threads up and compares their rows. -/
namespace Go.Proofs.YtiiafhlckmkcnaaGreat
open Go.RowKit

/-- A thread's priority and coming; noughts, if it does not wait. -/
def rowOf : List W1 → Int → Int × Int
  | [], _ => (0, 0)
  | y :: r, t => if t = y.t then (y.p, y.c) else rowOf r t

theorem rowOf_lookup (L1 : List W1) (t : Int) : ((L1.map W1.row).lookup t).getD (.agg #[.int .i64 0, .int .i64 0]) = .agg #[.int .i64 (rowOf L1 t).1, .int .i64 (rowOf L1 t).2] := by
  induction L1 with
  | nil => rfl
  | cons y L1 ih =>
    simp only [List.map_cons, W1.row, List.lookup_cons]
    by_cases hc : t = y.t
    · simp [hc, rowOf]
    · have hc' : (t == y.t) = false := by simpa using hc
      simp only [hc', rowOf, hc, if_false]
      exact ih

theorem WIn.find0 {w : World} {ab mb : Nat} {n : Int} {L1 : List W1} (h : WIn w ab mb n L1) (t : Int) :
    (Instr.lookup 85 (.map (some mb)) (.int .i64 t) false).run Tryz.prog w = .ok (.agg #[.int .i64 (rowOf L1 t).1, .int .i64 (rowOf L1 t).2]) w := by
  have hr := run_lookup_P1 (P := Tryz.prog) Tryz.underlying85 Tryz.underlying3 (zeroOne w) h.map t
  rw [rowOf_lookup] at hr
  exact hr

/-- What is asked of a comparison of two rows. -/
def CmpOf (g : Nat) (cf : Int → Int → Int → Int → Int) : Prop :=
  ∀ p1 c1 p2 c2 w, Calls Tryz.prog g #[.agg #[.int .i64 p1, .int .i64 c1], .agg #[.int .i64 p2, .int .i64 c2]] w fun e w' => e = .returned (.int .i64 (cf p1 c1 p2 c2)) ∧ Grw w w'

def cfT (cf : Int → Int → Int → Int → Int) (L1 : List W1) (s t : Int) : Int := cf (rowOf L1 s).1 (rowOf L1 s).2 (rowOf L1 t).1 (rowOf L1 t).2

set_option maxRecDepth 100000 in
set_option maxHeartbeats 400000 in
theorem sorted1_any (g : Nat) (cf : Int → Int → Int → Int → Int) (hg : CmpOf g cf) (eg : ∀ args w, (callFunc g args).run Tryz.prog w = .ok (.enter g args) w) (bc bw ab mb : Nat) (n : Int) (L1 : List W1) (w : World)
    (hbc : w.cell? ⟨bc, 0, none⟩ = some (.func (.func g) #[] #[])) (hbw : w.cell? ⟨bw, 0, none⟩ = some (.pointer (some ⟨ab, 0, none⟩))) (hW : WIn w ab mb n L1) (s t : Int) :
    Calls Tryz.prog 84 #[.int .i64 s, .int .i64 t, .pointer (some ⟨bc, 0, none⟩), .pointer (some ⟨bw, 0, none⟩)] w fun e w' => e = .returned (.int .i64 (cfT cf L1 s t)) ∧ Grw w w' := by
  have c0 := cellB hW.head (i := 0) rfl
  have l1 := hW.drew.find0 s
  have l2 := hW.drew.find0 t
  unfold cfT
  have k := hg (rowOf L1 s).1 (rowOf L1 s).2 (rowOf L1 t).1 (rowOf L1 t).2
  generalize cf (rowOf L1 s).1 (rowOf L1 s).2 (rowOf L1 t).1 (rowOf L1 t).2 = r at k ⊢
  generalize (rowOf L1 s).1 = p1 at l1 k
  generalize (rowOf L1 s).2 = q1 at l1 k
  generalize (rowOf L1 t).1 = p2 at l2 k
  generalize (rowOf L1 t).2 = q2 at l2 k
  clear hW hg
  go_enter Tryz.func84, Tryz.ntmps84
  go_wp2
  refine region_still_tail 13 (by kernel_rfl) (by kernel_rfl) ?_
  simp only [List.take_succ_cons, List.take_zero, List.drop_succ_cons, List.drop_zero]
  repeat still_step
  refine wpStill_nil ?_
  go_wp2_with fail
  refine (k _).mono ?_
  rintro e w' ⟨rfl, hG⟩
  go_wp2
  go_ret
  exact ⟨rfl, ((Grw.refl w).drew).trans hG⟩

end Go.Proofs.YtiiafhlckmkcnaaGreat

/- Going over a map keyed by int, in whatever order, while other blocks are written; a slice of the call's own that is appended to. No program in sight. -/
namespace Go.Proofs.YtiiafhlckmkcnaaGreat
open Go.RowKit Go.ChangeMaps Go.MapKept

def leftL (es : Array MapEntry) (seen : Array Nat) : List MapEntry := es.toList.filter fun e => !seen.contains e.born

/-- Block r goes over the map at block b, whose rows are M; the rows of rest are still to come. -/
def RngP (w : World) (b r : Nat) (M rest : List (Int × Value)) : Prop :=
  ∃ es clock seen, w.heap[b]? = some (.map es clock) ∧ MapE es clock M ∧ w.heap[r]? = some (.mapIter (some b) clock seen clock) ∧
    (leftL es seen).map (fun e => (e.key, e.val)) = rest.map (fun p => (Value.int .i64 p.1, p.2))

/-- How many rows are still to come. -/
def rleft (w : World) (b r : Nat) : Nat :=
  match w.heap[b]?, w.heap[r]? with
  | some (.map es _), some (.mapIter _ _ seen _) => (leftL es seen).length
  | _, _ => 0

theorem RngP.left {w : World} {b r : Nat} {M rest : List (Int × Value)} (h : RngP w b r M rest) : rleft w b r = rest.length := by
  obtain ⟨es, clock, seen, hb, _, hr, hl⟩ := h
  have := congrArg List.length hl
  simpa [rleft, hb, hr] using this
theorem RngP.map {w : World} {b r : Nat} {M rest : List (Int × Value)} (h : RngP w b r M rest) : MapI w b M := by
  obtain ⟨es, clock, seen, hb, hE, hr, hl⟩ := h
  exact ⟨es, clock, hb, hE⟩
theorem RngP.kept {S : List Nat} {w w' : World} {b r : Nat} {M rest : List (Int × Value)} (h : RngP w b r M rest) (hC : Chg S w w') (hb : b ∉ S) (hr : r ∉ S) : RngP w' b r M rest := by
  obtain ⟨es, clock, seen, h1, hE, h2, hl⟩ := h
  exact ⟨es, clock, seen, hC.blk h1 hb, hE, hC.blk h2 hr, hl⟩
theorem RngP.lt {w : World} {b r : Nat} {M rest : List (Int × Value)} (h : RngP w b r M rest) : r < w.heap.size := by
  obtain ⟨es, clock, seen, h1, hE, h2, hl⟩ := h
  exact lt_of_blk h2

section
variable {P : Program}

/-- 'range m': the iterator is the new block. -/
theorem run_range_I {w : World} {t k e : TypeId} (ht : P.underlying t = some (.map k e)) {b : Nat} {M : List (Int × Value)} (hM : MapI w b M) :
    ∃ o, (Instr.range t (.map (some b))).run P w = .ok (.pointer (some ⟨w.heap.size, 0, none⟩)) (w.alloc o) ∧ RngP (w.alloc o) b w.heap.size M M := by
  obtain ⟨es, clock, hb, hE⟩ := hM
  refine ⟨_, run_range_map w t k e b es clock ht hb, es, clock, #[], blk_alloc hb _, hE, heap_alloc_eq w _, ?_⟩
  have : leftL es #[] = es.toList := List.filter_eq_self.2 (fun x _ => by simp)
  rw [this]
  exact hE.rows

theorem leftL_push (es : Array MapEntry) (seen : Array Nat) (e : MapEntry) : leftL es (seen.push e.born) = (leftL es seen).filter (fun x => !(x.born == e.born)) := by
  unfold leftL
  rw [List.filter_filter]
  congr 1
  funext x
  rw [contains_push]
  cases seen.contains x.born <;> cases hx : x.born == e.born <;> simp

theorem filter_born (e : MapEntry) : ∀ (l : List MapEntry), (l.map (·.born)).Nodup → ∀ l1 l2, l = l1 ++ e :: l2 → l.filter (fun x => !(x.born == e.born)) = l1 ++ l2 := by
  intro l hn l1 l2 hl
  subst hl
  rw [List.filter_append, List.filter_cons]
  have hn' := hn
  simp only [List.map_append, List.map_cons, List.nodup_append, List.nodup_cons] at hn'
  obtain ⟨_, ⟨h2, _⟩, h3⟩ := hn'
  have e1 : l1.filter (fun x => !(x.born == e.born)) = l1 := List.filter_eq_self.2 (fun x hx => by
    have := h3 x.born (List.mem_map.2 ⟨x, hx, rfl⟩) e.born (by simp)
    simpa using this)
  have e2 : l2.filter (fun x => !(x.born == e.born)) = l2 := List.filter_eq_self.2 (fun x hx => by
    have : x.born ≠ e.born := fun h => h2 (List.mem_map.2 ⟨x, hx, h⟩)
    simpa using this)
  rw [e1, e2]
  simp

/-- 'next': nothing is left; or one row of those that are left comes, whichever. -/
theorem run_next_I1 {w : World} (ty : TypeId) {b r : Nat} {M rest : List (Int × Value)} (h : RngP w b r M rest) :
    (rest = [] ∧ (Instr.next (.pointer (some ⟨r, 0, none⟩)) false ty).run P w = .ok (.tuple #[.bool false]) w) ∨
    ∃ p r1 r2 w1, rest = r1 ++ p :: r2 ∧ (Instr.next (.pointer (some ⟨r, 0, none⟩)) false ty).run P w = .ok (.tuple #[.bool true, .int .i64 p.1, p.2]) w1 ∧ RngP w1 b r M (r1 ++ r2) ∧
      (Instr.entry (.pointer (some ⟨r, 0, none⟩))).run P w1 = .ok (.tuple #[.int .i64 p.1, p.2]) w1 ∧ Chg [r] w w1 ∧ w1.heap.size = w.heap.size := by
  obtain ⟨es, clock, seen, hb, hE, hr, hl⟩ := h
  have hbr : b ≠ r := by
    intro e; subst e; rw [hr] at hb; cases hb
  have htest := next_test_false seen es clock clock hE.old (Nat.le_refl _)
  have hfl : (es.filter fun e => !seen.contains e.born).toList = leftL es seen := by simp [leftL]
  have hmem : ∀ x ∈ leftL es seen, x.born < clock := fun x hx => hE.old x (List.mem_filter.1 hx).1
  simp only [Instr.next, getObj, Sem.run_bind, Sem.run, hr, hb, Result.andThen, htest, Bool.false_eq_true, if_false]
  generalize hL : (es.filter fun e => !seen.contains e.born) = L
  rw [hL] at hfl
  have e1 : L.filter (fun x => decide (x.born < clock)) = L := Array.filter_eq_self.2 (fun x hx => by
    have := hmem x (by rw [← hfl]; simpa using hx)
    simpa using this)
  have e2 : L.filter (fun x => decide (x.born ≥ clock)) = #[] := by
    rw [Array.filter_eq_empty_iff]
    intro x hx
    have := hmem x (by rw [← hfl]; simpa using hx)
    simp
    omega
  simp only [e1, e2, Array.append_empty]
  by_cases h0 : L.size = 0
  · left
    have hLe : L = #[] := Array.eq_empty_of_size_eq_zero h0
    subst hLe
    have : rest = [] := by
      have h1 := congrArg List.length hl
      rw [← hfl] at h1
      simpa using h1.symm
    exact ⟨this, by simp [choose, Sem.run, Question.forced]⟩
  · right
    have hne : L.isEmpty = false := by simp [Array.isEmpty, h0]
    simp only [hne, Bool.false_eq_true, if_false, Array.empty_append, Array.size_map]
    have hch : ∃ (j : Nat) (w1 : World), j < L.size ∧ w1.heap = w.heap ∧ Chg [] w w1 ∧ (choose (Question.mapNext L.size)).run P w = .ok j w1 := by
      by_cases hf : L.size ≤ 1
      · exact ⟨0, w, by omega, rfl, Chg.refl _ _, by simp [choose, Sem.run, Question.forced, hf]⟩
      · exact ⟨_, w.drew, Nat.mod_lt _ (by omega), rfl, (Chg.refl _ _).drew, by
          simp only [choose, Sem.run, Question.forced, decide_eq_true_eq, hf, if_false, Question.cut]
          rfl⟩
    obtain ⟨j, w1, hj, hh, hC, hrun⟩ := hch
    have hjl : j < (leftL es seen).length := by rw [← hfl]; simpa using hj
    have hjr : j < rest.length := by
      have h1 := congrArg List.length hl
      simp at h1
      omega
    have hLj : L[j] = (leftL es seen)[j] := by
      rw [← Array.getElem_toList (h := hj)]
      simp only [hfl]
    have hkv : L[j].key = .int .i64 rest[j].1 ∧ L[j].val = rest[j].2 := by
      have h1 := congrArg (fun l => l[j]?) hl
      simp [hjl, hjr] at h1
      rw [hLj]
      exact h1
    have hset : (setObj r (.mapIter (some b) clock (seen.push L[j].born) clock)).run P w1 = .ok () (setBlock w1 r (.mapIter (some b) clock (seen.push L[j].born) clock)) := by
      simp [setObj, Sem.run, hh, hr, setBlock]
    have hin : L[j] ∈ leftL es seen := by rw [hLj]; exact List.getElem_mem _
    have hin2 : L[j] ∈ es.toList := (List.mem_filter.1 hin).1
    have hb1 : (setBlock w1 r (.mapIter (some b) clock (seen.push L[j].born) clock)).heap[b]? = some (.map es clock) := blk_setBlock_ne (by rw [hh]; exact hb) hbr _
    have hr1 : (setBlock w1 r (.mapIter (some b) clock (seen.push L[j].born) clock)).heap[r]? = some (.mapIter (some b) clock (seen.push L[j].born) clock) := blk_setBlock (o := .mapIter (some b) clock seen clock) (by rw [hh]; exact hr) _
    have hsplit : leftL es seen = (leftL es seen).take j ++ L[j] :: (leftL es seen).drop (j + 1) := by
      rw [hLj, List.getElem_cons_drop, List.take_append_drop]
    refine ⟨rest[j], rest.take j, rest.drop (j + 1), setBlock w1 r (.mapIter (some b) clock (seen.push L[j].born) clock), by rw [List.getElem_cons_drop, List.take_append_drop], ?_, ⟨es, clock, _, hb1, hE, hr1, ?_⟩, ?_, ?_, by simp [setBlock, hh]⟩
    · simp only [hrun, Array.getElem?_map, Array.getElem?_eq_getElem hj, Option.map_some, Sem.run_bind, hset, Result.andThen, hkv.1, hkv.2]
      rfl
    · have hnd : ((leftL es seen).map (·.born)).Nodup := hE.born.sublist (List.Sublist.map _ List.filter_sublist)
      have e3 : (leftL es seen).filter (fun x => !(x.born == L[j].born)) = (leftL es seen).take j ++ (leftL es seen).drop (j + 1) := filter_born _ _ hnd _ _ hsplit
      rw [leftL_push, e3]
      simp only [List.map_append, List.map_take, List.map_drop, hl]
    · have hf : es.find? (·.born == L[j].born) = some L[j] := by rw [← Array.find?_toList]; exact find_born L[j] es.toList hE.born hin2
      simp only [Instr.entry, getObj, Sem.run_bind, Sem.run, hr1, hb1, Result.andThen, Array.back?_push, bne_self_eq_false, Bool.false_eq_true, if_false, hf]
      rw [← hkv.1, ← hkv.2]
      rfl
    · exact (hC.mono (by simp)).setBlock _ _ (by simp)

/-- .. whatever type the operation bears. -/
theorem run_next_I {w : World} {b r : Nat} {M rest : List (Int × Value)} (h : RngP w b r M rest) :
    (rest = [] ∧ ∀ ty, (Instr.next (.pointer (some ⟨r, 0, none⟩)) false ty).run P w = .ok (.tuple #[.bool false]) w) ∨
    ∃ p r1 r2 w1, rest = r1 ++ p :: r2 ∧ (∀ ty, (Instr.next (.pointer (some ⟨r, 0, none⟩)) false ty).run P w = .ok (.tuple #[.bool true, .int .i64 p.1, p.2]) w1) ∧ RngP w1 b r M (r1 ++ r2) ∧
      (Instr.entry (.pointer (some ⟨r, 0, none⟩))).run P w1 = .ok (.tuple #[.int .i64 p.1, p.2]) w1 ∧ Chg [r] w w1 ∧ w1.heap.size = w.heap.size := by
  rcases run_next_I1 (P := P) 0 h with ⟨h1, h2⟩ | ⟨p, r1, r2, w1, h1, h2, h3⟩
  · exact .inl ⟨h1, fun _ => h2⟩
  · exact .inr ⟨p, r1, r2, w1, h1, fun _ => h2, h3⟩

theorem own_notin {w : World} {B : Nat} {e : TypeId} {size : Nat} {v : Value} {n : Nat} {xs : List Value} (h : w.ownsRow B e size v n xs) {k : Nat} (hk : k < B) : k ∉ v.ownBlock.toList := by
  intro hm
  have := h.lt k (by simpa using hm)
  omega
theorem own_ge {w : World} {B : Nat} {e : TypeId} {size : Nat} {v : Value} {n : Nat} {xs : List Value} (h : w.ownsRow B e size v n xs) : ∀ k ∈ v.ownBlock.toList, B ≤ k := by
  intro k hm
  exact (h.lt k (by simpa using hm)).1
theorem own_mono {w : World} {B B' : Nat} {e : TypeId} {size : Nat} {v : Value} {n : Nat} {xs : List Value} (h : w.ownsRow B e size v n xs) (hB : B' ≤ B) : w.ownsRow B' e size v n xs := by
  refine ⟨h.1, ?_⟩
  rcases h.2 with h2 | ⟨g, cap, cur, h3, h4, h5⟩
  · exact .inl h2
  · exact .inr ⟨g, cap, cur, h3, Nat.le_trans hB h4, h5⟩
theorem own_kept {S : List Nat} {w w' : World} {B : Nat} {e : TypeId} {size : Nat} {v : Value} {n : Nat} {xs : List Value} (h : w.ownsRow B e size v n xs) (hC : Chg S w w') (hS : ∀ k ∈ S, k ∉ v.ownBlock.toList) : w'.ownsRow B e size v n xs := by
  refine ⟨h.1, ?_⟩
  rcases h.2 with h2 | ⟨g, cap, cur, rfl, h4, h5, h6⟩
  · exact .inl h2
  · exact .inr ⟨g, cap, cur, rfl, h4, hC.blk h5 (fun hm => hS g hm (by simp [Value.ownBlock])), h6⟩

/-- 's = append(s, x)' where s is of the call's own (from block B on): the row may have moved to a new block. -/
theorem run_push {w : World} (B : Nat) (t ty e : TypeId) (i : TypeInfo) (z : Value) (size bytes : Nat) (ht : P.underlying t = some (.slice e)) (hi : P.info? e = some i) (hz : i.zero = some z)
    (hsize : i.size = size) (hby : i.bytes = bytes) (hzs : z.cells.size = size) (hsz : 0 < size)
    (v : Value) (n : Nat) (xs : List Value) (hown : w.ownsRow B e size v n xs) (news : List Value) (hl : news.length = size) (h1 : ∀ u ∈ news, u.oneCell' = true)
    (h63 : n + 1 ≤ maxLen) (hbytes : (n + 1) * bytes ≤ 140737488355328) (hB : B ≤ w.heap.size) :
    ∃ v' w', (Builtin.append_ #[t, t] ty #[v, .slice (some ⟨w.heap.size, 0, none⟩) 1 1]).run P (w.alloc (.cells news.toArray e)) = .ok v' w' ∧ w'.ownsRow B e size v' (n + 1) (xs ++ news) ∧
      Chg v.ownBlock.toList w w' ∧ (v'.ownBlock = v.ownBlock ∨ ∃ k, w.heap.size ≤ k ∧ v'.ownBlock = some k) ∧ v' ≠ .slice none 0 0 := by
  have hown' : (w.alloc (.cells news.toArray e)).ownsRow B e size v n xs := hown.alloc _
  obtain ⟨v', w', hr, h2, h3, h4, h5⟩ := run_append_own_at (P := P) (w.alloc (.cells news.toArray e)) B t ty e i z size bytes ht hi hz hsize hby hzs hsz v n xs hown' ⟨w.heap.size, 0, none⟩ 1 1 news (by omega)
    (fun j u hj => by simpa [Addr.add] using (show (w.alloc (.cells news.toArray e)).cell? ((⟨w.heap.size, 0, none⟩ : Addr).add j) = some u by
      rw [show ((⟨w.heap.size, 0, none⟩ : Addr).add j) = ⟨w.heap.size, j, none⟩ by unfold Addr.add; split <;> simp_all]
      rw [World.cell?_alloc_new]
      simpa using hj)) h1 h63 hbytes (by simp; omega)
  refine ⟨v', w', hr, h2, ?_, ?_, ?_⟩
  · exact ((Chg.refl _ w).alloc _).trans (Chg.of_grown h3 (fun k hk => by simp [hk]))
  · rcases h5 with h5 | h5
    · exact .inl h5
    · exact .inr ⟨w.heap.size + 1, by omega, by simpa using h5⟩
  · intro e1
    have := (h4.1 e1).2
    omega

theorem wpList_push {w : World} {ops : Array Oper} {rest : List Oper} {o : Oper} {a : Act} {Q : Exit → Act → World → Prop} (hgd : o.guard = none) (s x : Operand) (t : TypeId)
    (ho : o.op = .call { callee := .builtin .append, args := #[s, x], argTypes := #[t, t] })
    (B : Nat) (e : TypeId) (i : TypeInfo) (z : Value) (size bytes : Nat) (ht : P.underlying t = some (.slice e)) (hi : P.info? e = some i) (hz : i.zero = some z)
    (hsize : i.size = size) (hby : i.bytes = bytes) (hzs : z.cells.size = size) (hsz : 0 < size)
    (v : Value) (n : Nat) (xs : List Value) (hs : a.eval s = v) (hown : w.ownsRow B e size v n xs) (news : List Value) (hx : a.eval x = .slice (some ⟨w.heap.size, 0, none⟩) 1 1) (hl : news.length = size) (h1 : ∀ u ∈ news, u.oneCell' = true)
    (h63 : n + 1 ≤ maxLen) (hbytes : (n + 1) * bytes ≤ 140737488355328) (hB : B ≤ w.heap.size)
    (h : ∀ v' w', w'.ownsRow B e size v' (n + 1) (xs ++ news) → Chg v.ownBlock.toList w w' → (v'.ownBlock = v.ownBlock ∨ ∃ k, w.heap.size ≤ k ∧ v'.ownBlock = some k) → v' ≠ .slice none 0 0 → wpList P ops Q rest (a.put o.dst v') w') :
    wpList P ops Q (o :: rest) a (w.alloc (.cells news.toArray e)) := by
  refine wpList_plain hgd fun K hK => ?_
  obtain ⟨v', w', hr, h2, h3, h4, h5⟩ := run_push (P := P) (w := w) B t o.type e i z size bytes ht hi hz hsize hby hzs hsz v n xs hown news hl h1 h63 hbytes hB
  unfold Oper.wp execOp
  simp only [ho, resolve, invoke, builtin, Sem.run_bind, Sem.run_pure, Result.andThen_ok, List.map_toArray, List.map_cons, List.map_nil, hs, hx, hr]
  exact hK _ _ (h v' w' h2 h3 h4 h5)
end

end Go.Proofs.YtiiafhlckmkcnaaGreat
