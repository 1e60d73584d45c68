
/- Maps keyed by string as a list of pairs: what lookup, update, delete, len and clear do to them (written by wip/smap.py out of XBlk). No program in sight. -/
import Derived.Test.YtkkjbnmfjhmobaaDoorBlk
namespace Go.Proofs.YtkkjbnmfjhmobaaDoor
open Go.RowKit Go.ChangeMaps Go.MapKept

theorem ba_beq_iff (a b : ByteArray) : (a == b) = true ↔ a = b := by
  cases a with | mk x => cases b with | mk y =>
  constructor
  · intro h
    have h2 : (x == y) = true := h
    rw [eq_of_beq h2]
  · intro h
    injection h with h
    subst h
    show (x == x) = true
    simp
instance : LawfulBEq ByteArray where
  eq_of_beq h := (ba_beq_iff _ _).1 h
  rfl := (ba_beq_iff _ _).2 rfl

/-! ### maps keyed by string -/
structure SMapE (es : Array MapEntry) (clock : Nat) (M : List (ByteArray × Value)) : Prop where
  rows : es.toList.map (fun e => (e.key, e.val)) = M.map (fun p => (Value.string p.1, p.2))
  born : (es.toList.map (·.born)).Nodup
  old : ∀ e ∈ es.toList, e.born < clock
  keys : (M.map (·.1)).Nodup

def SMapI (w : World) (b : Nat) (M : List (ByteArray × Value)) : Prop := ∃ es clock, w.heap[b]? = some (.map es clock) ∧ SMapE es clock M

def sMupd : List (ByteArray × Value) → ByteArray → Value → List (ByteArray × Value)
  | [], a, v => [(a, v)]
  | (k, x) :: r, a, v => if a = k then (a, v) :: r else (k, x) :: sMupd r a v
def sMdel : List (ByteArray × Value) → ByteArray → List (ByteArray × Value)
  | [], _ => []
  | (k, x) :: r, a => if a = k then r else (k, x) :: sMdel r a

theorem sFindNow_I (a : ByteArray) : ∀ (es : List MapEntry) (M : List (ByteArray × Value)) (i : Nat), es.map (fun e => (e.key, e.val)) = M.map (fun p => (Value.string p.1, p.2)) →
    Instr.findNow .string (.string a) es i = some ((M.findIdx? (fun p => a == p.1)).bind fun j => (M[j]?).map fun p => (i + j, p.2))
  | [], [], i, _ => by simp [Instr.findNow]
  | [], _ :: _, _, h => by simp at h
  | _ :: _, [], _, h => by simp at h
  | e :: es, p :: M, i, h => by
    simp only [List.map_cons, List.cons.injEq, Prod.mk.injEq] at h
    obtain ⟨⟨h1, h2⟩, h3⟩ := h
    simp only [Instr.findNow, h1, Instr.sameNow]
    by_cases hc : a = p.1
    · simp [hc, List.findIdx?_cons, h2]
    · have hc' : (a == p.1) = false := by simpa using hc
      simp only [hc', List.findIdx?_cons, Bool.false_eq_true, if_false]
      rw [sFindNow_I a es M (i + 1) h3]
      cases hf : M.findIdx? (fun q => a == q.1) with
      | none => simp
      | some j => simp [Nat.add_assoc, Nat.add_comm 1 j]

theorem sLookup_findIdx (a : ByteArray) : ∀ (M : List (ByteArray × Value)), ((M.findIdx? (fun p => a == p.1)).bind fun j => (M[j]?).map fun p => p.2) = M.lookup a
  | [] => by simp
  | p :: M => by
    obtain ⟨k, x⟩ := p
    by_cases hc : a = k
    · simp [hc, List.findIdx?_cons]
    · have hc' : (a == k) = false := by simpa using hc
      simp only [List.findIdx?_cons, hc', Bool.false_eq_true, if_false, List.lookup_cons]
      rw [← sLookup_findIdx a M]
      cases hf : M.findIdx? (fun q => a == q.1) with
      | none => simp
      | some j => simp


theorem sFindIdx_lookup_none {a : ByteArray} : ∀ {M : List (ByteArray × Value)}, M.findIdx? (fun p => a == p.1) = none → M.lookup a = none
  | [], _ => rfl
  | (k, x) :: M, h => by
    rw [List.findIdx?_cons] at h
    by_cases hc : a = k
    · simp [hc] at h
    · have hc' : (a == k) = false := by simpa using hc
      simp only [hc', Bool.false_eq_true, if_false, Option.map_eq_none_iff] at h
      rw [List.lookup_cons, hc']
      exact sFindIdx_lookup_none h

theorem sMupd_set {a : ByteArray} {v : Value} : ∀ {M : List (ByteArray × Value)} {j : Nat}, M.findIdx? (fun p => a == p.1) = some j → sMupd M a v = M.set j (a, v)
  | [], _, h => by simp at h
  | (k, x) :: M, j, h => by
    rw [List.findIdx?_cons] at h
    by_cases hc : a = k
    · simp [hc] at h
      subst h
      simp [sMupd, hc]
    · have hc' : (a == k) = false := by simpa using hc
      simp only [hc', Bool.false_eq_true, if_false, Option.map_eq_some_iff] at h
      obtain ⟨i, hi, rfl⟩ := h
      simp [sMupd, hc, sMupd_set hi]

theorem sMupd_push {a : ByteArray} {v : Value} : ∀ {M : List (ByteArray × Value)}, M.findIdx? (fun p => a == p.1) = none → sMupd M a v = M ++ [(a, v)]
  | [], _ => rfl
  | (k, x) :: M, h => by
    rw [List.findIdx?_cons] at h
    by_cases hc : a = k
    · simp [hc] at h
    · have hc' : (a == k) = false := by simpa using hc
      simp only [hc', Bool.false_eq_true, if_false, Option.map_eq_none_iff] at h
      simp [sMupd, hc, sMupd_push h]

theorem sMdel_erase {a : ByteArray} : ∀ {M : List (ByteArray × Value)} {j : Nat}, M.findIdx? (fun p => a == p.1) = some j → sMdel M a = M.eraseIdx j
  | [], _, h => by simp at h
  | (k, x) :: M, j, h => by
    rw [List.findIdx?_cons] at h
    by_cases hc : a = k
    · simp [hc] at h
      subst h
      simp [sMdel, hc]
    · have hc' : (a == k) = false := by simpa using hc
      simp only [hc', Bool.false_eq_true, if_false, Option.map_eq_some_iff] at h
      obtain ⟨i, hi, rfl⟩ := h
      simp [sMdel, hc, sMdel_erase hi]

theorem sMdel_none {a : ByteArray} : ∀ {M : List (ByteArray × Value)}, M.findIdx? (fun p => a == p.1) = none → sMdel M a = M
  | [], _ => rfl
  | (k, x) :: M, h => by
    rw [List.findIdx?_cons] at h
    by_cases hc : a = k
    · simp [hc] at h
    · have hc' : (a == k) = false := by simpa using hc
      simp only [hc', Bool.false_eq_true, if_false, Option.map_eq_none_iff] at h
      simp [sMdel, hc, sMdel_none h]

theorem sNotmem_of_findIdx_none {a : ByteArray} {M : List (ByteArray × Value)} (h : M.findIdx? (fun p => a == p.1) = none) : a ∉ M.map (·.1) := by
  intro hm
  obtain ⟨p, hp, rfl⟩ := List.mem_map.1 hm
  have := List.findIdx?_eq_none_iff.1 h p hp
  simp at this

theorem sKey_of_findIdx {a : ByteArray} : ∀ {M : List (ByteArray × Value)} {j : Nat}, M.findIdx? (fun p => a == p.1) = some j → ∃ x, M[j]? = some (a, x)
  | [], _, h => by simp at h
  | (k, x) :: M, j, h => by
    rw [List.findIdx?_cons] at h
    by_cases hc : a = k
    · simp [hc] at h
      subst h
      exact ⟨x, by simp [hc]⟩
    · have hc' : (a == k) = false := by simpa using hc
      simp only [hc', Bool.false_eq_true, if_false, Option.map_eq_some_iff] at h
      obtain ⟨i, hi, rfl⟩ := h
      obtain ⟨y, hy⟩ := sKey_of_findIdx hi
      exact ⟨y, by simpa using hy⟩

section
variable {P : Program}
theorem run_checkKey_str (w : World) (k : TypeId) (n : Nat) (b : Bool) (a : ByteArray) (hk : P.underlying k = some .string) : (Instr.checkKey b (n + 1) k (.string a)).run P w = .ok () w := by
  simp [Instr.checkKey, run_underlying hk]

theorem sRun_checkKey_I (w : World) (k : TypeId) (b : Bool) (a : ByteArray) (hk : P.underlying k = some .string) : (Instr.checkKey b 10000 k (.string a)).run P w = .ok () w :=
  run_checkKey_str w k 9999 b a hk

theorem sRun_findKey_I {w : World} {k : TypeId} (hk : P.underlying k = some .string) (a : ByteArray) {es : Array MapEntry} {M : List (ByteArray × Value)}
    (h : es.toList.map (fun e => (e.key, e.val)) = M.map (fun p => (Value.string p.1, p.2))) :
    (Instr.findKey k (.string a) es.toList).run P w = .ok ((M.findIdx? (fun p => a == p.1)).bind fun j => (M[j]?).map fun p => (j, p.2)) w := by
  have h1 := sFindNow_I a es.toList M 0 h
  simp only [Nat.zero_add] at h1
  simp [Instr.findKey, run_underlying hk, h1]

theorem sRun_lookup_I {w : World} {t k e : TypeId} (ht : P.underlying t = some (.map k e)) (hk : P.underlying k = some .string) {z : Value} (hz : (zeroValue e).run P w = .ok z w)
    {b : Nat} {M : List (ByteArray × Value)} (hM : SMapI w b M) (a : ByteArray) :
    (Instr.lookup t (.map (some b)) (.string a) true).run P w = .ok (.tuple #[(M.lookup a).getD z, .bool (M.lookup a).isSome]) w := by
  obtain ⟨es, clock, hb, hE⟩ := hM
  have hf := sRun_findKey_I (w := w) hk a hE.rows
  have hl := sLookup_findIdx a M
  have hck := sRun_checkKey_I w k es.isEmpty a hk
  cases hj : M.findIdx? (fun p => a == p.1) with
  | none =>
    rw [hj] at hf
    simp [Instr.lookup, run_underlying ht, Result.andThen, MapKept.run_getObj_map hb, hck, hf, hz, sFindIdx_lookup_none hj]
  | some j =>
    obtain ⟨x, hx⟩ := sKey_of_findIdx hj
    rw [hj] at hl hf
    simp [hx] at hl hf
    simp [Instr.lookup, run_underlying ht, Result.andThen, MapKept.run_getObj_map hb, hck, hf, ← hl]

theorem sRun_lookup_I1 {w : World} {t k e : TypeId} (ht : P.underlying t = some (.map k e)) (hk : P.underlying k = some .string) {z : Value} (hz : (zeroValue e).run P w = .ok z w)
    {b : Nat} {M : List (ByteArray × Value)} (hM : SMapI w b M) (a : ByteArray) :
    (Instr.lookup t (.map (some b)) (.string a) false).run P w = .ok ((M.lookup a).getD z) w := by
  obtain ⟨es, clock, hb, hE⟩ := hM
  have hf := sRun_findKey_I (w := w) hk a hE.rows
  have hl := sLookup_findIdx a M
  have hck := sRun_checkKey_I w k es.isEmpty a hk
  cases hj : M.findIdx? (fun p => a == p.1) with
  | none =>
    rw [hj] at hf
    simp [Instr.lookup, run_underlying ht, Result.andThen, MapKept.run_getObj_map hb, hck, hf, hz, sFindIdx_lookup_none hj]
  | some j =>
    obtain ⟨x, hx⟩ := sKey_of_findIdx hj
    rw [hj] at hl hf
    simp [hx] at hl hf
    simp [Instr.lookup, run_underlying ht, Result.andThen, MapKept.run_getObj_map hb, hck, hf, ← hl]

theorem sRun_update_I {w : World} {t k e : TypeId} (ht : P.underlying t = some (.map k e)) (hk : P.underlying k = some .string)
    {b : Nat} {M : List (ByteArray × Value)} (hM : SMapI w b M) (a : ByteArray) (v : Value) :
    ∃ w1, (Instr.mapUpdate t (.map (some b)) (.string a) v).run P w = .ok () w1 ∧ SMapI w1 b (sMupd M a v) ∧ Chg [b] w w1 := by
  obtain ⟨es, clock, hb, hE⟩ := hM
  have hf := sRun_findKey_I (w := w) hk a hE.rows
  simp only [Instr.mapUpdate, Sem.run_bind, run_underlying ht, Result.andThen, MapKept.run_getObj_map hb, sRun_checkKey_I w k _ a hk, hf]
  have hlen : es.toList.length = M.length := by simpa using congrArg List.length hE.rows
  cases hj : M.findIdx? (fun p => a == p.1) with
  | none =>
    refine ⟨setBlock w b (.map (es.push { key := .string a, val := v, born := clock }) (clock + 1)), by simp [run_setObj_map hb], ⟨_, _, blk_setBlock hb _, ?_⟩, (Chg.refl _ _).setBlock _ _ (by simp)⟩
    rw [sMupd_push hj]
    refine ⟨by simp [hE.rows], ?_, ?_, ?_⟩
    · simp only [Array.toList_push, List.map_append, List.map_cons, List.map_nil]
      refine List.nodup_append.2 ⟨hE.born, by simp, ?_⟩
      intro x hx y hy
      simp at hy
      subst hy
      obtain ⟨e0, he0, rfl⟩ := List.mem_map.1 hx
      have := hE.old e0 he0
      omega
    · intro e0 he0
      simp only [Array.toList_push, List.mem_append, List.mem_singleton] at he0
      rcases he0 with he0 | rfl
      · have := hE.old e0 he0; omega
      · simp
    · simp only [List.map_append, List.map_cons, List.map_nil]
      refine List.nodup_append.2 ⟨hE.keys, by simp, ?_⟩
      intro x hx y hy
      simp at hy
      subst hy
      intro e1
      subst e1
      exact sNotmem_of_findIdx_none hj hx
  | some j =>
    obtain ⟨x, hx⟩ := sKey_of_findIdx hj
    have hjl : j < M.length := (List.getElem?_eq_some_iff.1 hx).1
    have hje : j < es.size := by rw [← Array.length_toList, hlen]; exact hjl
    have hkey : es[j].key = .string a := by
      have := congrArg (fun l => l[j]?) hE.rows
      simp [hx, hje] at this
      exact this.1
    have hkts : (Instr.keyThatStays (.string a) (.string a)).run P w = .ok (.string a) w := by simp [Instr.keyThatStays, Instr.sameBits]
    refine ⟨setBlock w b (.map (es.modify j fun e => { e with key := .string a, val := v }) clock), ?_, ⟨_, _, blk_setBlock hb _, ?_⟩, (Chg.refl _ _).setBlock _ _ (by simp)⟩
    · simp [hx, hje, hkey, hkts, Result.andThen, run_setObj_map hb]
    · rw [sMupd_set hj]
      have hml : (es.modify j fun e => { e with key := .string a, val := v }).toList = es.toList.set j { key := .string a, val := v, born := es[j].born } := by
        apply List.ext_getElem?
        intro i
        rw [Array.getElem?_toList, Array.getElem?_modify, List.getElem?_set]
        by_cases hi : j = i
        · subst hi
          simp [hje]
        · simp [hi]
      have hb2 : (es.toList.set j { key := .string a, val := v, born := es[j].born }).map (·.born) = es.toList.map (·.born) := by
        rw [List.map_set]
        apply List.ext_getElem?
        intro i
        rw [List.getElem?_set]
        by_cases hi : j = i
        · subst hi
          simp [hje]
        · simp [hi]
      refine ⟨?_, ?_, ?_, ?_⟩
      · rw [hml, List.map_set, hE.rows, List.map_set]
      · rw [hml, hb2]; exact hE.born
      · intro e0 he0
        rw [hml] at he0
        have hm : e0.born ∈ (es.toList.set j { key := .string a, val := v, born := es[j].born }).map (·.born) := List.mem_map.2 ⟨e0, he0, rfl⟩
        rw [hb2] at hm
        obtain ⟨e1, he1, h2⟩ := List.mem_map.1 hm
        have := hE.old e1 he1
        omega
      · rw [List.map_set]
        have : (M.map (·.1)).set j a = M.map (·.1) := by
          apply List.ext_getElem?
          intro i
          rw [List.getElem?_set]
          by_cases hi : j = i
          · subst hi
            have hx2 : M[j] = (a, x) := by simpa [hjl] using hx
            simp [hjl, hx2]
          · simp [hi]
        rw [this]
        exact hE.keys

theorem sRun_delete_I {w : World} {t k e : TypeId} (ht : P.underlying t = some (.map k e)) (hk : P.underlying k = some .string)
    {b : Nat} {M : List (ByteArray × Value)} (hM : SMapI w b M) (a : ByteArray) (tk rt : TypeId) :
    ∃ w1, (Builtin.delete_ #[t, tk] rt #[.map (some b), .string a]).run P w = .ok (.tuple #[]) w1 ∧ SMapI w1 b (sMdel M a) ∧ Chg [b] w w1 := by
  obtain ⟨es, clock, hb, hE⟩ := hM
  have hf := sRun_findKey_I (w := w) hk a hE.rows
  have hlen : es.toList.length = M.length := by simpa using congrArg List.length hE.rows
  cases hj : M.findIdx? (fun p => a == p.1) with
  | none =>
    rw [hj] at hf
    refine ⟨setBlock w b (.map es clock), ?_, ⟨_, _, blk_setBlock hb _, ?_⟩, (Chg.refl _ _).setBlock _ _ (by simp)⟩
    · simp [Builtin.delete_, run_underlying ht, MapKept.run_getObj_map hb, sRun_checkKey_I w k _ a hk, hf, run_setObj_map hb, Result.andThen]
    · rw [sMdel_none hj]; exact hE
  | some j =>
    obtain ⟨x, hx⟩ := sKey_of_findIdx hj
    have hjl : j < M.length := (List.getElem?_eq_some_iff.1 hx).1
    have hje : j < es.size := by rw [← Array.length_toList, hlen]; exact hjl
    rw [hj] at hf
    refine ⟨setBlock w b (.map (es.eraseIdxIfInBounds j) clock), ?_, ⟨_, _, blk_setBlock hb _, ?_⟩, (Chg.refl _ _).setBlock _ _ (by simp)⟩
    · simp [Builtin.delete_, run_underlying ht, MapKept.run_getObj_map hb, sRun_checkKey_I w k _ a hk, hf, hx, run_setObj_map hb, Result.andThen]
    · rw [sMdel_erase hj]
      have hml : (es.eraseIdxIfInBounds j).toList = es.toList.eraseIdx j := by simp [Array.eraseIdxIfInBounds, hje]
      refine ⟨?_, ?_, ?_, ?_⟩
      · rw [hml, map_eraseIdx, hE.rows, map_eraseIdx]
      · rw [hml, map_eraseIdx]; exact hE.born.sublist (List.eraseIdx_sublist ..)
      · intro e0 he0
        rw [hml] at he0
        exact hE.old e0 ((List.eraseIdx_sublist ..).subset he0)
      · rw [map_eraseIdx]; exact hE.keys.sublist (List.eraseIdx_sublist ..)

theorem sRun_len_I {w : World} {t k e : TypeId} (ht : P.underlying t = some (.map k e)) {b : Nat} {M : List (ByteArray × Value)} (hM : SMapI w b M) (rt : TypeId) :
    (Builtin.len_ #[t] rt #[.map (some b)]).run P w = .ok (.int .i64 (M.length : Int)) w := by
  obtain ⟨es, clock, hb, hE⟩ := hM
  have hlen : es.size = M.length := by simpa using congrArg List.length hE.rows
  simp [Builtin.len_, run_underlying ht, MapKept.run_getObj_map hb, Result.andThen, hlen, goInt]

theorem sRun_clear_I {w : World} {t k e : TypeId} (ht : P.underlying t = some (.map k e)) {b : Nat} {M : List (ByteArray × Value)} (hM : SMapI w b M) (rt : TypeId) :
    ∃ w1, (Builtin.clear_ #[t] rt #[.map (some b)]).run P w = .ok (.tuple #[]) w1 ∧ SMapI w1 b [] ∧ Chg [b] w w1 := by
  obtain ⟨es, clock, hb, hE⟩ := hM
  exact ⟨setBlock w b (.map #[] clock), by simp [Builtin.clear_, run_underlying ht, MapKept.run_getObj_map hb, Result.andThen, run_setObj_map hb], ⟨_, _, blk_setBlock hb _, ⟨rfl, by simp, by simp, by simp⟩⟩, (Chg.refl _ _).setBlock _ _ (by simp)⟩
end

theorem SMapI.kept {S : List Nat} {w w' : World} {b : Nat} {M : List (ByteArray × Value)} (h : SMapI w b M) (hC : Chg S w w') (hn : b ∉ S) : SMapI w' b M := by
  obtain ⟨es, clock, hb, hE⟩ := h
  exact ⟨es, clock, hC.blk hb hn, hE⟩
theorem SMapI.lt {w : World} {b : Nat} {M : List (ByteArray × Value)} (h : SMapI w b M) : b < w.heap.size := by
  obtain ⟨es, clock, hb, hE⟩ := h
  exact lt_of_blk hb

/-! ### the order of a map's rows does not matter -/
theorem sLookup_mem {M : List (ByteArray × Value)} {a : ByteArray} {v : Value} (hn : (M.map (·.1)).Nodup) : M.lookup a = some v ↔ (a, v) ∈ M := by
  induction M with
  | nil => simp
  | cons p M ih =>
    obtain ⟨k, x⟩ := p
    have hn' := List.nodup_cons.1 hn
    rw [List.lookup_cons]
    by_cases hc : a = k
    · subst hc
      simp only [beq_self_eq_true, List.mem_cons, Prod.mk.injEq, true_and]
      constructor
      · intro h; exact .inl (Option.some.inj h).symm
      · rintro (rfl | h)
        · rfl
        · exact absurd (List.mem_map.2 ⟨_, h, rfl⟩) hn'.1
    · have hc' : (a == k) = false := by simpa using hc
      simp only [hc', List.mem_cons, Prod.mk.injEq, hc, false_and, false_or]
      exact ih hn'.2

theorem sLookup_perm {M M' : List (ByteArray × Value)} (h : M.Perm M') (hn : (M.map (·.1)).Nodup) (a : ByteArray) : M.lookup a = M'.lookup a := by
  have hn' : (M'.map (·.1)).Nodup := (h.map (·.1)).nodup_iff.1 hn
  cases hc : M.lookup a with
  | some v => exact ((sLookup_mem hn').2 (h.mem_iff.1 ((sLookup_mem hn).1 hc))).symm
  | none =>
    cases hc' : M'.lookup a with
    | none => rfl
    | some v =>
      have := (sLookup_mem hn).2 (h.mem_iff.2 ((sLookup_mem hn').1 hc'))
      rw [hc] at this
      cases this

theorem sMdel_filter {a : ByteArray} : ∀ {M : List (ByteArray × Value)}, (M.map (·.1)).Nodup → sMdel M a = M.filter (fun p => !(p.1 == a))
  | [], _ => rfl
  | (k, x) :: M, hn => by
    have hn' := List.nodup_cons.1 hn
    by_cases hc : a = k
    · subst hc
      have : M.filter (fun p => !(p.1 == a)) = M := List.filter_eq_self.2 (fun p hp => by
        have : p.1 ≠ a := fun e => hn'.1 (List.mem_map.2 ⟨p, hp, e⟩)
        simpa using this)
      simp [sMdel, this]
    · have hc' : ¬ k = a := fun e => hc e.symm
      simp [sMdel, hc, hc', sMdel_filter hn'.2]

theorem sMdel_perm {M M' : List (ByteArray × Value)} (h : M.Perm M') (hn : (M.map (·.1)).Nodup) (a : ByteArray) : (sMdel M a).Perm (sMdel M' a) := by
  rw [sMdel_filter hn, sMdel_filter ((h.map (·.1)).nodup_iff.1 hn)]
  exact h.filter _

theorem sMupd_perm1 {a : ByteArray} {v : Value} : ∀ {M : List (ByteArray × Value)}, (M.map (·.1)).Nodup → (sMupd M a v).Perm ((a, v) :: M.filter (fun p => !(p.1 == a)))
  | [], _ => .refl _
  | (k, x) :: M, hn => by
    have hn' := List.nodup_cons.1 hn
    by_cases hc : a = k
    · subst hc
      have : M.filter (fun p => !(p.1 == a)) = M := List.filter_eq_self.2 (fun p hp => by
        have : p.1 ≠ a := fun e => hn'.1 (List.mem_map.2 ⟨p, hp, e⟩)
        simpa using this)
      simp [sMupd, this]
    · have hc' : ¬ k = a := fun e => hc e.symm
      simp only [sMupd, hc, if_false, List.filter_cons, beq_eq_false_iff_ne.2 hc', Bool.not_false, if_true]
      exact ((sMupd_perm1 hn'.2).cons _).trans (List.Perm.swap ..)

theorem sMupd_perm {M M' : List (ByteArray × Value)} (h : M.Perm M') (hn : (M.map (·.1)).Nodup) (a : ByteArray) (v : Value) : (sMupd M a v).Perm (sMupd M' a v) :=
  (sMupd_perm1 hn).trans (((h.filter _).cons _).trans (sMupd_perm1 ((h.map (·.1)).nodup_iff.1 hn)).symm)

theorem SMapI.nodup {w : World} {b : Nat} {M : List (ByteArray × Value)} (h : SMapI w b M) : (M.map (·.1)).Nodup := by
  obtain ⟨es, clock, hb, hE⟩ := h
  exact hE.keys

/-- Block b is a map whose rows are those of M, in whatever order. -/
def SMapP (w : World) (b : Nat) (M : List (ByteArray × Value)) : Prop := ∃ M', SMapI w b M' ∧ M'.Perm M

theorem SMapP.nodup {w : World} {b : Nat} {M : List (ByteArray × Value)} (h : SMapP w b M) : (M.map (·.1)).Nodup := by
  obtain ⟨M', hm, hp⟩ := h
  exact (hp.map (·.1)).nodup_iff.1 hm.nodup
theorem SMapP.kept {S : List Nat} {w w' : World} {b : Nat} {M : List (ByteArray × Value)} (h : SMapP w b M) (hC : Chg S w w') (hn : b ∉ S) : SMapP w' b M := by
  obtain ⟨M', hm, hp⟩ := h
  exact ⟨M', hm.kept hC hn, hp⟩
theorem SMapP.lt {w : World} {b : Nat} {M : List (ByteArray × Value)} (h : SMapP w b M) : b < w.heap.size := by
  obtain ⟨M', hm, hp⟩ := h
  exact hm.lt
theorem SMapP.ne {w : World} {b a : Nat} {M : List (ByteArray × Value)} {cs : Array Value} {T : TypeId} {fr : Nat × Nat} (h : SMapP w b M) (ha : w.heap[a]? = some (.cells cs T fr)) : b ≠ a := by
  intro e
  obtain ⟨M', ⟨es, cl, hb, _⟩, _⟩ := h
  rw [e, ha] at hb
  cases hb

section
variable {P : Program}
theorem sRun_lookup_P {w : World} {t k e : TypeId} (ht : P.underlying t = some (.map k e)) (hk : P.underlying k = some .string) {z : Value} (hz : (zeroValue e).run P w = .ok z w)
    {b : Nat} {M : List (ByteArray × Value)} (hM : SMapP w b M) (a : ByteArray) :
    (Instr.lookup t (.map (some b)) (.string a) true).run P w = .ok (.tuple #[(M.lookup a).getD z, .bool (M.lookup a).isSome]) w := by
  obtain ⟨M', hm, hp⟩ := hM
  rw [sRun_lookup_I ht hk hz hm a, sLookup_perm hp hm.nodup]
theorem sRun_lookup_P1 {w : World} {t k e : TypeId} (ht : P.underlying t = some (.map k e)) (hk : P.underlying k = some .string) {z : Value} (hz : (zeroValue e).run P w = .ok z w)
    {b : Nat} {M : List (ByteArray × Value)} (hM : SMapP w b M) (a : ByteArray) :
    (Instr.lookup t (.map (some b)) (.string a) false).run P w = .ok ((M.lookup a).getD z) w := by
  obtain ⟨M', hm, hp⟩ := hM
  rw [sRun_lookup_I1 ht hk hz hm a, sLookup_perm hp hm.nodup]
theorem sRun_update_P {w : World} {t k e : TypeId} (ht : P.underlying t = some (.map k e)) (hk : P.underlying k = some .string)
    {b : Nat} {M : List (ByteArray × Value)} (hM : SMapP w b M) (a : ByteArray) (v : Value) :
    ∃ w1, (Instr.mapUpdate t (.map (some b)) (.string a) v).run P w = .ok () w1 ∧ SMapP w1 b (sMupd M a v) ∧ Chg [b] w w1 := by
  obtain ⟨M', hm, hp⟩ := hM
  obtain ⟨w1, hr, hm1, hc⟩ := sRun_update_I ht hk hm a v
  exact ⟨w1, hr, ⟨_, hm1, sMupd_perm hp hm.nodup a v⟩, hc⟩
theorem sRun_delete_P {w : World} {t k e : TypeId} (ht : P.underlying t = some (.map k e)) (hk : P.underlying k = some .string)
    {b : Nat} {M : List (ByteArray × Value)} (hM : SMapP w b M) (a : ByteArray) (tk rt : TypeId) :
    ∃ w1, (Builtin.delete_ #[t, tk] rt #[.map (some b), .string a]).run P w = .ok (.tuple #[]) w1 ∧ SMapP w1 b (sMdel M a) ∧ Chg [b] w w1 := by
  obtain ⟨M', hm, hp⟩ := hM
  obtain ⟨w1, hr, hm1, hc⟩ := sRun_delete_I ht hk hm a tk rt
  exact ⟨w1, hr, ⟨_, hm1, sMdel_perm hp hm.nodup a⟩, hc⟩
theorem sRun_len_P {w : World} {t k e : TypeId} (ht : P.underlying t = some (.map k e)) {b : Nat} {M : List (ByteArray × Value)} (hM : SMapP w b M) (rt : TypeId) :
    (Builtin.len_ #[t] rt #[.map (some b)]).run P w = .ok (.int .i64 (M.length : Int)) w := by
  obtain ⟨M', hm, hp⟩ := hM
  rw [sRun_len_I ht hm rt, hp.length_eq]
theorem sRun_clear_P {w : World} {t k e : TypeId} (ht : P.underlying t = some (.map k e)) {b : Nat} {M : List (ByteArray × Value)} (hM : SMapP w b M) (rt : TypeId) :
    ∃ w1, (Builtin.clear_ #[t] rt #[.map (some b)]).run P w = .ok (.tuple #[]) w1 ∧ SMapP w1 b [] ∧ Chg [b] w w1 := by
  obtain ⟨M', hm, hp⟩ := hM
  obtain ⟨w1, hr, hm1, hc⟩ := sRun_clear_I ht hm rt
  exact ⟨w1, hr, ⟨_, hm1, .refl _⟩, hc⟩
end
theorem SMapP.made (w : World) : SMapP (w.alloc (.map #[] 0)) w.heap.size [] := ⟨[], ⟨#[], 0, heap_alloc_eq w _, ⟨rfl, by simp, by simp, by simp⟩⟩, .refl _⟩

end Go.Proofs.YtkkjbnmfjhmobaaDoor
