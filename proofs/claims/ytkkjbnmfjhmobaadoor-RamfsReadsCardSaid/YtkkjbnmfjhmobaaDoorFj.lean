
/- Package ramfs: links: contract. -/
import Derived.Test.YtkkjbnmfjhmobaaDoorFi
import Derived.Deep.MidRow
namespace Go.Proofs.YtkkjbnmfjhmobaaDoor
open Go.RowKit

/-- The first k nodes' names that lead to n. -/
def FS.linksK (f : FS) (n : Int) (k : Nat) : Nat := ((f.nodes.take k).map (ndLinks · n)).sum
theorem FS.linksK_succ {f : FS} (h : FInv f) (n : Int) {k : Nat} (hk : k < 64) : f.linksK n (k + 1) = f.linksK n k + ndLinks (f.nodes.getD k nd0) n := by
  unfold FS.linksK
  rw [take_nd h hk, List.map_append, List.sum_append]
  simp
theorem FS.linksK_all {f : FS} (h : FInv f) (n : Int) : f.linksK n 64 = f.links n := by
  unfold FS.linksK FS.links
  rw [List.take_of_length_le (by have := h.ln; omega)]
theorem FS.links_le (f : FS) (n : Int) (k : Nat) : f.linksK n k ≤ f.names := by
  have h2 : f.names = ((f.nodes.take k).map (fun x => match x.dir with | none => 0 | some m => m.length)).sum + ((f.nodes.drop k).map (fun x => match x.dir with | none => 0 | some m => m.length)).sum := by
    unfold FS.names
    rw [← List.sum_append, ← List.map_append, List.take_append_drop]
    rfl
  have h3 : ∀ l : List Nd, (l.map (ndLinks · n)).sum ≤ (l.map (fun x => match x.dir with | none => 0 | some m => m.length)).sum := by
    intro l
    induction l with
    | nil => simp
    | cons x l ih =>
      simp only [List.map_cons, List.sum_cons]
      have : ndLinks x n ≤ (match x.dir with | none => 0 | some m => m.length) := by
        unfold ndLinks
        cases x.dir with
        | none => simp
        | some m => exact List.countP_le_length
      omega
  have := h3 (f.nodes.take k)
  unfold FS.linksK
  omega

/-- The nodes' cells, as the array is read. -/
def ndCells (f : FS) (mb : Nat → Nat) (vs : Nat → Value) : List Value := (List.range 192).map (cellAt f mb vs)
theorem FAt.loadN {w : World} {fb : Nat} {mb : Nat → Nat} {vs : Nat → Value} {f : FS} (h : FAt w fb mb vs f) : w.rangeAt fb 0 (ndCells f mb vs) := by
  intro j v hv
  unfold ndCells at hv
  rw [List.getElem?_map] at hv
  obtain ⟨i, hi, rfl⟩ := Option.map_eq_some_iff.1 hv
  obtain ⟨hl, he⟩ := List.getElem?_eq_some_iff.1 hi
  simp at hl he
  subst he
  rw [Nat.zero_add]
  exact cellB h.head (fsCells_get f mb vs (by omega))

set_option maxRecDepth 100000 in
theorem nd_index (f : FS) (mb : Nat → Nat) (vs : Nat → Value) {k : Nat} (hk : k < 64) (W : World) : (Instr.index 52 (.agg (ndCells f mb vs).toArray) (.int .i64 k)).run Tryd.prog W = .ok (.agg #[.bool (f.nodes.getD k nd0).is, .map (if (f.nodes.getD k nd0).dir.isSome then some (mb k) else none), vs k]) W := by
  have h1 : ∀ W, (sizeOf 51).run Tryd.prog W = .ok 3 W := fun W => by kernel_rfl
  have h2 : ∀ W, (isAgg 51).run Tryd.prog W = .ok true W := fun W => by kernel_rfl
  have hx : (ndCells f mb vs).toArray.extract (k * 3) (k * 3 + 3) = #[.bool (f.nodes.getD k nd0).is, .map (if (f.nodes.getD k nd0).dir.isSome then some (mb k) else none), vs k] := by
    have hl : (ndCells f mb vs).toArray.size = 192 := by unfold ndCells; simp
    refine Array.ext (by rw [Array.size_extract, hl]; simp; omega) fun j h3 h4 => ?_
    have hj : j < 3 := by simpa using h4
    rw [Array.getElem_extract]
    have : (ndCells f mb vs).toArray[k * 3 + j]'(by rw [hl]; omega) = ndC (f.nodes.getD k nd0) (mb k) (vs k) j := by
      unfold ndCells
      simp only [List.getElem_toArray, List.getElem_map, List.getElem_range]
      unfold cellAt
      rw [if_pos (by omega), show (k * 3 + j) / 3 = k by omega, show (k * 3 + j) % 3 = j by omega]
    rw [this]
    rcases j with _ | _ | _ | j
    · rfl
    · rfl
    · rfl
    · omega
  have hk0 : (0 : Int) ≤ (k : Int) ∧ (k : Int) < 64 := by omega
  simp only [Instr.index, asIntOf, part, Sem.run_bind, Sem.run_pure, Result.andThen_ok, run_underlying Tryd.underlying52]
  simp [hk0, h1, h2, Sem.run_bind]
  simpa using hx

/-- Block r goes over the map mo, or over nothing. -/
def ItP (w : World) (mo : Option Nat) (r : Nat) (M rest : List (ByteArray × Value)) : Prop := match mo with
  | some b => SRngP w b r M rest
  | none => M = [] ∧ rest = [] ∧ w.heap[r]? = some (.mapIter none 0 #[] 0)
def itLeft (w : World) (mo : Option Nat) (r : Nat) : Nat := match mo with
  | some b => sRleft w b r
  | none => 0
theorem it_range (mo : Option Nat) (M : List (ByteArray × Value)) (W : World) (h : match mo with | some b => SMapI W b M | none => M = []) :
    ∃ o, (Instr.range 49 (.map mo)).run Tryd.prog W = .ok (.pointer (some ⟨W.heap.size, 0, none⟩)) (W.alloc o) ∧ ItP (W.alloc o) mo W.heap.size M M := by
  cases mo with
  | some b => exact sRun_range_I (P := Tryd.prog) Tryd.underlying49 h
  | none => exact ⟨_, run_range_nilMap (P := Tryd.prog) W 49 _ _ Tryd.underlying49, h, h, heap_alloc_eq W _⟩
theorem it_next {w : World} {mo : Option Nat} {r : Nat} {M rest : List (ByteArray × Value)} (h : ItP w mo r M rest) :
    (rest = [] ∧ ∀ ty, (Instr.next (.pointer (some ⟨r, 0, none⟩)) false ty).run Tryd.prog w = .ok (.tuple #[.bool false]) w) ∨
    ∃ p r1 r2 w1, rest = r1 ++ p :: r2 ∧ (∀ ty, (Instr.next (.pointer (some ⟨r, 0, none⟩)) false ty).run Tryd.prog w = .ok (.tuple #[.bool true, .string p.1, p.2]) w1) ∧ ItP w1 mo r M (r1 ++ r2) ∧
      (Instr.entry (.pointer (some ⟨r, 0, none⟩))).run Tryd.prog w1 = .ok (.tuple #[.string p.1, p.2]) w1 ∧ Chg [r] w w1 ∧ itLeft w1 mo r < itLeft w mo r := by
  cases mo with
  | some b =>
    rcases sRun_next_I (P := Tryd.prog) h with h1 | ⟨p, r1, r2, w1, h1, h2, h3, h4, h5, _⟩
    · exact .inl h1
    · refine .inr ⟨p, r1, r2, w1, h1, h2, h3, h4, h5, ?_⟩
      have e1 := SRngP.left (show SRngP w b r M rest from h)
      have e2 := h3.left
      unfold itLeft
      simp only
      rw [e1, e2, h1]
      simp
  | none =>
    obtain ⟨rfl, rfl, hr⟩ := h
    refine .inl ⟨rfl, fun ty => ?_⟩
    simp only [Instr.next, getObj, Sem.run_bind, Sem.run, hr, Result.andThen]
    rfl

/-- How many of a map's rows lead to n. -/
def leads (n : Int) (l : List (ByteArray × Value)) : Nat := l.countP (fun p => intOf p.2 == n)
theorem leads_names (n : Int) (m : List (ByteArray × Int)) : leads n (namesV m) = m.countP (fun p => p.2 == n) := by
  unfold leads namesV
  rw [List.countP_map]
  rfl

set_option maxRecDepth 100000 in
set_option maxHeartbeats 4000000 in
theorem flinksc (fb : Nat) (mb : Nat → Nat) (vs : Nat → Value) (f : FS) (n : Int) (w : World) (h : FAt w fb mb vs f) (hN : f.names < 4611686018427387904) : Calls Tryd.prog 58 #[.pointer (some ⟨fb, 0, none⟩), .int .i64 n] w fun e w' => e = .returned (.int .i64 (f.links n)) ∧ Chg [] w w' := by
  have H := Lib.hid (And.intro h hN)
  obtain ⟨xs, hxs⟩ : ∃ xs, xs = (ndCells f mb vs).toArray := ⟨_, rfl⟩
  have hl := h.loadN
  have hi : (Tryd.prog.info? 52).map (·.size) = some (ndCells f mb vs).length := by unfold ndCells; rw [List.length_map, List.length_range]; kernel_rfl
  have HL := Lib.hid (And.intro hl hi)
  have HX := Lib.hid hxs
  clear h hN hl hi
  go_enter Tryd.func58, Tryd.ntmps58
  go_wp2_with (refine wpList_load_mid rfl 52 _ rfl fb 0 rfl _ _ HL.out.1 Tryd.underlying52 rfl HL.out.2 ?_; rw [← hxs]; clear hxs HL)
  go_loopw [5, 14] (fun kv iv wr => ∃ k : Nat, k ≤ 64 ∧ kv = .int .i64 (f.linksK n k) ∧ iv = .int .i64 k ∧ Chg [] w wr) (fun _ i _ => 64 - (intOf i).toNat)
  case atStart => exact ⟨0, by omega, rfl, rfl, Chg.refl _ _⟩
  case round =>
    obtain ⟨k, hk, rfl, rfl, hC⟩ := hrel
    have HA := Lib.hid hC
    clear hC
    by_cases hlt : k < 64
    · have hix := nd_index f mb vs hlt wr
      rw [← HX.out] at hix
      obtain ⟨va, vc, hv⟩ := own_slice (H.out.1.row k hlt)
      rw [hv] at hix
      generalize (f.nodes.getD k nd0).b.length = vl at *
      generalize (f.nodes.getD k nd0).is = b0 at hix
      obtain ⟨mo, hmo⟩ : ∃ mo, mo = (if (f.nodes.getD k nd0).dir.isSome then some (mb k) else none) := ⟨_, rfl⟩
      rw [← hmo] at hix
      have HMO := Lib.hid hmo
      have hC2 : Chg [] w (wr.alloc (.cells #[.bool b0, .map mo, .slice va vl vc] 51)) := HA.out.alloc _
      have hS : ∃ m' rest, m' = (match (f.nodes.getD k nd0).dir with | none => [] | some m => namesV m) ∧ rest.Perm m' ∧ (match mo with | some b => SMapI (wr.alloc (.cells #[.bool b0, .map mo, .slice va vl vc] 51)) b rest | none => rest = []) := by
        cases hd : (f.nodes.getD k nd0).dir with
        | none =>
          have e : mo = none := by rw [hmo, hd]; rfl
          rw [e]
          exact ⟨_, [], rfl, .refl _, rfl⟩
        | some m =>
          have e : mo = some (mb k) := by rw [hmo, hd]; rfl
          obtain ⟨M', h1, h2⟩ := (H.out.1.calm hC2).mp k hlt m hd
          rw [e] at h1 ⊢
          exact ⟨_, M', rfl, h2, h1⟩
      obtain ⟨m', M', hm', hp, hS⟩ := hS
      have hcnt : leads n M' = ndLinks (f.nodes.getD k nd0) n := by
        unfold leads
        rw [hp.countP_eq, hm']
        unfold ndLinks
        cases (f.nodes.getD k nd0).dir with
        | none => rfl
        | some m => exact leads_names n m
      have hint : ∀ p ∈ M', ∃ t : Int, p.2 = .int .i64 t := by
        intro p hpm
        have := hp.mem_iff.1 hpm
        rw [hm'] at this
        cases hd : (f.nodes.getD k nd0).dir with
        | none => rw [hd] at this; cases this
        | some m =>
          rw [hd] at this
          simp only [namesV, List.mem_map] at this
          obtain ⟨x, _, rfl⟩ := this
          exact ⟨_, rfl⟩
      obtain ⟨o, hrange, hR0⟩ := it_range mo M' _ hS
      generalize hW2 : wr.alloc (.cells #[.bool b0, .map mo, .slice va vl vc] 51) = W2 at *
      have cb : W2.cell? ⟨wr.heap.size, 1, none⟩ = some (.map mo) := by rw [← hW2]; exact cellB (heap_alloc_eq wr _) (i := 1) rfl
      have HH := Lib.hid (And.intro hcnt (And.intro hint (And.intro hR0 (And.intro hC2 hmo))))
      clear hcnt hint hR0 hC2 hmo hS hp hm' HMO
      have HB := Lib.hid (show f.linksK n (k + 1) = f.linksK n k + leads n M' ∧ f.linksK n (k + 1) < 4611686018427387904 from ⟨by rw [FS.linksK_succ H.out.1.inv n hlt, HH.out.1], Nat.lt_of_le_of_lt (FS.links_le f n (k + 1)) H.out.2⟩)
      go_wp2
      obtain ⟨q, hq⟩ : ∃ q, q = f.linksK n k := ⟨_, rfl⟩
      rw [← hq] at HB ⊢
      clear hq
      go_loopw [5] (fun kv wq => ∃ (rest : List (ByteArray × Value)) (c : Nat), kv = .int .i64 (q + c : Nat) ∧ c + leads n rest = leads n M' ∧ (∀ p ∈ rest, p ∈ M') ∧ ItP wq mo W2.heap.size M' rest ∧ Chg [] W2 wq) (fun _ wq => itLeft wq mo W2.heap.size)
      case atStart => exact ⟨M', 0, rfl, by omega, fun _ h => h, HH.out.2.2.1, (Chg.refl _ _).alloc _⟩
      case round =>
        obtain ⟨rest, c, rfl, hc, hsub, hI, hC⟩ := hrel
        rcases it_next hI with ⟨hr0, hnx⟩ | ⟨p, r1, r2, w1, hr0, hnx, hI1, hen, hC1, hlt1⟩
        · subst hr0
          have HF := Lib.hid (And.intro hc hC)
          clear hc hC hI hsub
          go_wp2
          go_roundw
          case rel =>
            refine ⟨k + 1, by omega, ?_, by go_num, HH.out.2.2.2.1.trans HF.out.2⟩
            rw [HB.out.1, ← HF.out.1]
            rfl
          case measure => simp [intOf]; omega
        · obtain ⟨t, ht⟩ := HH.out.2.1 p (hsub p (by rw [hr0]; simp))
          obtain ⟨s, v⟩ := p
          simp only at ht hnx hen
          subst ht
          have hsp : leads n rest = (if (t == n) = true then 1 else 0) + leads n (r1 ++ r2) := by
            rw [hr0]
            unfold leads
            simp only [List.countP_append, List.countP_cons]
            have : intOf (Value.int .i64 t) = t := rfl
            rw [this]
            omega
          have hble : c + (if (t == n) = true then 1 else 0) ≤ leads n M' := by omega
          have hsub' : ∀ p ∈ r1 ++ r2, p ∈ M' := fun p hp => hsub p (by rw [hr0]; simp at hp ⊢; exact hp.elim .inl (fun h => .inr (.inr h)))
          have HF := Lib.hid (And.intro hc (And.intro hsp (And.intro hsub' (And.intro hI1 (And.intro (hC.trans' hC1 (fun b hb => .inr (by simp at hb; omega))) hlt1)))))
          have hqb : q + leads n M' < 4611686018427387904 := by have := HB.out.1; have := HB.out.2; omega
          clear hc hC hI hsub hr0 hI1 hC1 hsp hlt1 hsub'
          cases hb : (t == n) with
          | true =>
            rw [hb] at HF hble
            simp only [if_true] at hble
            go_wp2
            go_roundw
            case rel => exact ⟨r1 ++ r2, c + 1, by go_num, by have h1 := HF.out.1; have h2 := HF.out.2.1; simp at h2; omega, HF.out.2.2.1, HF.out.2.2.2.1, HF.out.2.2.2.2.1⟩
            case measure => exact HF.out.2.2.2.2.2
          | false =>
            rw [hb] at HF hble
            go_wp2
            go_roundw
            case rel => exact ⟨r1 ++ r2, c, rfl, by have h1 := HF.out.1; have h2 := HF.out.2.1; simp at h2; omega, HF.out.2.2.1, HF.out.2.2.2.1, HF.out.2.2.2.2.1⟩
            case measure => exact HF.out.2.2.2.2.2
    · obtain rfl : k = 64 := by omega
      rw [FS.linksK_all H.out.1.inv]
      go_wp2
      go_ret
      exact ⟨rfl, HA.out⟩

end Go.Proofs.YtkkjbnmfjhmobaaDoor
