
/- Package ramfs: walk, must: contracts. -/
import Derived.Test.YtkkjbnmfjhmobaaDoorFe
import Derived.IntWalk
namespace Go.Proofs.YtkkjbnmfjhmobaaDoor
open Go.RowKit

/-- A slice of strings. -/
def StrsAt (w : World) (v : Value) (l : List ByteArray) : Prop := ∃ a cap, v = .slice a l.length cap ∧ (l = [] ∨ ∃ g o, a = some ⟨g, o, none⟩ ∧ l.length ≤ cap ∧ ∀ (j : Nat) x, l[j]? = some x → w.cell? ⟨g, o + j, none⟩ = some (.string x))
theorem StrsAt.of_own {w : World} {B : Nat} {v : Value} {l : List ByteArray} (h : w.ownsRow B 9 1 v l.length (strsV l)) : StrsAt w v l := by
  obtain ⟨a, cap, rfl⟩ := own_slice h
  refine ⟨a, cap, rfl, ?_⟩
  by_cases hn : l = []
  · exact .inl hn
  · obtain ⟨g, cap', cur, e, _, hb, hcp, _, _, ht⟩ := own_blk h (by cases l <;> simp_all)
    injection e with e1 e2 e3
    refine .inr ⟨g, 0, e1, by rw [e3]; exact hcp, fun j x hx => ?_⟩
    rw [Nat.zero_add]
    exact cellB hb (own_take ht _ _ (by simp [strsV, hx]))
theorem StrsAt.calm {w w' : World} {v : Value} {l : List ByteArray} (h : StrsAt w v l) (hC : Chg [] w w') : StrsAt w' v l := by
  obtain ⟨a, cap, e, h⟩ := h
  refine ⟨a, cap, e, ?_⟩
  rcases h with h | ⟨g, o, e1, hcp, h⟩
  · exact .inl h
  · exact .inr ⟨g, o, e1, hcp, fun j x hx => cell_chg hC (by simp) (h j x hx)⟩
theorem StrsAt.kept {S : List Nat} {w w' : World} {v : Value} {l : List ByteArray} (h : StrsAt w v l) (hC : Chg S w w') (hS : ∀ k ∈ S, k ∉ v.ownBlock.toList) : StrsAt w' v l := by
  obtain ⟨a, cap, rfl, h⟩ := h
  refine ⟨a, cap, rfl, ?_⟩
  rcases h with h | ⟨g, o, rfl, hcp, h⟩
  · exact .inl h
  · exact .inr ⟨g, o, rfl, hcp, fun j x hx => cell_chg hC (fun hm => hS g hm (by simp [Value.ownBlock])) (h j x hx)⟩

theorem eql_names (x : Option Nat) (w : World) : (binOp .eql 49 (.map x) (.map none)).run Tryd.prog w = .ok (.bool x.isNone) w := by
  cases x <;> kernel_rfl
theorem namesV_lookup (m : List (ByteArray × Int)) (a : ByteArray) : (namesV m).lookup a = (m.lookup a).map (Value.int .i64) := by
  induction m with
  | nil => rfl
  | cons x m ih =>
    obtain ⟨k, v⟩ := x
    unfold namesV at ih ⊢
    simp only [List.map_cons, List.lookup_cons]
    cases h : a == k
    · simpa using ih
    · rfl
theorem lookup_of_mem {m : List (ByteArray × Int)} {a : ByteArray} {t : Int} (h : m.lookup a = some t) : (a, t) ∈ m := by
  induction m with
  | nil => cases h
  | cons x m ih =>
    obtain ⟨k, v⟩ := x
    rw [List.lookup_cons] at h
    cases hk : a == k with
    | true =>
      rw [hk] at h
      simp at h
      have := eq_of_beq hk
      subst this
      subst h
      simp
    | false =>
      rw [hk] at h
      exact List.mem_cons_of_mem _ (ih h)
theorem FInv.target {f : FS} (h : FInv f) {n : Nat} (hn : n < 64) {m : List (ByteArray × Int)} (hd : (f.nodes.getD n nd0).dir = some m) {a : ByteArray} {t : Int} (ht : m.lookup a = some t) : 0 ≤ t ∧ t < 64 ∧ (f.nd t).is = true := by
  have hm : f.nodes.getD n nd0 ∈ f.nodes := by
    have hl := h.ln
    rw [List.getD_eq_getElem?_getD, List.getElem?_eq_getElem (by omega)]
    exact List.getElem_mem _
  exact (h.tgt _ hm m hd).1 _ (lookup_of_mem ht)

def AnsP (r : Except Int Int) (w : World) (e : Ending) (w' : World) : Prop :=
  match r with
  | .ok n => e = .returned (.int .i64 n) ∧ w = w'
  | .error c => e = .panicked (refP c) ∧ w = w'

set_option maxRecDepth 100000 in
set_option maxHeartbeats 4000000 in
theorem fwalkc (fb : Nat) (mb : Nat → Nat) (vs : Nat → Value) (f : FS) (v : Value) (l : List ByteArray) (hl : l.length ≤ 600) (w : World) (h : FAt w fb mb vs f) (hv : StrsAt w v l) : Calls Tryd.prog 28 #[.pointer (some ⟨fb, 0, none⟩), v] w (AnsP (f.walk l) w) := by
  have hq := eql_names
  obtain ⟨a, cap, rfl, hc⟩ := hv
  have HC := Lib.hid hc
  have H := Lib.hid h
  obtain ⟨len, hlen⟩ : ∃ len, len = l.length := ⟨_, rfl⟩
  rw [← hlen] at hl ⊢
  have HL := Lib.hid hlen
  clear hc h hlen
  go_enter Tryd.func28, Tryd.ntmps28
  go_wp2
  go_loopw [5, 12] (fun nv iv wr => ∃ k n : Nat, k ≤ len ∧ n < 64 ∧ nv = .int .i64 n ∧ iv = .int .i64 k ∧ f.walk l = f.walkF n (l.drop k) ∧ wr = w) (fun _ i _ => len - (intOf i).toNat)
  case atStart => exact ⟨0, 0, by omega, by omega, rfl, rfl, rfl, rfl⟩
  case round =>
    obtain ⟨k, n, hk, hn, rfl, rfl, hw, rfl⟩ := hrel
    have c1 := (H.out.cN hn).2.1
    by_cases hlt : k < len
    · obtain ⟨x, hx⟩ : ∃ x, l[k]? = some x := ⟨_, List.getElem?_eq_getElem (by have := HL.out; omega)⟩
      obtain ⟨g, o, rfl, hcp, hcs⟩ := HC.out.resolve_left (fun e => by rw [e] at hx; simp at hx)
      have cs := hcs k x hx
      clear hcp
      have hdr : l.drop k = x :: l.drop (k + 1) := by
        rw [List.drop_eq_getElem_cons (by have := HL.out; omega)]
        rw [List.getElem?_eq_getElem (by have := HL.out; omega)] at hx
        simp only [Option.some.injEq] at hx
        rw [hx]
      rw [hdr] at hw
      have hwr : IntKind.i64.wrap ((len : Int) - 1) = (len : Int) - 1 := by rw [IntKind.wrap_i64]; omega
      cases hd : (f.nodes.getD n nd0).dir with
      | none =>
        have hr : f.walk l = .error 20 := by rw [hw]; unfold FS.walkF; rw [show (f.nd (n : Int)).dir = none from hd]
        rw [hd] at c1
        simp only [Option.isSome_none, Bool.false_eq_true, if_false] at c1
        have HR := Lib.hid hr
        clear hw hd hr hdr hcs hx
        go_wp2_with (go_at_call 25; refine (notc 20 _).mono ?_; rintro e w' ⟨rfl, rfl⟩)
        unfold AnsP
        rw [HR.out]
        exact ⟨rfl, rfl, rfl⟩
      | some m =>
        have hlk := fun (T : Unit) => sRun_lookup_P (P := Tryd.prog) (w := wr) (t := 49) (k := 9) (e := 3) Tryd.underlying49 Tryd.underlying9 (z := .int .i64 0) (by kernel_rfl) (H.out.mp n hn m hd) x
        rw [hd] at c1
        simp only [Option.isSome_some, if_true] at c1
        rw [namesV_lookup] at hlk
        have HT := Lib.hid (fun t (ht : m.lookup x = some t) => H.out.inv.target hn hd ht)
        have hwf : f.walkF n (x :: l.drop (k + 1)) = (match m.lookup x with | none => if l.drop (k + 1) = [] then .ok (-1) else .error 2 | some t => f.walkF t (l.drop (k + 1))) := by
          conv => lhs; unfold FS.walkF
          rw [show (f.nd (n : Int)).dir = some m from hd]
          rfl
        rw [hwf] at hw
        cases hm : m.lookup x with
        | none =>
          rw [hm] at hw hlk
          have hlk := hlk ()
          simp only [Option.map_none, Option.getD_none, Option.isSome_none] at hlk
          by_cases hlast : k + 1 = len
          · rw [if_pos (List.drop_eq_nil_of_le (by have := HL.out; omega))] at hw
            have hb : ((k : Int) == (len : Int) - 1) = true := by simp; omega
            have HR := Lib.hid hw
            clear hw hd hdr hcs hx hwf hm hlast
            go_wp2_with (go_at_call 25; refine (nofc 20 _).mono ?_; rintro e w' ⟨rfl, rfl⟩)
            go_ret
            unfold AnsP
            rw [HR.out]
            exact ⟨rfl, rfl⟩
          · rw [if_neg (fun e => by have := congrArg List.length e; simp at this; have := HL.out; omega)] at hw
            have hb : ((k : Int) == (len : Int) - 1) = false := by simp; omega
            have HR := Lib.hid hw
            clear hw hd hdr hcs hx hwf hm hlast
            go_wp2_with (go_at_call 25; first | (refine (nofc 20 _).mono ?_; rintro e w' ⟨rfl, rfl⟩) | (refine (notc 2 _).mono ?_; rintro e w' ⟨rfl, rfl⟩))
            unfold AnsP
            rw [HR.out]
            exact ⟨rfl, rfl, rfl⟩
        | some t =>
          rw [hm] at hw hlk
          have hlk := hlk ()
          simp only [Option.map_some, Option.getD_some, Option.isSome_some] at hlk
          obtain ⟨ht0, ht1, _⟩ := HT.out t hm
          obtain ⟨n', rfl⟩ := Int.eq_ofNat_of_zero_le ht0
          have HR := Lib.hid hw
          clear hw hd hdr hcs hx hwf hm
          go_wp2_with (go_at_call 25; first | (refine (nofc 20 _).mono ?_; rintro e w' ⟨rfl, rfl⟩) | (refine (nofc 2 _).mono ?_; rintro e w' ⟨rfl, rfl⟩))
          go_roundw
          case rel => exact ⟨k + 1, n', by omega, by omega, rfl, by go_num, HR.out, by trivial⟩
          case measure => simp [intOf]; omega
    · obtain rfl : k = len := by omega
      have hr : f.walk l = .ok n := by rw [hw, List.drop_eq_nil_of_le (by have := HL.out; omega)]; rfl
      have HR := Lib.hid hr
      clear hr hw hk hlt
      go_wp2
      go_ret
      unfold AnsP
      rw [HR.out]
      exact ⟨rfl, rfl⟩

set_option maxRecDepth 100000 in
theorem fmustc (fb : Nat) (mb : Nat → Nat) (vs : Nat → Value) (f : FS) (v : Value) (l : List ByteArray) (hl : l.length ≤ 600) (w : World) (h : FAt w fb mb vs f) (hv : StrsAt w v l) : Calls Tryd.prog 37 #[.pointer (some ⟨fb, 0, none⟩), v] w (AnsP (f.must l) w) := by
  have HW := Lib.hid (fwalkc fb mb vs f v l hl w h hv)
  clear h hv
  unfold FS.must
  cases hr : f.walk l with
  | error c =>
    rw [hr] at HW
    go_enter Tryd.func37, Tryd.ntmps37
    go_wp2_with (go_at_call 28; refine HW.out.mono ?_; rintro e w' ⟨rfl, rfl⟩)
    exact ⟨rfl, rfl, rfl⟩
  | ok n =>
    rw [hr] at HW
    simp only
    by_cases hn : n < 0
    · rw [if_pos hn]
      go_enter Tryd.func37, Tryd.ntmps37
      go_wp2_with (first | (go_at_call 28; refine HW.out.mono ?_; rintro e w' ⟨rfl, rfl⟩) | (go_at_call 25; refine (notc 2 _).mono ?_; rintro e w' ⟨rfl, rfl⟩))
      exact ⟨rfl, rfl, rfl⟩
    · rw [if_neg hn]
      have hd : decide (n < 0) = false := decide_eq_false hn
      clear hn
      go_enter Tryd.func37, Tryd.ntmps37
      go_wp2_with (first | (go_at_call 28; refine HW.out.mono ?_; rintro e w' ⟨rfl, rfl⟩) | (go_at_call 25; refine (nofc 2 _).mono ?_; rintro e w' ⟨rfl, rfl⟩))
      go_ret
      exact ⟨rfl, rfl⟩

end Go.Proofs.YtkkjbnmfjhmobaaDoor
