
/- Package waits: what a list in memory is (WAt); there, ask. -/
import Derived.Test.YtiiafhlckmkcnaaRows
import Derived.Test.YtiiafhlckmkcnaaBlk
import Derived.Test.YtiiafhlckmkcnaaWspec
namespace Go.Proofs.Ytiiafhlckmkcnaa
open Go.RowKit

/-- One who waits: thread, priority, when it came. -/
structure W1 where
  t : Int
  p : Int
  c : Int
def W1.row (x : W1) : Int × Value := (x.t, .agg #[.int .i64 x.p, .int .i64 x.c])
def W1.pair (x : W1) : Int × Int := (x.t, x.p)

structure WIn (w : World) (ab mb : Nat) (n : Int) (L1 : List W1) : Prop where
  head : w.heap[ab]? = some (.cells #[.map (some mb), .int .i64 n] 78 (0, 0))
  map : MapP w mb (L1.map W1.row)
  ok : ∀ x ∈ L1, okT x.t ∧ okP x.p ∧ 0 < x.c ∧ x.c ≤ n
  came : L1.Pairwise (fun x y => x.c < y.c)
  low : 0 ≤ n

/-- A waiting list stands at block ab, its map at block mb: who waits are L, by coming; N Puts at most were done. -/
def WAt (w : World) (ab mb : Nat) (N : Int) (L : WL) : Prop := ∃ n L1, WIn w ab mb n L1 ∧ L = L1.map W1.pair ∧ n ≤ N

theorem W1.lookup_row (L1 : List W1) (t : Int) :
    ((L1.map W1.pair).lookup t = none ∧ (L1.map W1.row).lookup t = none) ∨ ∃ x ∈ L1, x.t = t ∧ (L1.map W1.pair).lookup t = some x.p ∧ (L1.map W1.row).lookup t = some (.agg #[.int .i64 x.p, .int .i64 x.c]) := by
  induction L1 with
  | nil => exact .inl ⟨rfl, rfl⟩
  | cons y L1 ih =>
    simp only [List.map_cons, W1.pair, W1.row, List.lookup_cons]
    by_cases hc : t = y.t
    · right
      exact ⟨y, by simp, hc.symm, by simp [hc], by simp [hc]⟩
    · have hc' : (t == y.t) = false := by simpa using hc
      simp only [hc']
      rcases ih with ⟨h1, h2⟩ | ⟨x, hx, h0, h1, h2⟩
      · exact .inl ⟨h1, h2⟩
      · exact .inr ⟨x, by simp [hx], h0, h1, h2⟩

theorem WIn.kept {S : List Nat} {w w' : World} {ab mb : Nat} {n : Int} {L1 : List W1} (h : WIn w ab mb n L1) (hC : Chg S w w') (ha : ab ∉ S) (hm : mb ∉ S) : WIn w' ab mb n L1 :=
  ⟨hC.blk h.head ha, h.map.kept hC hm, h.ok, h.came, h.low⟩
theorem WAt.kept {S : List Nat} {w w' : World} {ab mb : Nat} {N : Int} {L : WL} (h : WAt w ab mb N L) (hC : Chg S w w') (ha : ab ∉ S) (hm : mb ∉ S) : WAt w' ab mb N L := by
  obtain ⟨n, L1, h1, h2, h3⟩ := h
  exact ⟨n, L1, h1.kept hC ha hm, h2, h3⟩
theorem WIn.drew {w : World} {ab mb : Nat} {n : Int} {L1 : List W1} (h : WIn w ab mb n L1) : WIn w.drew ab mb n L1 := ⟨h.head, h.map, h.ok, h.came, h.low⟩
theorem WIn.ne {w : World} {ab mb : Nat} {n : Int} {L1 : List W1} (h : WIn w ab mb n L1) : mb ≠ ab := h.map.ne h.head
theorem WAt.lt {w : World} {ab mb : Nat} {N : Int} {L : WL} (h : WAt w ab mb N L) : ab < w.heap.size ∧ mb < w.heap.size ∧ mb ≠ ab := by
  obtain ⟨n, L1, h1, h2, h3⟩ := h
  exact ⟨lt_of_blk h1.head, h1.map.lt, h1.ne⟩
theorem WAt.mono {w : World} {ab mb : Nat} {N N' : Int} {L : WL} (h : WAt w ab mb N L) (hN : N ≤ N') : WAt w ab mb N' L := by
  obtain ⟨n, L1, h1, h2, h3⟩ := h
  exact ⟨n, L1, h1, h2, by omega⟩

@[go_sem] theorem neq_map_nil (w : World) (r : Option Nat) : (binOp .neq 76 (.map r) (.map none)).run Try.prog w = .ok (.bool (!r.isNone)) w :=
  run_neq_map_nil w _ 3 84 r Try.underlying76
@[go_sem] theorem field_one1 (x y : Value) (w : World) : (Instr.field 84 (.agg #[x, y]) 1).run Try.prog w = .ok y w := by kernel_rfl
theorem zeroOne (w : World) : (zeroValue 84).run Try.prog w = .ok (.agg #[.int .i64 0, .int .i64 0]) w := by kernel_rfl

theorem WIn.find1 {w : World} {ab mb : Nat} {n : Int} {L1 : List W1} (h : WIn w ab mb n L1) {x : W1} (hx : (L1.map W1.row).lookup x.t = some (.agg #[.int .i64 x.p, .int .i64 x.c])) :
    (Instr.lookup 76 (.map (some mb)) (.int .i64 x.t) false).run Try.prog w = .ok (.agg #[.int .i64 x.p, .int .i64 x.c]) w := by
  have hr := run_lookup_P1 (P := Try.prog) Try.underlying76 Try.underlying3 (zeroOne w) h.map x.t
  rw [hx] at hr
  exact hr

theorem WIn.find {w : World} {ab mb : Nat} {n : Int} {L1 : List W1} (h : WIn w ab mb n L1) (t : Int) :
    ((L1.map W1.pair).lookup t = none ∧ (Instr.lookup 76 (.map (some mb)) (.int .i64 t) true).run Try.prog w = .ok (.tuple #[.agg #[.int .i64 0, .int .i64 0], .bool false]) w) ∨
    ∃ x ∈ L1, x.t = t ∧ (L1.map W1.pair).lookup t = some x.p ∧ (Instr.lookup 76 (.map (some mb)) (.int .i64 t) true).run Try.prog w = .ok (.tuple #[.agg #[.int .i64 x.p, .int .i64 x.c], .bool true]) w := by
  have hr := run_lookup_P (P := Try.prog) Try.underlying76 Try.underlying3 (zeroOne w) h.map t
  rcases W1.lookup_row L1 t with ⟨h1, h2⟩ | ⟨x, hx, h0, h1, h2⟩
  · rw [h2] at hr
    exact .inl ⟨h1, hr⟩
  · rw [h2] at hr
    exact .inr ⟨x, hx, h0, h1, hr⟩

set_option maxRecDepth 100000 in
set_option maxHeartbeats 400000 in
theorem there_yes (ab : Nat) (mb : Nat) (w : World) (hc : w.cell? ⟨ab, 0, none⟩ = some (.map (some mb))) :
    Calls Try.prog 53 #[.pointer (some ⟨ab, 0, none⟩)] w fun e w' => e = .returned (.bool true) ∧ w = w' := by
  go_enter Try.func53, Try.ntmps53
  go_wp2
  go_ret
  exact ⟨rfl, rfl⟩

set_option maxRecDepth 100000 in
set_option maxHeartbeats 400000 in
theorem ask_any (ab mb : Nat) (n : Int) (L1 : List W1) (t p : Int) (b : Bool) (w : World) (hW : WIn w ab mb n L1) :
    Calls Try.prog 47 #[.pointer (some ⟨ab, 0, none⟩), .int .i64 t, .int .i64 p, .bool b] w fun e w' => e = .returned (.int .i64 (askR (L1.map W1.pair) t p b)) ∧ Chg [] w w' := by
  have c0 := cellB hW.head (i := 0) rfl
  have ht := there_yes ab mb w c0
  rcases hW.find t with ⟨h1, h2⟩ | ⟨x, hx, h0, h1, h2⟩
  all_goals
    clear hW
    go_enter Try.func47, Try.ntmps47
    go_wp2_with (go_at_call 53; refine ht.mono ?_; rintro e w' ⟨rfl, rfl⟩)
    all_goals
      go_ret
      refine ⟨ret_i64 ?_, by first | exact Chg.refl _ _ | exact (Chg.refl _ _).alloc _⟩
      unfold askR
      first
        | rw [if_pos (by omega)]
        | (rw [if_neg (by omega), h1]; cases b <;> simp_all)

end Go.Proofs.Ytiiafhlckmkcnaa
