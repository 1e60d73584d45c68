/- Package cond: New, of, Len, Mutex, Has, List, Leave, Change, Wait: contracts over the list who waits and the mutex. -/
import Derived.Test.YtjdefbkppjdokaaWo
namespace Go.Proofs.Ytjdefbkppjdokaa
open Go.RowKit

/-- A condition stands at block cb, its waiting list at blocks ab, mb. -/
structure CAt (w : World) (cb ab mb : Nat) (N : Int) (L : WL) (M : Int) : Prop where
  head : w.heap[cb]? = some (.cells #[.pointer (some ⟨ab, 0, none⟩), .int .i64 M] 53 (0, 0))
  list : WAt w ab mb N L

theorem CAt.kept {S : List Nat} {w w' : World} {cb ab mb : Nat} {N M : Int} {L : WL} (h : CAt w cb ab mb N L M) (hC : Chg S w w') (hc : cb ∉ S) (ha : ab ∉ S) (hm : mb ∉ S) : CAt w' cb ab mb N L M :=
  ⟨hC.blk h.head hc, h.list.kept hC ha hm⟩
theorem CAt.calm {w w' : World} {cb ab mb : Nat} {N M : Int} {L : WL} (h : CAt w cb ab mb N L M) (hC : Chg [] w w') : CAt w' cb ab mb N L M := h.kept hC (by simp) (by simp) (by simp)
theorem WAt.ne_of {w : World} {k ab mb : Nat} {N : Int} {L : WL} {cs : Array Value} {T : TypeId} {fr : Nat × Nat} (h : WAt w ab mb N L) (hk : w.heap[k]? = some (.cells cs T fr)) (hT : T ≠ 73) : ab ≠ k ∧ mb ≠ k := by
  obtain ⟨n, L1, h, rfl, hn⟩ := h
  refine ⟨?_, h.map.ne hk⟩
  rintro rfl
  rw [h.head] at hk
  injection hk with hk
  injection hk with _ h2 _
  exact hT h2.symm
theorem CAt.ne {w : World} {cb ab mb : Nat} {N M : Int} {L : WL} (h : CAt w cb ab mb N L M) : ab ≠ cb ∧ mb ≠ cb := h.list.ne_of h.head (by decide)
theorem CAt.mono {w : World} {cb ab mb : Nat} {N N' M : Int} {L : WL} (h : CAt w cb ab mb N L M) (hN : N ≤ N') : CAt w cb ab mb N' L M := ⟨h.head, h.list.mono hN⟩
theorem CAt.lt {w : World} {cb ab mb : Nat} {N M : Int} {L : WL} (h : CAt w cb ab mb N L M) : cb < w.heap.size ∧ ab < w.heap.size ∧ mb < w.heap.size := ⟨lt_of_blk h.head, h.list.lt.1, h.list.lt.2.1⟩
/-- A step of the list within a condition. -/
theorem CAt.step {w w' : World} {cb ab mb : Nat} {N N' M : Int} {L L' : WL} (h : CAt w cb ab mb N L M) (hW : WAt w' ab mb N' L') (hC : Chg [ab, mb] w w') : CAt w' cb ab mb N' L' M :=
  ⟨hC.blk h.head (by have := h.ne; simp; omega), hW⟩

@[go_sem] theorem field_state0 (x y : Value) (w : World) : (Instr.field 51 (.agg #[x, y]) 0).run Try.prog w = .ok x w := by kernel_rfl

set_option maxRecDepth 100000 in
theorem ofc (cb ab mb : Nat) (N : Int) (L : WL) (M : Int) (w : World) (h : CAt w cb ab mb N L M) :
    Calls Try.prog 26 #[.pointer (some ⟨cb, 0, none⟩)] w fun e w' => e = .returned (.agg #[.pointer (some ⟨ab, 0, none⟩), .int .i64 M]) ∧ Chg [] w w' := by
  have c0 := cellB h.head (i := 0) rfl
  have c1 := cellB h.head (i := 1) rfl
  have hlt := h.lt.1
  clear h
  go_enter Try.func26, Try.ntmps26
  go_wp2
  refine bodyPost_ret (v := .agg #[.pointer (some ⟨ab, 0, none⟩), .int .i64 M]) (by simp [results, Try.results26, go_sem]) rfl ⟨rfl, ?_⟩
  exact (Chg.refl [] w).alloc _

end Go.Proofs.Ytjdefbkppjdokaa
