
/- Package ramfs: face: contract. -/
import Derived.Test.YtkkjbnmfjhmobaaDoorFb
import Derived.Tactics
import Derived.Tactics2
import Derived.Defers
import Derived.Laws.Pointers
import Derived.Deep.CutBlock
namespace Go.Proofs.YtkkjbnmfjhmobaaDoor
open Go.RowKit

set_option maxRecDepth 100000 in
theorem fface_idle (be : Nat) (w : World) :
    CallsD Tryd.prog 50 #[.pointer (some ⟨be, 0, none⟩)] .returning w fun e u' w' => e = .returned (.tuple #[]) ∧ u' = .returning ∧ Chg [] w w' := by
  have hta : ∀ w : World, (Instr.typeAssert .nilIface 20 78 true).run Tryd.prog w = .ok (.tuple #[.agg #[.int .i64 0], .bool false]) w := fun w => by kernel_rfl
  refine callsD_of_wpS Tryd.func50 rfl fun c₀ cs hu => ?_
  simp only [Tryd.ntmps50, List.size_toArray, List.length_cons, List.length_nil, Nat.reduceAdd, Nat.reduceSub, Array.replicate_succ, Array.replicate_zero, List.push_toArray, List.append_toArray, List.nil_append, List.cons_append]
  apply wpS_seq
  apply wpS_region
  simp [wpOpsS, go_sem, recoverD, hu, Exit.thenS, hta]
  apply wpS_seq
  apply wpS_region
  simp [wpOpsS, go_sem, Exit.thenS]
  refine wpS_cond (t := false) (by simp [Act.eval]) ?_
  simp only [Bool.false_eq_true, if_false]
  refine wpS_of_wp (wp_skip ?_)
  cases c₀
  simp_all [bodyPostS, results, Tryd.results50]
  exact (Chg.refl _ _).alloc _
set_option maxRecDepth 100000 in
theorem fface_panic (be : Nat) (c : Int) (w : World) (hb : w.heap[be]? = some (.cells #[.int .i64 0] 30 (0, 0))) :
    CallsD Tryd.prog 50 #[.pointer (some ⟨be, 0, none⟩)] (.panicking (refP c)) w fun e u' w' =>
      e = .returned (.tuple #[]) ∧ u' = .panicking [{ v := refV c, recovered := true }] ∧ w'.heap[be]? = some (.cells #[.int .i64 c] 30 (0, 0)) ∧ Chg [be] w w' := by
  have hta : ∀ w : World, (Instr.typeAssert (.iface 78 (.agg #[.int .i64 c])) 20 78 true).run Tryd.prog w = .ok (.tuple #[.agg #[.int .i64 c], .bool true]) w := fun w => by kernel_rfl
  refine callsD_of_wpS Tryd.func50 rfl fun c₀ cs hu => ?_
  simp only [Tryd.ntmps50, List.size_toArray, List.length_cons, List.length_nil, Nat.reduceAdd, Nat.reduceSub, Array.replicate_succ, Array.replicate_zero, List.push_toArray, List.append_toArray, List.nil_append, List.cons_append]
  apply wpS_seq
  apply wpS_region
  unfold refP refV at hu
  simp [wpOpsS, go_sem, recoverD, hu, Exit.thenS, hta, refV]
  have hlt := lt_of_blk hb
  have hb1 := blk_alloc hb (.cells #[.int .i64 c] 78 (0, 0))
  have hc0 := cellB hb1 (i := 0) (v := .int .i64 0) rfl
  have hf0 := frozenB hb1 0
  have hcn := cellB (heap_alloc_eq w (.cells #[.int .i64 c] 78 (0, 0))) (i := 0) (v := .int .i64 c) rfl
  apply wpS_seq
  apply wpS_region
  simp [wpOpsS, go_sem, Exit.thenS]
  refine wpS_cond (t := true) (by simp [Act.eval]) ?_
  simp only [if_true]
  apply wpS_region
  simp [wpOpsS, go_sem, hc0, hf0, hcn, bodyPostS, results, Tryd.results50]
  exact ⟨blk_setCell hb1 _, ((Chg.refl _ _).alloc _).setCell _ _ (by simp)⟩

set_option maxRecDepth 100000 in
theorem ffacec (fb : Nat) (mb : Nat → Nat) (vs : Nat → Value) (f : FS) (g : Nat) (lb : Array Value) (w : World) (h : FAt w fb mb vs f) (eg : ∀ args w, (callFunc g args).run Tryd.prog w = .ok (.enter g args) w) (R : Int → World → Prop)
    (hdo : Calls Tryd.prog g lb (w.alloc (.cells #[.int .i64 0] 30 (0, 0))) fun e W' => W'.heap[w.heap.size]? = some (.cells #[.int .i64 0] 30 (0, 0)) ∧ ((∃ v, e = .returned v ∧ R 0 W') ∨ (∃ c, e = .panicked (refP c) ∧ R c W'))) :
    Calls Tryd.prog 22 #[.pointer (some ⟨fb, 0, none⟩), .func (.func g) #[] lb] w fun e w' => ∃ c W', e = .returned (.int .i64 c) ∧ R c W' ∧ Chg [w.heap.size] W' w' := by
  have hmf : ∀ (fn : Fn) (first cap : Array Value) (w : World), (Instr.makeFunc fn first cap).run Tryd.prog w = .ok (.func fn first cap) w := fun _ _ _ _ => rfl
  obtain ⟨be, hbe⟩ : ∃ be, be = w.heap.size := ⟨_, rfl⟩
  obtain ⟨w0, hw0⟩ : ∃ w0, w0 = w.alloc (.cells #[.int .i64 0] 30 (0, 0)) := ⟨_, rfl⟩
  have hC : Chg [] w w0 := by rw [hw0]; exact (Chg.refl _ _).alloc _
  have HT := Lib.hid (ftherec fb mb vs f w0 (h.calm hC))
  rw [← hbe, ← hw0] at hdo
  have HB := Lib.hid hbe
  have HD := Lib.hid hdo
  clear h hC hdo
  go_enter_defers Tryd.func22, Tryd.ntmps22
  go_upto_region 1 with fail
  rw [← hbe, ← hw0]
  clear hbe hw0
  go_wp2_with (go_at_call 40; refine HT.out.mono ?_; rintro e w' ⟨rfl, rfl⟩)
  refine HD.out.mono ?_
  rintro e W1 ⟨hb, (⟨v, rfl, hR⟩ | ⟨c, rfl, hR⟩)⟩
  · have c0 := cellB hb (i := 0) (v := .int .i64 0) rfl
    have f0 := frozenB hb 0
    have HR := Lib.hid (And.intro hb hR)
    clear hb hR
    go_wp2
    refine leaves_cons (f := 50) (args := #[.pointer (some ⟨be, 0, none⟩)]) (by simp) (by simp [go_sem]) ?_
    refine (fface_idle be _).mono ?_
    rintro e u' w2 ⟨rfl, rfl, hC⟩
    have hb2 := hC.blk (blk_setCell HR.out.1 (i := 0) (.int .i64 0)) (by simp)
    have c2 := cellB hb2 (i := 0) (v := .int .i64 0) rfl
    simp [Leaves, settle, results, Tryd.results22, go_sem, c2]
    exact ⟨W1, HR.out.2, by rw [← HB.out]; exact ((Chg.refl [be] W1).setCell _ _ (by simp)).trans (hC.mono (by simp))⟩
  · have HR := Lib.hid (And.intro hb hR)
    clear hb hR
    refine leaves_cons (f := 50) (args := #[.pointer (some ⟨be, 0, none⟩)]) (by simp) (by simp [go_sem]) ?_
    refine (fface_panic be c _ HR.out.1).mono ?_
    rintro e u' w2 ⟨rfl, rfl, hb2, hC⟩
    have c2 := cellB hb2 (i := 0) (v := .int .i64 c) rfl
    simp [Leaves, settle, results, Tryd.results22, go_sem, c2]
    exact ⟨W1, HR.out.2, by rw [← HB.out]; exact hC⟩

end Go.Proofs.YtkkjbnmfjhmobaaDoor
