
/- Package waits: the contracts of its methods over lists of (thread, priority), as other texts use them. -/
import Derived.Test.YtiiafhlckmkcnaaWi
namespace Go.Proofs.Ytiiafhlckmkcnaa
open Go.RowKit

theorem putc (ab mb : Nat) (N : Int) (L : WL) (t p : Int) (w : World) (hW : WAt w ab mb N L) (hN : N < 4611686018427387904) :
    Calls Try.prog 26 #[.pointer (some ⟨ab, 0, none⟩), .int .i64 t, .int .i64 p] w fun e w' => e = .returned (.int .i64 (askR L t p false)) ∧ WAt w' ab mb (N + 1) (putL L t p) ∧ Chg [ab, mb] w w' := by
  obtain ⟨n, L1, h, rfl, hn⟩ := hW
  by_cases ha : askR (L1.map W1.pair) t p false = 0
  · refine (put_yes ab mb n L1 t p w h (by omega) ha).mono ?_
    rintro e w' ⟨rfl, h1, h2⟩
    exact ⟨by rw [ha], ⟨n + 1, _, h1, by unfold putL; rw [if_pos ha]; simp [W1.pair], by omega⟩, h2⟩
  · refine (put_no ab mb n L1 t p w h ha).mono ?_
    rintro e w' ⟨rfl, h2⟩
    exact ⟨rfl, ⟨n, _, h.kept h2 (by simp) (by simp), by unfold putL; rw [if_neg ha], by omega⟩, h2.mono (by simp)⟩

theorem changec (ab mb : Nat) (N : Int) (L : WL) (t p : Int) (w : World) (hW : WAt w ab mb N L) :
    Calls Try.prog 33 #[.pointer (some ⟨ab, 0, none⟩), .int .i64 t, .int .i64 p] w fun e w' => e = .returned (.int .i64 (askR L t p true)) ∧ WAt w' ab mb N (chgL L t p) ∧ Chg [ab, mb] w w' := by
  obtain ⟨n, L1, h, rfl, hn⟩ := hW
  by_cases ha : askR (L1.map W1.pair) t p true = 0
  · refine (change_yes ab mb n L1 t p w h ha).mono ?_
    rintro e w' ⟨rfl, h1, h2⟩
    exact ⟨by rw [ha], ⟨n, _, h1, by unfold chgL; rw [if_pos ha, w1upd_pair], by omega⟩, h2⟩
  · refine (change_no ab mb n L1 t p w h ha).mono ?_
    rintro e w' ⟨rfl, h2⟩
    exact ⟨rfl, ⟨n, _, h.kept h2 (by simp) (by simp), by unfold chgL; rw [if_neg ha], by omega⟩, h2.mono (by simp)⟩

theorem leavec (ab mb : Nat) (N : Int) (L : WL) (t : Int) (w : World) (hW : WAt w ab mb N L) :
    Calls Try.prog 31 #[.pointer (some ⟨ab, 0, none⟩), .int .i64 t] w fun e w' => e = .returned (.int .i64 (askR L t 1 true)) ∧ WAt w' ab mb N (lvL L t) ∧ Chg [ab, mb] w w' := by
  obtain ⟨n, L1, h, rfl, hn⟩ := hW
  by_cases ha : askR (L1.map W1.pair) t 1 true = 0
  · refine (leave_yes ab mb n L1 t w h ha).mono ?_
    rintro e w' ⟨rfl, h1, h2⟩
    exact ⟨by rw [ha], ⟨n, _, h1, by unfold lvL; rw [if_pos ha, w1del_pair], by omega⟩, h2⟩
  · refine (leave_no ab mb n L1 t w h ha).mono ?_
    rintro e w' ⟨rfl, h2⟩
    exact ⟨rfl, ⟨n, _, h.kept h2 (by simp) (by simp), by unfold lvL; rw [if_neg ha], by omega⟩, h2.mono (by simp)⟩

theorem prioc (ab mb : Nat) (N : Int) (L : WL) (t : Int) (w : World) (hW : WAt w ab mb N L) :
    Calls Try.prog 65 #[.pointer (some ⟨ab, 0, none⟩), .int .i64 t] w fun e w' => e = .returned (.tuple #[.int .i64 (prioR L t), .bool (hasR L t)]) ∧ Chg [] w w' := by
  obtain ⟨n, L1, h, rfl, hn⟩ := hW
  exact prio_any ab mb n L1 t w h

theorem hasc (ab mb : Nat) (N : Int) (L : WL) (t : Int) (w : World) (hW : WAt w ab mb N L) :
    Calls Try.prog 50 #[.pointer (some ⟨ab, 0, none⟩), .int .i64 t] w fun e w' => e = .returned (.bool (hasR L t)) ∧ Chg [] w w' := by
  obtain ⟨n, L1, h, rfl, hn⟩ := hW
  exact has_any ab mb n L1 t w h

theorem listc (ab mb : Nat) (N : Int) (L : WL) (w : World) (hW : WAt w ab mb N L) :
    Calls Try.prog 51 #[.pointer (some ⟨ab, 0, none⟩)] w (IntsPost (ordT L) w) := by
  obtain ⟨n, L1, h, rfl, hn⟩ := hW
  exact list_any ab mb n L1 w h

theorem firstc (ab mb : Nat) (N : Int) (L : WL) (w : World) (hW : WAt w ab mb N L) :
    Calls Try.prog 43 #[.pointer (some ⟨ab, 0, none⟩)] w fun e w' => e = .returned (.tuple #[.int .i64 (headT (ordL L)), .bool (headB (ordL L))]) ∧ Chg [] w w' := by
  obtain ⟨n, L1, h, rfl, hn⟩ := hW
  exact first_any ab mb n L1 w h

theorem takec (ab mb : Nat) (N : Int) (L : WL) (w : World) (hW : WAt w ab mb N L) :
    Calls Try.prog 24 #[.pointer (some ⟨ab, 0, none⟩)] w fun e w' => e = .returned (.tuple #[.int .i64 (headT (ordL L)), .bool (headB (ordL L))]) ∧ WAt w' ab mb N (takeL L) ∧ Chg [ab, mb] w w' := by
  obtain ⟨n, L1, h, rfl, hn⟩ := hW
  refine (take_in ab mb n L1 w h).mono ?_
  rintro e w' ⟨rfl, h1, h2⟩
  refine ⟨rfl, ⟨n, _, h1, ?_, hn⟩, h2⟩
  unfold takeL w1rest
  cases ordL (L1.map W1.pair) with
  | nil => rfl
  | cons x r => exact (w1del_pair L1 x.1).symm

def ClearPost (ab mb : Nat) (N : Int) (L : WL) (w : World) (e : Ending) (w' : World) : Prop :=
  ∃ v, e = .returned v ∧ w'.ownsRow w.heap.size 3 1 v (ordT L).length ((ordT L).map (Value.int .i64)) ∧ WAt w' ab mb N [] ∧ Chg [ab, mb] w w'


def NewP (w : World) (e : Ending) (w' : World) : Prop := ∃ ab mb, e = .returned (.pointer (some ⟨ab, 0, none⟩)) ∧ w.heap.size ≤ ab ∧ w.heap.size ≤ mb ∧ WAt w' ab mb 0 [] ∧ Chg [] w w'

theorem newc (w : World) : Calls Try.prog 22 #[] w (NewP w) := by
  refine (new_any w).mono ?_
  rintro e w' ⟨ab, mb, rfl, h1, h2, h3, h4⟩
  exact ⟨ab, mb, rfl, h1, h2, ⟨0, [], h3, rfl, by omega⟩, h4⟩

/-- What a waiting list always is. -/
theorem WAt.facts {w : World} {ab mb : Nat} {N : Int} {L : WL} (h : WAt w ab mb N L) : (L.map (·.1)).Nodup ∧ (∀ x ∈ L, okT x.1 ∧ okP x.2) ∧ L.length ≤ 16 := by
  obtain ⟨n, L1, h, rfl, hn⟩ := h
  refine ⟨pair_nodup h.nodup, ?_, by rw [List.length_map]; exact h.few⟩
  intro x hx
  obtain ⟨y, hy, rfl⟩ := List.mem_map.1 hx
  exact ⟨(h.ok y hy).1, (h.ok y hy).2.1⟩

end Go.Proofs.Ytiiafhlckmkcnaa
