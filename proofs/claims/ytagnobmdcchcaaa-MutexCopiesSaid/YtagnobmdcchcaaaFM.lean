
/- A mutex of one's own: made behind the world at the start; each call's contract in that form. -/
import Derived.Test.YtagnobmdcchcaaaL13a
namespace Go.Proofs.Ytagnobmdcchcaaa
open Go.RowKit

@[go_sem] theorem field_lock0 (x y z u : Value) (w : World) : (Instr.field 41 (.agg #[x, y, z, u]) 0).run Try.prog w = .ok x w := by kernel_rfl
@[go_sem] theorem field_lock1 (x y z u : Value) (w : World) : (Instr.field 41 (.agg #[x, y, z, u]) 1).run Try.prog w = .ok y w := by kernel_rfl
@[go_sem] theorem field_lock2 (x y z u : Value) (w : World) : (Instr.field 41 (.agg #[x, y, z, u]) 2).run Try.prog w = .ok z w := by kernel_rfl

/-- A mutex at blocks cb, ab, mb, all made behind w0, nothing of w0 changed. -/
structure FM (w0 w : World) (cb ab mb : Nat) (N : Int) (s : MS) : Prop where
  m : MAt w cb ab mb N s
  c : Chg [] w0 w
  g : w0.heap.size ≤ cb ∧ w0.heap.size ≤ ab ∧ w0.heap.size ≤ mb

theorem FM.step {S : List Nat} {w0 w w' : World} {cb ab mb : Nat} {N N' : Int} {s s' : MS} (h : FM w0 w cb ab mb N s) (hM : MAt w' cb ab mb N' s') (hC : Chg S w w') (hS : ∀ k ∈ S, k ∈ [cb, ab, mb]) : FM w0 w' cb ab mb N' s' :=
  ⟨hM, h.c.trans' hC (fun k hk => by have := hS k hk; have := h.g; simp at *; omega), h.g⟩
theorem FM.calm {w0 w w' : World} {cb ab mb : Nat} {N : Int} {s : MS} (h : FM w0 w cb ab mb N s) (hC : Chg [] w w') : FM w0 w' cb ab mb N s := ⟨h.m.calm hC, h.c.trans hC, h.g⟩
theorem FM.mono {w0 w : World} {cb ab mb : Nat} {N N' : Int} {s : MS} (h : FM w0 w cb ab mb N s) (hN : N ≤ N') : FM w0 w cb ab mb N' s := ⟨h.m.mono hN, h.c, h.g⟩

section
variable {w0 w : World} {cb ab mb : Nat} {N : Int} {s : MS}
theorem flockF (t q b : Int) (h : FM w0 w cb ab mb N s) (hN : N < 4611686018427387904) (hcnt : 0 ≤ s.cnt) :
    Calls Try.prog 12 #[.pointer (some ⟨cb, 0, none⟩), .int .i64 t, .int .i64 q, .int .i64 b] w fun e w' => e = .returned (.tuple #[.bool (s.lockB t q b), .int .i64 (s.lockE t q b)]) ∧ FM w0 w' cb ab mb (N + 1) (s.lockS t q b) :=
  (mlockc cb ab mb N s t q b w h.m hN hcnt).mono fun _ _ ⟨he, hM, hC⟩ => ⟨he, h.step hM hC (by simp)⟩
theorem fLF (t q : Int) (has : Bool) (r : Int) (h : FM w0 w cb ab mb N s) (hN : N < 4611686018427387904) (hcnt : 0 ≤ s.cnt) :
    Calls Try.prog 30 #[.pointer (some ⟨cb, 0, none⟩), .int .i64 t, .int .i64 q, .bool has, .int .i64 r] w fun e w' => e = .returned (.bool (s.lockB t q q == has && s.lockE t q q == r)) ∧ FM w0 w' cb ab mb (N + 1) (s.lockS t q q) :=
  (lock13 cb ab mb N s t q has r w h.m hN hcnt).mono fun _ _ ⟨he, hM, hC⟩ => ⟨he, h.step hM hC (by simp)⟩
theorem ftryF (t b : Int) (h : FM w0 w cb ab mb N s) (hcnt : 0 ≤ s.cnt) :
    Calls Try.prog 15 #[.pointer (some ⟨cb, 0, none⟩), .int .i64 t, .int .i64 b] w fun e w' => e = .returned (.int .i64 (s.tryE t b)) ∧ FM w0 w' cb ab mb N (s.tryS t b) :=
  (mtryc cb ab mb N s t b w h.m hcnt).mono fun _ _ ⟨he, hM, hC⟩ => ⟨he, h.step hM hC (by simp)⟩
theorem fleaveF (t : Int) (h : FM w0 w cb ab mb N s) :
    Calls Try.prog 18 #[.pointer (some ⟨cb, 0, none⟩), .int .i64 t] w fun e w' => e = .returned (.bool (s.lvB t)) ∧ FM w0 w' cb ab mb N (s.lvS t) :=
  (mleavec cb ab mb N s t w h.m).mono fun _ _ ⟨he, hM, hC⟩ => ⟨he, h.step hM hC (by simp)⟩
theorem fchangeF (t q : Int) (h : FM w0 w cb ab mb N s) :
    Calls Try.prog 20 #[.pointer (some ⟨cb, 0, none⟩), .int .i64 t, .int .i64 q] w fun e w' => e = .returned (.bool (s.chB t q)) ∧ FM w0 w' cb ab mb N (s.chS t q) :=
  (mchangec cb ab mb N s t q w h.m).mono fun _ _ ⟨he, hM, hC⟩ => ⟨he, h.step hM hC (by simp)⟩
theorem fconsF (t : Int) (h : FM w0 w cb ab mb N s) :
    Calls Try.prog 16 #[.pointer (some ⟨cb, 0, none⟩), .int .i64 t] w fun e w' => e = .returned (.int .i64 (if s.csB t = true then 0 else 22)) ∧ FM w0 w' cb ab mb N (s.csS t) :=
  (mconsistc cb ab mb N s t w h.m).mono fun _ _ ⟨he, hM, hC⟩ => ⟨he, h.step hM hC (by simp)⟩
theorem fceilF (t q : Int) (h : FM w0 w cb ab mb N s) :
    Calls Try.prog 27 #[.pointer (some ⟨cb, 0, none⟩), .int .i64 t, .int .i64 q] w fun e w' => e = .returned (.tuple #[.int .i64 (s.ceV t q), .int .i64 (s.ceE t q)]) ∧ FM w0 w' cb ab mb N (s.ceS t q) :=
  (mceilc cb ab mb N s t q w h.m).mono fun _ _ ⟨he, hM, hC⟩ => ⟨he, h.step hM hC (by simp)⟩
theorem fatF (h : FM w0 w cb ab mb N s) :
    Calls Try.prog 14 #[.pointer (some ⟨cb, 0, none⟩)] w fun e w' => e = .returned (.agg #[.int .i64 s.own, .int .i64 s.cnt, .int .i64 s.st, .int .i64 s.c]) ∧ FM w0 w' cb ab mb N s ∧ Chg [] w w' :=
  (matc cb ab mb N s w h.m).mono fun _ _ ⟨he, hC⟩ => ⟨he, h.calm hC, hC⟩
theorem funlockF (t : Int) (h : FM w0 w cb ab mb N s) (hM : s.cnt ≤ 32767) :
    Calls Try.prog 13 #[.pointer (some ⟨cb, 0, none⟩), .int .i64 t] w fun e w' => ∃ v, e = .returned (.tuple #[v, .int .i64 (s.unE t)]) ∧ OwnK w' w.heap.size v (s.unW t) ∧ FM w0 w' cb ab mb N (s.unS t) ∧ Chg [cb, ab, mb] w w' :=
  (munlockc cb ab mb N s t w h.m hM).mono fun _ _ ⟨v, he, hO, hM, hC⟩ => ⟨v, he, hO, h.step hM hC (by simp), hC⟩
theorem fendedF (t : Int) (h : FM w0 w cb ab mb N s) :
    Calls Try.prog 17 #[.pointer (some ⟨cb, 0, none⟩), .int .i64 t] w fun e w' => ∃ v, e = .returned v ∧ OwnK w' w.heap.size v (s.enW t) ∧ FM w0 w' cb ab mb N (s.enS t) ∧ Chg [cb, ab, mb] w w' :=
  (mendedc cb ab mb N s t w h.m).mono fun _ _ ⟨v, he, hO, hM, hC⟩ => ⟨v, he, hO, h.step hM hC (by simp), hC⟩
end
theorem fnewF (k p c : Int) (rob : Bool) (w0 w : World) (hw : Chg [] w0 w) (h : mnewB k p c = true) : Calls Try.prog 10 #[.int .i64 k, .int .i64 p, .int .i64 c, .bool rob] w fun e w' => ∃ cb ab mb, e = .returned (.tuple #[.pointer (some ⟨cb, 0, none⟩), .int .i64 0]) ∧ FM w0 w' cb ab mb 0 (mnew k p c rob) ∧ Chg [] w w' :=
  (mnewc k p c rob w h).mono fun _ _ ⟨cb, ab, mb, he, hg, hM, hC⟩ => ⟨cb, ab, mb, he, ⟨hM, hw.trans hC, by have := hw.size; omega⟩, hC⟩

end Go.Proofs.Ytagnobmdcchcaaa
