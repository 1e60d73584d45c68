
/- A lock of one's own: what each call makes of it, the rest of memory as it was. -/
import Derived.Test.YtpdfeinbbjfcaaaGreatKd
import Derived.Test.YtpdfeinbbjfcaaaGreatIns
namespace Go.Proofs.YtpdfeinbbjfcaaaGreat
open Go.RowKit

structure FK (w w' : World) (cb rb a0 m0 a1 m1 : Nat) (N : Int) (s : LS) : Prop where
  l : LAt w' cb rb a0 m0 a1 m1 N s
  c : Chg [] w w'
  g : ∀ k ∈ [cb, rb, a0, m0, a1, m1], w.heap.size ≤ k

theorem FK.step {w w1 w2 : World} {cb rb a0 m0 a1 m1 : Nat} {N N' : Int} {s s' : LS} (h : FK w w1 cb rb a0 m0 a1 m1 N s) (hL : LAt w2 cb rb a0 m0 a1 m1 N' s') (hC : Chg [cb, rb, a0, m0, a1, m1] w1 w2) : FK w w2 cb rb a0 m0 a1 m1 N' s' :=
  ⟨hL, h.c.trans' hC (fun k hk => .inr (h.g k hk)), h.g⟩
theorem FK.calm {w w1 w2 : World} {cb rb a0 m0 a1 m1 : Nat} {N : Int} {s : LS} (h : FK w w1 cb rb a0 m0 a1 m1 N s) (hC : Chg [] w1 w2) : FK w w2 cb rb a0 m0 a1 m1 N s := ⟨h.l.calm hC, h.c.trans hC, h.g⟩
theorem FK.mono {w w1 : World} {cb rb a0 m0 a1 m1 : Nat} {N N' : Int} {s : LS} (h : FK w w1 cb rb a0 m0 a1 m1 N s) (hN : N ≤ N') : FK w w1 cb rb a0 m0 a1 m1 N' s := ⟨h.l.mono hN, h.c, h.g⟩

/-- A slice of ints of one's own, in a block that is younger than those of lb. -/
def OwnI (lb : List Nat) (w : World) (v : Value) (l : List Int) : Prop := ∃ B, w.ownsRow B 3 1 v l.length (l.map (Value.int .i64)) ∧ ∀ k ∈ lb, k < B
theorem OwnI.kept {lb : List Nat} {w w' : World} {v : Value} {l : List Int} (h : OwnI lb w v l) (hC : Chg lb w w') : OwnI lb w' v l := by
  obtain ⟨B, h1, h2⟩ := h
  exact ⟨B, own_kept h1 hC (fun k hk => own_notin h1 (h2 k hk)), h2⟩
theorem OwnI.calm {lb : List Nat} {w w' : World} {v : Value} {l : List Int} (h : OwnI lb w v l) (hC : Chg [] w w') : OwnI lb w' v l := by
  obtain ⟨B, h1, h2⟩ := h
  exact ⟨B, own_kept h1 hC (by simp), h2⟩
theorem OwnI.ints {lb : List Nat} {w : World} {v : Value} {l : List Int} (h : OwnI lb w v l) : IsInts w v l := by
  obtain ⟨B, h1, h2⟩ := h
  exact IsInts.of_own h1
theorem OwnI.slice {lb : List Nat} {w : World} {v : Value} {l : List Int} (h : OwnI lb w v l) : ∃ a c, v = .slice a l.length c := by
  obtain ⟨B, h1, h2⟩ := h
  obtain ⟨a, c, h⟩ := own_slice h1
  exact ⟨a, c, h⟩

def KP (r : Array Value) (cb rb a0 m0 a1 m1 : Nat) (N : Int) (s' : LS) (w w1 : World) (e : Ending) (w2 : World) : Prop :=
  e = .returned (.tuple r) ∧ FK w w2 cb rb a0 m0 a1 m1 N s' ∧ Chg [cb, rb, a0, m0, a1, m1] w1 w2
def KL (l : List Int) (r : Int) (cb rb a0 m0 a1 m1 : Nat) (N : Int) (s' : LS) (w w1 : World) (e : Ending) (w2 : World) : Prop :=
  ∃ v, e = .returned (.tuple #[v, .int .i64 r]) ∧ OwnI [cb, rb, a0, m0, a1, m1] w2 v l ∧ FK w w2 cb rb a0 m0 a1 m1 N s' ∧ Chg [cb, rb, a0, m0, a1, m1] w1 w2
def KI (l : List Int) (cb rb a0 m0 a1 m1 : Nat) (N : Int) (s : LS) (w w1 : World) (e : Ending) (w2 : World) : Prop :=
  ∃ v, e = .returned v ∧ OwnI [cb, rb, a0, m0, a1, m1] w2 v l ∧ FK w w2 cb rb a0 m0 a1 m1 N s ∧ Chg [] w1 w2

section
variable {w w1 : World} {cb rb a0 m0 a1 m1 : Nat} {N : Int} {s : LS}
theorem fread (t p : Int) (h : FK w w1 cb rb a0 m0 a1 m1 N s) (hN : N < 4611686018427387904) :
    Calls Tryz.prog 13 #[.pointer (some ⟨cb, 0, none⟩), .int .i64 t, .int .i64 p] w1 (KP #[.bool (s.wantB false t p), .int .i64 (s.wantE false t p)] cb rb a0 m0 a1 m1 (N + 1) (s.wantS false t p true) w w1) :=
  (lreadc cb rb a0 m0 a1 m1 N s t p w1 h.l hN).mono fun _ _ ⟨he, hL, hC⟩ => ⟨he, h.step hL hC, hC⟩
theorem fwrite (t p : Int) (h : FK w w1 cb rb a0 m0 a1 m1 N s) (hN : N < 4611686018427387904) :
    Calls Tryz.prog 16 #[.pointer (some ⟨cb, 0, none⟩), .int .i64 t, .int .i64 p] w1 (KP #[.bool (s.wantB true t p), .int .i64 (s.wantE true t p)] cb rb a0 m0 a1 m1 (N + 1) (s.wantS true t p true) w w1) :=
  (lwritec cb rb a0 m0 a1 m1 N s t p w1 h.l hN).mono fun _ _ ⟨he, hL, hC⟩ => ⟨he, h.step hL hC, hC⟩
theorem ftryread (t p : Int) (h : FK w w1 cb rb a0 m0 a1 m1 N s) (hN : N < 4611686018427387904) :
    Calls Tryz.prog 18 #[.pointer (some ⟨cb, 0, none⟩), .int .i64 t, .int .i64 p] w1 (KP #[.bool (s.wantB false t p), .int .i64 (s.wantE false t p)] cb rb a0 m0 a1 m1 (N + 1) (s.wantS false t p false) w w1) :=
  (ltryreadc cb rb a0 m0 a1 m1 N s t p w1 h.l hN).mono fun _ _ ⟨he, hL, hC⟩ => ⟨he, h.step hL hC, hC⟩
theorem ftrywrite (t p : Int) (h : FK w w1 cb rb a0 m0 a1 m1 N s) (hN : N < 4611686018427387904) :
    Calls Tryz.prog 19 #[.pointer (some ⟨cb, 0, none⟩), .int .i64 t, .int .i64 p] w1 (KP #[.bool (s.wantB true t p), .int .i64 (s.wantE true t p)] cb rb a0 m0 a1 m1 (N + 1) (s.wantS true t p false) w w1) :=
  (ltrywritec cb rb a0 m0 a1 m1 N s t p w1 h.l hN).mono fun _ _ ⟨he, hL, hC⟩ => ⟨he, h.step hL hC, hC⟩
theorem funlock (t : Int) (h : FK w w1 cb rb a0 m0 a1 m1 N s) :
    Calls Tryz.prog 20 #[.pointer (some ⟨cb, 0, none⟩), .int .i64 t] w1 (KL (s.unL t) (s.unE t) cb rb a0 m0 a1 m1 N (s.unS t) w w1) :=
  (lunlockc cb rb a0 m0 a1 m1 N s t w1 h.l).mono fun _ _ ⟨v, he, ho, hL, hC⟩ => ⟨v, he, ⟨_, ho, h.l.lt⟩, h.step hL hC, hC⟩
theorem fleave (t : Int) (h : FK w w1 cb rb a0 m0 a1 m1 N s) :
    Calls Tryz.prog 23 #[.pointer (some ⟨cb, 0, none⟩), .int .i64 t] w1 (KL (s.lvT t) (s.chE t 1) cb rb a0 m0 a1 m1 N (s.lvS t) w w1) :=
  (lleavec cb rb a0 m0 a1 m1 N s t w1 h.l).mono fun _ _ ⟨v, he, ho, hL, hC⟩ => ⟨v, he, ⟨_, ho, h.l.lt⟩, h.step hL hC, hC⟩
theorem fchange (t p : Int) (h : FK w w1 cb rb a0 m0 a1 m1 N s) :
    Calls Tryz.prog 25 #[.pointer (some ⟨cb, 0, none⟩), .int .i64 t, .int .i64 p] w1 (KL (s.chT t p) (s.chE t p) cb rb a0 m0 a1 m1 N (s.chS t p) w w1) :=
  (lchangec cb rb a0 m0 a1 m1 N s t p w1 h.l).mono fun _ _ ⟨v, he, ho, hL, hC⟩ => ⟨v, he, ⟨_, ho, h.l.lt⟩, h.step hL hC, hC⟩
theorem freaders (h : FK w w1 cb rb a0 m0 a1 m1 N s) :
    Calls Tryz.prog 34 #[.pointer (some ⟨cb, 0, none⟩)] w1 (KI (ordT s.R) cb rb a0 m0 a1 m1 N s w w1) :=
  (lreadersc cb rb a0 m0 a1 m1 N s w1 h.l).mono fun _ _ ⟨v, he, ho, hC⟩ => ⟨v, he, ⟨_, ho, h.l.lt⟩, h.calm hC, hC⟩
theorem fwriters (h : FK w w1 cb rb a0 m0 a1 m1 N s) :
    Calls Tryz.prog 36 #[.pointer (some ⟨cb, 0, none⟩)] w1 (KI (ordT s.W) cb rb a0 m0 a1 m1 N s w w1) :=
  (lwritersc cb rb a0 m0 a1 m1 N s w1 h.l).mono fun _ _ ⟨v, he, ho, hC⟩ => ⟨v, he, ⟨_, ho, h.l.lt⟩, h.calm hC, hC⟩
end

def FNewP (w w1 : World) (e : Ending) (w2 : World) : Prop := ∃ cb rb a0 m0 a1 m1, e = .returned (.pointer (some ⟨cb, 0, none⟩)) ∧ FK w w2 cb rb a0 m0 a1 m1 0 lnew ∧ Chg [] w1 w2 ∧ ∀ k ∈ [cb, rb, a0, m0, a1, m1], w1.heap.size ≤ k
theorem fnew (w w1 : World) (h : Chg [] w w1) : Calls Tryz.prog 5 #[] w1 (FNewP w w1) :=
  (lnewc w1).mono fun _ _ ⟨cb, rb, a0, m0, a1, m1, he, hg, hL, hC⟩ => ⟨cb, rb, a0, m0, a1, m1, he, ⟨hL, h.trans hC, fun k hk => Nat.le_trans h.size (hg k hk)⟩, hC, hg⟩

theorem eql_pLock_nil (w : World) (a : Addr) : (binOp .eql 23 (.pointer (some a)) (.pointer none)).run Tryz.prog w = .ok (.bool false) w := by
  simp [go_sem]

end Go.Proofs.YtpdfeinbbjfcaaaGreat
