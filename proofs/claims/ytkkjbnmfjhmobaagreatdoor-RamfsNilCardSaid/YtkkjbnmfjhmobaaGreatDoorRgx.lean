
/- An iterator that itself ranges over a function: what it owes to whom it yields (SeqX: the rounds' promise must abide the turn of records that the iterator has laid, too), and the law for a range over such a one. No program in sight. -/
import Derived.RangeFuncNested
import Derived.RangeFuncBound
import Derived.RangeFuncCalls
import Derived.RangeFuncLeaves
import Derived.Shelf.Abstract
import Derived.Shelf.RegionOpen
import Derived.OwnWalkIn
namespace Go.Proofs.YtkkjbnmfjhmobaaGreatDoor
open Go Go.RowKit

section
variable {F : Fence} {n : Nat} {P : Program}

/-- The iterator's word, where it may turn records of its own besides walks of maps. -/
def SeqX {α : Type} (F : Fence) (n : Nat) (P : Program) (g : Nat) (lb : Array Value) (encs : α → Array Value) (Kp : World → World → Prop) (S Sp : List α → Prop) (N L : Nat) (w : World) : Prop :=
  ∀ (l : Nat) (J Jx : List α → World → Prop) (W : World), Below w.heap.size w W → L ≤ W.heap.size → OwnFrom W.heap.size J → OwnFrom W.heap.size Jx →
    (∀ pre x W1, J pre W1 → pre.length < N → YieldAt F (n - 1) P l (encs x) W1 fun e W' =>
      (e = .returned (.bool true) ∧ J (pre ++ [x]) W' ∧ Kp W1 W') ∨ (e = .returned (.bool false) ∧ Jx (pre ++ [x]) W' ∧ KeepsFrom L W1 W')) →
    J [] W →
    CallsIn F n P g (#[.func (.yield l) #[] #[]] ++ lb) W fun e W' => (∃ v, e = .returned v) ∧ ((∃ xs, S xs ∧ J xs W') ∨ (∃ pre, Sp pre ∧ Jx pre W'))

theorem SeqX.of_stops {α : Type} {g : Nat} {lb : Array Value} {encs : α → Array Value} {Kp : World → World → Prop} {S Sp : List α → Prop} {N L : Nat} {w : World} (h : SeqStopsK F n P g lb encs Kp S Sp N w) : SeqX F n P g lb encs Kp S Sp N L w :=
  fun l J Jx W hB _ hJ hJx hY h0 => h l J Jx W hB (fun s A B row hs hg hr => hJ s A B row hs hg (fun r e => by obtain ⟨h1, o, h2, h3⟩ := hr r e; exact ⟨h1, o, h2, Obj.not_cells_of_walk h3⟩))
    (fun s A B row hs hg hr => hJx s A B row hs hg (fun r e => by obtain ⟨h1, o, h2, h3⟩ := hr r e; exact ⟨h1, o, h2, Obj.not_cells_of_walk h3⟩)) (fun pre x W1 hj hl => YieldAt.mono (hY pre x W1 hj hl) (fun e w' hr => by rcases hr with hr | ⟨h1, h2, _⟩; exact .inl hr; exact .inr ⟨h1, h2⟩)) h0

theorem keepsFrom_up {B B' : Nat} {W W' : World} (h : KeepsFrom B W W') (hB : B ≤ B') : KeepsFrom B' W W' := ⟨h.size, fun k o hk ho hc => h.same k o (Nat.le_trans hB hk) ho hc⟩
theorem keepsFrom_lt {B l : Nat} (hl : l < B) (Y : World) (r : Loop) : KeepsFrom B Y (Y.putObj l (.loop r)) := by
  have hg := grownBy_putObj' Y l (.loop r)
  exact ⟨hg.size, fun k o hk ho _ => (hg.block k (Array.getElem?_eq_some_iff.1 ho).1 (fun e => by cases e; omega)).trans ho⟩
/-- A step that turns no record below B keeps a record. -/
theorem keeps_rec {A B : World} {row : Option Nat} {k : Nat} {o : Obj} (hg : A.grownBy B row) (hk : A.heap[k]? = some o) (hr : ∀ r, row = some r → k < r) : B.heap[k]? = some o :=
  (hg.block k (Array.getElem?_eq_some_iff.1 hk).1 (fun e => by have := hr k e.symm; omega)).trans hk

/-- A range over such an iterator, in a function's own code (no round about it). -/
theorem wpIn_rangeX {α : Type} {g : Operand} {ps : Array Tmp} {assign body : Code} {Q : Exit → Act → World → Prop} {a : Act} {w : World}
    (hro : F.round = none) (h1 : 1 ≤ n) {gf : Nat} {lb : Array Value} (hg : a.eval g = .func (.func gf) #[] lb) (hFg : F.fn gf) (eg : ∀ args w, (callFunc gf args).run P w = .ok (.enter gf args) w)
    {encs : α → Array Value} {Kp : World → World → Prop} {S Sp : List α → Prop} {N : Nat} {w0 : World} (hseq : SeqX F (n - 1) P gf lb encs Kp S Sp N (w.heap.size + 2) w0)
    (hKt : ∀ {A B C : World}, Kp A B → Kp B C → Kp A C) (hKb : ∀ (W : World) (o o' : Obj), W.heap[w.heap.size + 1]? = some o → o.isCells = false → o.isWalk = false → Kp W (W.putObj (w.heap.size + 1) o')) (hb0 : Below w0.heap.size w0 w) (hps : ∀ x, (encs x).size = ps.size)
    (I : List α → World → Prop) (Ix : Code → List α → World → Prop) (hI : OwnFrom w.heap.size I) (hIx : ∀ c, OwnFrom w.heap.size (Ix c)) (h0 : I [] w) (Ax : α → Act → World → Prop) (hAx : ∀ x a', OwnFrom w.heap.size (fun (_ : Unit) W => Ax x a' W))
    (hassign : ∀ (l : Nat) (pre : List α) (x : α) (W : World) (K : Act → World → Prop), I pre W → (∀ a' W', KeepsFrom w.heap.size W W' → Kp W W' → I pre W' → Ax x a' W' → K a' W') →
      assign.wpIn (F.inRound l) (n - 1 - 1) P (Exit.then K (fun _ _ _ => False)) { tmps := (ps.zip (encs x)).foldl (fun t (p, v) => t.setIfInBounds p v) a.tmps, defers := [] } W)
    (hbody : ∀ (l : Nat) (pre : List α) (x : α) (a' : Act) (W : World), w.heap.size ≤ l → (∃ r, W.heap[l]? = some (.loop r)) → I pre W → Ax x a' W → pre.length < N → body.wpIn (F.inRound l) (n - 1 - 1) P (ownPostG w.heap.size Kp I Ix (pre ++ [x]) W) a' W)
    (hdone : ∀ (D : Nat) (xs : List α) (W : World), w.heap.size ≤ D → S xs → I xs W → W.heap[D]? = some (.deferred (some [])) → Q .normal { a with defers := { target := .collected D, args := #[] } :: a.defers } W)
    (hstop : ∀ (D : Nat) (c : Code) (pre : List α) (W : World), w.heap.size ≤ D → Sp pre → Ix c pre W → W.heap[D]? = some (.deferred (some [])) → c.wpIn F n P Q { a with defers := { target := .collected D, args := #[] } :: a.defers } W) :
    (Code.rangeFunc g ps assign body).wpIn F n P Q a w := by
  refine wpIn_rangeFunc fun fn hfn => ?_
  rw [hro]
  obtain ⟨R, hR⟩ : ∃ R : LoopState → Option Code → Loop, R = fun st pe => { state := st, pending := pe, fn, tmps := a.tmps, params := ps, assign, body, defers := w.heap.size } := ⟨_, rfl⟩
  obtain ⟨D, hD⟩ : ∃ D, D = w.heap.size := ⟨_, rfl⟩
  obtain ⟨V, hV⟩ : ∃ V, V = (w.alloc (.deferred (some []))).alloc (.loop (R .ready none)) := ⟨_, rfl⟩
  have vs : V.heap.size = D + 2 := by rw [hV, hD]; simp
  have vd : V.heap[D]? = some (.deferred (some [])) := by rw [hV, hD]; exact (Below.heap_alloc _ _ _ (by simp)).trans (World.alloc_heap_new w _)
  have vl : V.heap[D + 1]? = some (.loop (R .ready none)) := by
    rw [hV, hD]
    have := World.alloc_heap_new (w.alloc (.deferred (some []))) (.loop (R .ready none))
    rwa [World.size_alloc] at this
  have vI : I [] V := by rw [hV]; exact hI.alloc _ (hI.alloc _ h0)
  have vb : Below w0.heap.size w0 V := by
    rw [hV]
    exact hb0.trans ((((Below.refl _ w).alloc (Nat.le_refl _) _).alloc (by simp) _).mono hb0.size)
  have hwp : ∀ {W : World} {st : LoopState} {pe : Option Code} (r' : Loop), W.heap[D + 1]? = some (.loop (R st pe)) →
      (W.putObj (D + 1) (.loop r')).heap[D + 1]? = some (.loop r') := fun r' h => World.putObj_heap_same (Array.getElem?_eq_some_iff.1 h).1
  have hwd : ∀ {W : World} (r' : Loop), W.heap[D]? = some (.deferred (some [])) → (W.putObj (D + 1) (.loop r')).heap[D]? = some (.deferred (some [])) := fun r' h => (World.putObj_heap_other (by omega)).trans h
  refine ⟨D + 1, [{ target := .collected D, args := #[] }], V, { target := .fn (.func gf) lb, args := #[.func (.yield (D + 1)) #[] #[]] }, V, gf, #[.func (.yield (D + 1)) #[] #[]] ++ lb, V, ?_, ?_, ?_, ?_, fun _ => h1, ?_⟩
  · rw [hV, hD, hR]; exact run_enterLoop_outer _ _ _ _ _
  · simp only [resolve, hg]
    simp [go_sem]
  · intro f' hf'
    simp [Target.leads] at hf'
    subst hf'
    exact hFg
  · simp [invoke, go_sem, eg]
  refine (hseq (D + 1)
      (fun pre W => I pre W ∧ W.heap[D + 1]? = some (.loop (R .ready none)) ∧ W.heap[D]? = some (.deferred (some [])))
      (fun pre W => ∃ c, Ix c pre W ∧ W.heap[D + 1]? = some (.loop (R .done (some c))) ∧ W.heap[D]? = some (.deferred (some [])))
      V vb (by omega) ?_ ?_ ?_ ⟨vI, vl, vd⟩).mono ?_
  · intro s A B row hs hg' hr
    have hlo : ∀ k, k < D + 2 → ∀ r, row = some r → k < r := fun k hk r e => by have := (hr r e).1; omega
    exact ⟨hI s A B row hs.1 hg' (fun r e => ⟨by have := (hr r e).1; omega, (hr r e).2⟩), keeps_rec hg' hs.2.1 (hlo _ (by omega)), keeps_rec hg' hs.2.2 (hlo _ (by omega))⟩
  · rintro s A B row ⟨c, hc, hl, hd⟩ hg' hr
    have hlo : ∀ k, k < D + 2 → ∀ r, row = some r → k < r := fun k hk r e => by have := (hr r e).1; omega
    exact ⟨c, hIx c s A B row hc hg' (fun r e => ⟨by have := (hr r e).1; omega, (hr r e).2⟩), keeps_rec hg' hl (hlo _ (by omega)), keeps_rec hg' hd (hlo _ (by omega))⟩
  · rintro pre x W ⟨hi, hl, hd⟩ hlen
    have hy := run_yield (P := P) (args := encs x) hl (by rw [hR]; exact hps x)
    rw [hR] at hy
    refine ⟨fn, _, assign, body, hy, roundIn_of_wpIn hfn (hassign _ pre x W _ hi fun a' U hkf hkp hiU hax => ?_)⟩
    have hlU := hkf.same _ _ (by omega) hl rfl
    have hdU := hkf.same _ _ (by omega) hd rfl
    refine ⟨_, run_beginRound hlU (by rw [hR]), ?_⟩
    have hlB := hwp { R .ready none with state := .busy } hlU
    have hkB : Kp U (U.putObj (D + 1) (.loop { R .ready none with state := .busy })) := (by rw [hD]; rw [hD] at hlU; exact hKb _ _ _ hlU rfl rfl)
    refine wpIn_mono (hbody _ pre x a' _ (by omega) ⟨_, hlB⟩ (hI.putObj _ hiU (by omega) hlU rfl) ((hAx x a').putObj (s := ()) _ hax (by omega) hlU rfl) hlen) ?_
    have fin : ∀ (jump : Option Code) (Z : World), KeepsFrom w.heap.size (U.putObj (D + 1) (.loop { R .ready none with state := .busy })) Z →
        (Instr.endRound (D + 1) jump).run P Z = .ok (.bool jump.isNone) (Z.putObj (D + 1) (.loop (R (if jump.isNone then .ready else .done) jump))) ∧
        Z.heap[D + 1]? = some (.loop { R .ready none with state := .busy }) ∧
        (Z.putObj (D + 1) (.loop (R (if jump.isNone then .ready else .done) jump))).heap[D + 1]? = some (.loop (R (if jump.isNone then .ready else .done) jump)) ∧
        (Z.putObj (D + 1) (.loop (R (if jump.isNone then .ready else .done) jump))).heap[D]? = some (.deferred (some [])) := fun jump Z hz => by
      have hlZ := hz.same _ _ (by omega) hlB rfl
      have hdZ := hz.same _ _ (by omega) (hwd _ hdU) rfl
      have he := run_endRound (P := P) jump hlZ
      rw [hR] at he hlZ ⊢
      exact ⟨he, hlZ, World.putObj_heap_same (Array.getElem?_eq_some_iff.1 hlZ).1, (World.putObj_heap_other (by omega)).trans hdZ⟩
    have hput : ∀ (Y : World) (r : Loop), KeepsFrom (w.heap.size + 2) Y (Y.putObj (D + 1) (.loop r)) := fun Y r => keepsFrom_lt (by omega) Y r
    have hall : ∀ (Z : World) (r' : Loop), KeepsFrom w.heap.size (U.putObj (D + 1) (.loop { R .ready none with state := .busy })) Z → KeepsFrom (w.heap.size + 2) W (Z.putObj (D + 1) (.loop r')) := fun Z r' hz =>
      ((keepsFrom_up hkf (by omega)).trans (hput U _)).trans ((keepsFrom_up hz (by omega)).trans (hput Z r'))
    rintro e a3 Z hp
    cases e with
    | normal =>
      obtain ⟨hz, hkz, hiz⟩ := hp
      obtain ⟨hr, hlZ, hl4, hd4⟩ := fin none Z hz
      exact ⟨_, _, hr, .inl ⟨rfl, ⟨hI.putObj _ hiz (by omega) hlZ rfl, hl4, hd4⟩, hKt hkp (hKt (hKt hkB hkz) ((by rw [hD]; rw [hD] at hlZ; exact hKb _ _ _ hlZ rfl rfl)))⟩⟩
    | ret =>
      obtain ⟨hr, hlZ, hl4, hd4⟩ := fin (some .ret) Z hp.1
      exact ⟨_, _, hr, .inr ⟨rfl, ⟨.ret, (hIx _).putObj _ hp.2 (by omega) hlZ rfl, hl4, hd4⟩, hall Z _ hp.1⟩⟩
    | exit id =>
      obtain ⟨hr, hlZ, hl4, hd4⟩ := fin (some (.exit id)) Z hp.1
      exact ⟨_, _, hr, .inr ⟨rfl, ⟨.exit id, (hIx _).putObj _ hp.2 (by omega) hlZ rfl, hl4, hd4⟩, hall Z _ hp.1⟩⟩
    | goto t =>
      obtain ⟨hr, hlZ, hl4, hd4⟩ := fin (some (.goto t)) Z hp.1
      exact ⟨_, _, hr, .inr ⟨rfl, ⟨.goto t, (hIx _).putObj _ hp.2 (by omega) hlZ rfl, hl4, hd4⟩, hall Z _ hp.1⟩⟩
    | panic ch => exact hp.elim
    | outgrown => exact hp.elim
  · rintro e Z ⟨⟨v, rfl⟩, (⟨xs, hS, hi, hl, hd⟩ | ⟨pre, hSp, c, hi, hl, hd⟩)⟩
    · refine ⟨none, _, (by have := run_endLoop (P := P) hl (by rw [hR]; simp); rw [hR] at this; exact this), hdone D xs _ (by omega) hS (hI.putObj _ hi (by omega) hl rfl) ((World.putObj_heap_other (by omega)).trans hd)⟩
    · refine ⟨some c, _, (by have := run_endLoop (P := P) hl (by rw [hR]; simp); rw [hR] at this; exact this), hstop D c pre _ (by omega) hSp ((hIx c).putObj _ hi (by omega) hl rfl) ((World.putObj_heap_other (by omega)).trans hd)⟩
end
end Go.Proofs.YtkkjbnmfjhmobaaGreatDoor
