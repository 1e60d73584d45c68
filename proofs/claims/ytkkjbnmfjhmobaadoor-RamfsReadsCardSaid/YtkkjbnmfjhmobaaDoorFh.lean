
/- Package ramfs: free, the free descriptor, who has a node open: contracts. -/
import Derived.Test.YtkkjbnmfjhmobaaDoorFf
namespace Go.Proofs.YtkkjbnmfjhmobaaDoor
open Go.RowKit

/-- The place of the first that is so, or -1. -/
def idxV (o : Option Nat) : Int := match o with | none => -1 | some k => k
theorem findIdx_at {α : Type} {p : α → Bool} {l : List α} {d : α} {k : Nat} (hk : k < l.length) (h : ∀ j, j < k → p (l.getD j d) = false) (hp : p (l.getD k d) = true) : l.findIdx? p = some k := by
  rw [List.findIdx?_eq_some_iff_getElem]
  refine ⟨hk, ?_, fun j hj => ?_⟩
  · rw [List.getD_eq_getElem?_getD, List.getElem?_eq_getElem hk] at hp; exact hp
  · have := h j hj
    rw [List.getD_eq_getElem?_getD, List.getElem?_eq_getElem (by omega)] at this
    simpa using this
theorem findIdx_no {α : Type} {p : α → Bool} {l : List α} {d : α} (h : ∀ j, j < l.length → p (l.getD j d) = false) : l.findIdx? p = none := by
  rw [List.findIdx?_eq_none_iff]
  intro x hx
  obtain ⟨j, hj, rfl⟩ := List.mem_iff_getElem.1 hx
  have := h j hj
  rw [List.getD_eq_getElem?_getD, List.getElem?_eq_getElem hj] at this
  exact this

set_option maxRecDepth 100000 in
theorem ffree1c (b : Bool) (m : Option Nat) (v : Value) (w : World) : Calls Tryd.prog 55 #[.agg #[.bool b, .map m, v]] w fun e w' => e = .returned (.bool (!b)) ∧ Chg [] w w' := by
  have hb := heap_alloc_eq w (.cells #[.bool b, .map m, v] 51)
  have c0 := cellB hb (i := 0) (v := .bool b) rfl
  clear hb
  go_enter Tryd.func55, Tryd.ntmps55
  go_wp2
  go_ret
  exact ⟨rfl, (Chg.refl _ _).alloc _⟩
set_option maxRecDepth 100000 in
theorem fopenIc (x : Fl) (w : World) : Calls Tryd.prog 32 #[.agg #[.bool x.op, .int .i64 x.node, .int .i64 x.flags, .int .i64 x.pos]] w fun e w' => e = .returned (.bool (!x.op)) ∧ Chg [] w w' := by
  have hb := heap_alloc_eq w (.cells #[.bool x.op, .int .i64 x.node, .int .i64 x.flags, .int .i64 x.pos] 54)
  have c0 := cellB hb (i := 0) (v := .bool x.op) rfl
  clear hb
  go_enter Tryd.func32, Tryd.ntmps32
  go_wp2
  go_ret
  exact ⟨rfl, (Chg.refl _ _).alloc _⟩
set_option maxRecDepth 100000 in
theorem fgone1c (x : Fl) (n : Int) (bn : Nat) (w : World) (hn : w.heap[bn]? = some (.cells #[.int .i64 n] 3 (0, 0))) : Calls Tryd.prog 57 #[.agg #[.bool x.op, .int .i64 x.node, .int .i64 x.flags, .int .i64 x.pos], .pointer (some ⟨bn, 0, none⟩)] w fun e w' => e = .returned (.bool (x.op && x.node == n)) ∧ Chg [] w w' := by
  have hb := heap_alloc_eq w (.cells #[.bool x.op, .int .i64 x.node, .int .i64 x.flags, .int .i64 x.pos] 54)
  have c0 := cellB hb (i := 0) (v := .bool x.op) rfl
  have c1 := cellB hb (i := 1) (v := .int .i64 x.node) rfl
  have cn := cellB (blk_alloc hn (.cells #[.bool x.op, .int .i64 x.node, .int .i64 x.flags, .int .i64 x.pos] 54)) (i := 0) (v := .int .i64 n) rfl
  clear hb hn
  obtain ⟨op, nd, fl, ps⟩ := x
  simp only at c0 c1 cn ⊢
  cases op
  all_goals
    go_enter Tryd.func57, Tryd.ntmps57
    go_wp2
    go_ret
    exact ⟨rfl, (Chg.refl _ _).alloc _⟩

set_option maxRecDepth 100000 in
set_option maxHeartbeats 4000000 in
theorem fidxNc (fb : Nat) (mb : Nat → Nat) (vs : Nat → Value) (f : FS) (w : World) (h : FAt w fb mb vs f) : Calls Tryd.prog 54 #[.slice (some ⟨fb, 0, none⟩) 64 64, .func (.func 55) #[] #[]] w fun e w' => e = .returned (.int .i64 (idxV (f.nodes.findIdx? (fun x => !x.is)))) ∧ Chg [] w w' := by
  have H := Lib.hid h
  clear h
  go_enter Tryd.func54, Tryd.ntmps54
  go_wp2
  go_loopw [8] (fun iv wr => ∃ k : Nat, k ≤ 64 ∧ iv = .int .i64 k ∧ (∀ j, j < k → (f.nodes.getD j nd0).is = true) ∧ Chg [] w wr) (fun i _ => 64 - (intOf i).toNat)
  case atStart => exact ⟨0, by omega, rfl, fun j hj => by omega, Chg.refl _ _⟩
  case round =>
    obtain ⟨k, hk, rfl, hall, hC⟩ := hrel
    have HA := Lib.hid (And.intro hall hC)
    clear hall hC
    by_cases hlt : k < 64
    · have hF := H.out.calm HA.out.2
      obtain ⟨c0, c1, c2⟩ := hF.cN hlt
      have hl := H.out.inv.ln
      generalize (if (f.nodes.getD k nd0).dir.isSome = true then some (mb k) else none) = mo at c1
      cases hb : (f.nodes.getD k nd0).is with
      | true =>
        have HI := Lib.hid hb
        rw [hb] at c0
        clear hF hb hl
        go_wp2_with fail
        refine (ffree1c true mo (vs k) wr).mono ?_
        rintro e w' ⟨rfl, hC⟩
        have HC := Lib.hid (HA.out.2.trans hC)
        clear hC c0 c1 c2
        go_wp2
        go_roundw
        case rel => exact ⟨k + 1, by omega, by go_num, fun j hj => by (rcases Nat.lt_or_ge j k with h1 | h1; exact HA.out.1 j h1; obtain rfl : j = k := (by omega); exact HI.out), HC.out⟩
        case measure => simp [intOf]; omega
      | false =>
        have hr : idxV (f.nodes.findIdx? (fun x => !x.is)) = k := by
          rw [findIdx_at (d := nd0) (k := k) (by omega) (fun j hj => by rw [HA.out.1 j hj]; rfl) (by rw [hb]; rfl)]
          rfl
        have HI := Lib.hid hr
        rw [hb] at c0
        clear hF hb hl hr
        go_wp2_with fail
        refine (ffree1c false mo (vs k) wr).mono ?_
        rintro e w' ⟨rfl, hC⟩
        have HC := Lib.hid (HA.out.2.trans hC)
        clear hC c0 c1 c2
        go_wp2
        go_ret
        exact ⟨ret_i64 HI.out.symm, HC.out⟩
    · obtain rfl : k = 64 := by omega
      have hr : idxV (f.nodes.findIdx? (fun x => !x.is)) = -1 := by
        rw [findIdx_no (d := nd0) (fun j hj => by rw [HA.out.1 j (by have := H.out.inv.ln; omega)]; rfl)]
        rfl
      have HI := Lib.hid hr
      clear hr hk hlt
      go_wp2
      go_ret
      exact ⟨ret_i64 HI.out.symm, HA.out.2⟩

def flV (x : Fl) : Value := .agg #[.bool x.op, .int .i64 x.node, .int .i64 x.flags, .int .i64 x.pos]
set_option maxRecDepth 100000 in
set_option maxHeartbeats 4000000 in
/-- The first descriptor that is so, whatever the closure asks. -/
theorem fidxFc (fb : Nat) (mb : Nat → Nat) (vs : Nat → Value) (f : FS) (g : Nat) (lb : Array Value) (p : Fl → Bool) (w : World) (h : FAt w fb mb vs f) (eg : ∀ args w, (callFunc g args).run Tryd.prog w = .ok (.enter g args) w)
    (hg : ∀ (x : Fl) (W : World), Chg [] w W → Calls Tryd.prog g (#[flV x] ++ lb) W fun e w' => e = .returned (.bool (p x)) ∧ Chg [] W w') :
    Calls Tryd.prog 31 #[.slice (some ⟨fb, 192, none⟩) 16 16, .func (.func g) #[] lb] w fun e w' => e = .returned (.int .i64 (idxV (f.files.findIdx? p))) ∧ Chg [] w w' := by
  have H := Lib.hid (And.intro h hg)
  clear h hg
  go_enter Tryd.func31, Tryd.ntmps31
  go_wp2
  go_loopw [8] (fun iv wr => ∃ k : Nat, k ≤ 16 ∧ iv = .int .i64 k ∧ (∀ j, j < k → p (f.files.getD j fl0) = false) ∧ Chg [] w wr) (fun i _ => 16 - (intOf i).toNat)
  case atStart => exact ⟨0, by omega, rfl, fun j hj => by omega, Chg.refl _ _⟩
  case round =>
    obtain ⟨k, hk, rfl, hall, hC⟩ := hrel
    have HA := Lib.hid (And.intro hall hC)
    clear hall hC
    by_cases hlt : k < 16
    · have hF := H.out.1.calm HA.out.2
      obtain ⟨c0, c1, c2, c3⟩ := hF.cF hlt
      have hl := H.out.1.inv.lf
      have hc := H.out.2 (f.files.getD k fl0) wr HA.out.2
      unfold flV at hc
      generalize hx : f.files.getD k fl0 = x at *
      obtain ⟨xo, xn, xf, xp⟩ := x
      simp only at c0 c1 c2 c3 hc
      have HCl := Lib.hid hc
      clear hc hF
      cases hb : p ⟨xo, xn, xf, xp⟩ with
      | false =>
        have HI := Lib.hid (show p (f.files.getD k fl0) = false by rw [hx]; exact hb)
        rw [hb] at HCl
        clear hb hl hx
        go_wp2_with fail
        refine HCl.out.mono ?_
        rintro e w' ⟨rfl, hC⟩
        have HC := Lib.hid (HA.out.2.trans hC)
        clear hC c0 c1 c2 c3
        go_wp2
        go_roundw
        case rel => exact ⟨k + 1, by omega, by go_num, fun j hj => by (rcases Nat.lt_or_ge j k with h1 | h1; exact HA.out.1 j h1; obtain rfl : j = k := (by omega); exact HI.out), HC.out⟩
        case measure => simp [intOf]; omega
      | true =>
        have hr : idxV (f.files.findIdx? p) = k := by
          rw [findIdx_at (d := fl0) (k := k) (by omega) HA.out.1 (by rw [hx]; exact hb)]
          rfl
        have HI := Lib.hid hr
        rw [hb] at HCl
        clear hb hl hr hx
        go_wp2_with fail
        refine HCl.out.mono ?_
        rintro e w' ⟨rfl, hC⟩
        have HC := Lib.hid (HA.out.2.trans hC)
        clear hC c0 c1 c2 c3
        go_wp2
        go_ret
        exact ⟨ret_i64 HI.out.symm, HC.out⟩
    · obtain rfl : k = 16 := by omega
      have hr : idxV (f.files.findIdx? p) = -1 := by
        rw [findIdx_no (d := fl0) (fun j hj => HA.out.1 j (by have := H.out.1.inv.lf; omega))]
        rfl
      have HI := Lib.hid hr
      clear hr hk hlt
      go_wp2
      go_ret
      exact ⟨ret_i64 HI.out.symm, HA.out.2⟩

end Go.Proofs.YtkkjbnmfjhmobaaDoor
