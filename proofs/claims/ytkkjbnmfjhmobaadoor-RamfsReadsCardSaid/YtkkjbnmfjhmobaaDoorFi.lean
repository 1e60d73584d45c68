
/- Package ramfs: free, ContainsFunc, place: contracts. -/
import Derived.Test.YtkkjbnmfjhmobaaDoorFh
import Derived.Deep.QuietTactic
import Derived.BigQuiet
namespace Go.Proofs.YtkkjbnmfjhmobaaDoor
open Go.RowKit

theorem findIdx_bound {α : Type} {p : α → Bool} {l : List α} {k : Nat} (h : l.findIdx? p = some k) : k < l.length := by
  rw [List.findIdx?_eq_some_iff_getElem] at h
  exact h.1
def freeP (r : Option Int) (e : Ending) : Prop := match r with | some k => e = .returned (.int .i64 k) | none => e = .panicked (refP 28)
set_option maxRecDepth 100000 in
theorem ffreec (fb : Nat) (mb : Nat → Nat) (vs : Nat → Value) (f : FS) (w : World) (h : FAt w fb mb vs f) : Calls Tryd.prog 30 #[.pointer (some ⟨fb, 0, none⟩)] w fun e w' => freeP f.free e ∧ Chg [] w w' := by
  have HI := Lib.hid (fidxNc fb mb vs f w h)
  clear h
  cases hr : f.nodes.findIdx? (fun x => !x.is) with
  | none =>
    have hf : f.free = none := by unfold FS.free; rw [hr]; rfl
    rw [hr] at HI
    rw [hf]
    clear hr hf
    go_enter Tryd.func30, Tryd.ntmps30
    go_wp2_with (first | (go_at_call 54; refine HI.out.mono ?_; rintro e w' ⟨rfl, hC⟩; have HC := Lib.hid hC; clear hC; try (simp only [idxV] at *)) | (go_at_call 25; refine (notc 28 _).mono ?_; rintro e w' ⟨rfl, rfl⟩))
    exact ⟨rfl, rfl, HC.out⟩
  | some k =>
    have hf : f.free = some (k : Int) := by unfold FS.free; rw [hr]; rfl
    rw [hr] at HI
    rw [hf]
    clear hr hf
    go_enter Tryd.func30, Tryd.ntmps30
    go_wp2_with (first | (go_at_call 54; refine HI.out.mono ?_; rintro e w' ⟨rfl, hC⟩; have HC := Lib.hid hC; clear hC; try (simp only [idxV] at *); have hlt : decide ((k : Int) < 0) = false := decide_eq_false (by omega)) | (go_at_call 25; refine (nofc 28 _).mono ?_; rintro e w' ⟨rfl, rfl⟩))
    go_ret
    exact ⟨rfl, HC.out⟩

set_option maxRecDepth 100000 in
theorem fanyc (fb : Nat) (mb : Nat → Nat) (vs : Nat → Value) (f : FS) (g : Nat) (lb : Array Value) (p : Fl → Bool) (w : World) (h : FAt w fb mb vs f) (eg : ∀ args w, (callFunc g args).run Tryd.prog w = .ok (.enter g args) w)
    (hg : ∀ (x : Fl) (W : World), Chg [] w W → Calls Tryd.prog g (#[flV x] ++ lb) W fun e w' => e = .returned (.bool (p x)) ∧ Chg [] W w') :
    Calls Tryd.prog 56 #[.slice (some ⟨fb, 192, none⟩) 16 16, .func (.func g) #[] lb] w fun e w' => e = .returned (.bool (f.files.any p)) ∧ Chg [] w w' := by
  have HI := Lib.hid (fidxFc fb mb vs f g lb p w h eg hg)
  have hb : f.files.any p = decide (0 ≤ idxV (f.files.findIdx? p)) := by
    cases hr : f.files.findIdx? p with
    | none =>
      rw [List.findIdx?_eq_none_iff] at hr
      rw [show idxV none = -1 from rfl]
      simpa using hr
    | some k =>
      rw [List.findIdx?_eq_some_iff_getElem] at hr
      obtain ⟨h1, h2, _⟩ := hr
      rw [show idxV (some k) = k from rfl, decide_eq_true (by omega)]
      exact List.any_eq_true.2 ⟨_, List.getElem_mem h1, h2⟩
  rw [hb]
  generalize idxV (f.files.findIdx? p) = i at *
  clear h hg hb eg
  go_enter Tryd.func56, Tryd.ntmps56
  go_wp2_with (go_at_call 31; refine HI.out.mono ?_; rintro e w' ⟨rfl, hC⟩; have HC := Lib.hid hC; clear hC)
  go_ret
  exact ⟨by first | rfl | (refine ret_bool ?_; simp), HC.out⟩

/-- Where a walk ends: at a node that is, or at none. -/
theorem walkF_bound {f : FS} (h : FInv f) : ∀ (l : List ByteArray) (n : Nat) (k : Int), n < 64 → (f.nd n).is = true → f.walkF n l = .ok k → k = -1 ∨ (0 ≤ k ∧ k < 64 ∧ (f.nd k).is = true) := by
  intro l
  induction l with
  | nil =>
    intro n k hn hi hw
    unfold FS.walkF at hw
    injection hw with e
    subst e
    exact .inr ⟨by omega, by omega, hi⟩
  | cons s r ih =>
    intro n k hn hi hw
    unfold FS.walkF at hw
    cases hd : (f.nd n).dir with
    | none => rw [hd] at hw; cases hw
    | some m =>
      rw [hd] at hw
      simp only at hw
      cases hm : m.lookup s with
      | none =>
        rw [hm] at hw
        simp only at hw
        split at hw
        · injection hw with e; exact .inl e.symm
        · cases hw
      | some t =>
        rw [hm] at hw
        simp only at hw
        obtain ⟨t0, t1, t2⟩ := h.target hn (show (f.nodes.getD n nd0).dir = some m from hd) hm
        obtain ⟨n', rfl⟩ := Int.eq_ofNat_of_zero_le t0
        exact ih n' k (by omega) t2 hw
theorem walk_bound {f : FS} (h : FInv f) {l : List ByteArray} {k : Int} (hw : f.walk l = .ok k) : k = -1 ∨ (0 ≤ k ∧ k < 64 ∧ (f.nd k).is = true) := walkF_bound h l 0 k (by omega) h.root.1 hw
theorem must_bound {f : FS} (h : FInv f) {l : List ByteArray} {k : Int} (hw : f.must l = .ok k) : ∃ n : Nat, k = n ∧ n < 64 ∧ (f.nd n).is = true := by
  unfold FS.must at hw
  cases hr : f.walk l with
  | error e => rw [hr] at hw; cases hw
  | ok n =>
    rw [hr] at hw
    simp only at hw
    split at hw
    · cases hw
    · injection hw with e
      subst e
      rcases walk_bound h hr with rfl | ⟨h1, h2, h3⟩
      · omega
      · obtain ⟨n', rfl⟩ := Int.eq_ofNat_of_zero_le h1
        exact ⟨n', rfl, by omega, h3⟩

/-- A callee that panics inside a drawn region: what go_region_with asks to be left is left at an empty region. -/
theorem via {P : Program} {md : Region.Mode} {w : World} {G : Prop} (g : G) (_ : wpAny P md #[] (fun _ _ _ => True) 0 #[] ⟨#[], []⟩ w) : G := g
def PlaceP (mb : Nat → Nat) (r : Except Int (Option (Int × ByteArray))) (e : Ending) : Prop := match r with
  | .ok none => e = .returned (.tuple #[.map none, .string ⟨#[]⟩])
  | .ok (some (n, s)) => e = .returned (.tuple #[.map (some (mb n.toNat)), .string s])
  | .error c => e = .panicked (refP c)
set_option maxRecDepth 100000 in
set_option maxHeartbeats 4000000 in
theorem fplacec (fb : Nat) (mb : Nat → Nat) (vs : Nat → Value) (f : FS) (v : Value) (l : List ByteArray) (hl : l.length ≤ 600) (w : World) (h : FAt w fb mb vs f) (hv : StrsAt w v l) : Calls Tryd.prog 27 #[.pointer (some ⟨fb, 0, none⟩), v] w fun e w' => PlaceP mb (f.place l) e ∧ Chg [] w w' := by
  have hq := eql_names
  obtain ⟨a, cap, rfl, hc⟩ := hv
  by_cases hnil : l = []
  · subst hnil
    clear h hc
    unfold FS.place
    rw [if_pos rfl]
    go_enter Tryd.func27, Tryd.ntmps27
    go_wp2
    go_ret2
    exact ⟨rfl, Chg.refl _ _⟩
  · obtain ⟨g, o, rfl, hcp, hcs⟩ := hc.resolve_left hnil
    obtain ⟨m, hm⟩ : ∃ m, l.length = m + 1 := ⟨l.length - 1, by cases l <;> simp_all⟩
    have hlast : l[m]? = some (l.getLastD (ba [])) := by
      rw [List.getLastD_eq_getLast?, List.getLast?_eq_getElem?, hm]
      simp [List.getElem?_eq_getElem (show m < l.length by omega)]
    have cl := hcs m _ hlast
    have hd1 : StrsAt w (.slice (some ⟨g, o, none⟩) m cap) l.dropLast := ⟨_, cap, by rw [List.length_dropLast, hm]; rfl, .inr ⟨g, o, rfl, by rw [List.length_dropLast]; omega, fun j x hx => hcs j x (by rw [List.getElem?_dropLast] at hx; split at hx; exact hx; cases hx)⟩⟩
    have hwr : IntKind.i64.wrap (m : Int) = (m : Int) := by rw [IntKind.wrap_i64]; omega
    have hmc : (m : Int) ≤ (cap : Int) := by omega
    have hm0 : (0 : Int) ≤ (m : Int) := by omega
    have hmm : (m : Int) < (m : Int) + 1 := by omega
    have HM := Lib.hid (fun W (hC : Chg [] w W) => fmustc fb mb vs f _ l.dropLast (by rw [List.length_dropLast]; omega) W (h.calm hC) (hd1.calm hC))
    have H := Lib.hid h
    unfold FS.place
    rw [if_neg hnil, hm]
    generalize l.getLastD (ba []) = s at *
    clear h hd1 hcs hc hlast hnil
    cases hr : f.must l.dropLast with
    | error c =>
      rw [hr] at HM
      clear hr
      go_enter Tryd.func27, Tryd.ntmps27
      go_wp2
      go_region_with (go_at_call 37; refine (HM.out _ ((Chg.refl _ _).drewN _)).mono ?_; rintro e w' ⟨rfl, rfl⟩; refine via (P := Tryd.prog) (md := .any) (w := w) ⟨rfl, rfl, (Chg.refl _ _).drewN _⟩ ?_)
      all_goals trivial
    | ok k =>
      obtain ⟨n, rfl, hn, hi⟩ := must_bound H.out.inv hr
      rw [hr] at HM
      have c1 := (H.out.cN hn).2.1
      simp only
      rw [show (f.nd (n : Int)).dir = (f.nodes.getD n nd0).dir from rfl]
      clear hr hi
      cases hd : (f.nodes.getD n nd0).dir with
      | none =>
        rw [hd] at c1
        simp only [Option.isSome_none, Bool.false_eq_true, if_false] at c1
        simp only [if_true]
        clear hd
        go_enter Tryd.func27, Tryd.ntmps27
        go_wp2
        go_quiet ((go_at_call 37; exact Calls.quiet_of_same ((HM.out _ ((Chg.refl _ _).drewN _)).mono fun _ _ ⟨a, b⟩ => And.intro a b.symm)))
        go_wp2_with (go_at_call 25; refine (notc 20 _).mono ?_; rintro e w' ⟨rfl, rfl⟩)
        exact ⟨rfl, rfl, (Chg.refl _ _).drewN _⟩
      | some mm =>
        rw [hd] at c1
        simp only [Option.isSome_some, if_true] at c1
        rw [if_neg (by simp)]
        clear hd
        go_enter Tryd.func27, Tryd.ntmps27
        go_wp2
        go_quiet ((go_at_call 37; exact Calls.quiet_of_same ((HM.out _ ((Chg.refl _ _).drewN _)).mono fun _ _ ⟨a, b⟩ => And.intro a b.symm)))
        go_wp2_with (go_at_call 25; refine (nofc 20 _).mono ?_; rintro e w' ⟨rfl, rfl⟩)
        go_quiet (fail)
        go_wp2
        go_ret2
        exact ⟨rfl, ((Chg.refl _ _).drewN _).drewN _⟩

end Go.Proofs.YtkkjbnmfjhmobaaDoor
