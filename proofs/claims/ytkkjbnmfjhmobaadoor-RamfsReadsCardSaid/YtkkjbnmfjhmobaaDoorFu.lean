
/- Package ramfs: split, as the calls use it; what a directory to put a name into is. -/
import Derived.Test.YtkkjbnmfjhmobaaDoorFt
namespace Go.Proofs.YtkkjbnmfjhmobaaDoor
open Go.RowKit

theorem splitF_len {p : ByteArray} {l : List ByteArray} (h : splitF p = some l) : l.length ≤ 8 := by
  unfold splitF at h
  split at h
  · cases h
  · split at h
    · rename_i h2
      injection h with h
      rw [← h, List.length_map]
      simp only [Bool.and_eq_true, decide_eq_true_eq] at h2
      exact h2.2
    · cases h
theorem fsplit_some {p : ByteArray} {l : List ByteArray} (h : splitF p = some l) (w : World) (hL : LibW w) : Calls Tryd.prog 24 #[.string p] w fun e w' => ∃ v, e = .returned v ∧ StrsAt w' v l ∧ Chg [] w w' := by
  refine (fsplitc p w hL).mono ?_
  rintro e w' (⟨l', v, h1, rfl, h2, h3⟩ | ⟨h1, _⟩)
  · rw [h] at h1
    injection h1 with h1
    subst h1
    exact ⟨v, rfl, StrsAt.of_own h2, h3⟩
  · rw [h] at h1; cases h1
theorem fsplit_none {p : ByteArray} (h : splitF p = none) (w : World) (hL : LibW w) : Calls Tryd.prog 24 #[.string p] w fun e w' => e = .panicked (refP 22) ∧ Chg [] w w' := by
  refine (fsplitc p w hL).mono ?_
  rintro e w' (⟨l', v, h1, _⟩ | ⟨_, h2, h3⟩)
  · rw [h] at h1; cases h1
  · exact ⟨h2, h3⟩
/-- A call on a path. -/
def onPath {α : Type} (p : ByteArray) (g : List ByteArray → Except Int α) : Except Int α := match splitF p with
  | none => .error 22
  | some l => g l
theorem place_some {f : FS} (h : FInv f) {l : List ByteArray} {n : Int} {s : ByteArray} (hp : f.place l = .ok (some (n, s))) : ∃ k : Nat, n = k ∧ k < 64 ∧ (f.nodes.getD k nd0).dir.isSome = true := by
  unfold FS.place at hp
  split at hp
  · cases hp
  · cases hm : f.must l.dropLast with
    | error e => rw [hm] at hp; cases hp
    | ok x =>
      rw [hm] at hp
      simp only at hp
      obtain ⟨k, rfl, hk, _⟩ := must_bound h hm
      split at hp
      · cases hp
      · rename_i hd
        injection hp with hp
        injection hp with hp
        injection hp with h1 h2
        refine ⟨k, h1.symm, hk, ?_⟩
        cases hq : (f.nodes.getD k nd0).dir with
        | none => exact absurd hq hd
        | some m => rfl

end Go.Proofs.YtkkjbnmfjhmobaaDoor
