
/- Package ramfs: New: contract. -/
import Derived.Test.YtkkjbnmfjhmobaaDoorFp
namespace Go.Proofs.YtkkjbnmfjhmobaaDoor
open Go.RowKit

def fsZero : FS := ⟨List.replicate 64 nd0, List.replicate 16 fl0⟩
def vsNil : Nat → Value := fun _ => .slice none 0 0
theorem new_nd {i : Nat} (h0 : i ≠ 0) : fsNew.nodes.getD i nd0 = nd0 := by
  unfold fsNew
  cases i with
  | zero => exact absurd rfl h0
  | succ i =>
    simp only [List.getD_eq_getElem?_getD, List.getElem?_cons_succ, List.getElem?_replicate]
    split <;> rfl
theorem new_mem {x : Nd} (h : x ∈ fsNew.nodes) : x = ⟨true, some [], []⟩ ∨ x = nd0 := by
  unfold fsNew at h
  rcases List.mem_cons.1 h with h | h
  · exact .inl h
  · exact .inr (List.eq_of_mem_replicate h)
theorem new_inv : FInv fsNew := by
  refine ⟨rfl, rfl, ⟨rfl, rfl⟩, ?_, ?_, ?_, ?_, by decide, ?_⟩
  · intro x hx hf
    rcases new_mem hx with rfl | rfl
    · cases hf
    · rfl
  · intro x hx m hd
    rcases new_mem hx with rfl | rfl
    · injection hd with hd; subst hd; exact ⟨(fun p hp => nomatch hp), List.nodup_nil⟩
    · cases hd
  · intro x hx ho
    have := List.eq_of_mem_replicate (show x ∈ List.replicate 16 fl0 from hx)
    subst this
    cases ho
  · intro x hx _
    exact List.eq_of_mem_replicate (show x ∈ List.replicate 16 fl0 from hx)
  · intro x hx z hz
    rcases new_mem hx with rfl | rfl
    · cases hz
    · cases hz
set_option maxRecDepth 100000 in
set_option maxHeartbeats 1000000 in
theorem fnewc (w : World) : Calls Tryd.prog 6 #[] w fun e w' => ∃ fb mb, e = .returned (.pointer (some ⟨fb, 0, none⟩)) ∧ FAt w' fb mb vsNil fsNew ∧ Chg [] w w' ∧ ∀ k ∈ blkF fb mb vsNil fsNew, w.heap.size ≤ k := by
  have hmk : ∀ W : World, (Instr.makeMap 49 none).run Tryd.prog W = .ok (.map (some W.heap.size)) (W.alloc (.map #[] 0)) := fun W => by kernel_rfl
  have hzc : Tryd.zeroCells57 = fsCells fsZero (fun _ => 0) vsNil := by kernel_rfl
  have hh := fsCells_node (f := fsZero) rfl (n := 0) (by omega) (fun _ => 0) vsNil ⟨true, some [], []⟩ (w.heap.size + 1) (.slice none 0 0)
  have hvs : updN vsNil 0 (.slice none 0 0) = vsNil := by funext i; unfold updN; split <;> rfl
  rw [← hzc, hvs] at hh
  have HH := Lib.hid hh
  clear hh hzc hvs
  go_enter Tryd.func6, Tryd.ntmps6
  go_wp2
  go_ret
  refine ⟨w.heap.size, updN (fun _ => 0) 0 (w.heap.size + 1), rfl, ⟨?_, ?_, ?_, ?_, ?_, new_inv⟩, ((Chg.refl _ _).alloc _).alloc _, ?_⟩
  · refine blk_alloc ?_ _
    rw [show fsNew = fsZero.setN (0 : Nat) ⟨true, some [], []⟩ from rfl, ← HH.out]
    exact heap_alloc_eq _ _
  · intro i hi
    by_cases e : i = 0
    · subst e; exact own_nil
    · rw [new_nd e]; exact own_nil
  · intro i hi m hd
    by_cases e : i = 0
    · subst e
      injection hd with hd
      subst hd
      rw [updN_same]
      have := SMapP.made (w.alloc (.cells (((Tryd.zeroCells57.setIfInBounds 0 (.bool true)).setIfInBounds 1 (.map (some (w.heap.size + 1)))).setIfInBounds 2 (.slice none 0 0)) 57 (0, 0)))
      rwa [show (w.alloc (.cells (((Tryd.zeroCells57.setIfInBounds 0 (.bool true)).setIfInBounds 1 (.map (some (w.heap.size + 1)))).setIfInBounds 2 (.slice none 0 0)) 57 (0, 0))).heap.size = w.heap.size + 1 from Array.size_push _] at this
    · rw [new_nd e] at hd; cases hd
  · intro i j _ _ _ k hk; cases hk
  · intro i j _ _ hne hsi hsj
    by_cases e : i = 0
    · subst e; rw [new_nd (Ne.symm hne)] at hsj; cases hsj
    · rw [new_nd e] at hsi; cases hsi
  · intro k hk
    rcases mem_blkF.1 hk with rfl | ⟨i, hi, ⟨hs, rfl⟩ | hm⟩
    · exact Nat.le_refl _
    · by_cases e : i = 0
      · subst e; rw [updN_same]; omega
      · rw [new_nd e] at hs; cases hs
    · cases hm

end Go.Proofs.YtkkjbnmfjhmobaaDoor
