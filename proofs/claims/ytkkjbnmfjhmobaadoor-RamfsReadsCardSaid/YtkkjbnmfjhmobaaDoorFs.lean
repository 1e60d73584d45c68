
/- Files in memory: a directory's names are written: what always holds still holds. No program in sight. -/
import Derived.Test.YtkkjbnmfjhmobaaDoorFr
namespace Go.Proofs.YtkkjbnmfjhmobaaDoor
open Go.RowKit

theorem FInv.ndAt {f : FS} (h : FInv f) {n : Nat} (hn : n < 64) : f.nodes.getD n nd0 ∈ f.nodes := by
  have hl := h.ln
  rw [List.getD_eq_getElem?_getD, List.getElem?_eq_getElem (by omega)]
  exact List.getElem_mem _
theorem map_set_same {α β : Type} (g : α → β) (l : List α) (n : Nat) (x d : α) (hn : n < l.length) (h : g x = g (l.getD n d)) : (l.set n x).map g = l.map g := by
  refine List.ext_getElem (by simp) fun j h1 h2 => ?_
  simp only [List.getElem_map, List.getElem_set]
  split
  · rename_i e
    subst e
    rw [h, List.getD_eq_getElem?_getD, List.getElem?_eq_getElem hn]
    rfl
  · rfl
theorem FInv.setDir {f : FS} (h : FInv f) {n : Nat} (hn : n < 64) (hd : (f.nodes.getD n nd0).dir.isSome = true) {m : List (ByteArray × Int)} (ht : ∀ p ∈ m, 0 ≤ p.2 ∧ p.2 < 64 ∧ (f.nd p.2).is = true) (hk : (m.map (·.1)).Nodup) :
    FInv (f.setN n { f.nodes.getD n nd0 with dir := some m }) := by
  obtain ⟨x, hx⟩ : ∃ x : Nd, x = { f.nodes.getD n nd0 with dir := some m } := ⟨_, rfl⟩
  rw [← hx]
  have xi : x.is = (f.nodes.getD n nd0).is := by rw [hx]
  have xb : x.b = (f.nodes.getD n nd0).b := by rw [hx]
  have xd : x.dir = some m := by rw [hx]
  have hl : n < f.nodes.length := by rw [h.ln]; exact hn
  have ho : (f.nodes.getD n nd0).is = true := by
    cases e : (f.nodes.getD n nd0).is with
    | true => rfl
    | false => rw [h.free _ (h.ndAt hn) e] at hd; cases hd
  have hnd : ∀ k : Int, 0 ≤ k → ((f.setN n x).nd k).is = (f.nd k).is := by
    intro k k0
    by_cases e : k.toNat = n
    · have e1 : (f.setN n x).nd k = x := by unfold FS.nd FS.setN; rw [e]; exact getD_set_same _ _ _ _ hl
      have e2 : f.nd k = f.nodes.getD n nd0 := by unfold FS.nd; rw [e]
      rw [e1, e2, xi]
    · rw [show (f.setN n x).nd k = f.nd k from getD_set_ne _ _ _ e]
  refine ⟨by rw [show (f.setN n x).nodes = f.nodes.set n x from rfl, List.length_set]; exact h.ln, h.lf, ?_, ?_, ?_, ?_, h.shut, ?_, ?_⟩
  · refine ⟨by rw [hnd 0 (by omega)]; exact h.root.1, ?_⟩
    by_cases e : n = 0
    · subst e
      rw [show (f.setN (0 : Nat) x).nd 0 = x from getD_set_same _ _ _ _ hl, xd]
      rfl
    · rw [show (f.setN n x).nd 0 = f.nd 0 from getD_set_ne _ _ _ (by simp; omega)]
      exact h.root.2
  · intro y hy hf
    rcases mem_set hy with rfl | h2
    · rw [xi, ho] at hf; cases hf
    · exact h.free y h2 hf
  · intro y hy m2 hd2
    rcases mem_set hy with rfl | h2
    · rw [xd] at hd2
      injection hd2 with hd2
      subst hd2
      exact ⟨fun p hp => ⟨(ht p hp).1, (ht p hp).2.1, by rw [hnd _ (ht p hp).1]; exact (ht p hp).2.2⟩, hk⟩
    · obtain ⟨h3, h4⟩ := h.tgt y h2 m2 hd2
      exact ⟨fun p hp => ⟨(h3 p hp).1, (h3 p hp).2.1, by rw [hnd _ (h3 p hp).1]; exact (h3 p hp).2.2⟩, h4⟩
  · intro y hy hop
    obtain ⟨a, b, c, d⟩ := h.file y hy hop
    exact ⟨a, b, by rw [hnd _ a]; exact c, d⟩
  · have : (f.setN n x).bytes = f.bytes := by
      unfold FS.bytes
      rw [show (f.setN n x).nodes = f.nodes.set n x from rfl, map_set_same _ _ _ _ nd0 hl (by rw [xb])]
    rw [this]
    exact h.bytes
  · intro y hy z hz
    rcases mem_set hy with rfl | h2
    · rw [xb] at hz; exact h.byte _ (h.ndAt hn) z hz
    · exact h.byte y h2 z hz

/-- A free node is taken. -/
theorem FInv.fresh {f : FS} (h : FInv f) {n : Nat} (hn : n < 64) (hf : (f.nodes.getD n nd0).is = false) {dir : Option (List (ByteArray × Int))} (hd : dir = none ∨ dir = some []) : FInv (f.setN n ⟨true, dir, []⟩) := by
  have hl : n < f.nodes.length := by rw [h.ln]; exact hn
  have hz := h.free _ (h.ndAt hn) hf
  have hn0 : n ≠ 0 := by
    rintro rfl
    have := h.root.1
    rw [show f.nd 0 = f.nodes.getD 0 nd0 from rfl, hf] at this
    cases this
  have hnd : ∀ k : Int, (f.nd k).is = true → ((f.setN n ⟨true, dir, []⟩).nd k).is = true := by
    intro k hk
    by_cases e : k.toNat = n
    · rw [show (f.setN n ⟨true, dir, []⟩).nd k = ⟨true, dir, []⟩ by unfold FS.nd FS.setN; rw [e]; exact getD_set_same _ _ _ _ hl]
    · rw [show (f.setN n ⟨true, dir, []⟩).nd k = f.nd k from getD_set_ne _ _ _ e]
      exact hk
  refine ⟨by rw [show (f.setN n ⟨true, dir, []⟩).nodes = f.nodes.set n ⟨true, dir, []⟩ from rfl, List.length_set]; exact h.ln, h.lf, ?_, ?_, ?_, ?_, h.shut, ?_, ?_⟩
  · rw [show (f.setN n ⟨true, dir, []⟩).nd 0 = f.nd 0 from getD_set_ne _ _ _ (by simp; omega)]
    exact h.root
  · intro y hy hy2
    rcases mem_set hy with rfl | h2
    · cases hy2
    · exact h.free y h2 hy2
  · intro y hy m hm
    rcases mem_set hy with rfl | h2
    · rcases hd with rfl | rfl
      · cases hm
      · injection hm with hm
        subst hm
        exact ⟨(fun p hp => nomatch hp), List.nodup_nil⟩
    · obtain ⟨h3, h4⟩ := h.tgt y h2 m hm
      exact ⟨fun p hp => ⟨(h3 p hp).1, (h3 p hp).2.1, hnd _ (h3 p hp).2.2⟩, h4⟩
  · intro y hy hop
    obtain ⟨a, b, c, d⟩ := h.file y hy hop
    exact ⟨a, b, hnd _ c, d⟩
  · exact Nat.le_trans (sum_set_le _ _ _ _ rfl) h.bytes
  · intro y hy z hz2
    rcases mem_set hy with rfl | h2
    · cases hz2
    · exact h.byte y h2 z hz2

end Go.Proofs.YtkkjbnmfjhmobaaDoor
