
/- Files in memory: a name comes, a name goes. No program in sight. -/
import Derived.Test.YtkkjbnmfjhmobaaDoorFq
namespace Go.Proofs.YtkkjbnmfjhmobaaDoor
open Go.RowKit

theorem sMupd_names (m : List (ByteArray × Int)) (s : ByteArray) (v : Int) : sMupd (namesV m) s (.int .i64 v) = namesV (nmPut m s v) := by
  induction m with
  | nil => rfl
  | cons x m ih =>
    obtain ⟨k, y⟩ := x
    show sMupd ((k, Value.int .i64 y) :: namesV m) s (.int .i64 v) = _
    unfold sMupd nmPut
    by_cases h : s = k
    · subst h; simp [namesV]
    · simp only [namesV] at ih
      simp [h, ih, namesV]
theorem sMdel_names (m : List (ByteArray × Int)) (s : ByteArray) : sMdel (namesV m) s = namesV (nmDel m s) := by
  induction m with
  | nil => rfl
  | cons x m ih =>
    obtain ⟨k, y⟩ := x
    show sMdel ((k, Value.int .i64 y) :: namesV m) s = _
    unfold sMdel nmDel
    by_cases h : s = k
    · subst h; simp
    · simp only [namesV] at ih
      simp [h, ih, namesV]
theorem nmPut_mem {m : List (ByteArray × Int)} {s : ByteArray} {v : Int} : ∀ p ∈ nmPut m s v, p = (s, v) ∨ p ∈ m := by
  induction m with
  | nil => intro p hp; exact .inl (by simpa [nmPut] using hp)
  | cons x m ih =>
    obtain ⟨k, y⟩ := x
    intro p hp
    unfold nmPut at hp
    split at hp
    · rcases List.mem_cons.1 hp with h | h
      · exact .inl h
      · exact .inr (List.mem_cons_of_mem _ h)
    · rcases List.mem_cons.1 hp with h | h
      · exact .inr (by simp [h])
      · exact (ih p h).imp id (List.mem_cons_of_mem _)
theorem nmPut_keys {m : List (ByteArray × Int)} {s : ByteArray} {v : Int} (hn : (m.map (·.1)).Nodup) : ((nmPut m s v).map (·.1)).Nodup := by
  induction m with
  | nil => simp [nmPut]
  | cons x m ih =>
    obtain ⟨k, y⟩ := x
    simp only [List.map_cons, List.nodup_cons] at hn
    unfold nmPut
    split
    · rename_i h; subst h; simpa using hn
    · rename_i h
      simp only [List.map_cons, List.nodup_cons]
      refine ⟨fun hm => ?_, ih hn.2⟩
      obtain ⟨p, hp, he⟩ := List.mem_map.1 hm
      rcases nmPut_mem p hp with rfl | h2
      · exact h he
      · exact hn.1 (List.mem_map.2 ⟨p, h2, he⟩)
theorem nmPut_len (m : List (ByteArray × Int)) (s : ByteArray) (v : Int) : (nmPut m s v).length ≤ m.length + 1 := by
  induction m with
  | nil => simp [nmPut]
  | cons x m ih =>
    unfold nmPut
    split
    · simp
    · simp only [List.length_cons]; omega
theorem nmDel_sub (m : List (ByteArray × Int)) (s : ByteArray) : (nmDel m s).Sublist m := by
  induction m with
  | nil => exact List.Sublist.refl _
  | cons x m ih =>
    unfold nmDel
    split
    · exact List.sublist_cons_self _ _
    · exact ih.cons_cons _

end Go.Proofs.YtkkjbnmfjhmobaaDoor
