
/- The order of a waiting list behind a Take: the rest. No program in sight. -/
import Derived.Test.YtiiafhlckmkcnaaGreatL09p
namespace Go.Proofs.YtiiafhlckmkcnaaGreat

theorem ordL_filter (L : WL) (q : Int × Int → Bool) : ordL (L.filter q) = (ordL L).filter q := by
  unfold ordL
  rw [List.filter_flatMap]
  congr 1
  funext i
  rw [List.filter_filter, List.filter_filter]
  congr 1
  funext x
  exact Bool.and_comm _ _

theorem ord_take {L : WL} (hL : ListOk L) : ordL (takeL L) = (ordL L).tail := by
  unfold takeL
  cases ho : ordL L with
  | nil => simp [ho]
  | cons x r =>
    show ordL (wdel L x.1) = r
    rw [wdel_filter hL.nodup, ordL_filter, ho]
    have hp : ((ordL L).map (·.1)).Nodup := ((ordL_perm hL).map (·.1)).nodup_iff.2 hL.nodup
    rw [ho] at hp
    have hn := (List.nodup_cons.1 hp).1
    rw [List.filter_cons_of_neg (by simp)]
    exact List.filter_eq_self.2 fun y hy => by
      have : y.1 ≠ x.1 := fun e => hn (List.mem_map.2 ⟨y, hy, e⟩)
      simpa using this

theorem ord_nil_iff {L : WL} (hL : ListOk L) : ordL L = [] ↔ L = [] := by
  constructor
  · intro h
    have := ordL_perm hL
    rw [h] at this
    exact this.symm.eq_nil
  · rintro rfl
    rfl

theorem headB_ord {L : WL} (hL : ListOk L) : headB (ordL L) = !decide (L.length = 0) := by
  have h := (ordL_perm hL).length_eq
  cases ho : ordL L with
  | nil => rw [ho] at h; simp [headB, ← h]
  | cons x r => rw [ho] at h; simp [headB, ← h]

end Go.Proofs.YtiiafhlckmkcnaaGreat
