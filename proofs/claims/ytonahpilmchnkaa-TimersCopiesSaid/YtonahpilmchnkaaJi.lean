
/- Timers: what always holds, behind Arm, Stop, Clear, Taken. -/
import Derived.Test.YtonahpilmchnkaaJh
namespace Go.Proofs.Ytonahpilmchnkaa

theorem TInv.one {s : TS} (h : TInv s) {i : Nat} {e : TE} (he : s.L[i]? = some e) (x : TE) (h1 : x.armed = e.armed) (h2 : x.clock = e.clock) (h3 : x.at_ = e.at_) (h4 : x.iv = e.iv) (h5 : 0 ≤ x.cnt ∧ x.cnt ≤ 32767 ∧ 0 ≤ x.ovr ∧ x.ovr ≤ 32767) : TInv ⟨s.n, s.L.set i x, s.W⟩ := by
  refine ⟨h.n1, h.n8, by rw [List.length_set]; exact h.len, fun j y hj ha => ?_, fun j y hj ha => ?_, fun j y hj => ?_, h.wh, fun c hc y hy => ?_, fun j y hj ha => ?_⟩
  · rcases get_set hj with ⟨rfl, rfl⟩ | ⟨_, g⟩
    · rw [h2, h3, h4]; exact h.on j e he (by rw [← h1]; exact ha)
    · exact h.on j y g ha
  · rcases get_set hj with ⟨rfl, rfl⟩ | ⟨_, g⟩
    · rw [h2, h3, h4]; exact h.off j e he (by rw [← h1]; exact ha)
    · exact h.off j y g ha
  · rcases get_set hj with ⟨rfl, rfl⟩ | ⟨_, g⟩
    · exact h5
    · exact h.num j y g
  · obtain ⟨j, z, g1, g2, g3, g4, g5⟩ := h.has c hc y hy
    by_cases e1 : i = j
    · subst e1
      rw [he] at g2
      cases g2
      exact ⟨i, x, g1, List.getElem?_set_self (List.getElem?_eq_some_iff.1 he).1, by rw [h1]; exact g3, by rw [h2]; exact g4, by rw [h3]; exact g5⟩
    · exact ⟨j, z, g1, by rw [List.getElem?_set_ne e1]; exact g2, g3, g4, g5⟩
  · rcases get_set hj with ⟨rfl, rfl⟩ | ⟨_, g⟩
    · rw [h2]; exact h.arm j e he (by rw [← h1]; exact ha)
    · exact h.arm j y g ha
theorem TInv.stopS {s : TS} (h : TInv s) (id : Int) : TInv (s.stopS id) := by
  unfold TS.stopS
  split
  · exact h.rests _
  · exact h
theorem TInv.armS {s : TS} (h : TInv s) (id c t v : Int) : TInv (s.armS id c t v) := by
  unfold TS.armS
  split
  · rename_i hok
    obtain ⟨⟨g1, g2⟩, hc, ht, hv⟩ := hok
    obtain ⟨i, rfl⟩ := Int.eq_ofNat_of_zero_le g1
    rw [Int.toNat_natCast]
    have hi : i < s.n := by omega
    obtain ⟨e, he⟩ : ∃ e, s.L[i]? = some e := ⟨_, List.getElem?_eq_getElem (by have := h.len; have := h.n8; omega)⟩
    have hn : (s.rests i).n = s.n := by unfold TS.rests; split <;> rfl
    have hg : (s.rests i).L[i]? = some e.rest := by
      unfold TS.rests
      rw [he]
      exact List.getElem?_set_self (List.getElem?_eq_some_iff.1 he).1
    exact (h.rests i).arms hg rfl (by rw [hn]; exact hi) hc ht hv
  · exact h
theorem TInv.clearS {s : TS} (h : TInv s) (id : Int) : TInv (s.clearS id) := by
  unfold TS.clearS
  split
  · rename_i hin
    obtain ⟨i, rfl⟩ := Int.eq_ofNat_of_zero_le hin.1
    rw [Int.toNat_natCast]
    obtain ⟨e, he⟩ : ∃ e, s.L[i]? = some e := ⟨_, List.getElem?_eq_getElem (by have := h.len; have := h.n8; have := hin.2; omega)⟩
    have hn : (s.rests i).n = s.n := by unfold TS.rests; split <;> rfl
    have hg : (s.rests i).L[i]? = some e.rest := by
      unfold TS.rests
      rw [he]
      exact List.getElem?_set_self (List.getElem?_eq_some_iff.1 he).1
    have := (h.rests i).one hg TE.zero rfl rfl rfl rfl ⟨by decide, by decide, by decide, by decide⟩
    rwa [hn] at this
  · exact h
theorem TInv.takenS {s : TS} (h : TInv s) (id : Int) : TInv (s.takenS id) := by
  unfold TS.takenS
  split
  · split
    · rename_i e he
      have hn := h.num _ e he
      unfold TE.take
      split
      · exact h.one he _ rfl rfl rfl rfl ⟨Int.le_refl 0, (show (0 : Int) ≤ 32767 by decide), hn.1, hn.2.1⟩
      · exact h.one he _ rfl rfl rfl rfl hn
    · exact h
  · exact h

end Go.Proofs.Ytonahpilmchnkaa
