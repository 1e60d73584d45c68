
/- Timers: what always holds, behind Due. -/
import Derived.Test.YtonahpilmchnkaaJi
namespace Go.Proofs.Ytonahpilmchnkaa

theorem ord_idsK {s : HS} (h : HInv s) (p : H1 → Bool) : ((ordH (s.M.filter p)).map (·.1)).Nodup := (((ordH_perm _).map (·.1)).nodup_iff).2 (h.ids.sublist (List.filter_sublist.map _))
theorem TE.often_pos (e : TE) {now : Int} (h : e.at_ ≤ now) (hv : 0 ≤ e.iv) : 1 ≤ e.often now := by
  unfold TE.often
  split
  · exact Int.le_refl _
  · have := Int.ediv_nonneg (show 0 ≤ now - e.at_ by omega) hv
    omega
theorem TE.dueE_A {e : TE} {now : Int} (h : 0 < e.iv ∧ e.at_ + e.often now * e.iv ≤ 1099511627776) : e.dueE now = ⟨e.armed, e.clock, e.at_ + e.often now * e.iv, e.iv, true, min (e.cnt + (if e.out then e.often now else e.often now - 1)) 32767, e.ovr⟩ := by
  unfold TE.dueE
  simp only [h, and_self, if_true]
theorem TE.dueE_B {e : TE} {now : Int} (h : ¬ (0 < e.iv ∧ e.at_ + e.often now * e.iv ≤ 1099511627776)) : e.dueE now = ⟨false, 0, 0, 0, true, min (e.cnt + (if e.out then e.often now else e.often now - 1)) 32767, e.ovr⟩ := by
  unfold TE.dueE
  simp only [h, if_false]
  rfl

/-- Between Due's rounds: those of l are yet to come. -/
structure TInvD (s : TS) (c now : Int) (l : List Int) : Prop where
  n1 : 1 ≤ s.n
  n8 : s.n ≤ 8
  len : s.L.length = 8
  on : ∀ (i : Nat) e, s.L[i]? = some e → e.armed = true → i < s.n ∧ isC e.clock ∧ okAt e.at_ ∧ okAt e.iv
  off : ∀ (i : Nat) e, s.L[i]? = some e → e.armed = false → e.clock = 0 ∧ e.at_ = 0 ∧ e.iv = 0
  num : ∀ (i : Nat) e, s.L[i]? = some e → 0 ≤ e.cnt ∧ e.cnt ≤ 32767 ∧ 0 ≤ e.ovr ∧ e.ovr ≤ 32767
  wh : ∀ k, isC k → HInv (s.W k)
  has : ∀ k, isC k → ∀ x ∈ (s.W k).M, ∃ (i : Nat) (e : TE), x.1 = (i : Int) ∧ s.L[i]? = some e ∧ e.armed = true ∧ e.clock = k ∧ e.at_ = x.2.1
  arm : ∀ (i : Nat) e, s.L[i]? = some e → e.armed = true → (∃ x ∈ (s.W e.clock).M, x.1 = (i : Int)) ∨ (i : Int) ∈ l
  no : ∀ x ∈ (s.W c).M, x.1 ∉ l
  rem : ∀ id ∈ l, ∃ (i : Nat) (e : TE), id = (i : Int) ∧ s.L[i]? = some e ∧ e.armed = true ∧ e.clock = c ∧ e.at_ ≤ now
  nod : l.Nodup

theorem TInvD.start {s : TS} (h : TInv s) {c now : Int} (hc : isC c) : TInvD ⟨s.n, s.L, updW s.W c ((s.W c).dueS now)⟩ c now ((s.W c).dueL now) := by
  have hmem : ∀ x, x ∈ (s.W c).M → x.2.1 ≤ now → x.1 ∈ (s.W c).dueL now := fun x hx hle => by
    unfold HS.dueL
    exact List.mem_map.2 ⟨x, ordH_mem.2 (List.mem_filter.2 ⟨hx, by simpa using hle⟩), rfl⟩
  have hsub : ∀ k, isC k → ∀ x ∈ ((updW s.W c ((s.W c).dueS now)) k).M, x ∈ (s.W k).M ∧ (k = c → ¬ x.2.1 ≤ now) := fun k hk x hx => by
    by_cases e : k = c
    · subst e
      rw [updW_same] at hx
      obtain ⟨h1, h2⟩ := List.mem_filter.1 hx
      exact ⟨h1, fun _ => by simpa using h2⟩
    · rw [updW_other e] at hx
      exact ⟨hx, fun e2 => absurd e2 e⟩
  refine ⟨h.n1, h.n8, h.len, h.on, h.off, h.num, fun k hk => ?_, fun k hk x hx => h.has k hk x (hsub k hk x hx).1, fun i e he ha => ?_, fun x hx hm => ?_, fun id hid => ?_, ord_idsK (h.wh c hc) _⟩
  · dsimp only
    by_cases e : k = c
    · subst e
      rw [updW_same]
      exact (h.wh k hk).filter _
    · rw [updW_other e]
      exact h.wh k hk
  · obtain ⟨x, hx, hx1⟩ := h.arm i e he ha
    dsimp only
    by_cases e1 : e.clock = c
    · rw [e1, updW_same]
      rw [e1] at hx
      by_cases hle : x.2.1 ≤ now
      · exact .inr (hx1 ▸ hmem x hx hle)
      · exact .inl ⟨x, List.mem_filter.2 ⟨hx, by simpa using hle⟩, hx1⟩
    · rw [updW_other e1]
      exact .inl ⟨x, hx, hx1⟩
  · obtain ⟨h1, h2⟩ := hsub c hc x hx
    unfold HS.dueL at hm
    obtain ⟨y, hy, hy1⟩ := List.mem_map.1 hm
    obtain ⟨hy2, hy3⟩ := List.mem_filter.1 (ordH_mem.1 hy)
    have : y = x := id_inj (h.wh c hc).ids hy2 h1 hy1
    subst this
    exact h2 rfl (by simpa using hy3)
  · obtain ⟨j, hj⟩ := List.getElem?_of_mem hid
    obtain ⟨i, e, h1, _, h2, h3, h4, _, h5, _⟩ := h.due hc hj
    exact ⟨i, e, h1, h2, h3, h4, h5⟩

theorem TInvD.done {s : TS} {c now : Int} (h : TInvD s c now []) : TInv s :=
  ⟨h.n1, h.n8, h.len, h.on, h.off, h.num, h.wh, h.has, fun i e he ha => (h.arm i e he ha).resolve_right (by simp)⟩

theorem TInvD.step {p : TS × List Int} {c now id : Int} {l : List Int} (h : TInvD p.1 c now (id :: l)) (hc : isC c) : TInvD (TS.due1 c now p id).1 c now l := by
  obtain ⟨i, e, rfl, he, ha, hcl, hle⟩ := h.rem id List.mem_cons_self
  obtain ⟨hin, _, hat, hiv⟩ := h.on i e he ha
  have hk := e.often_pos hle hiv.1
  have hnl : (i : Int) ∉ l := (List.nodup_cons.1 h.nod).1
  have hnod := (List.nodup_cons.1 h.nod).2
  have hnum := h.num i e he
  have hcnt : 0 ≤ min (e.cnt + (if e.out then e.often now else e.often now - 1)) 32767 ∧ min (e.cnt + (if e.out then e.often now else e.often now - 1)) 32767 ≤ 32767 := by
    split <;> omega
  have hnoi : ∀ k, isC k → ∀ x ∈ (p.1.W k).M, x.1 ≠ (i : Int) := fun k hk x hx e1 => by
    obtain ⟨j, y, g1, g2, g3, g4, _⟩ := h.has k hk x hx
    have : j = i := by omega
    subst this
    rw [he] at g2
    cases g2
    rw [hcl] at g4
    subst g4
    exact h.no x hx (by rw [g1]; exact List.mem_cons_self)
  have hrem : ∀ x : TE, ∀ id ∈ l, ∃ (j : Nat) (e : TE), id = (j : Int) ∧ (p.1.L.set i x)[j]? = some e ∧ e.armed = true ∧ e.clock = c ∧ e.at_ ≤ now := fun x id hid => by
    obtain ⟨j, y, g1, g2, g3⟩ := h.rem id (List.mem_cons_of_mem _ hid)
    refine ⟨j, y, g1, ?_, g3⟩
    rw [List.getElem?_set_ne (fun e1 => hnl (by subst e1; rw [← g1]; exact hid))]
    exact g2
  have hself : ∀ x : TE, (p.1.L.set i x)[i]? = some x := fun x => List.getElem?_set_self (List.getElem?_eq_some_iff.1 he).1
  have hoth : ∀ (x : TE) k, isC k → ∀ y ∈ (p.1.W k).M, ∃ (j : Nat) (e : TE), y.1 = (j : Int) ∧ (p.1.L.set i x)[j]? = some e ∧ e.armed = true ∧ e.clock = k ∧ e.at_ = y.2.1 := fun x k hk y hy => by
    obtain ⟨j, z, g1, g2, g3⟩ := h.has k hk y hy
    refine ⟨j, z, g1, ?_, g3⟩
    rw [List.getElem?_set_ne (fun e1 => hnoi k hk y hy (by omega))]
    exact g2
  unfold TS.due1
  rw [Int.toNat_natCast, he]
  dsimp only
  by_cases hA : 0 < e.iv ∧ e.at_ + e.often now * e.iv ≤ 1099511627776
  · have hnx : okAt (e.at_ + e.often now * e.iv) := ⟨by have := Int.mul_nonneg (show 0 ≤ e.often now by omega) hiv.1; have := hat.1; omega, hA.2⟩
    rw [TE.dueE_A hA]
    unfold TE.dueW
    rw [if_pos hA]
    obtain ⟨nx, hnx1⟩ : ∃ nx, nx = e.at_ + e.often now * e.iv := ⟨_, rfl⟩
    rw [← hnx1] at hnx ⊢
    have hset : (p.1.W c).setS i nx = ⟨delH (p.1.W c).M i ++ [((i : Int), nx, (p.1.W c).c + 1)], (p.1.W c).c + 1⟩ := if_pos ⟨⟨by omega, by have := h.n8; omega⟩, hnx⟩
    refine ⟨h.n1, h.n8, by rw [List.length_set]; exact h.len, fun j x hj hx => ?_, fun j x hj hx => ?_, fun j x hj => ?_, fun k hk => ?_, fun k hk x hx => ?_, fun j x hj hx => ?_, fun x hx hm => ?_, hrem _, hnod⟩
    · rcases get_set hj with ⟨rfl, rfl⟩ | ⟨_, h2⟩
      · exact ⟨hin, by dsimp only; rw [hcl]; exact hc, hnx, hiv⟩
      · exact h.on j x h2 hx
    · rcases get_set hj with ⟨rfl, rfl⟩ | ⟨_, h2⟩
      · dsimp only at hx
        rw [ha] at hx
        cases hx
      · exact h.off j x h2 hx
    · rcases get_set hj with ⟨rfl, rfl⟩ | ⟨_, h2⟩
      · exact ⟨hcnt.1, hcnt.2, hnum.2.2⟩
      · exact h.num j x h2
    · dsimp only
      by_cases e1 : k = c
      · subst e1
        rw [updW_same]
        exact (h.wh k hk).setS i nx
      · rw [updW_other e1]
        exact h.wh k hk
    · dsimp only at hx ⊢
      by_cases e1 : k = c
      · subst e1
        rw [updW_same, hset] at hx
        rcases List.mem_append.1 hx with hx | hx
        · exact hoth _ k hk x (List.mem_filter.1 hx).1
        · simp at hx
          subst hx
          exact ⟨i, _, rfl, hself _, ha, hcl, rfl⟩
      · rw [updW_other e1] at hx
        exact hoth _ k hk x hx
    · dsimp only
      rcases get_set hj with ⟨rfl, rfl⟩ | ⟨hne, h2⟩
      · refine .inl ⟨((j : Int), nx, (p.1.W c).c + 1), ?_, rfl⟩
        dsimp only
        rw [hcl, updW_same, hset]
        simp
      · rcases h.arm j x h2 hx with ⟨y, hy, hy1⟩ | hm
        · refine .inl ⟨y, ?_, hy1⟩
          by_cases hk : x.clock = c
          · rw [hk, updW_same, hset]
            rw [hk] at hy
            exact List.mem_append_left _ (List.mem_filter.2 ⟨hy, by simp; omega⟩)
          · rw [updW_other hk]
            exact hy
        · rcases List.mem_cons.1 hm with e1 | e1
          · exact absurd (by omega) hne
          · exact .inr e1
    · dsimp only at hx
      rw [updW_same, hset] at hx
      rcases List.mem_append.1 hx with hx | hx
      · exact h.no x (List.mem_filter.1 hx).1 (List.mem_cons_of_mem _ hm)
      · simp at hx
        subst hx
        exact hnl hm
  · rw [TE.dueE_B hA]
    unfold TE.dueW
    rw [if_neg hA]
    have hup : updW p.1.W c (p.1.W c) = p.1.W := by
      funext k
      by_cases e1 : k = c
      · subst e1; rw [updW_same]
      · rw [updW_other e1]
    rw [hup]
    refine ⟨h.n1, h.n8, by rw [List.length_set]; exact h.len, fun j x hj hx => ?_, fun j x hj hx => ?_, fun j x hj => ?_, h.wh, hoth _, fun j x hj hx => ?_, fun x hx hm => h.no x hx (List.mem_cons_of_mem _ hm), hrem _, hnod⟩
    · rcases get_set hj with ⟨rfl, rfl⟩ | ⟨_, h2⟩
      · cases hx
      · exact h.on j x h2 hx
    · rcases get_set hj with ⟨rfl, rfl⟩ | ⟨_, h2⟩
      · exact ⟨rfl, rfl, rfl⟩
      · exact h.off j x h2 hx
    · rcases get_set hj with ⟨rfl, rfl⟩ | ⟨_, h2⟩
      · exact ⟨hcnt.1, hcnt.2, hnum.2.2⟩
      · exact h.num j x h2
    · dsimp only
      rcases get_set hj with ⟨rfl, rfl⟩ | ⟨hne, h2⟩
      · cases hx
      · refine (h.arm j x h2 hx).imp (fun g => g) (fun hm => ?_)
        rcases List.mem_cons.1 hm with e1 | e1
        · exact absurd (by omega) hne
        · exact e1

theorem TInvD.all {c now : Int} (hc : isC c) (l : List Int) : ∀ p : TS × List Int, TInvD p.1 c now l → TInv (l.foldl (TS.due1 c now) p).1 := by
  induction l with
  | nil => intro p h; exact h.done
  | cons x l ih => intro p h; exact ih _ (h.step hc)
theorem TInv.dueF {s : TS} (h : TInv s) {c now : Int} (hc : isC c) : TInv (s.dueF c now ((s.W c).dueL now)).1 := TInvD.all hc _ _ (TInvD.start h hc)
theorem TInv.dueS {s : TS} (h : TInv s) (c now : Int) : TInv (s.dueS c now) := by
  unfold TS.dueS
  split
  · rename_i hh
    exact h.dueF hh.1
  · exact h

end Go.Proofs.Ytonahpilmchnkaa
