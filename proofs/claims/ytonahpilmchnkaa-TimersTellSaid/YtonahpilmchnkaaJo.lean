
/- Timers: one timer that is asked at each time, plain. -/
import Derived.Test.YtonahpilmchnkaaJk
import Derived.Test.YtonahpilmchnkaaJe
namespace Go.Proofs.Ytonahpilmchnkaa

/-- Is it due now? -/
def isDue (at_ iv now : Int) : Prop := now = at_ ∨ (0 < iv ∧ at_ < now ∧ (now - at_) % iv = 0)
instance (at_ iv now : Int) : Decidable (isDue at_ iv now) := by unfold isDue; infer_instance

structure TellE (at_ iv now : Int) (e : TE) : Prop where
  on : e.armed = decide (now ≤ at_ ∨ 0 < iv)
  clk : e.armed = true → e.clock = 1 ∧ e.iv = iv ∧ now ≤ e.at_
  next : e.armed = true → e.at_ = at_ ∨ (e.at_ - iv < now ∧ ∃ k : Int, 0 ≤ k ∧ e.at_ = at_ + k * iv)
structure TellI (at_ iv now : Int) (s : TS) (due told : Int) (out : Bool) : Prop where
  n : s.n = 1
  inv : TInv s
  ent : ∃ e, s.L[0]? = some e ∧ e.out = out ∧ TellE at_ iv now e ∧ due = told + (if out then 1 + e.cnt else 0) ∧ (out = false → e.cnt = 0) ∧ e.cnt ≤ now ∧ 0 ≤ told ∧ due ≤ now
  cnt : ∀ k, isC k → (s.W k).c ≤ 1 + now

theorem tell_is {at_ iv now : Int} {e : TE} (h : TellE at_ iv now e) (hv : 0 ≤ iv) : isDue at_ iv now ↔ (e.armed = true ∧ e.at_ ≤ now) := by
  constructor
  · intro hd
    have ha : e.armed = true := by
      rw [h.on]
      apply decide_eq_true
      rcases hd with h1 | ⟨h1, _⟩
      · exact .inl (by omega)
      · exact .inr h1
    refine ⟨ha, ?_⟩
    obtain ⟨_, _, h2⟩ := h.clk ha
    rcases h.next ha with h3 | ⟨h3, k, h4, h5⟩
    · rcases hd with h1 | ⟨h1, h6, _⟩ <;> omega
    · rcases hd with h1 | ⟨h1, h6, h7⟩
      · -- now = at
        have hk : k * iv < iv := by omega
        have : k < 1 := by
          by_cases hk1 : k < 1
          · exact hk1
          · have := Int.mul_le_mul_of_nonneg_right (show 1 ≤ k by omega) hv
            omega
        have : k = 0 := by omega
        subst this
        omega
      · have hj := Int.emod_add_mul_ediv (now - at_) iv
        rw [h7] at hj
        obtain ⟨j, hj2⟩ : ∃ j, j = (now - at_) / iv := ⟨_, rfl⟩
        rw [← hj2, Int.mul_comm] at hj
        have : k ≤ j := by
          by_cases hkj : k ≤ j
          · exact hkj
          · have := Int.mul_le_mul_of_nonneg_right (show j + 1 ≤ k by omega) hv
            rw [Int.add_mul] at this
            omega
        have := Int.mul_le_mul_of_nonneg_right this hv
        omega
  · rintro ⟨ha, hle⟩
    obtain ⟨_, _, h2⟩ := h.clk ha
    have he : e.at_ = now := by omega
    by_cases hn : now = at_
    · exact .inl hn
    · rcases h.next ha with h3 | ⟨h3, k, h4, h5⟩
      · omega
      · have := Int.mul_nonneg h4 hv
        have hon := h.on
        rw [ha] at hon
        have hon := (of_decide_eq_true hon.symm).resolve_left (by omega)
        refine .inr ⟨hon, by omega, ?_⟩
        rw [show now - at_ = k * iv by omega]
        exact Int.mul_emod_left _ _

theorem tell_wheel {s : TS} (h : TInv s) (hn : s.n = 1) {e : TE} (he : s.L[0]? = some e) (hcl : e.armed = true → e.clock = 1) (now : Int) : (s.W 1).dueL now = if e.armed = true ∧ e.at_ ≤ now then [0] else [] := by
  have hone : ∀ x ∈ (s.W 1).M, x.1 = 0 ∧ e.armed = true ∧ e.at_ = x.2.1 := fun x hx => by
    obtain ⟨i, y, g1, g2, g3, g4, g5⟩ := h.has 1 (.inr rfl) x hx
    have := (h.on i y g2 g3).1
    have : i = 0 := by omega
    subst this
    rw [he] at g2
    cases g2
    exact ⟨by omega, g3, g5⟩
  have hall : ∀ id ∈ (s.W 1).dueL now, id = 0 ∧ e.armed = true ∧ e.at_ ≤ now := fun id hid => by
    unfold HS.dueL at hid
    obtain ⟨x, hx, rfl⟩ := List.mem_map.1 hid
    obtain ⟨hx1, hx2⟩ := List.mem_filter.1 (ordH_mem.1 hx)
    obtain ⟨g1, g2, g3⟩ := hone x hx1
    exact ⟨g1, g2, by rw [g3]; simpa using hx2⟩
  have hnod : ((s.W 1).dueL now).Nodup := ord_idsK (h.wh 1 (.inr rfl)) _
  split
  · rename_i hh
    have hin : (0 : Int) ∈ (s.W 1).dueL now := by
      obtain ⟨x, hx, hx1⟩ := h.arm 0 e he hh.1
      rw [hcl hh.1] at hx
      unfold HS.dueL
      refine List.mem_map.2 ⟨x, ordH_mem.2 (List.mem_filter.2 ⟨hx, ?_⟩), hx1⟩
      have := (hone x hx).2.2
      simp
      omega
    obtain ⟨l, hl⟩ : ∃ l, l = (s.W 1).dueL now := ⟨_, rfl⟩
    rw [← hl] at hall hnod hin ⊢
    rcases l with _ | ⟨a, _ | ⟨b, l⟩⟩
    · cases hin
    · rw [(hall a (by simp)).1]
    · have h1 := (hall a (by simp)).1
      have h2 := (hall b (by simp)).1
      subst h1 h2
      simp at hnod
  · rename_i hh
    obtain ⟨l, hl⟩ : ∃ l, l = (s.W 1).dueL now := ⟨_, rfl⟩
    rw [← hl] at hall ⊢
    rcases l with _ | ⟨a, l⟩
    · rfl
    · exact absurd (hall a (by simp)).2 hh

theorem tell_due {at_ iv now : Int} {s : TS} {due told : Int} {out : Bool} (h : TellI at_ iv now s due told out) (hv : 0 ≤ iv) (hv1 : iv ≤ 1073741824) (hnow : 0 ≤ now) (hnow1 : now < 1000) :
    TellI at_ iv (now + 1) (s.dueS 1 now) (if isDue at_ iv now then due + 1 else due) told (out || decide (isDue at_ iv now)) ∧ s.dueL 1 now = if isDue at_ iv now ∧ out = false then [0] else [] := by
  obtain ⟨e, he, ho, hE, hd, hz, hc, ht, hdn⟩ := h.ent
  have hw := tell_wheel h.inv h.n he (fun ha => (hE.clk ha).1) now
  have hiff := tell_is hE hv
  have hok : isC 1 ∧ okAt now := ⟨.inr rfl, hnow, by omega⟩
  have hnum := h.inv.num 0 e he
  have hS : s.dueS 1 now = (s.dueF 1 now ((s.W 1).dueL now)).1 := if_pos hok
  have hL : s.dueL 1 now = (s.dueF 1 now ((s.W 1).dueL now)).2 := if_pos hok
  have hI := h.inv.dueS 1 now
  have hcn : ∀ k, isC k → ((s.dueS 1 now).W k).c ≤ 1 + (now + 1) := fun k hk => by
    rw [hS]
    have h1 := dueF_c 1 now ((s.W 1).dueL now) k (⟨s.n, s.L, updW s.W 1 ((s.W 1).dueS now)⟩, [])
    have h2 : ((updW s.W 1 ((s.W 1).dueS now)) k).c = (s.W k).c := by
      by_cases e1 : k = 1
      · subst e1; rw [updW_same]; rfl
      · rw [updW_other e1]
    have h3 : ((s.W 1).dueL now).length ≤ 1 := by rw [hw]; split <;> simp
    have h4 := h.cnt k hk
    have h1' : (((((s.W 1).dueL now).foldl (TS.due1 1 now) (⟨s.n, s.L, updW s.W 1 ((s.W 1).dueS now)⟩, [])).1).W k).c ≤ ((updW s.W 1 ((s.W 1).dueS now)) k).c + ((s.W 1).dueL now).length := h1
    unfold TS.dueF
    omega
  by_cases hdue : isDue at_ iv now
  · have hh := hiff.1 hdue
    rw [if_pos hh] at hw
    rw [hw] at hS hL
    rw [if_pos hdue, show decide (isDue at_ iv now) = true from decide_eq_true hdue, Bool.or_true]
    obtain ⟨hcl, hiv, hge⟩ := hE.clk hh.1
    have hat : e.at_ = now := by omega
    have hof : e.often now = 1 := by
      unfold TE.often
      rw [hat, Int.sub_self]
      split
      · rfl
      · rw [Int.zero_ediv]; rfl
    have hF : s.dueF 1 now [0] = TS.due1 1 now (⟨s.n, s.L, updW s.W 1 ((s.W 1).dueS now)⟩, []) 0 := rfl
    have h1 : TS.due1 1 now (⟨s.n, s.L, updW s.W 1 ((s.W 1).dueS now)⟩, []) 0 = (⟨s.n, s.L.set 0 (e.dueE now), updW (updW s.W 1 ((s.W 1).dueS now)) 1 (e.dueW now 0 ((updW s.W 1 ((s.W 1).dueS now)) 1))⟩, if e.out then [] else [0]) := by
      unfold TS.due1
      dsimp only
      rw [show (0 : Int).toNat = 0 from rfl, he]
      rfl
    rw [hF, h1] at hS hL
    refine ⟨⟨by rw [hS]; exact h.n, hI, ⟨e.dueE now, by rw [hS]; exact List.getElem?_set_self (List.getElem?_eq_some_iff.1 he).1, ?_⟩, hcn⟩, ?_⟩
    · have hle : at_ ≤ now := by
        rcases hdue with h2 | h2 <;> omega
      have hcnt : min (e.cnt + (if e.out then e.often now else e.often now - 1)) 32767 = e.cnt + (if e.out then 1 else 0) := by
        rw [hof]
        split <;> omega
      by_cases hA : 0 < e.iv ∧ e.at_ + e.often now * e.iv ≤ 1099511627776
      · rw [TE.dueE_A hA, hcnt, hof, Int.one_mul, hat, hiv]
        rw [hiv] at hA
        refine ⟨rfl, ⟨?_, fun _ => ⟨hcl, rfl, ?_⟩, fun _ => .inr ⟨?_, ?_⟩⟩, ?_, fun h2 => (by cases h2), ?_, ht, ?_⟩
        · show e.armed = _
          rw [hh.1]
          exact (decide_eq_true (.inr hA.1)).symm
        · show now + 1 ≤ now + iv
          omega
        · show now + iv - iv < now + 1
          omega
        · rcases hE.next hh.1 with h3 | ⟨_, k, h4, h5⟩
          · exact ⟨1, by decide, by show now + iv = _; omega⟩
          · exact ⟨k + 1, by omega, by show now + iv = _; rw [Int.add_mul]; omega⟩
        · dsimp only
          rw [ho]
          cases out
          · have := hz rfl
            simp at hd ⊢
            omega
          · simp at hd ⊢
            omega
        · dsimp only
          split <;> omega
        · omega
      · rw [TE.dueE_B hA, hcnt]
        have hiv0 : ¬ 0 < iv := fun h2 => hA (by rw [hof, hiv, hat]; exact ⟨h2, by omega⟩)
        refine ⟨rfl, ⟨?_, fun h2 => (by cases h2), fun h2 => (by cases h2)⟩, ?_, fun h2 => (by cases h2), ?_, ht, ?_⟩
        · show false = _
          exact (decide_eq_false (by omega)).symm
        · dsimp only
          rw [ho]
          cases out
          · have := hz rfl
            simp at hd ⊢
            omega
          · simp at hd ⊢
            omega
        · dsimp only
          split <;> omega
        · omega
    · rw [hL, ho]
      dsimp only
      cases out
      · show [0] = _
        rw [if_pos ⟨hdue, rfl⟩]
      · show [] = _
        rw [if_neg (fun h2 => by cases h2.2)]
  · have hh : ¬ (e.armed = true ∧ e.at_ ≤ now) := fun h2 => hdue (hiff.2 h2)
    rw [if_neg hh] at hw
    rw [hw] at hS hL
    rw [if_neg hdue, show decide (isDue at_ iv now) = false from decide_eq_false hdue, Bool.or_false, if_neg (fun h2 => hdue h2.1)]
    refine ⟨⟨by rw [hS]; exact h.n, hI, ⟨e, by rw [hS]; exact he, ho, ⟨?_, fun h2 => ?_, fun h2 => ?_⟩, hd, hz, by omega, ht, by omega⟩, hcn⟩, by rw [hL]; rfl⟩
    · rw [hE.on]
      have : now ≠ at_ := fun h2 => hdue (.inl h2)
      exact decide_eq_decide.2 (by omega)
    · obtain ⟨g1, g2, g3⟩ := hE.clk h2
      have : ¬ e.at_ ≤ now := fun h3 => hh ⟨h2, h3⟩
      exact ⟨g1, g2, by omega⟩
    · rcases hE.next h2 with h3 | ⟨h3, h4⟩
      · exact .inl h3
      · exact .inr ⟨by omega, h4⟩

theorem tell_taken {at_ iv now : Int} {s : TS} {due told : Int} (h : TellI at_ iv now s due told true) (hd0 : 0 ≤ now) :
    ∃ c, s.takenV 0 = (c, 0) ∧ told + 1 + c = due ∧ 0 ≤ c ∧ c ≤ 32767 ∧ TellI at_ iv now (s.takenS 0) due due false := by
  obtain ⟨e, he, ho, hE, hd, hz, hc, ht, hdn⟩ := h.ent
  have hin : inT s 0 := ⟨Int.le_refl _, by rw [h.n]; decide⟩
  have hnum := h.inv.num 0 e he
  have htk : e.take = { e with out := false, ovr := e.cnt, cnt := 0 } := by unfold TE.take; rw [ho]; rfl
  have hS : s.takenS 0 = ⟨s.n, s.L.set 0 e.take, s.W⟩ := by
    unfold TS.takenS
    rw [if_pos hin, show (0 : Int).toNat = 0 from rfl, he]
  refine ⟨e.cnt, ?_, ?_, hnum.1, hnum.2.1, by rw [hS]; exact h.n, h.inv.takenS 0, ⟨e.take, ?_, ?_, ?_, ?_, fun _ => ?_, ?_, ?_, hdn⟩, fun k hk => by rw [hS]; exact h.cnt k hk⟩
  · unfold TS.takenV
    rw [if_pos hin, show (0 : Int).toNat = 0 from rfl, he]
    show (e.take.ovr, (0 : Int)) = _
    rw [htk]
  · rw [hd]; simp; omega
  · rw [hS]; exact List.getElem?_set_self (List.getElem?_eq_some_iff.1 he).1
  · rw [htk]
  · rw [htk]; exact ⟨hE.on, hE.clk, hE.next⟩
  · simp
  · rw [htk]
  · rw [htk]; exact hd0
  · rw [hd]; simp; omega

theorem tell_start {at_ iv : Int} (ha0 : 0 ≤ at_) (ha1 : at_ ≤ 1073741824) (hv : 0 ≤ iv) (hv1 : iv ≤ 1073741824) : TellI at_ iv 0 ((ts0 1).armS 0 1 at_ iv) 0 0 false := by
  have hok : okArm (ts0 1) 0 1 at_ iv := ⟨⟨Int.le_refl _, by decide⟩, .inr rfl, ⟨ha0, by omega⟩, ⟨hv, by omega⟩⟩
  have hS : (ts0 1).armS 0 1 at_ iv = ((ts0 1).rests 0).arms 0 1 at_ iv := if_pos hok
  refine ⟨?_, (TInv.new 1 (by decide) (by decide)).armS 0 1 at_ iv, ⟨(TE.zero.rest).arm 1 at_ iv, ?_, rfl, ⟨?_, fun _ => ⟨rfl, rfl, ha0⟩, fun _ => .inl rfl⟩, rfl, fun _ => rfl, Int.le_refl _, Int.le_refl _, Int.le_refl _⟩, fun k hk => ?_⟩
  · rw [hS]; rfl
  · rw [hS]; rfl
  · exact (decide_eq_true (.inl ha0)).symm
  · rw [hS]
    have hle : ((((ts0 1).rests 0).arms 0 1 at_ iv).W k).c ≤ (((ts0 1).rests 0).W k).c + 1 := by
      unfold TS.arms
      split
      · exact Int.le_add_one (Int.le_refl _)
      · dsimp only
        by_cases e1 : k = 1
        · subst e1
          rw [updW_same]
          exact setS_le _ _ _
        · rw [updW_other e1]
          exact Int.le_add_one (Int.le_refl _)
    have : (((ts0 1).rests 0).W k).c = 0 := rfl
    omega

end Go.Proofs.Ytonahpilmchnkaa
