
/- Timers: how the document's times of setting stand to the wheels' counts; plain. -/
import Derived.Test.YtonahpilmchnkaaJv
import Derived.Test.YtonahpilmchnkaaJr
namespace Go.Proofs.Ytonahpilmchnkaa

structure LinkT (s : TS) (Z : List Int) (now : Int) : Prop where
  zen : Z.length = 8
  le : ∀ (i : Nat) z, Z[i]? = some z → z ≤ now
  ord : ∀ c, isC c → ∀ x ∈ (s.W c).M, ∀ y ∈ (s.W c).M, x.2.2 < y.2.2 → ∀ zx zy, Z[x.1.toNat]? = some zx → Z[y.1.toNat]? = some zy → zx < zy
  n0 : 0 ≤ now
theorem LinkT.sub {s s' : TS} {Z : List Int} {now : Int} (h : LinkT s Z now) (hs : ∀ c, isC c → ∀ x ∈ (s'.W c).M, x ∈ (s.W c).M) : LinkT s' Z now :=
  ⟨h.zen, h.le, fun c hc x hx y hy => h.ord c hc x (hs c hc x hx) y (hs c hc y hy), h.n0⟩
theorem LinkT.set {s s' : TS} {Z : List Int} {now : Int} (h : LinkT s Z now) {i : Nat} {c : Int} {n : H1} (hn : n.1 = (i : Int)) (hi : i < 8) (ho : ∀ k, isC k → ∀ x ∈ (s.W k).M, 0 ≤ x.1)
    (hM : ∀ k, isC k → ∀ x ∈ (s'.W k).M, (x ∈ (s.W k).M ∧ x.1 ≠ (i : Int)) ∨ (x = n ∧ k = c)) (hm : ∀ x ∈ (s.W c).M, x.2.2 < n.2.2) : LinkT s' (Z.set i (now + 1)) (now + 1) := by
  have hold : ∀ x : H1, 0 ≤ x.1 → x.1 ≠ (i : Int) → ∀ z, (Z.set i (now + 1))[x.1.toNat]? = some z → Z[x.1.toNat]? = some z := fun x h0 h1 z hz => by
    rwa [List.getElem?_set_ne (by omega)] at hz
  have hnew : ∀ z, (Z.set i (now + 1))[n.1.toNat]? = some z → z = now + 1 := fun z hz => by
    rw [hn, Int.toNat_natCast, List.getElem?_set_self (by rw [h.zen]; exact hi)] at hz
    exact (Option.some.inj hz).symm
  refine ⟨by rw [List.length_set]; exact h.zen, fun j z hz => ?_, fun k hk x hx y hy hxy zx zy hzx hzy => ?_, by have := h.n0; omega⟩
  · rcases get_set hz with ⟨_, rfl⟩ | ⟨_, h2⟩
    · omega
    · have := h.le j z h2
      omega
  · rcases hM k hk x hx with ⟨hx1, hx2⟩ | ⟨rfl, rfl⟩
    · have ex := hold x (ho k hk x hx1) hx2 zx hzx
      rcases hM k hk y hy with ⟨hy1, hy2⟩ | ⟨rfl, rfl⟩
      · exact h.ord k hk x hx1 y hy1 hxy zx zy ex (hold y (ho k hk y hy1) hy2 zy hzy)
      · rw [hnew zy hzy]
        have := h.le _ _ ex
        omega
    · rcases hM k hk y hy with ⟨hy1, hy2⟩ | ⟨rfl, _⟩
      · have := hm y hy1
        omega
      · omega
theorem LinkT.new (n : Nat) : LinkT (ts0 n) (List.replicate 8 0) 0 :=
  ⟨List.length_replicate, fun i z hz => by rw [List.eq_of_mem_replicate (List.mem_of_getElem? hz)]; exact Int.le_refl _, fun c _ x hx => (by cases hx), Int.le_refl _⟩

theorem rests_sub {s : TS} (h : TInv s) {i : Nat} {e : TE} (he : s.L[i]? = some e) {c : Int} (hc : isC c) : ∀ x ∈ ((s.rests i).W c).M, x ∈ (s.W c).M ∧ x.1 ≠ (i : Int) := by
  intro x hx
  unfold TS.rests at hx
  rw [he] at hx
  dsimp only at hx
  split at hx
  · by_cases hk : c = e.clock
    · subst hk
      rw [updW_same] at hx
      obtain ⟨h1, h2⟩ := List.mem_filter.1 hx
      exact ⟨h1, by simpa using h2⟩
    · rw [updW_other hk] at hx
      refine ⟨hx, fun e1 => ?_⟩
      obtain ⟨j, y, g1, g2, g3, g4, _⟩ := h.has c hc x hx
      have : j = i := by omega
      subst this
      rw [he] at g2
      cases g2
      exact hk g4.symm
  · rename_i ha
    refine ⟨hx, fun e1 => ?_⟩
    obtain ⟨j, y, g1, g2, g3, _⟩ := h.has c hc x hx
    have : j = i := by omega
    subst this
    rw [he] at g2
    cases g2
    exact ha g3
theorem LinkT.stopS {s : TS} {Z : List Int} {now : Int} (h : LinkT s Z now) (hI : TInv s) (id : Int) : LinkT (s.stopS id) Z now := by
  unfold TS.stopS
  split
  · rename_i hin
    obtain ⟨i, rfl⟩ := Int.eq_ofNat_of_zero_le hin.1
    obtain ⟨e, he⟩ : ∃ e, s.L[i]? = some e := ⟨_, List.getElem?_eq_getElem (by have := hI.len; have := hI.n8; have := hin.2; omega)⟩
    rw [Int.toNat_natCast]
    exact h.sub fun c hc x hx => (rests_sub hI he hc x hx).1
  · exact h
theorem LinkT.clearS {s : TS} {Z : List Int} {now : Int} (h : LinkT s Z now) (hI : TInv s) (id : Int) : LinkT (s.clearS id) Z now := by
  unfold TS.clearS
  split
  · rename_i hin
    obtain ⟨i, rfl⟩ := Int.eq_ofNat_of_zero_le hin.1
    obtain ⟨e, he⟩ : ∃ e, s.L[i]? = some e := ⟨_, List.getElem?_eq_getElem (by have := hI.len; have := hI.n8; have := hin.2; omega)⟩
    rw [Int.toNat_natCast]
    exact h.sub fun c hc x hx => (rests_sub hI he hc x hx).1
  · exact h
theorem LinkT.takenS {s : TS} {Z : List Int} {now : Int} (h : LinkT s Z now) (id : Int) : LinkT (s.takenS id) Z now := by
  unfold TS.takenS
  split
  · split
    · exact h.sub fun c hc x hx => hx
    · exact h
  · exact h
theorem LinkT.armS {s : TS} {Z : List Int} {now : Int} (h : LinkT s Z now) (hI : TInv s) (id c t v : Int) : LinkT (s.armS id c t v) (s.armZ id c t v Z now).1 (s.armZ id c t v Z now).2 := by
  unfold TS.armS TS.armZ
  by_cases hok : okArm s id c t v
  · rw [if_pos hok, if_pos hok]
    obtain ⟨⟨g0, g1⟩, hc, ht, hv⟩ := hok
    obtain ⟨i, rfl⟩ := Int.eq_ofNat_of_zero_le g0
    have hi : i < 8 := by have := hI.n8; omega
    obtain ⟨e, he⟩ : ∃ e, s.L[i]? = some e := ⟨_, List.getElem?_eq_getElem (by have := hI.len; omega)⟩
    rw [Int.toNat_natCast]
    have hset : ((s.rests i).W c).setS i t = ⟨delH ((s.rests i).W c).M i ++ [((i : Int), t, ((s.rests i).W c).c + 1)], ((s.rests i).W c).c + 1⟩ := if_pos ⟨⟨by omega, by omega⟩, ht⟩
    refine h.set (i := i) (c := c) (n := ((i : Int), t, ((s.rests i).W c).c + 1)) rfl hi (fun k hk x hx => ((hI.wh k hk).ok x hx).1) (fun k hk x hx => ?_) (fun x hx => ?_)
    · unfold TS.arms at hx
      rw [TS.rests_get he] at hx
      dsimp only at hx
      by_cases e1 : k = c
      · subst e1
        rw [updW_same, hset] at hx
        rcases List.mem_append.1 hx with hx | hx
        · exact .inl (rests_sub hI he hk x (List.mem_filter.1 hx).1)
        · simp at hx
          exact .inr ⟨hx, rfl⟩
      · rw [updW_other e1] at hx
        exact .inl (rests_sub hI he hk x hx)
    · have := ((hI.wh c hc).ok x hx).2.2.2.2
      rw [TS.rests_c]
      show x.2.2 < (s.W c).c + 1
      omega
  · rw [if_neg hok, if_neg hok]
    exact h

/-! ### Due -/
def dueZ (e : TE) (now : Int) (i : Nat) (Z : List Int) (nw : Int) : List Int × Int := if 0 < e.iv ∧ e.at_ + e.often now * e.iv ≤ 1099511627776 then (Z.set i (nw + 1), nw + 1) else (Z, nw)
theorem LinkT.due1 {p : TS × List Int} {c now : Int} {i : Nat} {l : List Int} {e : TE} {Z : List Int} {nw : Int} (h : LinkT p.1 Z nw) (hI : TInvD p.1 c now ((i : Int) :: l)) (hc : isC c) (he : p.1.L[i]? = some e) :
    LinkT (TS.due1 c now p (i : Int)).1 (dueZ e now i Z nw).1 (dueZ e now i Z nw).2 := by
  have hnoi : ∀ k, isC k → ∀ x ∈ (p.1.W k).M, x.1 ≠ (i : Int) := fun k hk x hx e1 => by
    obtain ⟨i2, e2, q1, q2, q3, q4, _⟩ := hI.rem (i : Int) List.mem_cons_self
    obtain ⟨j, y, g1, g2, g3, g4, _⟩ := hI.has k hk x hx
    have h1 : j = i := by omega
    have h2 : i2 = i := by omega
    subst h1 h2
    rw [g2] at q2
    cases q2
    rw [q4] at g4
    subst g4
    exact hI.no x hx (by rw [e1]; exact List.mem_cons_self)
  have hi : i < 8 := by have := (List.getElem?_eq_some_iff.1 he).1; have := hI.len; omega
  by_cases hA : 0 < e.iv ∧ e.at_ + e.often now * e.iv ≤ 1099511627776
  · rw [due1_A he rfl hA]
    unfold dueZ
    rw [if_pos hA]
    obtain ⟨i2, e2, q1, q2, q3, q4, q5⟩ := hI.rem (i : Int) List.mem_cons_self
    have h2 : i2 = i := by omega
    subst h2
    rw [he] at q2
    cases q2
    obtain ⟨_, _, hat, hiv⟩ := hI.on i2 e he q3
    have hk := e.often_pos q5 hiv.1
    have hnx : okAt (e.at_ + e.often now * e.iv) := ⟨by have := Int.mul_nonneg (show 0 ≤ e.often now by omega) hiv.1; have := hat.1; omega, hA.2⟩
    have hset : (p.1.W c).setS i2 (e.at_ + e.often now * e.iv) = ⟨delH (p.1.W c).M i2 ++ [((i2 : Int), e.at_ + e.often now * e.iv, (p.1.W c).c + 1)], (p.1.W c).c + 1⟩ := if_pos ⟨⟨by omega, by omega⟩, hnx⟩
    refine h.set (i := i2) (c := c) (n := ((i2 : Int), e.at_ + e.often now * e.iv, (p.1.W c).c + 1)) rfl hi (fun k hk x hx => ((hI.wh k hk).ok x hx).1) (fun k hk x hx => ?_) (fun x hx => ?_)
    · dsimp only at hx
      by_cases e1 : k = c
      · subst e1
        rw [updW_same, hset] at hx
        rcases List.mem_append.1 hx with hx | hx
        · exact .inl ⟨(List.mem_filter.1 hx).1, hnoi k hk x (List.mem_filter.1 hx).1⟩
        · simp at hx
          exact .inr ⟨hx, rfl⟩
      · rw [updW_other e1] at hx
        exact .inl ⟨hx, hnoi k hk x hx⟩
    · have := ((hI.wh c hc).ok x hx).2.2.2.2
      show x.2.2 < (p.1.W c).c + 1
      omega
  · rw [due1_B he rfl hA]
    unfold dueZ
    rw [if_neg hA]
    exact h.sub fun c hc x hx => hx

/-- Which are due. -/
def isDueT (s : TS) (c now : Int) (i : Nat) : Prop := ∃ e, s.L[i]? = some e ∧ i < s.n ∧ e.armed = true ∧ e.clock = c ∧ e.at_ ≤ now
theorem due_mem {s : TS} (h : TInv s) {c : Int} (hc : isC c) (now : Int) (i : Nat) : (i : Int) ∈ (s.W c).dueL now ↔ isDueT s c now i := by
  constructor
  · intro hm
    obtain ⟨j, hj⟩ := List.getElem?_of_mem hm
    obtain ⟨k, e, h1, h2, h3, h4, h5, _, h6, _⟩ := h.due hc hj
    have : k = i := by omega
    subst this
    exact ⟨e, h3, h2, h4, h5, h6⟩
  · rintro ⟨e, he, _, ha, hcl, hle⟩
    obtain ⟨x, hx, hx1⟩ := h.arm i e he ha
    rw [hcl] at hx
    obtain ⟨j, y, g1, g2, g3, g4, g5⟩ := h.has c hc x hx
    have : j = i := by omega
    subst this
    rw [he] at g2
    cases g2
    unfold HS.dueL
    exact List.mem_map.2 ⟨x, ordH_mem.2 (List.mem_filter.2 ⟨hx, by simp; omega⟩), hx1⟩
/-- One goes ahead of the other. -/
def lessT (s : TS) (Z : List Int) (i j : Nat) : Prop := ∃ ei ej zi zj, s.L[i]? = some ei ∧ s.L[j]? = some ej ∧ Z[i]? = some zi ∧ Z[j]? = some zj ∧ (ei.at_ < ej.at_ ∨ (ei.at_ = ej.at_ ∧ zi < zj))
theorem due_sorted {s : TS} (h : TInv s) {Z : List Int} {nw : Int} (hL : LinkT s Z nw) {c : Int} (hc : isC c) (now : Int) {a b i j : Nat} (hab : a < b) (ha : ((s.W c).dueL now)[a]? = some (i : Int)) (hb : ((s.W c).dueL now)[b]? = some (j : Int)) : lessT s Z i j := by
  unfold HS.dueL at ha hb
  rw [List.getElem?_map, Option.map_eq_some_iff] at ha hb
  obtain ⟨x, hx, hx1⟩ := ha
  obtain ⟨y, hy, hy1⟩ := hb
  have hp := ordH_sorted ((h.wh c hc).filter (fun x => decide (x.2.1 ≤ now))).sets
  have hxy : ltH x y := by
    have hla := (List.getElem?_eq_some_iff.1 hx)
    have hlb := (List.getElem?_eq_some_iff.1 hy)
    have := List.pairwise_iff_getElem.1 hp a b hla.1 hlb.1 hab
    rw [hla.2, hlb.2] at this
    exact this
  have hxm := (List.mem_filter.1 (ordH_mem.1 (List.mem_of_getElem? hx))).1
  have hym := (List.mem_filter.1 (ordH_mem.1 (List.mem_of_getElem? hy))).1
  obtain ⟨i2, ei, g1, g2, g3, g4, g5⟩ := h.has c hc x hxm
  obtain ⟨j2, ej, k1, k2, k3, k4, k5⟩ := h.has c hc y hym
  have e1 : i2 = i := by omega
  have e2 : j2 = j := by omega
  subst e1 e2
  have li : i2 < 8 := by have := (List.getElem?_eq_some_iff.1 g2).1; have := h.len; omega
  have lj : j2 < 8 := by have := (List.getElem?_eq_some_iff.1 k2).1; have := h.len; omega
  obtain ⟨zi, hzi⟩ : ∃ z, Z[i2]? = some z := ⟨_, List.getElem?_eq_getElem (by rw [hL.zen]; exact li)⟩
  obtain ⟨zj, hzj⟩ : ∃ z, Z[j2]? = some z := ⟨_, List.getElem?_eq_getElem (by rw [hL.zen]; exact lj)⟩
  refine ⟨ei, ej, zi, zj, g2, k2, hzi, hzj, ?_⟩
  rcases hxy with h1 | ⟨h1, h2⟩
  · left; omega
  · right
    refine ⟨by omega, hL.ord c hc x hxm y hym h2 zi zj ?_ ?_⟩
    · rw [hx1, Int.toNat_natCast]; exact hzi
    · rw [hy1, Int.toNat_natCast]; exact hzj

end Go.Proofs.Ytonahpilmchnkaa
