
/- The wheel: Due: contract. -/
import Derived.Test.YtonahpilmchnkaaHi
namespace Go.Proofs.Ytonahpilmchnkaa
open Go.RowKit

/-- What is left when the first j of L are gone. -/
def goneH (M L : HL) (j : Nat) : HL := M.filter fun x => !((L.take j).any fun y => y.1 == x.1)
theorem gone_zero (M L : HL) : goneH M L 0 = M := by unfold goneH; simp
theorem gone_succ {M L : HL} {j : Nat} {x : H1} (h : L[j]? = some x) : goneH M L (j + 1) = delH (goneH M L j) x.1 := by
  unfold goneH delH
  rw [List.filter_filter]
  apply List.filter_congr
  intro y _
  rw [List.take_add_one, h, List.any_append]
  by_cases hy : x.1 = y.1
  · simp [hy]
  · have hy' : ¬ y.1 = x.1 := fun e => hy e.symm
    have e1 : (x.1 == y.1) = false := by simpa using hy
    have e2 : (y.1 == x.1) = false := by simpa using hy'
    simp only [List.any_cons, List.any_nil, Option.toList_some, e1, e2]
    simp
theorem gone_has {M L : HL} {j : Nat} {x : H1} (h : L[j]? = some x) (hx : x ∈ M) (hn : (L.map (·.1)).Nodup) : hasH (goneH M L j) x.1 = true := by
  refine has_iff.2 ⟨x, List.mem_filter.2 ⟨hx, ?_⟩, rfl⟩
  have : ((L.take j).any fun y => y.1 == x.1) = false := by
    rw [List.any_eq_false]
    intro y hy
    obtain ⟨i, hi⟩ := List.getElem?_of_mem hy
    rw [List.getElem?_take] at hi
    split at hi
    · rename_i hij
      intro e
      have e' : y.1 = x.1 := by simpa using e
      obtain ⟨h1, h2⟩ := List.getElem?_eq_some_iff.1 hi
      obtain ⟨h3, h4⟩ := List.getElem?_eq_some_iff.1 h
      have := (List.getElem_inj (xs := L.map (·.1)) (h₀ := by simpa using h1) (h₁ := by simpa using h3) hn).1 (by simp [h2, h4, e'])
      omega
    · cases hi
  simp [this]
theorem gone_end {s : HS} (h : HInv s) (p : H1 → Bool) {n : Nat} (hn : n = (ordH (s.M.filter p)).length) : goneH s.M (ordH (s.M.filter p)) n = s.M.filter fun x => !p x := by
  unfold goneH
  rw [hn, List.take_length]
  apply List.filter_congr
  intro x hx
  congr 1
  cases hp : p x with
  | true =>
    rw [List.any_eq_true]
    exact ⟨x, ordH_mem.2 (List.mem_filter.2 ⟨hx, hp⟩), by simp⟩
  | false =>
    rw [List.any_eq_false]
    intro y hy e
    have e' : y.1 = x.1 := by simpa using e
    obtain ⟨h1, h2⟩ := List.mem_filter.1 (ordH_mem.1 hy)
    have := id_inj h.ids h1 hx e'
    subst this
    rw [hp] at h2
    cases h2
theorem ord_ids {s : HS} (h : HInv s) (p : H1 → Bool) : ((ordH (s.M.filter p)).map (·.1)).Nodup := (((ordH_perm _).map (·.1)).nodup_iff).2 (h.ids.sublist (List.filter_sublist.map _))
theorem HInv.gone {s : HS} (h : HInv s) (L : HL) (j : Nat) : HInv ⟨goneH s.M L j, s.c⟩ := h.filter _

theorem infoInt : (Try.prog.info? 3).map (fun i => (i.zero, i.size, i.bytes)) = some (some (.int .i64 0), 1, 8) := by kernel_rfl

def DueP (B b : Nat) (vs : List Value) (s' : HS) (l : List Int) (w : World) (e : Ending) (w' : World) : Prop :=
  ∃ v vs', e = .returned v ∧ w'.ownsRow B 3 1 v l.length (l.map (Value.int .i64)) ∧ HAt w' b vs' s' ∧ Chg (blocksH b vs) w w' ∧ (∀ x ∈ blocksH b vs', x ∈ blocksH b vs ∨ B ≤ x) ∧ (∀ x ∈ v.ownBlock.toList, x ∉ blocksH b vs')

set_option maxRecDepth 100000 in
set_option maxHeartbeats 4000000 in
theorem duec (b : Nat) (vs : List Value) (s : HS) (now : Int) (w : World) (h : HAt w b vs s) :
    Calls Try.prog 30 #[.pointer (some ⟨b, 0, none⟩), .int .i64 now] w fun e w' => DueP w.heap.size b vs (s.dueS now) (s.dueL now) w e w' := by
  obtain ⟨i0, hi, hz0, hz1, hz2⟩ := info_parts infoInt
  obtain ⟨B, hB⟩ : ∃ B, B = w.heap.size := ⟨_, rfl⟩
  obtain ⟨w1, hw1⟩ : ∃ w1, w1 = w.alloc (int64B now) := ⟨_, rfl⟩
  have hC1 : Chg [] w w1 := by rw [hw1]; exact (Chg.refl _ _).alloc _
  have hb1 : w1.heap[B]? = some (int64B now) := by rw [hw1, hB]; exact heap_alloc_eq w _
  have hs1 : w1.heap.size = B + 1 := by rw [hw1, hB]; simp
  have h1 := h.calm hC1
  have HI := Lib.hid (hisc b vs s w1 h1)
  have hO := orderc b vs s w1 h1 46 #[.pointer (some ⟨B, 0, none⟩)] (fun x => decide (x.2.1 ≤ now)) B _ (pdue1 now B) (enters_of Try.func46 (by kernel_rfl) rfl) hb1
  rw [hs1] at hO
  obtain ⟨L, hL⟩ : ∃ L, L = ordH (s.M.filter fun x => decide (x.2.1 ≤ now)) := ⟨_, rfl⟩
  have hids : (L.map (·.1)).Nodup := by rw [hL]; exact ord_ids h.inv _
  have hmem : ∀ x ∈ L, x ∈ s.M := fun x hx => by rw [hL] at hx; exact (List.mem_filter.1 (ordH_mem.1 hx)).1
  have hend : goneH s.M L L.length = s.M.filter fun x => !decide (x.2.1 ≤ now) := by rw [hL]; exact gone_end h.inv _ rfl
  have hfew : L.length ≤ 64 := by rw [hL, ordH_len]; exact Nat.le_trans (List.length_filter_le _ _) h.inv.few
  have hdue : s.dueL now = L.map (·.1) := by rw [hL]; rfl
  rw [← hL] at hO
  rw [hdue, ← hB]
  have HO := Lib.hid hO
  have H := Lib.hid (And.intro h (And.intro h1 (And.intro hids (And.intro hmem (And.intro hend (And.intro hC1 (And.intro hs1 hB)))))))
  have hbB : b < B := by rw [hB]; exact h.lt b (mem_blocks.2 (.inl rfl))
  obtain ⟨n, hn⟩ : ∃ n, n = L.length := ⟨_, rfl⟩
  rw [← hn] at hfew
  have HN := Lib.hid hn
  clear h hC1 hb1 h1 hO hL hids hmem hend hdue hn hs1
  unfold int64B at hw1
  go_enter Try.func30, Try.ntmps30
  go_wp2_with fail
  rw [← hw1]
  clear hw1
  refine HI.out.mono ?_
  rintro e w' ⟨rfl, rfl⟩
  go_wp2_with fail
  rw [← hB]
  clear hB
  refine HO.out.mono ?_
  rintro e w2 ⟨vl, rfl, ho2, hC2⟩
  obtain ⟨a0, cap, rfl, hT⟩ := IsT.of_own ho2
  rw [← HN.out]
  have H2 := Lib.hid (And.intro ho2 (And.intro hC2 hT))
  have hlow : ∀ g, a0 = some ⟨g, 0, none⟩ → B + 1 ≤ g := fun g e => by
    subst e
    exact own_ge ho2 g (by simp [Value.ownBlock])
  have HL := Lib.hid hlow
  clear ho2 hC2 hT hlow
  go_wp2
  go_loopw [5, 15] (fun v i wr => ∃ (j : Nat) (vs' : List Value), j ≤ n ∧ i = .int .i64 j ∧ wr.ownsRow B 3 1 v j ((L.take j).map fun x => .int .i64 x.1) ∧ HAt wr b vs' ⟨goneH s.M L j, s.c⟩ ∧ Chg [b] w wr ∧
      (∀ x ∈ blocksH b vs', x ∈ blocksH b vs ∨ B ≤ x) ∧ (∀ x ∈ v.ownBlock.toList, x ∉ blocksH b vs') ∧ IsT wr a0 L ∧ (∀ g, a0 = some ⟨g, 0, none⟩ → g < wr.heap.size ∧ g ∉ v.ownBlock.toList)) (fun _ i _ => n - (intOf i).toNat)
  case atStart =>
    refine ⟨0, vs, by omega, rfl, World.ownsRow_nil .., by rw [gone_zero]; exact H.out.2.1.calm H2.out.2.1, (H.out.2.2.2.2.2.1.trans H2.out.2.1).mono (by simp), fun x hx => .inl hx, by simp [Value.ownBlock], H2.out.2.2, fun g e => ⟨?_, by simp [Value.ownBlock]⟩⟩
    subst e
    exact (H2.out.1.lt g (by simp [Value.ownBlock])).2
  case round =>
    obtain ⟨j, vs', hj, rfl, hown, hA, hC, hbl, hsep, hT, hg⟩ := hrel
    by_cases hlt : j < n
    · obtain ⟨x, hx⟩ : ∃ x, L[j]? = some x := ⟨_, List.getElem?_eq_getElem (by have := HN.out; omega)⟩
      have hdj : decide ((j : Int) < (n : Int)) = true := decide_eq_true (by omega)
      have hne : L ≠ [] := fun e => by subst e; simp at hx
      obtain ⟨g0, rfl, hd⟩ := hT.resolve_left hne
      obtain ⟨d0, d1, d2⟩ := hd j x hx
      have hxM := H.out.2.2.2.1 x (List.mem_of_getElem? hx)
      have hxo := H.out.1.inv.ok x hxM
      have hhas := gone_has hx hxM H.out.2.2.1
      have hgs := gone_succ (M := s.M) hx
      obtain ⟨x1, x2, x3⟩ := x
      dsimp only at d0 d1 d2 hxo hhas hgs
      obtain ⟨i, rfl⟩ := Int.eq_ofNat_of_zero_le hxo.1
      have hbr := hA.lt b (mem_blocks.2 (.inl rfl))
      have hCa : Chg [] wr (wr.alloc (.cells #[.int .i64 (i : Int), .int .i64 x2, .int .i64 x3] 84)) := (Chg.refl _ _).alloc _
      have hR := removec b vs' ⟨goneH s.M L j, s.c⟩ i _ (hA.calm hCa) (by omega) hhas
      have hg0 := hg g0 rfl
      have hg1 := HL.out g0 rfl
      have HX := Lib.hid (And.intro hx (And.intro hown (And.intro hA (And.intro hC (And.intro hbl (And.intro hsep (And.intro hT (And.intro hR (And.intro hgs hg)))))))))
      have hnew := heap_alloc_eq wr (.cells #[.int .i64 (i : Int), .int .i64 x2, .int .i64 x3] 84)
      have v0 := cellB hnew (i := 0) (v := .int .i64 (i : Int)) rfl
      have hnb : b ≠ wr.heap.size := by omega
      have HV := Lib.hid (And.intro hnew (And.intro hCa hxo))
      clear hx hown hA hC hbl hsep hT hR hgs hg hd hne hxM hxo hhas hnew hCa
      go_wp2_with fail
      refine HX.out.2.2.2.2.2.2.2.1.mono ?_
      rintro e w3 ⟨rfl, vs3, hA3, hC3, hB3⟩
      have hC03 : Chg [b] wr w3 := (HV.out.2.1.mono (by simp)).trans hC3
      have v0' := cellB (hC3.blk HV.out.1 (by simp; omega)) (i := 0) (v := .int .i64 (i : Int)) rfl
      have hwrB : B ≤ wr.heap.size := by have h1 := HX.out.2.2.2.1.size; have := H.out.2.2.2.2.2.2.2; omega
      have hown3 := own_kept HX.out.2.1 hC03 (fun q hq => by simp at hq; subst hq; exact own_notin HX.out.2.1 hbB)
      have hlj : (L.take j).length = j := by rw [List.length_take]; have := HN.out; omega
      have hB3s : B ≤ w3.heap.size := by have := hC03.size; omega
      have hd1 : j + 1 ≤ maxLen := by unfold maxLen; omega
      have hd2 : (j + 1) * 8 ≤ 140737488355328 := by omega
      have H3 := Lib.hid (And.intro hA3 (And.intro hC03 (And.intro hB3 hlj)))
      clear hA3 hC03 hB3 hC3 hlj v0
      go_wp2_with (at_builtin; refine wpList_push rfl _ _ 29 rfl B 3 i0 (.int .i64 0) 1 8 Try.underlying29 hi hz0 hz1 hz2 rfl (by decide) u5 j _ rfl hown3 [.int .i64 (i : Int)] rfl rfl (by simp [Value.oneCell']) hd1 hd2 hB3s ?_; intro v' w4 hown4 hC4 hloc hnn)
      go_roundw
      case rel =>
        obtain ⟨hA3, hC03, hB3, hlj⟩ := H3.out
        have hn5 : ∀ q ∈ u5.ownBlock.toList, q < wr.heap.size := fun q hq => (HX.out.2.1.lt q (by simpa using hq)).2
        have hsep3 : ∀ q ∈ u5.ownBlock.toList, q ∉ blocksH b vs3 := fun q hq hm => by
          rcases hB3 q hm with h | h
          · exact HX.out.2.2.2.2.2.1 q hq h
          · have := hn5 q hq
            simp at h
            omega
        refine ⟨j + 1, vs3, by omega, by go_num, ?_, ?_, ?_, ?_, ?_, ?_, ?_⟩
        · rw [List.take_add_one, HX.out.1, List.map_append]
          exact hown4
        · rw [HX.out.2.2.2.2.2.2.2.2.1]
          exact hA3.kept hC4 (fun q hq => hsep3 q hq)
        · exact (HX.out.2.2.2.1.trans hC03).trans' hC4 (fun q hq => .inr (by have := own_ge HX.out.2.1 q hq; have := H.out.2.2.2.2.2.2.2; omega))
        · intro q hq
          rcases hB3 q hq with h | h
          · exact HX.out.2.2.2.2.1 q h
          · simp at h
            exact .inr (by omega)
        · intro q hq hm
          rcases hloc with e | ⟨k, hk, e⟩
          · rw [e] at hq; exact hsep3 q hq hm
          · rw [e] at hq
            simp at hq
            have := hA3.lt q hm
            omega
        · exact (HX.out.2.2.2.2.2.2.1.kept hC03 (fun g e => by cases e; simp; omega)).kept hC4 (fun g e => by cases e; exact hg0.2)
        · intro g e
          cases e
          have h3 := hC03.size
          have h4 := hC4.size
          refine ⟨by omega, fun hm => ?_⟩
          rcases hloc with e | ⟨k, hk, e⟩
          · rw [e] at hm; exact hg0.2 hm
          · rw [e] at hm
            simp at hm
            omega
      case measure => simp [intOf]; omega
    · have hjn : n = j := by omega
      subst hjn
      have HX := Lib.hid (And.intro hown (And.intro hA (And.intro hC (And.intro hbl hsep))))
      clear hown hA hC hbl hsep hT hg
      go_wp2
      go_ret
      have e1 : L.take n = L := by rw [HN.out, List.take_length]
      have h1 := HX.out.1
      have h2 := HX.out.2.1
      rw [e1] at h1
      rw [HN.out, H.out.2.2.2.2.1] at h2
      refine ⟨_, vs', rfl, ?_, h2, HX.out.2.2.1.mono (fun q hq => by simp at hq; subst hq; exact .inl (mem_blocks.2 (.inl rfl))), HX.out.2.2.2.1, HX.out.2.2.2.2⟩
      rw [List.length_map, List.map_map, ← HN.out]
      exact h1

end Go.Proofs.Ytonahpilmchnkaa
