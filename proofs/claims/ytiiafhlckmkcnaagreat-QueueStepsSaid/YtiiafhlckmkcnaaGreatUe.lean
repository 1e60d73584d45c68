
/- Package mqueue: put: contract. -/
import Derived.Test.YtiiafhlckmkcnaaGreatUd
import Derived.Deep.CutBlock
import Derived.Deep.RegionHeld3
namespace Go.Proofs.YtiiafhlckmkcnaaGreat
open Go.RowKit

theorem findM_ways (m : Int × Int) (l : WL) : ∃ i : Nat, i ≤ l.length ∧ insM l m = l.take i ++ m :: l.drop i ∧ (l.findIdx? (fun x => decide (x.2 < m.2)) = some i ∨ (l.findIdx? (fun x => decide (x.2 < m.2)) = none ∧ i = l.length)) := by
  unfold insM
  induction l with
  | nil => exact ⟨0, Nat.le_refl _, rfl, .inr ⟨rfl, rfl⟩⟩
  | cons x l ih =>
    rw [List.findIdx?_cons]
    by_cases hx : m.2 ≤ x.2
    · obtain ⟨i, h1, h2, h3⟩ := ih
      have hx' : decide (x.2 < m.2) = false := by simp; omega
      refine ⟨i + 1, by simp; omega, ?_, ?_⟩
      · simp only [List.takeWhile_cons, List.dropWhile_cons, hx, decide_true, if_true, List.take_succ_cons, List.drop_succ_cons, List.cons_append, List.cons.injEq, true_and]
        exact h2
      · rw [hx']
        rcases h3 with h3 | ⟨h3, h4⟩
        · left; rw [h3]; rfl
        · right; rw [h3]; exact ⟨rfl, by simp [h4]⟩
    · have hx' : decide (x.2 < m.2) = true := by simp; omega
      refine ⟨0, by omega, ?_, .inl ?_⟩
      · simp [hx]
      · rw [hx']; rfl
theorem idxM_ways (m : Int × Int) (l : WL) : ∃ i : Nat, i ≤ l.length ∧ insM l m = l.take i ++ m :: l.drop i ∧ (idxM m.2 l = (i : Int) ∨ (idxM m.2 l = -1 ∧ i = l.length)) := by
  obtain ⟨i, h1, h2, h3⟩ := findM_ways m l
  refine ⟨i, h1, h2, ?_⟩
  unfold idxM
  rcases h3 with h3 | ⟨h3, h4⟩
  · left; rw [h3]
  · right; rw [h3]; exact ⟨rfl, h4⟩

/-- What a put leaves: the row with the message laid in. -/
def PutP (u : UB) (v : Value) (room : Int) (l : WL) (m : Int × Int) (w : World) (e : Ending) (w' : World) : Prop :=
  ∃ v', e = .returned (.tuple #[]) ∧ w'.heap[u.q]? = some (.cells (ucells u v' room) 49 (0, 0)) ∧ w'.ownsRow 0 33 2 v' (l.length + 1) (flatW (insM l m)) ∧ Chg (u.q :: v.ownBlock.toList) w w' ∧ SameBlk v v' w

set_option maxRecDepth 100000 in
set_option maxHeartbeats 4000000 in
theorem uputc (u : UB) (v : Value) (room : Int) (l : WL) (m : Int × Int) (w : World) (hh : w.heap[u.q]? = some (.cells (ucells u v room) 49 (0, 0))) (hrow : w.ownsRow 0 33 2 v l.length (flatW l)) (hl : l.length ≤ 1000) :
    Calls Tryz.prog 42 #[.pointer (some ⟨u.q, 0, none⟩), msgV m] w (PutP u v room l m w) := by
  obtain ⟨i, hi, hins, hidx⟩ := idxM_ways m l
  obtain ⟨n, hn⟩ : ∃ n, n = l.length := ⟨_, rfl⟩
  obtain ⟨a, cap, hva⟩ : ∃ a cap, v = .slice a n cap := by rw [hn]; exact own_slice hrow
  subst hva
  have hq := lt_of_blk hh
  have hqv : u.q ∉ (Value.slice a n cap).ownBlock.toList := fun hm => by
    obtain ⟨cs, hcs⟩ := own_cells hrow _ hm
    exact cells_ne hh hcs (by decide) rfl
  have hvl : ∀ k ∈ (Value.slice a n cap).ownBlock.toList, k < w.heap.size := fun k hk => by
    obtain ⟨cs, hcs⟩ := own_cells hrow k hk
    exact lt_of_blk hcs
  obtain ⟨w0, hw0⟩ : ∃ w0, w0 = w.alloc (.cells #[.int .i64 m.1, .int .i64 m.2] 33 (0, 0)) := ⟨_, rfl⟩
  have hC0 : Chg [] w w0 := by rw [hw0]; exact (Chg.refl _ _).alloc _
  obtain ⟨bm, hbm⟩ : ∃ bm, bm = w.heap.size := ⟨_, rfl⟩
  have hm0 : w0.heap[bm]? = some (msgB m) := by rw [hw0, hbm]; exact heap_alloc_eq w _
  have hh0 := hC0.blk hh (by simp)
  have hrow0 := own_kept hrow hC0 (by simp)
  have hI := uidxc m bm _ l w0 (.of_own hrow0) hm0 (by omega)
  have HI := Lib.hid hI
  have c1 := cellB hh0 (i := 1) (v := .slice a n cap) rfl
  have H0 := Lib.hid (And.intro hh0 (And.intro hrow0 (And.intro hm0 (And.intro hC0 (And.intro hi (And.intro hins (And.intro hqv hvl)))))))
  have HN := Lib.hid (show bm = w.heap.size from hbm)
  rw [← hn] at hl hidx
  have HL := Lib.hid hn
  obtain ⟨QQ, hQQ⟩ : ∃ QQ, QQ = PutP u (.slice a n cap) room l m w := ⟨_, rfl⟩
  rw [← hQQ]
  have HQ := Lib.hid hQQ
  clear hh hrow hC0 hm0 hh0 hrow0 hI hi hins hqv hvl hn hQQ
  obtain ⟨m1, m2⟩ := m
  unfold msgV
  go_enter Tryz.func42, Tryz.ntmps42
  go_upto_region 1 with fail
  rw [← hbm, ← hw0]
  clear hbm hw0
  go_wp2_with fail
  refine HI.out.mono ?_
  rintro e w1 ⟨rfl, hC1⟩
  have HC1 := Lib.hid (And.intro hC1 (H0.out.2.2.2.1.trans hC1))
  clear hC1 HI c1
  have hq1 := HC1.out.1.blk H0.out.1 (by simp)
  have hm1 := HC1.out.1.blk H0.out.2.2.1 (by simp)
  have HIN := Lib.hid (show ∀ W : World, Chg [] w1 W ∧ W.heap[w1.heap.size]? = some (msgB (m1, m2)) → Calls Tryz.prog 75 #[.slice a n cap, .int .i64 i, .slice (some ⟨w1.heap.size, 0, none⟩) 1 1] W fun e w' =>
      ∃ v', e = .returned v' ∧ w'.ownsRow 0 33 2 v' (l.length + 1) (flatW (l.take i ++ (m1, m2) :: l.drop i)) ∧ Chg (Value.slice a n cap).ownBlock.toList W w' ∧ SameBlk (.slice a n cap) v' W from fun W hW =>
    uinsc (.slice a n cap) w1.heap.size i l (m1, m2) _ (own_kept H0.out.2.1 (HC1.out.1.trans hW.1) (by simp)) H0.out.2.2.2.2.1 (by rw [← HL.out]; exact hl) hW.2 (fun hm => by have h1 := H0.out.2.2.2.2.2.2.2 _ hm; have h2 := HC1.out.2.size; omega))
  have HBM := Lib.hid (show bm ∉ (Value.slice a n cap).ownBlock.toList from fun hm => by have h1 := H0.out.2.2.2.2.2.2.2 _ hm; have h2 := HN.out; omega)
  have HQB := Lib.hid (show bm ≠ u.q by have := HN.out; omega)
  have HFin := Lib.hid (show ∀ (W w3 : World) (x : Value), Chg [] w1 W → Chg (Value.slice a n cap).ownBlock.toList W w3 → Chg (u.q :: (Value.slice a n cap).ownBlock.toList) w (w3.setCell ⟨u.q, 1, none⟩ x) from fun _ _ _ hW h3 =>
    ((((HC1.out.2.trans hW).mono (by simp)).trans (h3.mono (fun k hk => .inl (List.mem_cons_of_mem _ hk)))).setCell _ _ (.inl (by simp))))
  have HSm := Lib.hid (show ∀ (W : World) (v' : Value), Chg [] w1 W → SameBlk (.slice a n cap) v' W → SameBlk (.slice a n cap) v' w from fun _ _ hW h => by
    rcases h with h | ⟨k, h1, h2⟩
    · exact .inl h
    · exact .inr ⟨k, by have h3 := (HC1.out.2.trans hW).size; omega, h2⟩)
  have c1 := cellB hq1 (i := 1) (v := .slice a n cap) rfl
  have f1 := frozenB hq1 1
  have d0 := cellB hm1 (i := 0) (v := .int .i64 m1) rfl
  have d1 := cellB hm1 (i := 1) (v := .int .i64 m2) rfl
  rcases hidx with hidx | ⟨hidx, hin⟩
  · rw [hidx]
    clear hidx
    have hi0 : decide ((i : Int) < 0) = false := by simp
    go_wp2
    refine wp_region_held_drew (S := fun W => W.cell? ⟨bm, 0, none⟩ = some (.int .i64 m1) ∧ W.cell? ⟨bm, 1, none⟩ = some (.int .i64 m2)) (by kernel_rfl) (by exact ⟨d0, d1⟩) (fun hS => ?_)
    refine wpAnyH_take (i := 0) (v := ?_) (by simp only [List.getElem?_toArray, List.getElem?_cons_zero]; rfl) (by kernel_rfl) (by kernel_rfl) (by kernel_rfl) (by exact fun _ _ _ h => h) (Or.inl ⟨by kernel_rfl, ?_⟩) hS ?_
    case refine_2 => ((intro w hSw; (try dsimp only at hSw); go_simp) <;> with_reducible rfl)
    try simp only [Act.put, List.setIfInBounds_toArray, List.set_cons_zero, List.set_cons_succ]
    refine wpAnyH_take (i := 1) (v := ?_) (by simp only [List.getElem?_toArray, List.getElem?_cons_succ, List.getElem?_cons_zero]; rfl) (by kernel_rfl) (by kernel_rfl) (by kernel_rfl) (by exact fun _ _ _ h => h) (Or.inl ⟨by kernel_rfl, ?_⟩) hS ?_
    case refine_2 => ((intro w hSw; (try dsimp only at hSw); go_simp) <;> with_reducible rfl)
    try simp only [Act.put, List.setIfInBounds_toArray, List.set_cons_zero, List.set_cons_succ]
    refine wpAnyH_take (i := 2) (v := ?_) (by simp only [List.getElem?_toArray, List.getElem?_cons_succ, List.getElem?_cons_zero]; rfl) (by kernel_rfl) (by kernel_rfl) (by kernel_rfl) (by exact fun _ _ _ h => h) (Or.inl ⟨by kernel_rfl, ?_⟩) hS ?_
    case refine_2 => ((intro w hSw; (try dsimp only at hSw); go_simp) <;> with_reducible rfl)
    try simp only [Act.put, List.setIfInBounds_toArray, List.set_cons_zero, List.set_cons_succ]
    refine wpAnyH_take (i := 3) (v := ?_) (by simp only [List.getElem?_toArray, List.getElem?_cons_succ, List.getElem?_cons_zero]; rfl) (by kernel_rfl) (by kernel_rfl) (by kernel_rfl) (by exact fun _ _ _ h => h) (Or.inl ⟨by kernel_rfl, ?_⟩) hS ?_
    case refine_2 => ((intro w hSw; (try dsimp only at hSw); go_simp) <;> with_reducible rfl)
    try simp only [Act.put, List.setIfInBounds_toArray, List.set_cons_zero, List.set_cons_succ]
    refine wpAnyH_take (i := 5) (v := ?_) (by simp only [List.getElem?_toArray, List.getElem?_cons_succ, List.getElem?_cons_zero]; rfl) (by kernel_rfl) (by kernel_rfl) (by kernel_rfl) (by exact fun _ _ _ h => h) (Or.inl ⟨by kernel_rfl, ?_⟩) hS ?_
    case refine_2 => ((intro w hSw; (try dsimp only at hSw); go_simp) <;> with_reducible rfl)
    try simp only [Act.put, List.setIfInBounds_toArray, List.set_cons_zero, List.set_cons_succ]
    refine wpAnyH_take (i := 6) (v := ?_) (by simp only [List.getElem?_toArray, List.getElem?_cons_succ, List.getElem?_cons_zero]; rfl) (by kernel_rfl) (by kernel_rfl) (by kernel_rfl) (by exact fun _ _ _ h => h) (Or.inl ⟨by kernel_rfl, ?_⟩) hS ?_
    case refine_2 => ((intro w hSw; (try dsimp only at hSw); go_simp) <;> with_reducible rfl)
    try simp only [Act.put, List.setIfInBounds_toArray, List.set_cons_zero, List.set_cons_succ]
    refine wpAnyH_ready (rs := [4, 7]) (by kernel_rfl) (by simp) ?_
    refine AllReadyH.cons (by simp only [List.getElem?_toArray, List.getElem?_cons_succ, List.getElem?_cons_zero]; rfl) (fun K hK => ?_) (AllReadyH.cons (by simp only [List.getElem?_toArray, List.getElem?_cons_succ, List.getElem?_cons_zero]; rfl) (fun K hK => ?_) AllReadyH.nil)
    · go_simp
      refine hK.out _ _ (by exact ⟨d0, d1⟩) (fun hS => ?_)
      clear hK K
      try simp only [Act.put, List.setIfInBounds_toArray, List.set_cons_zero, List.set_cons_succ]
      refine wpAnyH_ready (rs := [7]) (by kernel_rfl) (by simp) ?_
      refine AllReadyH.cons (by simp only [List.getElem?_toArray, List.getElem?_cons_succ, List.getElem?_cons_zero]; rfl) (fun K hK => ?_) AllReadyH.nil
      go_simp
      refine hK.out _ _ (by exact ⟨cellB (blk_alloc hm1 _) (i := 0) rfl, cellB (blk_alloc hm1 _) (i := 1) rfl⟩) (fun hS => ?_)
      clear hK K
      try simp only [Act.put, List.setIfInBounds_toArray, List.set_cons_zero, List.set_cons_succ]
      refine wpAnyH_ready (rs := [8]) (by kernel_rfl) (by simp) ?_
      refine AllReadyH.cons (by simp only [List.getElem?_toArray, List.getElem?_cons_succ, List.getElem?_cons_zero]; rfl) (fun K hK => ?_) AllReadyH.nil
      go_simp
      go_at_call 75
      refine (HIN.out _ ⟨((Chg.refl [] w1).alloc _).drew, heap_alloc_eq w1 _⟩).mono ?_
      rintro e w3 ⟨v', rfl, hv', hC3, hs3⟩
      obtain ⟨a', cap', rfl⟩ := own_slice hv'
      have H3 := Lib.hid (And.intro hv' (And.intro hC3 hs3))
      clear hv' hC3 hs3 hS
      have hq3 := H3.out.2.1.blk (blk_alloc hq1 _) H0.out.2.2.2.2.2.2.1
      have hm3 := H3.out.2.1.blk (blk_alloc hm1 _) HBM.out
      have e1 := cellB hq3 (i := 1) (v := .slice a n cap) rfl
      have e2 := frozenB hq3 1
      go_wp2_with fail
      refine hK.out _ _ (by exact ⟨cellB hm3 (i := 0) rfl, cellB hm3 (i := 1) rfl⟩) (fun hS => ?_)
      clear hK K
      try simp only [Act.put, List.setIfInBounds_toArray, List.set_cons_zero, List.set_cons_succ]
      refine wpAnyH_take (i := 9) (v := ?_) (by simp only [List.getElem?_toArray, List.getElem?_cons_succ, List.getElem?_cons_zero]; rfl) (by kernel_rfl) (by kernel_rfl) (by kernel_rfl) (by exact fun _ _ _ h => h) (Or.inl ⟨by kernel_rfl, ?_⟩) hS ?_
      case refine_2 => ((intro w hSw; (try dsimp only at hSw); go_simp) <;> with_reducible rfl)
      try simp only [Act.put, List.setIfInBounds_toArray, List.set_cons_zero, List.set_cons_succ]
      refine wpAnyH_take (i := 10) (v := ?_) (by simp only [List.getElem?_toArray, List.getElem?_cons_succ, List.getElem?_cons_zero]; rfl) (by kernel_rfl) (by kernel_rfl) (by kernel_rfl) (by exact fun _ _ _ h => h) (Or.inl ⟨by kernel_rfl, ?_⟩) hS ?_
      case refine_2 => ((intro w hSw; (try dsimp only at hSw); go_simp) <;> with_reducible rfl)
      try simp only [Act.put, List.setIfInBounds_toArray, List.set_cons_zero, List.set_cons_succ]
      refine wpAnyH_ready (rs := [11]) (by kernel_rfl) (by simp) ?_
      refine AllReadyH.cons (by simp only [List.getElem?_toArray, List.getElem?_cons_succ, List.getElem?_cons_zero]; rfl) (fun K hK => ?_) AllReadyH.nil
      go_simp
      refine hK.out _ _ (by exact ⟨cellB (blk_setCell_ne hm3 HQB.out _) (i := 0) rfl, cellB (blk_setCell_ne hm3 HQB.out _) (i := 1) rfl⟩) (fun hS => ?_)
      clear hK K
      try simp only [Act.put, List.setIfInBounds_toArray, List.set_cons_zero, List.set_cons_succ]
      refine wpAnyH_done (by kernel_rfl) ?_ _
      go_end0
      rw [HQ.out]
      exact ⟨_, rfl, blk_setCell hq3 _, own_kept (by rw [H0.out.2.2.2.2.2.1]; exact H3.out.1) ((Chg.refl [u.q] w3).setCell _ _ (by simp)) (fun k hk hm => by simp at hk; subst hk; obtain ⟨cs, hcs⟩ := own_cells H3.out.1 _ hm; exact cells_ne hq3 hcs (by decide) rfl), HFin.out _ w3 _ ((Chg.refl [] w1).alloc _).drew H3.out.2.1, HSm.out _ _ ((Chg.refl [] w1).alloc _).drew H3.out.2.2⟩
    · have c1' := cellB (blk_alloc hq1 (.cells #[.int .i64 m1, .int .i64 m2] 33)) (i := 1) (v := .slice a n cap) rfl
      go_simp
      refine hK.out _ _ (by exact ⟨cellB (blk_alloc hm1 _) (i := 0) rfl, cellB (blk_alloc hm1 _) (i := 1) rfl⟩) (fun hS => ?_)
      clear hK K
      try simp only [Act.put, List.setIfInBounds_toArray, List.set_cons_zero, List.set_cons_succ]
      refine wpAnyH_ready (rs := [4]) (by kernel_rfl) (by simp) ?_
      refine AllReadyH.cons (by simp only [List.getElem?_toArray, List.getElem?_cons_succ, List.getElem?_cons_zero]; rfl) (fun K hK => ?_) AllReadyH.nil
      go_simp
      refine hK.out _ _ (by exact ⟨cellB (blk_alloc hm1 _) (i := 0) rfl, cellB (blk_alloc hm1 _) (i := 1) rfl⟩) (fun hS => ?_)
      clear hK K
      try simp only [Act.put, List.setIfInBounds_toArray, List.set_cons_zero, List.set_cons_succ]
      refine wpAnyH_ready (rs := [8]) (by kernel_rfl) (by simp) ?_
      refine AllReadyH.cons (by simp only [List.getElem?_toArray, List.getElem?_cons_succ, List.getElem?_cons_zero]; rfl) (fun K hK => ?_) AllReadyH.nil
      go_simp
      go_at_call 75
      refine (HIN.out _ ⟨((Chg.refl [] w1).alloc _).drew, heap_alloc_eq w1 _⟩).mono ?_
      rintro e w3 ⟨v', rfl, hv', hC3, hs3⟩
      obtain ⟨a', cap', rfl⟩ := own_slice hv'
      have H3 := Lib.hid (And.intro hv' (And.intro hC3 hs3))
      clear hv' hC3 hs3 hS
      have hq3 := H3.out.2.1.blk (blk_alloc hq1 _) H0.out.2.2.2.2.2.2.1
      have hm3 := H3.out.2.1.blk (blk_alloc hm1 _) HBM.out
      have e1 := cellB hq3 (i := 1) (v := .slice a n cap) rfl
      have e2 := frozenB hq3 1
      go_wp2_with fail
      refine hK.out _ _ (by exact ⟨cellB hm3 (i := 0) rfl, cellB hm3 (i := 1) rfl⟩) (fun hS => ?_)
      clear hK K
      try simp only [Act.put, List.setIfInBounds_toArray, List.set_cons_zero, List.set_cons_succ]
      refine wpAnyH_take (i := 9) (v := ?_) (by simp only [List.getElem?_toArray, List.getElem?_cons_succ, List.getElem?_cons_zero]; rfl) (by kernel_rfl) (by kernel_rfl) (by kernel_rfl) (by exact fun _ _ _ h => h) (Or.inl ⟨by kernel_rfl, ?_⟩) hS ?_
      case refine_2 => ((intro w hSw; (try dsimp only at hSw); go_simp) <;> with_reducible rfl)
      try simp only [Act.put, List.setIfInBounds_toArray, List.set_cons_zero, List.set_cons_succ]
      refine wpAnyH_take (i := 10) (v := ?_) (by simp only [List.getElem?_toArray, List.getElem?_cons_succ, List.getElem?_cons_zero]; rfl) (by kernel_rfl) (by kernel_rfl) (by kernel_rfl) (by exact fun _ _ _ h => h) (Or.inl ⟨by kernel_rfl, ?_⟩) hS ?_
      case refine_2 => ((intro w hSw; (try dsimp only at hSw); go_simp) <;> with_reducible rfl)
      try simp only [Act.put, List.setIfInBounds_toArray, List.set_cons_zero, List.set_cons_succ]
      refine wpAnyH_ready (rs := [11]) (by kernel_rfl) (by simp) ?_
      refine AllReadyH.cons (by simp only [List.getElem?_toArray, List.getElem?_cons_succ, List.getElem?_cons_zero]; rfl) (fun K hK => ?_) AllReadyH.nil
      go_simp
      refine hK.out _ _ (by exact ⟨cellB (blk_setCell_ne hm3 HQB.out _) (i := 0) rfl, cellB (blk_setCell_ne hm3 HQB.out _) (i := 1) rfl⟩) (fun hS => ?_)
      clear hK K
      try simp only [Act.put, List.setIfInBounds_toArray, List.set_cons_zero, List.set_cons_succ]
      refine wpAnyH_done (by kernel_rfl) ?_ _
      go_end0
      rw [HQ.out]
      exact ⟨_, rfl, blk_setCell hq3 _, own_kept (by rw [H0.out.2.2.2.2.2.1]; exact H3.out.1) ((Chg.refl [u.q] w3).setCell _ _ (by simp)) (fun k hk hm => by simp at hk; subst hk; obtain ⟨cs, hcs⟩ := own_cells H3.out.1 _ hm; exact cells_ne hq3 hcs (by decide) rfl), HFin.out _ w3 _ ((Chg.refl [] w1).alloc _).drew H3.out.2.1, HSm.out _ _ ((Chg.refl [] w1).alloc _).drew H3.out.2.2⟩
  · rw [hidx]
    have hin' : n = i := hin.symm
    subst hin'
    clear hidx
    go_wp2
    refine wp_region_held_drew (S := fun W => W.cell? ⟨bm, 0, none⟩ = some (.int .i64 m1) ∧ W.cell? ⟨bm, 1, none⟩ = some (.int .i64 m2)) (by kernel_rfl) (by exact ⟨d0, d1⟩) (fun hS => ?_)
    refine wpAnyH_take (i := 0) (v := ?_) (by simp only [List.getElem?_toArray, List.getElem?_cons_zero]; rfl) (by kernel_rfl) (by kernel_rfl) (by kernel_rfl) (by exact fun _ _ _ h => h) (Or.inl ⟨by kernel_rfl, ?_⟩) hS ?_
    case refine_2 => ((intro w hSw; (try dsimp only at hSw); go_simp) <;> with_reducible rfl)
    try simp only [Act.put, List.setIfInBounds_toArray, List.set_cons_zero, List.set_cons_succ]
    refine wpAnyH_take (i := 1) (v := ?_) (by simp only [List.getElem?_toArray, List.getElem?_cons_succ, List.getElem?_cons_zero]; rfl) (by kernel_rfl) (by kernel_rfl) (by kernel_rfl) (by exact fun _ _ _ h => h) (Or.inl ⟨by kernel_rfl, ?_⟩) hS ?_
    case refine_2 => ((intro w hSw; (try dsimp only at hSw); go_simp) <;> with_reducible rfl)
    try simp only [Act.put, List.setIfInBounds_toArray, List.set_cons_zero, List.set_cons_succ]
    refine wpAnyH_take (i := 2) (v := ?_) (by simp only [List.getElem?_toArray, List.getElem?_cons_succ, List.getElem?_cons_zero]; rfl) (by kernel_rfl) (by kernel_rfl) (by kernel_rfl) (by exact fun _ _ _ h => h) (Or.inl ⟨by kernel_rfl, ?_⟩) hS ?_
    case refine_2 => ((intro w hSw; (try dsimp only at hSw); go_simp) <;> with_reducible rfl)
    try simp only [Act.put, List.setIfInBounds_toArray, List.set_cons_zero, List.set_cons_succ]
    refine wpAnyH_take (i := 3) (v := ?_) (by simp only [List.getElem?_toArray, List.getElem?_cons_succ, List.getElem?_cons_zero]; rfl) (by kernel_rfl) (by kernel_rfl) (by kernel_rfl) (by exact fun _ _ _ h => h) (Or.inl ⟨by kernel_rfl, ?_⟩) hS ?_
    case refine_2 => ((intro w hSw; (try dsimp only at hSw); go_simp) <;> with_reducible rfl)
    try simp only [Act.put, List.setIfInBounds_toArray, List.set_cons_zero, List.set_cons_succ]
    refine wpAnyH_take (i := 5) (v := ?_) (by simp only [List.getElem?_toArray, List.getElem?_cons_succ, List.getElem?_cons_zero]; rfl) (by kernel_rfl) (by kernel_rfl) (by kernel_rfl) (by exact fun _ _ _ h => h) (Or.inl ⟨by kernel_rfl, ?_⟩) hS ?_
    case refine_2 => ((intro w hSw; (try dsimp only at hSw); go_simp) <;> with_reducible rfl)
    try simp only [Act.put, List.setIfInBounds_toArray, List.set_cons_zero, List.set_cons_succ]
    refine wpAnyH_take (i := 6) (v := ?_) (by simp only [List.getElem?_toArray, List.getElem?_cons_succ, List.getElem?_cons_zero]; rfl) (by kernel_rfl) (by kernel_rfl) (by kernel_rfl) (by exact fun _ _ _ h => h) (Or.inl ⟨by kernel_rfl, ?_⟩) hS ?_
    case refine_2 => ((intro w hSw; (try dsimp only at hSw); go_simp) <;> with_reducible rfl)
    try simp only [Act.put, List.setIfInBounds_toArray, List.set_cons_zero, List.set_cons_succ]
    refine wpAnyH_ready (rs := [4, 7]) (by kernel_rfl) (by simp) ?_
    refine AllReadyH.cons (by simp only [List.getElem?_toArray, List.getElem?_cons_succ, List.getElem?_cons_zero]; rfl) (fun K hK => ?_) (AllReadyH.cons (by simp only [List.getElem?_toArray, List.getElem?_cons_succ, List.getElem?_cons_zero]; rfl) (fun K hK => ?_) AllReadyH.nil)
    · go_simp
      refine hK.out _ _ (by exact ⟨d0, d1⟩) (fun hS => ?_)
      clear hK K
      try simp only [Act.put, List.setIfInBounds_toArray, List.set_cons_zero, List.set_cons_succ]
      refine wpAnyH_ready (rs := [7]) (by kernel_rfl) (by simp) ?_
      refine AllReadyH.cons (by simp only [List.getElem?_toArray, List.getElem?_cons_succ, List.getElem?_cons_zero]; rfl) (fun K hK => ?_) AllReadyH.nil
      go_simp
      refine hK.out _ _ (by exact ⟨cellB (blk_alloc hm1 _) (i := 0) rfl, cellB (blk_alloc hm1 _) (i := 1) rfl⟩) (fun hS => ?_)
      clear hK K
      try simp only [Act.put, List.setIfInBounds_toArray, List.set_cons_zero, List.set_cons_succ]
      refine wpAnyH_ready (rs := [8]) (by kernel_rfl) (by simp) ?_
      refine AllReadyH.cons (by simp only [List.getElem?_toArray, List.getElem?_cons_succ, List.getElem?_cons_zero]; rfl) (fun K hK => ?_) AllReadyH.nil
      go_simp
      go_at_call 75
      refine (HIN.out _ ⟨((Chg.refl [] w1).alloc _).drew, heap_alloc_eq w1 _⟩).mono ?_
      rintro e w3 ⟨v', rfl, hv', hC3, hs3⟩
      obtain ⟨a', cap', rfl⟩ := own_slice hv'
      have H3 := Lib.hid (And.intro hv' (And.intro hC3 hs3))
      clear hv' hC3 hs3 hS
      have hq3 := H3.out.2.1.blk (blk_alloc hq1 _) H0.out.2.2.2.2.2.2.1
      have hm3 := H3.out.2.1.blk (blk_alloc hm1 _) HBM.out
      have e1 := cellB hq3 (i := 1) (v := .slice a n cap) rfl
      have e2 := frozenB hq3 1
      go_wp2_with fail
      refine hK.out _ _ (by exact ⟨cellB hm3 (i := 0) rfl, cellB hm3 (i := 1) rfl⟩) (fun hS => ?_)
      clear hK K
      try simp only [Act.put, List.setIfInBounds_toArray, List.set_cons_zero, List.set_cons_succ]
      refine wpAnyH_take (i := 9) (v := ?_) (by simp only [List.getElem?_toArray, List.getElem?_cons_succ, List.getElem?_cons_zero]; rfl) (by kernel_rfl) (by kernel_rfl) (by kernel_rfl) (by exact fun _ _ _ h => h) (Or.inl ⟨by kernel_rfl, ?_⟩) hS ?_
      case refine_2 => ((intro w hSw; (try dsimp only at hSw); go_simp) <;> with_reducible rfl)
      try simp only [Act.put, List.setIfInBounds_toArray, List.set_cons_zero, List.set_cons_succ]
      refine wpAnyH_take (i := 10) (v := ?_) (by simp only [List.getElem?_toArray, List.getElem?_cons_succ, List.getElem?_cons_zero]; rfl) (by kernel_rfl) (by kernel_rfl) (by kernel_rfl) (by exact fun _ _ _ h => h) (Or.inl ⟨by kernel_rfl, ?_⟩) hS ?_
      case refine_2 => ((intro w hSw; (try dsimp only at hSw); go_simp) <;> with_reducible rfl)
      try simp only [Act.put, List.setIfInBounds_toArray, List.set_cons_zero, List.set_cons_succ]
      refine wpAnyH_ready (rs := [11]) (by kernel_rfl) (by simp) ?_
      refine AllReadyH.cons (by simp only [List.getElem?_toArray, List.getElem?_cons_succ, List.getElem?_cons_zero]; rfl) (fun K hK => ?_) AllReadyH.nil
      go_simp
      refine hK.out _ _ (by exact ⟨cellB (blk_setCell_ne hm3 HQB.out _) (i := 0) rfl, cellB (blk_setCell_ne hm3 HQB.out _) (i := 1) rfl⟩) (fun hS => ?_)
      clear hK K
      try simp only [Act.put, List.setIfInBounds_toArray, List.set_cons_zero, List.set_cons_succ]
      refine wpAnyH_done (by kernel_rfl) ?_ _
      go_end0
      rw [HQ.out]
      exact ⟨_, rfl, blk_setCell hq3 _, own_kept (by rw [H0.out.2.2.2.2.2.1]; exact H3.out.1) ((Chg.refl [u.q] w3).setCell _ _ (by simp)) (fun k hk hm => by simp at hk; subst hk; obtain ⟨cs, hcs⟩ := own_cells H3.out.1 _ hm; exact cells_ne hq3 hcs (by decide) rfl), HFin.out _ w3 _ ((Chg.refl [] w1).alloc _).drew H3.out.2.1, HSm.out _ _ ((Chg.refl [] w1).alloc _).drew H3.out.2.2⟩
    · have c1' := cellB (blk_alloc hq1 (.cells #[.int .i64 m1, .int .i64 m2] 33)) (i := 1) (v := .slice a n cap) rfl
      go_simp
      refine hK.out _ _ (by exact ⟨cellB (blk_alloc hm1 _) (i := 0) rfl, cellB (blk_alloc hm1 _) (i := 1) rfl⟩) (fun hS => ?_)
      clear hK K
      try simp only [Act.put, List.setIfInBounds_toArray, List.set_cons_zero, List.set_cons_succ]
      refine wpAnyH_ready (rs := [4]) (by kernel_rfl) (by simp) ?_
      refine AllReadyH.cons (by simp only [List.getElem?_toArray, List.getElem?_cons_succ, List.getElem?_cons_zero]; rfl) (fun K hK => ?_) AllReadyH.nil
      go_simp
      refine hK.out _ _ (by exact ⟨cellB (blk_alloc hm1 _) (i := 0) rfl, cellB (blk_alloc hm1 _) (i := 1) rfl⟩) (fun hS => ?_)
      clear hK K
      try simp only [Act.put, List.setIfInBounds_toArray, List.set_cons_zero, List.set_cons_succ]
      refine wpAnyH_ready (rs := [8]) (by kernel_rfl) (by simp) ?_
      refine AllReadyH.cons (by simp only [List.getElem?_toArray, List.getElem?_cons_succ, List.getElem?_cons_zero]; rfl) (fun K hK => ?_) AllReadyH.nil
      go_simp
      go_at_call 75
      refine (HIN.out _ ⟨((Chg.refl [] w1).alloc _).drew, heap_alloc_eq w1 _⟩).mono ?_
      rintro e w3 ⟨v', rfl, hv', hC3, hs3⟩
      obtain ⟨a', cap', rfl⟩ := own_slice hv'
      have H3 := Lib.hid (And.intro hv' (And.intro hC3 hs3))
      clear hv' hC3 hs3 hS
      have hq3 := H3.out.2.1.blk (blk_alloc hq1 _) H0.out.2.2.2.2.2.2.1
      have hm3 := H3.out.2.1.blk (blk_alloc hm1 _) HBM.out
      have e1 := cellB hq3 (i := 1) (v := .slice a n cap) rfl
      have e2 := frozenB hq3 1
      go_wp2_with fail
      refine hK.out _ _ (by exact ⟨cellB hm3 (i := 0) rfl, cellB hm3 (i := 1) rfl⟩) (fun hS => ?_)
      clear hK K
      try simp only [Act.put, List.setIfInBounds_toArray, List.set_cons_zero, List.set_cons_succ]
      refine wpAnyH_take (i := 9) (v := ?_) (by simp only [List.getElem?_toArray, List.getElem?_cons_succ, List.getElem?_cons_zero]; rfl) (by kernel_rfl) (by kernel_rfl) (by kernel_rfl) (by exact fun _ _ _ h => h) (Or.inl ⟨by kernel_rfl, ?_⟩) hS ?_
      case refine_2 => ((intro w hSw; (try dsimp only at hSw); go_simp) <;> with_reducible rfl)
      try simp only [Act.put, List.setIfInBounds_toArray, List.set_cons_zero, List.set_cons_succ]
      refine wpAnyH_take (i := 10) (v := ?_) (by simp only [List.getElem?_toArray, List.getElem?_cons_succ, List.getElem?_cons_zero]; rfl) (by kernel_rfl) (by kernel_rfl) (by kernel_rfl) (by exact fun _ _ _ h => h) (Or.inl ⟨by kernel_rfl, ?_⟩) hS ?_
      case refine_2 => ((intro w hSw; (try dsimp only at hSw); go_simp) <;> with_reducible rfl)
      try simp only [Act.put, List.setIfInBounds_toArray, List.set_cons_zero, List.set_cons_succ]
      refine wpAnyH_ready (rs := [11]) (by kernel_rfl) (by simp) ?_
      refine AllReadyH.cons (by simp only [List.getElem?_toArray, List.getElem?_cons_succ, List.getElem?_cons_zero]; rfl) (fun K hK => ?_) AllReadyH.nil
      go_simp
      refine hK.out _ _ (by exact ⟨cellB (blk_setCell_ne hm3 HQB.out _) (i := 0) rfl, cellB (blk_setCell_ne hm3 HQB.out _) (i := 1) rfl⟩) (fun hS => ?_)
      clear hK K
      try simp only [Act.put, List.setIfInBounds_toArray, List.set_cons_zero, List.set_cons_succ]
      refine wpAnyH_done (by kernel_rfl) ?_ _
      go_end0
      rw [HQ.out]
      exact ⟨_, rfl, blk_setCell hq3 _, own_kept (by rw [H0.out.2.2.2.2.2.1]; exact H3.out.1) ((Chg.refl [u.q] w3).setCell _ _ (by simp)) (fun k hk hm => by simp at hk; subst hk; obtain ⟨cs, hcs⟩ := own_cells H3.out.1 _ hm; exact cells_ne hq3 hcs (by decide) rfl), HFin.out _ w3 _ ((Chg.refl [] w1).alloc _).drew H3.out.2.1, HSm.out _ _ ((Chg.refl [] w1).alloc _).drew H3.out.2.2⟩

end Go.Proofs.YtiiafhlckmkcnaaGreat
