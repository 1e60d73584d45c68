
/- The wheel: Set: contract (written by wip/wheel2.py). -/
import Derived.Test.YtonahpilmchnkaaHe
namespace Go.Proofs.Ytonahpilmchnkaa
open Go.RowKit

/-- One more deadline at the end of a ring. -/
theorem run_ring {w : World} {v : Value} {l : HL} (hown : w.ownsRow 0 84 3 v l.length (flatH l)) (hl : l.length ≤ 1000000) (x : H1) (g : Nat) (hx : w.heap[g]? = some (.cells #[.int .i64 x.1, .int .i64 x.2.1, .int .i64 x.2.2] 84 (0, 0))) :
    ∃ v' w', (Builtin.append_ #[78, 78] 78 #[v, .slice (some ⟨g, 0, none⟩) 1 1]).run Try.prog w = .ok v' w' ∧ w'.ownsRow 0 84 3 v' (l ++ [x]).length (flatH (l ++ [x])) ∧ Chg v.ownBlock.toList w w' ∧ (v'.ownBlock = v.ownBlock ∨ ∃ k, w.heap.size ≤ k ∧ v'.ownBlock = some k) := by
  obtain ⟨i0, hi, hz0, hz1, hz2⟩ := info_parts infoHone
  have hs : SrcAt w (.slice (some ⟨g, 0, none⟩) 1 1) 1 (rowV x) := .inr ⟨_, _, rfl, fun j u hj => by
    rw [show ((⟨g, 0, none⟩ : Addr).add j) = ⟨g, j, none⟩ by unfold Addr.add; split <;> simp_all]
    exact cellB hx (by simpa [rowV] using hj)⟩
  obtain ⟨v', w', hr, h2, h3, h4⟩ := run_more (P := Try.prog) (w := w) 0 78 78 84 i0 (.agg #[.int .i64 0, .int .i64 0, .int .i64 0]) 3 24 Try.underlying78 hi hz0 hz1 hz2 rfl (by decide)
    v l.length (flatH l) hown _ 1 (rowV x) hs rfl (by intro u hu; simp [rowV] at hu; rcases hu with rfl | rfl | rfl <;> rfl) (by unfold maxLen; omega) (by omega) (Nat.zero_le _)
  refine ⟨v', w', hr, ?_, h3, h4⟩
  rw [List.length_append, flatH_app]
  simpa [flatH] using h2

set_option maxRecDepth 100000 in
set_option maxHeartbeats 1000000 in
theorem setc_no (b : Nat) (vs : List Value) (s : HS) (n t : Int) (w : World) (h : HAt w b vs s) (hno : ¬ (okId n ∧ okAt t)) :
    Calls Try.prog 27 #[.pointer (some ⟨b, 0, none⟩), .int .i64 n, .int .i64 t] w fun e w' => e = .returned (.int .i64 2) ∧ w = w' := by
  have HI := Lib.hid (hisc b vs s w h)
  have HD := Lib.hid (hidc n w)
  clear h
  by_cases h1 : okId n
  · have e1 : decide (okId n) = true := decide_eq_true h1
    rw [e1] at HD
    have h2 : t < 0 ∨ (¬ t < 0 ∧ 1099511627776 < t) := by unfold okAt at hno; have : ¬ (0 ≤ t ∧ t ≤ 1099511627776) := fun h => hno ⟨h1, h⟩; omega
    clear h1 hno e1
    rcases h2 with h2 | ⟨h2, h3⟩
    all_goals
      go_enter Try.func27, Try.ntmps27
      go_wp2_with (first | (go_at_call 42; refine HI.out.mono ?_; rintro e w' ⟨rfl, rfl⟩) | (go_at_call 43; refine HD.out.mono ?_; rintro e w' ⟨rfl, rfl⟩))
      go_ret
      exact ⟨rfl, rfl⟩
  · have e1 : decide (okId n) = false := decide_eq_false h1
    rw [e1] at HD
    clear h1 hno e1
    go_enter Try.func27, Try.ntmps27
    go_wp2_with (first | (go_at_call 42; refine HI.out.mono ?_; rintro e w' ⟨rfl, rfl⟩) | (go_at_call 43; refine HD.out.mono ?_; rintro e w' ⟨rfl, rfl⟩))
    go_ret
    exact ⟨rfl, rfl⟩

def SetPost (b : Nat) (vs : List Value) (s' : HS) (w : World) (e : Ending) (w' : World) : Prop :=
  e = .returned (.int .i64 0) ∧ ∃ vs', HAt w' b vs' s' ∧ Chg (blocksH b vs) w w' ∧ (∀ k ∈ blocksH b vs', k ∈ blocksH b vs ∨ w.heap.size ≤ k)

theorem set_end {b i T k : Nat} {vs vs1 : List Value} {s : HS} {w w1 w2 w3 w4 w5 : World} {v v' : Value} {m : Int} (hi : i < 64) (hT : T ≤ 1099511627776) (hke : (k : Int) = (T : Int) % 64)
    (h1 : HAt w1 b vs1 ⟨delH s.M i, s.c⟩) (hC1 : Chg (blocksH b vs) w w1) (hB1 : ∀ k ∈ blocksH b vs1, k ∈ blocksH b vs ∨ w.heap.size ≤ k)
    (hC2 : Chg [b] w1 w2) (hv : vs1[k]? = some v) (hC3 : Chg [] w2 w3) (ho4 : w4.ownsRow 0 84 3 v' (ringH (delH s.M i) k ++ [((i : Int), (T : Int), s.c + 1)]).length (flatH (ringH (delH s.M i) k ++ [((i : Int), (T : Int), s.c + 1)])))
    (hC4 : Chg v.ownBlock.toList w3 w4) (hv4 : v'.ownBlock = v.ownBlock ∨ ∃ k, w3.heap.size ≤ k ∧ v'.ownBlock = some k)
    (hb5 : w5.heap[b]? = some (.cells (wcl (vs1.set k v') (wherL (delH s.M i)) (s.c + 1) (delH s.M i).length) 82 (0, 0))) (hC5 : Chg [b] w4 w5) (hm : m = (delH s.M i).length) :
    SetPost b vs ⟨delH s.M i ++ [((i : Int), (T : Int), s.c + 1)], s.c + 1⟩ w (.returned (.int .i64 0)) ((w5.setCell ⟨b, 65 + i, none⟩ (.int .i64 ((k : Int) + 1))).setCell ⟨b, 130, none⟩ (.int .i64 (m + 1))) := by
  have hl5 : (vs1.set k v').length = 64 := by rw [List.length_set]; exact h1.len
  have hdel := del_has s.M i
  have hx : ((i : Int), (T : Int), s.c + 1).1 = (i : Int) := rfl
  obtain ⟨w7, hw7⟩ : ∃ w7, w7 = (w5.setCell ⟨b, 65 + i, none⟩ (.int .i64 ((k : Int) + 1))).setCell ⟨b, 130, none⟩ (.int .i64 (m + 1)) := ⟨_, rfl⟩
  rw [← hw7]
  have hb7 : w7.heap[b]? = some (.cells (wcl (vs1.set k v') (wherL (delH s.M i ++ [((i : Int), (T : Int), s.c + 1)])) (s.c + 1) (delH s.M i ++ [((i : Int), (T : Int), s.c + 1)]).length) 82 (0, 0)) := by
    rw [hw7, show (((delH s.M i ++ [((i : Int), (T : Int), s.c + 1)]).length : Nat) : Int) = m + 1 by rw [hm]; simp,
      ← wherL_set (M := delH s.M i) (i := i) (x := (k : Int) + 1) (by rw [where_snoc hdel, if_pos rfl, hke]) (fun j hj => by rw [where_snoc hdel, if_neg (by simp; omega)]),
      ← wcl_setN (m := (delH s.M i).length) hl5 (by rw [List.length_set]; exact wherL_len _), ← wcl_setW hl5 (wherL_len _) hi]
    exact blk_setCell (blk_setCell hb5 _) _
  have hC7 : Chg [b] w4 w7 := by rw [hw7]; exact (hC5.setCell _ _ (by simp)).setCell _ _ (by simp)
  have hbv := h1.notb hv
  have hbl := h1.lt b (mem_blocks.2 (.inl rfl))
  have hs2 := hC2.size
  have hs3 := hC3.size
  have hbv' : b ∉ v'.ownBlock.toList := by
    rcases hv4 with e | ⟨q, hq, e⟩
    · rw [e]; exact hbv
    · rw [e]; simp; omega
  have hC17 : Chg (b :: v.ownBlock.toList) w1 w7 := (((hC2.mono (by simp)).trans (hC3.mono (by simp))).trans (hC4.mono (fun x hx => .inl (List.mem_cons_of_mem _ hx)))).trans (hC7.mono (by simp))
  have hown7 := own_kept ho4 hC7 (fun x hx => by simp at hx; subst hx; exact hbv')
  have hring := ring_snoc (delH s.M i) ((i : Int), (T : Int), s.c + 1)
  obtain ⟨hA, hB⟩ := h1.reput (s' := ⟨delH s.M i ++ [((i : Int), (T : Int), s.c + 1)], s.c + 1⟩) hC17 hv (v' := v')
    (fun x hx => by rcases List.mem_cons.1 hx with rfl | hx; exact .inl rfl; exact .inr (.inl hx)) hb7
    (by rw [hring k, if_pos hke]; exact hown7)
    (fun x hx => by
      rcases hv4 with e | ⟨q, hq, e⟩
      · rw [e] at hx; exact .inl hx
      · rw [e] at hx; simp at hx; subst hx; exact .inr (by omega))
    (fun j hj => by rw [hring j, if_neg (by simp only; omega)])
    (h1.inv.snoc (by unfold okId; omega) (by unfold okAt; omega) hdel)
  have hs1 := hC1.size
  refine ⟨rfl, _, hA, hC1.trans' hC17 (fun x hx => ?_), fun x hx => ?_⟩
  · have : x ∈ blocksH b vs1 := by
      rcases List.mem_cons.1 hx with rfl | hx
      · exact mem_blocks.2 (.inl rfl)
      · exact mem_blocks.2 (.inr ⟨k, v, hv, hx⟩)
    exact hB1 x this
  · rcases hB x hx with h | h
    · exact hB1 x h
    · exact .inr (by omega)

set_option maxRecDepth 100000 in
set_option maxHeartbeats 4000000 in
theorem setc_ok (b : Nat) (vs : List Value) (s : HS) (i T : Nat) (w : World) (h : HAt w b vs s) (hi : i < 64) (hT : T ≤ 1099511627776) (hc : s.c < 4611686018427387904) :
    Calls Try.prog 27 #[.pointer (some ⟨b, 0, none⟩), .int .i64 (i : Int), .int .i64 (T : Int)] w (SetPost b vs ⟨delH s.M i ++ [((i : Int), (T : Int), s.c + 1)], s.c + 1⟩ w) := by
  have HI := Lib.hid (hisc b vs s w h)
  have e1 : decide (okId (i : Int)) = true := decide_eq_true (by unfold okId; omega)
  have hD := hidc (i : Int) w
  rw [e1] at hD
  have HD := Lib.hid hD
  have hiz : (i : Int) < 64 := by omega
  have hT0 : decide ((T : Int) < 0) = false := decide_eq_false (by omega)
  have hT1 : decide ((1099511627776 : Int) < (T : Int)) = false := decide_eq_false (by omega)
  obtain ⟨k, hk⟩ : ∃ k : Nat, k = T % 64 := ⟨_, rfl⟩
  have hk64 : k < 64 := by omega
  have hkz : (k : Int) < 64 := by omega
  have hkm : Int.tmod (T : Int) 64 = (k : Int) := by rw [hk]; rfl
  have hkr : IntKind.i64.wrap (k : Int) = (k : Int) := by rw [IntKind.wrap_i64]; omega
  have hke : (k : Int) = (T : Int) % 64 := by omega
  have hc0 := h.inv.c0
  have cW := h.cW hi
  have HT := Lib.hid (And.intro h (And.intro hke hT))
  clear hD e1 hk hke hT
  rcases where_has (M := s.M) (n := i) with ⟨hw, hf⟩ | ⟨x, hx, hxi, hw, ht, _⟩
  · rw [hw] at cW
    have H1 := Lib.hid (show HAt w b vs ⟨delH s.M i, s.c⟩ ∧ Chg (blocksH b vs) w w ∧ (∀ k ∈ blocksH b vs, k ∈ blocksH b vs ∨ w.heap.size ≤ k) from by rw [del_none hf]; exact ⟨h, Chg.refl _ _, fun k hk => .inl hk⟩)
    have cS := h.cC
    have cSf := h.cfr
    clear hw hf h
    go_enter Try.func27, Try.ntmps27
    go_wp2_with (first | (go_at_call 42; refine HI.out.mono ?_; rintro e w' ⟨rfl, rfl⟩) | (go_at_call 43; refine HD.out.mono ?_; rintro e w' ⟨rfl, rfl⟩))
    obtain ⟨v, hv⟩ : ∃ v, vs[k]? = some v := ⟨_, List.getElem?_eq_getElem (by rw [H1.out.1.len]; exact hk64)⟩
    obtain ⟨w2, hw2⟩ : ∃ w2, w2 = w.setCell ⟨b, 129, none⟩ (.int .i64 (s.c + 1)) := ⟨_, rfl⟩
    rw [← hw2]
    have hb2 : w2.heap[b]? = some (.cells (wcl vs (wherL (delH s.M i)) (s.c + 1) (delH s.M i).length) 82 (0, 0)) := by
      rw [hw2, ← wcl_setC H1.out.1.len (wherL_len _)]
      exact blk_setCell H1.out.1.head _
    have hC2 : Chg [b] w w2 := by rw [hw2]; exact (Chg.refl [b] w).setCell _ _ (by simp)
    have hown2 := own_kept (H1.out.1.own k v hv) hC2 (fun x hx => by simp at hx; subst hx; exact H1.out.1.notb hv)
    dsimp only at hown2
    have cR2 := cellB (i := 1 + k) hb2 (by rw [wcl_ring H1.out.1.len hk64]; exact hv)
    have cC2 := cellB (i := 129) hb2 (wcl_c H1.out.1.len (wherL_len _))
    have f2 := frozenB hb2
    obtain ⟨bn, hbn⟩ : ∃ bn, bn = w2.heap.size := ⟨_, rfl⟩
    obtain ⟨w3, hw3⟩ : ∃ w3, w3 = (w2.alloc (.cells #[.int .i64 (i : Int), .int .i64 (T : Int), .int .i64 (s.c + 1)] 84 (0, 0))).drew := ⟨_, rfl⟩
    have hb3 : w3.heap[b]? = some (.cells (wcl vs (wherL (delH s.M i)) (s.c + 1) (delH s.M i).length) 82 (0, 0)) := by rw [hw3]; exact blk_alloc (w := w2) hb2 _
    have hC3 : Chg [] w2 w3 := by rw [hw3]; exact ((Chg.refl [] w2).alloc _).drew
    have hnew : w3.heap[bn]? = some (.cells #[.int .i64 (i : Int), .int .i64 (T : Int), .int .i64 (s.c + 1)] 84 (0, 0)) := by rw [hw3, hbn]; exact heap_alloc_eq w2 _
    obtain ⟨v', w4, hr4, ho4, hC4, hv4⟩ := run_ring (own_kept hown2 hC3 (by simp)) (by have h1 := ring_len (delH s.M i) k; have h2 := H1.out.1.inv.few; simp only at h2; omega) ((i : Int), (T : Int), s.c + 1) bn hnew
    have hb4 : w4.heap[b]? = some (.cells (wcl vs (wherL (delH s.M i)) (s.c + 1) (delH s.M i).length) 82 (0, 0)) := hC4.blk hb3 (H1.out.1.notb hv)
    have hS3 := And.intro (cellB (i := 1 + k) hb3 (by rw [wcl_ring H1.out.1.len hk64]; exact hv)) (cellB (i := 129) hb3 (wcl_c H1.out.1.len (wherL_len _)))
    have hS4 := And.intro (cellB (i := 1 + k) hb4 (by rw [wcl_ring H1.out.1.len hk64]; exact hv)) (cellB (i := 129) hb4 (wcl_c H1.out.1.len (wherL_len _)))
    have f4 := frozenB hb4
    obtain ⟨n4, hn4⟩ : ∃ n4, n4 = (ringH (delH s.M i) k ++ [((i : Int), (T : Int), s.c + 1)]).length := ⟨_, rfl⟩
    obtain ⟨g4, cap4, rfl⟩ : ∃ g4 cap4, v' = .slice (some ⟨g4, 0, none⟩) n4 cap4 := by
      rcases ho4.2 with ⟨_, e2⟩ | ⟨g4, cap4, cur, e1, _⟩
      · simp at e2
      · exact ⟨g4, cap4, by rw [hn4]; exact e1⟩
    have HN := Lib.hid hn4
    clear hn4
    obtain ⟨w5, hw5⟩ : ∃ w5, w5 = w4.setCell ⟨b, 1 + k, none⟩ (.slice (some ⟨g4, 0, none⟩) n4 cap4) := ⟨_, rfl⟩
    have hb5 : w5.heap[b]? = some (.cells (wcl (vs.set k (.slice (some ⟨g4, 0, none⟩) n4 cap4)) (wherL (delH s.M i)) (s.c + 1) (delH s.M i).length) 82 (0, 0)) := by
      rw [hw5, ← wcl_setR H1.out.1.len hk64]
      exact blk_setCell hb4 _
    have hC5 : Chg [b] w4 w5 := by rw [hw5]; exact (Chg.refl [b] w4).setCell _ _ (by simp)
    have hS5 := cellB (i := 129) hb5 (wcl_c (by rw [List.length_set]; exact H1.out.1.len) (wherL_len _))
    have H5 := Lib.hid (And.intro hb5 hC5)
    obtain ⟨m, hm⟩ : ∃ m : Int, m = (delH s.M i).length := ⟨_, rfl⟩
    have hm64 : 0 ≤ m ∧ m ≤ 64 := by have h1 := H1.out.1.inv.few; simp only at h1; omega
    have HM := Lib.hid hm
    clear hm
    clear hb4 hb5 hC5
    have H2 := Lib.hid (And.intro hb2 (And.intro hC2 (And.intro hv (And.intro hC3 (And.intro hb3 (And.intro ho4 (And.intro hC4 hv4)))))))
    clear hb2 hC2 hown2 hC3 hb3 hnew ho4 hC4 hv4 cW hv cS cSf hw2
    refine wp_region_held_drew (S := fun w => w.cell? ⟨b, 129, none⟩ = some (.int .i64 (s.c + 1))) (by kernel_rfl) cC2 (fun hS => ?_)
    refine wpAnyH_take (i := 0) (v := ?_) (by simp only [List.getElem?_toArray, List.getElem?_cons_zero]; rfl) (by kernel_rfl) (by kernel_rfl) (by kernel_rfl) (by exact fun _ _ _ h => h) (Or.inl ⟨by kernel_rfl, ?_⟩) hS ?_
    case refine_2 => ((intro w hSw; (try dsimp only at hSw); go_simp) <;> with_reducible rfl)
    try simp only [Act.put, List.setIfInBounds_toArray, List.set_cons_zero, List.set_cons_succ]
    refine wpAnyH_take (i := 1) (v := ?_) (by simp only [List.getElem?_toArray, List.getElem?_cons_succ, List.getElem?_cons_zero]; rfl) (by kernel_rfl) (by kernel_rfl) (by kernel_rfl) (by exact fun _ _ _ h => h) (Or.inl ⟨by kernel_rfl, ?_⟩) hS ?_
    case refine_2 => ((intro w hSw; (try dsimp only at hSw); go_simp) <;> with_reducible rfl)
    try simp only [Act.put, List.setIfInBounds_toArray, List.set_cons_zero, List.set_cons_succ]
    refine wpAnyH_take (i := 2) (v := ?_) (by simp only [List.getElem?_toArray, List.getElem?_cons_succ, List.getElem?_cons_zero]; rfl) (by kernel_rfl) (by kernel_rfl) (by kernel_rfl) (by exact fun _ _ _ h => h) (Or.inl ⟨by kernel_rfl, ?_⟩) hS ?_
    case refine_2 => ((intro w hSw; (try dsimp only at hSw); go_simp) <;> with_reducible rfl)
    try simp only [Act.put, List.setIfInBounds_toArray, List.set_cons_zero, List.set_cons_succ]
    refine wpAnyH_take (i := 3) (v := ?_) (by simp only [List.getElem?_toArray, List.getElem?_cons_succ, List.getElem?_cons_zero]; rfl) (by kernel_rfl) (by kernel_rfl) (by kernel_rfl) (by exact fun _ _ _ h => h) (Or.inl ⟨by kernel_rfl, ?_⟩) hS ?_
    case refine_2 => ((intro w hSw; (try dsimp only at hSw); go_simp) <;> with_reducible rfl)
    try simp only [Act.put, List.setIfInBounds_toArray, List.set_cons_zero, List.set_cons_succ]
    refine wpAnyH_take (i := 4) (v := ?_) (by simp only [List.getElem?_toArray, List.getElem?_cons_succ, List.getElem?_cons_zero]; rfl) (by kernel_rfl) (by kernel_rfl) (by kernel_rfl) (by exact fun _ _ _ h => h) (Or.inl ⟨by kernel_rfl, ?_⟩) hS ?_
    case refine_2 => ((intro w hSw; (try dsimp only at hSw); go_simp) <;> with_reducible rfl)
    try simp only [Act.put, List.setIfInBounds_toArray, List.set_cons_zero, List.set_cons_succ]
    refine wpAnyH_take (i := 5) (v := ?_) (by simp only [List.getElem?_toArray, List.getElem?_cons_succ, List.getElem?_cons_zero]; rfl) (by kernel_rfl) (by kernel_rfl) (by kernel_rfl) (by exact fun _ _ _ h => h) (Or.inl ⟨by kernel_rfl, ?_⟩) hS ?_
    case refine_2 => ((intro w hSw; (try dsimp only at hSw); go_simp) <;> with_reducible rfl)
    try simp only [Act.put, List.setIfInBounds_toArray, List.set_cons_zero, List.set_cons_succ]
    refine wpAnyH_take (i := 6) (v := ?_) (by simp only [List.getElem?_toArray, List.getElem?_cons_succ, List.getElem?_cons_zero]; rfl) (by kernel_rfl) (by kernel_rfl) (by kernel_rfl) (by exact fun _ _ _ h => h) (Or.inl ⟨by kernel_rfl, ?_⟩) hS ?_
    case refine_2 => ((intro w hSw; (try dsimp only at hSw); go_simp) <;> with_reducible rfl)
    try simp only [Act.put, List.setIfInBounds_toArray, List.set_cons_zero, List.set_cons_succ]
    refine wpAnyH_take (i := 8) (v := ?_) (by simp only [List.getElem?_toArray, List.getElem?_cons_succ, List.getElem?_cons_zero]; rfl) (by kernel_rfl) (by kernel_rfl) (by kernel_rfl) (by exact fun _ _ _ h => h) (Or.inl ⟨by kernel_rfl, ?_⟩) hS ?_
    case refine_2 => ((intro w hSw; (try dsimp only at hSw); go_simp) <;> with_reducible rfl)
    try simp only [Act.put, List.setIfInBounds_toArray, List.set_cons_zero, List.set_cons_succ]
    refine wpAnyH_take (i := 9) (v := ?_) (by simp only [List.getElem?_toArray, List.getElem?_cons_succ, List.getElem?_cons_zero]; rfl) (by kernel_rfl) (by kernel_rfl) (by kernel_rfl) (by exact fun _ _ _ h => h) (Or.inl ⟨by kernel_rfl, ?_⟩) hS ?_
    case refine_2 => ((intro w hSw; (try dsimp only at hSw); go_simp) <;> with_reducible rfl)
    try simp only [Act.put, List.setIfInBounds_toArray, List.set_cons_zero, List.set_cons_succ]
    refine wpAnyH_take (i := 10) (v := ?_) (by simp only [List.getElem?_toArray, List.getElem?_cons_succ, List.getElem?_cons_zero]; rfl) (by kernel_rfl) (by kernel_rfl) (by kernel_rfl) (by exact fun _ _ _ h => h) (Or.inl ⟨by kernel_rfl, ?_⟩) hS ?_
    case refine_2 => ((intro w hSw; (try dsimp only at hSw); go_simp) <;> with_reducible rfl)
    try simp only [Act.put, List.setIfInBounds_toArray, List.set_cons_zero, List.set_cons_succ]
    refine wpAnyH_take (i := 11) (v := ?_) (by simp only [List.getElem?_toArray, List.getElem?_cons_succ, List.getElem?_cons_zero]; rfl) (by kernel_rfl) (by kernel_rfl) (by kernel_rfl) (by exact fun _ _ _ h => h) (Or.inl ⟨by kernel_rfl, ?_⟩) hS ?_
    case refine_2 => ((intro w hSw; (try dsimp only at hSw); go_simp) <;> with_reducible rfl)
    try simp only [Act.put, List.setIfInBounds_toArray, List.set_cons_zero, List.set_cons_succ]
    refine wpAnyH_take (i := 12) (v := ?_) (by simp only [List.getElem?_toArray, List.getElem?_cons_succ, List.getElem?_cons_zero]; rfl) (by kernel_rfl) (by kernel_rfl) (by kernel_rfl) (by exact fun _ _ _ h => h) (Or.inl ⟨by kernel_rfl, ?_⟩) hS ?_
    case refine_2 => ((intro w hSw; (try dsimp only at hSw); go_simp) <;> with_reducible rfl)
    try simp only [Act.put, List.setIfInBounds_toArray, List.set_cons_zero, List.set_cons_succ]
    refine wpAnyH_take (i := 13) (v := ?_) (by simp only [List.getElem?_toArray, List.getElem?_cons_succ, List.getElem?_cons_zero]; rfl) (by kernel_rfl) (by kernel_rfl) (by kernel_rfl) (by exact fun _ _ _ h => h) (Or.inl ⟨by kernel_rfl, ?_⟩) hS ?_
    case refine_2 => ((intro w hSw; (try dsimp only at hSw); go_simp) <;> with_reducible rfl)
    try simp only [Act.put, List.setIfInBounds_toArray, List.set_cons_zero, List.set_cons_succ]
    refine wpAnyH_take (i := 14) (v := ?_) (by simp only [List.getElem?_toArray, List.getElem?_cons_succ, List.getElem?_cons_zero]; rfl) (by kernel_rfl) (by kernel_rfl) (by kernel_rfl) (by exact fun _ _ _ h => h) (Or.inl ⟨by kernel_rfl, ?_⟩) hS ?_
    case refine_2 => ((intro w hSw; (try dsimp only at hSw); go_simp) <;> with_reducible rfl)
    try simp only [Act.put, List.setIfInBounds_toArray, List.set_cons_zero, List.set_cons_succ]
    refine wpAnyH_take (i := 17) (v := ?_) (by simp only [List.getElem?_toArray, List.getElem?_cons_succ, List.getElem?_cons_zero]; rfl) (by kernel_rfl) (by kernel_rfl) (by kernel_rfl) (by exact fun _ _ _ h => h) (Or.inl ⟨by kernel_rfl, ?_⟩) hS ?_
    case refine_2 => ((intro w hSw; (try dsimp only at hSw); go_simp) <;> with_reducible rfl)
    try simp only [Act.put, List.setIfInBounds_toArray, List.set_cons_zero, List.set_cons_succ]
    refine wpAnyH_take (i := 18) (v := ?_) (by simp only [List.getElem?_toArray, List.getElem?_cons_succ, List.getElem?_cons_zero]; rfl) (by kernel_rfl) (by kernel_rfl) (by kernel_rfl) (by exact fun _ _ _ h => h) (Or.inl ⟨by kernel_rfl, ?_⟩) hS ?_
    case refine_2 => ((intro w hSw; (try dsimp only at hSw); go_simp) <;> with_reducible rfl)
    try simp only [Act.put, List.setIfInBounds_toArray, List.set_cons_zero, List.set_cons_succ]
    refine wpAnyH_ready (rs := [7, 15]) (by kernel_rfl) (by simp) ?_
    refine AllReadyH.cons (by simp only [List.getElem?_toArray, List.getElem?_cons_succ, List.getElem?_cons_zero]; rfl) (fun K hK => ?_) (AllReadyH.cons (by simp only [List.getElem?_toArray, List.getElem?_cons_succ, List.getElem?_cons_zero]; rfl) (fun K hK => ?_) AllReadyH.nil)
    · go_simp
      refine hK.out _ _ hS (fun hS => ?_)
      clear hK K
      try simp only [Act.put, List.setIfInBounds_toArray, List.set_cons_zero, List.set_cons_succ]
      refine wpAnyH_ready (rs := [15]) (by kernel_rfl) (by simp) ?_
      refine AllReadyH.cons (by simp only [List.getElem?_toArray, List.getElem?_cons_succ, List.getElem?_cons_zero]; rfl) (fun K hK => ?_) AllReadyH.nil
      go_simp
      rw [← hbn, ← hw3]
      clear hbn hw3
      refine hK.out _ _ hS3.2 (fun hS => ?_)
      clear hK K
      try simp only [Act.put, List.setIfInBounds_toArray, List.set_cons_zero, List.set_cons_succ]
      refine wpAnyH_ready (rs := [16]) (by kernel_rfl) (by simp) ?_
      refine AllReadyH.cons (by simp only [List.getElem?_toArray, List.getElem?_cons_succ, List.getElem?_cons_zero]; rfl) (fun K hK => ?_) AllReadyH.nil
      refine step_run rfl _ _ 78 78 rfl rfl v (.slice (some ⟨bn, 0, none⟩) 1 1) (.slice (some ⟨g4, 0, none⟩) n4 cap4) (by rfl) (by rfl) w4 hr4 ?_
      refine hK.out _ _ hS4.2 (fun hS => ?_)
      clear hK K
      try simp only [Act.put, List.setIfInBounds_toArray, List.set_cons_zero, List.set_cons_succ]
      refine wpAnyH_take (i := 19) (v := ?_) (by simp only [List.getElem?_toArray, List.getElem?_cons_succ, List.getElem?_cons_zero]; rfl) (by kernel_rfl) (by kernel_rfl) (by kernel_rfl) (by exact fun _ _ _ h => h) (Or.inl ⟨by kernel_rfl, ?_⟩) hS ?_
      case refine_2 => ((intro w hSw; (try dsimp only at hSw); go_simp) <;> with_reducible rfl)
      try simp only [Act.put, List.setIfInBounds_toArray, List.set_cons_zero, List.set_cons_succ]
      refine wpAnyH_ready (rs := [20]) (by kernel_rfl) (by simp) ?_
      refine AllReadyH.cons (by simp only [List.getElem?_toArray, List.getElem?_cons_succ, List.getElem?_cons_zero]; rfl) (fun K hK => ?_) AllReadyH.nil
      go_simp
      rw [← hw5]
      refine hK.out _ _ hS5 (fun hS => ?_)
      clear hK K hS
      try simp only [Act.put, List.setIfInBounds_toArray, List.set_cons_zero, List.set_cons_succ]
      refine wpAnyH_done (by kernel_rfl) ?_ _
      have cW5 := cellB (i := 65 + i) H5.out.1 (by rw [wcl_where (by rw [List.length_set]; exact H1.out.1.len) (wherL_len _) hi]; exact wherL_at hi)
      have cN5 := cellB (i := 130) H5.out.1 (wcl_n (by rw [List.length_set]; exact H1.out.1.len) (wherL_len _))
      have f5 := frozenB H5.out.1
      rw [← HM.out] at cN5
      have HS5 := Lib.hid hS5
      clear hS5 hS3 hS4 f4 f2 cR2 hw5 hr4
      go_wp2
      go_ret
      exact set_end hi HT.out.2.2 HT.out.2.1 H1.out.1 H1.out.2.1 H1.out.2.2 H2.out.2.1 H2.out.2.2.1 H2.out.2.2.2.1 H2.out.2.2.2.2.2.1 H2.out.2.2.2.2.2.2.1 H2.out.2.2.2.2.2.2.2 H5.out.1 H5.out.2 HM.out
    · go_simp
      rw [← hbn, ← hw3]
      clear hbn hw3
      refine hK.out _ _ hS3.2 (fun hS => ?_)
      clear hK K
      try simp only [Act.put, List.setIfInBounds_toArray, List.set_cons_zero, List.set_cons_succ]
      refine wpAnyH_ready (rs := [7]) (by kernel_rfl) (by simp) ?_
      refine AllReadyH.cons (by simp only [List.getElem?_toArray, List.getElem?_cons_succ, List.getElem?_cons_zero]; rfl) (fun K hK => ?_) AllReadyH.nil
      go_simp
      refine hK.out _ _ hS (fun hS => ?_)
      clear hK K
      try simp only [Act.put, List.setIfInBounds_toArray, List.set_cons_zero, List.set_cons_succ]
      refine wpAnyH_ready (rs := [16]) (by kernel_rfl) (by simp) ?_
      refine AllReadyH.cons (by simp only [List.getElem?_toArray, List.getElem?_cons_succ, List.getElem?_cons_zero]; rfl) (fun K hK => ?_) AllReadyH.nil
      refine step_run rfl _ _ 78 78 rfl rfl v (.slice (some ⟨bn, 0, none⟩) 1 1) (.slice (some ⟨g4, 0, none⟩) n4 cap4) (by rfl) (by rfl) w4 hr4 ?_
      refine hK.out _ _ hS4.2 (fun hS => ?_)
      clear hK K
      try simp only [Act.put, List.setIfInBounds_toArray, List.set_cons_zero, List.set_cons_succ]
      refine wpAnyH_take (i := 19) (v := ?_) (by simp only [List.getElem?_toArray, List.getElem?_cons_succ, List.getElem?_cons_zero]; rfl) (by kernel_rfl) (by kernel_rfl) (by kernel_rfl) (by exact fun _ _ _ h => h) (Or.inl ⟨by kernel_rfl, ?_⟩) hS ?_
      case refine_2 => ((intro w hSw; (try dsimp only at hSw); go_simp) <;> with_reducible rfl)
      try simp only [Act.put, List.setIfInBounds_toArray, List.set_cons_zero, List.set_cons_succ]
      refine wpAnyH_ready (rs := [20]) (by kernel_rfl) (by simp) ?_
      refine AllReadyH.cons (by simp only [List.getElem?_toArray, List.getElem?_cons_succ, List.getElem?_cons_zero]; rfl) (fun K hK => ?_) AllReadyH.nil
      go_simp
      rw [← hw5]
      refine hK.out _ _ hS5 (fun hS => ?_)
      clear hK K hS
      try simp only [Act.put, List.setIfInBounds_toArray, List.set_cons_zero, List.set_cons_succ]
      refine wpAnyH_done (by kernel_rfl) ?_ _
      have cW5 := cellB (i := 65 + i) H5.out.1 (by rw [wcl_where (by rw [List.length_set]; exact H1.out.1.len) (wherL_len _) hi]; exact wherL_at hi)
      have cN5 := cellB (i := 130) H5.out.1 (wcl_n (by rw [List.length_set]; exact H1.out.1.len) (wherL_len _))
      have f5 := frozenB H5.out.1
      rw [← HM.out] at cN5
      have HS5 := Lib.hid hS5
      clear hS5 hS3 hS4 f4 f2 cR2 hw5 hr4
      go_wp2
      go_ret
      exact set_end hi HT.out.2.2 HT.out.2.1 H1.out.1 H1.out.2.1 H1.out.2.2 H2.out.2.1 H2.out.2.2.1 H2.out.2.2.2.1 H2.out.2.2.2.2.2.1 H2.out.2.2.2.2.2.2.1 H2.out.2.2.2.2.2.2.2 H5.out.1 H5.out.2 HM.out
  · obtain ⟨z, hz⟩ : ∃ z : Int, z = whereH s.M i := ⟨_, rfl⟩
    have hz0 : 0 < z := by rw [hz, hw]; omega
    rw [← hz] at cW
    have HR := Lib.hid (removec b vs s i w h hi ht)
    clear hw h hz hx hxi ht
    go_enter Try.func27, Try.ntmps27
    go_wp2_with (first | (go_at_call 42; refine HI.out.mono ?_; rintro e w' ⟨rfl, rfl⟩) | (go_at_call 43; refine HD.out.mono ?_; rintro e w' ⟨rfl, rfl⟩) | (go_at_call 44; refine HR.out.mono ?_; rintro e w1 ⟨rfl, vs1, hA, hC, hB⟩; have H1 := Lib.hid (show HAt w1 b vs1 ⟨delH s.M i, s.c⟩ ∧ Chg (blocksH b vs) w w1 ∧ (∀ k ∈ blocksH b vs1, k ∈ blocksH b vs ∨ w.heap.size ≤ k) from ⟨hA, hC.mono (fun x hx => by simp at hx; subst hx; exact .inl (mem_blocks.2 (.inl rfl))), hB⟩); have cS := hA.cC; have cSf := hA.cfr; clear hA hC hB))
    obtain ⟨v, hv⟩ : ∃ v, vs1[k]? = some v := ⟨_, List.getElem?_eq_getElem (by rw [H1.out.1.len]; exact hk64)⟩
    obtain ⟨w2, hw2⟩ : ∃ w2, w2 = w1.setCell ⟨b, 129, none⟩ (.int .i64 (s.c + 1)) := ⟨_, rfl⟩
    rw [← hw2]
    have hb2 : w2.heap[b]? = some (.cells (wcl vs1 (wherL (delH s.M i)) (s.c + 1) (delH s.M i).length) 82 (0, 0)) := by
      rw [hw2, ← wcl_setC H1.out.1.len (wherL_len _)]
      exact blk_setCell H1.out.1.head _
    have hC2 : Chg [b] w1 w2 := by rw [hw2]; exact (Chg.refl [b] w1).setCell _ _ (by simp)
    have hown2 := own_kept (H1.out.1.own k v hv) hC2 (fun x hx => by simp at hx; subst hx; exact H1.out.1.notb hv)
    dsimp only at hown2
    have cR2 := cellB (i := 1 + k) hb2 (by rw [wcl_ring H1.out.1.len hk64]; exact hv)
    have cC2 := cellB (i := 129) hb2 (wcl_c H1.out.1.len (wherL_len _))
    have f2 := frozenB hb2
    obtain ⟨bn, hbn⟩ : ∃ bn, bn = w2.heap.size := ⟨_, rfl⟩
    obtain ⟨w3, hw3⟩ : ∃ w3, w3 = (w2.alloc (.cells #[.int .i64 (i : Int), .int .i64 (T : Int), .int .i64 (s.c + 1)] 84 (0, 0))).drew := ⟨_, rfl⟩
    have hb3 : w3.heap[b]? = some (.cells (wcl vs1 (wherL (delH s.M i)) (s.c + 1) (delH s.M i).length) 82 (0, 0)) := by rw [hw3]; exact blk_alloc (w := w2) hb2 _
    have hC3 : Chg [] w2 w3 := by rw [hw3]; exact ((Chg.refl [] w2).alloc _).drew
    have hnew : w3.heap[bn]? = some (.cells #[.int .i64 (i : Int), .int .i64 (T : Int), .int .i64 (s.c + 1)] 84 (0, 0)) := by rw [hw3, hbn]; exact heap_alloc_eq w2 _
    obtain ⟨v', w4, hr4, ho4, hC4, hv4⟩ := run_ring (own_kept hown2 hC3 (by simp)) (by have h1 := ring_len (delH s.M i) k; have h2 := H1.out.1.inv.few; simp only at h2; omega) ((i : Int), (T : Int), s.c + 1) bn hnew
    have hb4 : w4.heap[b]? = some (.cells (wcl vs1 (wherL (delH s.M i)) (s.c + 1) (delH s.M i).length) 82 (0, 0)) := hC4.blk hb3 (H1.out.1.notb hv)
    have hS3 := And.intro (cellB (i := 1 + k) hb3 (by rw [wcl_ring H1.out.1.len hk64]; exact hv)) (cellB (i := 129) hb3 (wcl_c H1.out.1.len (wherL_len _)))
    have hS4 := And.intro (cellB (i := 1 + k) hb4 (by rw [wcl_ring H1.out.1.len hk64]; exact hv)) (cellB (i := 129) hb4 (wcl_c H1.out.1.len (wherL_len _)))
    have f4 := frozenB hb4
    obtain ⟨n4, hn4⟩ : ∃ n4, n4 = (ringH (delH s.M i) k ++ [((i : Int), (T : Int), s.c + 1)]).length := ⟨_, rfl⟩
    obtain ⟨g4, cap4, rfl⟩ : ∃ g4 cap4, v' = .slice (some ⟨g4, 0, none⟩) n4 cap4 := by
      rcases ho4.2 with ⟨_, e2⟩ | ⟨g4, cap4, cur, e1, _⟩
      · simp at e2
      · exact ⟨g4, cap4, by rw [hn4]; exact e1⟩
    have HN := Lib.hid hn4
    clear hn4
    obtain ⟨w5, hw5⟩ : ∃ w5, w5 = w4.setCell ⟨b, 1 + k, none⟩ (.slice (some ⟨g4, 0, none⟩) n4 cap4) := ⟨_, rfl⟩
    have hb5 : w5.heap[b]? = some (.cells (wcl (vs1.set k (.slice (some ⟨g4, 0, none⟩) n4 cap4)) (wherL (delH s.M i)) (s.c + 1) (delH s.M i).length) 82 (0, 0)) := by
      rw [hw5, ← wcl_setR H1.out.1.len hk64]
      exact blk_setCell hb4 _
    have hC5 : Chg [b] w4 w5 := by rw [hw5]; exact (Chg.refl [b] w4).setCell _ _ (by simp)
    have hS5 := cellB (i := 129) hb5 (wcl_c (by rw [List.length_set]; exact H1.out.1.len) (wherL_len _))
    have H5 := Lib.hid (And.intro hb5 hC5)
    obtain ⟨m, hm⟩ : ∃ m : Int, m = (delH s.M i).length := ⟨_, rfl⟩
    have hm64 : 0 ≤ m ∧ m ≤ 64 := by have h1 := H1.out.1.inv.few; simp only at h1; omega
    have HM := Lib.hid hm
    clear hm
    clear hb4 hb5 hC5
    have H2 := Lib.hid (And.intro hb2 (And.intro hC2 (And.intro hv (And.intro hC3 (And.intro hb3 (And.intro ho4 (And.intro hC4 hv4)))))))
    clear hb2 hC2 hown2 hC3 hb3 hnew ho4 hC4 hv4 cW hv cS cSf hw2
    refine wp_region_held_drew (S := fun w => w.cell? ⟨b, 129, none⟩ = some (.int .i64 (s.c + 1))) (by kernel_rfl) cC2 (fun hS => ?_)
    refine wpAnyH_take (i := 0) (v := ?_) (by simp only [List.getElem?_toArray, List.getElem?_cons_zero]; rfl) (by kernel_rfl) (by kernel_rfl) (by kernel_rfl) (by exact fun _ _ _ h => h) (Or.inl ⟨by kernel_rfl, ?_⟩) hS ?_
    case refine_2 => ((intro w hSw; (try dsimp only at hSw); go_simp) <;> with_reducible rfl)
    try simp only [Act.put, List.setIfInBounds_toArray, List.set_cons_zero, List.set_cons_succ]
    refine wpAnyH_take (i := 1) (v := ?_) (by simp only [List.getElem?_toArray, List.getElem?_cons_succ, List.getElem?_cons_zero]; rfl) (by kernel_rfl) (by kernel_rfl) (by kernel_rfl) (by exact fun _ _ _ h => h) (Or.inl ⟨by kernel_rfl, ?_⟩) hS ?_
    case refine_2 => ((intro w hSw; (try dsimp only at hSw); go_simp) <;> with_reducible rfl)
    try simp only [Act.put, List.setIfInBounds_toArray, List.set_cons_zero, List.set_cons_succ]
    refine wpAnyH_take (i := 2) (v := ?_) (by simp only [List.getElem?_toArray, List.getElem?_cons_succ, List.getElem?_cons_zero]; rfl) (by kernel_rfl) (by kernel_rfl) (by kernel_rfl) (by exact fun _ _ _ h => h) (Or.inl ⟨by kernel_rfl, ?_⟩) hS ?_
    case refine_2 => ((intro w hSw; (try dsimp only at hSw); go_simp) <;> with_reducible rfl)
    try simp only [Act.put, List.setIfInBounds_toArray, List.set_cons_zero, List.set_cons_succ]
    refine wpAnyH_take (i := 3) (v := ?_) (by simp only [List.getElem?_toArray, List.getElem?_cons_succ, List.getElem?_cons_zero]; rfl) (by kernel_rfl) (by kernel_rfl) (by kernel_rfl) (by exact fun _ _ _ h => h) (Or.inl ⟨by kernel_rfl, ?_⟩) hS ?_
    case refine_2 => ((intro w hSw; (try dsimp only at hSw); go_simp) <;> with_reducible rfl)
    try simp only [Act.put, List.setIfInBounds_toArray, List.set_cons_zero, List.set_cons_succ]
    refine wpAnyH_take (i := 4) (v := ?_) (by simp only [List.getElem?_toArray, List.getElem?_cons_succ, List.getElem?_cons_zero]; rfl) (by kernel_rfl) (by kernel_rfl) (by kernel_rfl) (by exact fun _ _ _ h => h) (Or.inl ⟨by kernel_rfl, ?_⟩) hS ?_
    case refine_2 => ((intro w hSw; (try dsimp only at hSw); go_simp) <;> with_reducible rfl)
    try simp only [Act.put, List.setIfInBounds_toArray, List.set_cons_zero, List.set_cons_succ]
    refine wpAnyH_take (i := 5) (v := ?_) (by simp only [List.getElem?_toArray, List.getElem?_cons_succ, List.getElem?_cons_zero]; rfl) (by kernel_rfl) (by kernel_rfl) (by kernel_rfl) (by exact fun _ _ _ h => h) (Or.inl ⟨by kernel_rfl, ?_⟩) hS ?_
    case refine_2 => ((intro w hSw; (try dsimp only at hSw); go_simp) <;> with_reducible rfl)
    try simp only [Act.put, List.setIfInBounds_toArray, List.set_cons_zero, List.set_cons_succ]
    refine wpAnyH_take (i := 6) (v := ?_) (by simp only [List.getElem?_toArray, List.getElem?_cons_succ, List.getElem?_cons_zero]; rfl) (by kernel_rfl) (by kernel_rfl) (by kernel_rfl) (by exact fun _ _ _ h => h) (Or.inl ⟨by kernel_rfl, ?_⟩) hS ?_
    case refine_2 => ((intro w hSw; (try dsimp only at hSw); go_simp) <;> with_reducible rfl)
    try simp only [Act.put, List.setIfInBounds_toArray, List.set_cons_zero, List.set_cons_succ]
    refine wpAnyH_take (i := 8) (v := ?_) (by simp only [List.getElem?_toArray, List.getElem?_cons_succ, List.getElem?_cons_zero]; rfl) (by kernel_rfl) (by kernel_rfl) (by kernel_rfl) (by exact fun _ _ _ h => h) (Or.inl ⟨by kernel_rfl, ?_⟩) hS ?_
    case refine_2 => ((intro w hSw; (try dsimp only at hSw); go_simp) <;> with_reducible rfl)
    try simp only [Act.put, List.setIfInBounds_toArray, List.set_cons_zero, List.set_cons_succ]
    refine wpAnyH_take (i := 9) (v := ?_) (by simp only [List.getElem?_toArray, List.getElem?_cons_succ, List.getElem?_cons_zero]; rfl) (by kernel_rfl) (by kernel_rfl) (by kernel_rfl) (by exact fun _ _ _ h => h) (Or.inl ⟨by kernel_rfl, ?_⟩) hS ?_
    case refine_2 => ((intro w hSw; (try dsimp only at hSw); go_simp) <;> with_reducible rfl)
    try simp only [Act.put, List.setIfInBounds_toArray, List.set_cons_zero, List.set_cons_succ]
    refine wpAnyH_take (i := 10) (v := ?_) (by simp only [List.getElem?_toArray, List.getElem?_cons_succ, List.getElem?_cons_zero]; rfl) (by kernel_rfl) (by kernel_rfl) (by kernel_rfl) (by exact fun _ _ _ h => h) (Or.inl ⟨by kernel_rfl, ?_⟩) hS ?_
    case refine_2 => ((intro w hSw; (try dsimp only at hSw); go_simp) <;> with_reducible rfl)
    try simp only [Act.put, List.setIfInBounds_toArray, List.set_cons_zero, List.set_cons_succ]
    refine wpAnyH_take (i := 11) (v := ?_) (by simp only [List.getElem?_toArray, List.getElem?_cons_succ, List.getElem?_cons_zero]; rfl) (by kernel_rfl) (by kernel_rfl) (by kernel_rfl) (by exact fun _ _ _ h => h) (Or.inl ⟨by kernel_rfl, ?_⟩) hS ?_
    case refine_2 => ((intro w hSw; (try dsimp only at hSw); go_simp) <;> with_reducible rfl)
    try simp only [Act.put, List.setIfInBounds_toArray, List.set_cons_zero, List.set_cons_succ]
    refine wpAnyH_take (i := 12) (v := ?_) (by simp only [List.getElem?_toArray, List.getElem?_cons_succ, List.getElem?_cons_zero]; rfl) (by kernel_rfl) (by kernel_rfl) (by kernel_rfl) (by exact fun _ _ _ h => h) (Or.inl ⟨by kernel_rfl, ?_⟩) hS ?_
    case refine_2 => ((intro w hSw; (try dsimp only at hSw); go_simp) <;> with_reducible rfl)
    try simp only [Act.put, List.setIfInBounds_toArray, List.set_cons_zero, List.set_cons_succ]
    refine wpAnyH_take (i := 13) (v := ?_) (by simp only [List.getElem?_toArray, List.getElem?_cons_succ, List.getElem?_cons_zero]; rfl) (by kernel_rfl) (by kernel_rfl) (by kernel_rfl) (by exact fun _ _ _ h => h) (Or.inl ⟨by kernel_rfl, ?_⟩) hS ?_
    case refine_2 => ((intro w hSw; (try dsimp only at hSw); go_simp) <;> with_reducible rfl)
    try simp only [Act.put, List.setIfInBounds_toArray, List.set_cons_zero, List.set_cons_succ]
    refine wpAnyH_take (i := 14) (v := ?_) (by simp only [List.getElem?_toArray, List.getElem?_cons_succ, List.getElem?_cons_zero]; rfl) (by kernel_rfl) (by kernel_rfl) (by kernel_rfl) (by exact fun _ _ _ h => h) (Or.inl ⟨by kernel_rfl, ?_⟩) hS ?_
    case refine_2 => ((intro w hSw; (try dsimp only at hSw); go_simp) <;> with_reducible rfl)
    try simp only [Act.put, List.setIfInBounds_toArray, List.set_cons_zero, List.set_cons_succ]
    refine wpAnyH_take (i := 17) (v := ?_) (by simp only [List.getElem?_toArray, List.getElem?_cons_succ, List.getElem?_cons_zero]; rfl) (by kernel_rfl) (by kernel_rfl) (by kernel_rfl) (by exact fun _ _ _ h => h) (Or.inl ⟨by kernel_rfl, ?_⟩) hS ?_
    case refine_2 => ((intro w hSw; (try dsimp only at hSw); go_simp) <;> with_reducible rfl)
    try simp only [Act.put, List.setIfInBounds_toArray, List.set_cons_zero, List.set_cons_succ]
    refine wpAnyH_take (i := 18) (v := ?_) (by simp only [List.getElem?_toArray, List.getElem?_cons_succ, List.getElem?_cons_zero]; rfl) (by kernel_rfl) (by kernel_rfl) (by kernel_rfl) (by exact fun _ _ _ h => h) (Or.inl ⟨by kernel_rfl, ?_⟩) hS ?_
    case refine_2 => ((intro w hSw; (try dsimp only at hSw); go_simp) <;> with_reducible rfl)
    try simp only [Act.put, List.setIfInBounds_toArray, List.set_cons_zero, List.set_cons_succ]
    refine wpAnyH_ready (rs := [7, 15]) (by kernel_rfl) (by simp) ?_
    refine AllReadyH.cons (by simp only [List.getElem?_toArray, List.getElem?_cons_succ, List.getElem?_cons_zero]; rfl) (fun K hK => ?_) (AllReadyH.cons (by simp only [List.getElem?_toArray, List.getElem?_cons_succ, List.getElem?_cons_zero]; rfl) (fun K hK => ?_) AllReadyH.nil)
    · go_simp
      refine hK.out _ _ hS (fun hS => ?_)
      clear hK K
      try simp only [Act.put, List.setIfInBounds_toArray, List.set_cons_zero, List.set_cons_succ]
      refine wpAnyH_ready (rs := [15]) (by kernel_rfl) (by simp) ?_
      refine AllReadyH.cons (by simp only [List.getElem?_toArray, List.getElem?_cons_succ, List.getElem?_cons_zero]; rfl) (fun K hK => ?_) AllReadyH.nil
      go_simp
      rw [← hbn, ← hw3]
      clear hbn hw3
      refine hK.out _ _ hS3.2 (fun hS => ?_)
      clear hK K
      try simp only [Act.put, List.setIfInBounds_toArray, List.set_cons_zero, List.set_cons_succ]
      refine wpAnyH_ready (rs := [16]) (by kernel_rfl) (by simp) ?_
      refine AllReadyH.cons (by simp only [List.getElem?_toArray, List.getElem?_cons_succ, List.getElem?_cons_zero]; rfl) (fun K hK => ?_) AllReadyH.nil
      refine step_run rfl _ _ 78 78 rfl rfl v (.slice (some ⟨bn, 0, none⟩) 1 1) (.slice (some ⟨g4, 0, none⟩) n4 cap4) (by rfl) (by rfl) w4 hr4 ?_
      refine hK.out _ _ hS4.2 (fun hS => ?_)
      clear hK K
      try simp only [Act.put, List.setIfInBounds_toArray, List.set_cons_zero, List.set_cons_succ]
      refine wpAnyH_take (i := 19) (v := ?_) (by simp only [List.getElem?_toArray, List.getElem?_cons_succ, List.getElem?_cons_zero]; rfl) (by kernel_rfl) (by kernel_rfl) (by kernel_rfl) (by exact fun _ _ _ h => h) (Or.inl ⟨by kernel_rfl, ?_⟩) hS ?_
      case refine_2 => ((intro w hSw; (try dsimp only at hSw); go_simp) <;> with_reducible rfl)
      try simp only [Act.put, List.setIfInBounds_toArray, List.set_cons_zero, List.set_cons_succ]
      refine wpAnyH_ready (rs := [20]) (by kernel_rfl) (by simp) ?_
      refine AllReadyH.cons (by simp only [List.getElem?_toArray, List.getElem?_cons_succ, List.getElem?_cons_zero]; rfl) (fun K hK => ?_) AllReadyH.nil
      go_simp
      rw [← hw5]
      refine hK.out _ _ hS5 (fun hS => ?_)
      clear hK K hS
      try simp only [Act.put, List.setIfInBounds_toArray, List.set_cons_zero, List.set_cons_succ]
      refine wpAnyH_done (by kernel_rfl) ?_ _
      have cW5 := cellB (i := 65 + i) H5.out.1 (by rw [wcl_where (by rw [List.length_set]; exact H1.out.1.len) (wherL_len _) hi]; exact wherL_at hi)
      have cN5 := cellB (i := 130) H5.out.1 (wcl_n (by rw [List.length_set]; exact H1.out.1.len) (wherL_len _))
      have f5 := frozenB H5.out.1
      rw [← HM.out] at cN5
      have HS5 := Lib.hid hS5
      clear hS5 hS3 hS4 f4 f2 cR2 hw5 hr4
      go_wp2
      go_ret
      exact set_end hi HT.out.2.2 HT.out.2.1 H1.out.1 H1.out.2.1 H1.out.2.2 H2.out.2.1 H2.out.2.2.1 H2.out.2.2.2.1 H2.out.2.2.2.2.2.1 H2.out.2.2.2.2.2.2.1 H2.out.2.2.2.2.2.2.2 H5.out.1 H5.out.2 HM.out
    · go_simp
      rw [← hbn, ← hw3]
      clear hbn hw3
      refine hK.out _ _ hS3.2 (fun hS => ?_)
      clear hK K
      try simp only [Act.put, List.setIfInBounds_toArray, List.set_cons_zero, List.set_cons_succ]
      refine wpAnyH_ready (rs := [7]) (by kernel_rfl) (by simp) ?_
      refine AllReadyH.cons (by simp only [List.getElem?_toArray, List.getElem?_cons_succ, List.getElem?_cons_zero]; rfl) (fun K hK => ?_) AllReadyH.nil
      go_simp
      refine hK.out _ _ hS (fun hS => ?_)
      clear hK K
      try simp only [Act.put, List.setIfInBounds_toArray, List.set_cons_zero, List.set_cons_succ]
      refine wpAnyH_ready (rs := [16]) (by kernel_rfl) (by simp) ?_
      refine AllReadyH.cons (by simp only [List.getElem?_toArray, List.getElem?_cons_succ, List.getElem?_cons_zero]; rfl) (fun K hK => ?_) AllReadyH.nil
      refine step_run rfl _ _ 78 78 rfl rfl v (.slice (some ⟨bn, 0, none⟩) 1 1) (.slice (some ⟨g4, 0, none⟩) n4 cap4) (by rfl) (by rfl) w4 hr4 ?_
      refine hK.out _ _ hS4.2 (fun hS => ?_)
      clear hK K
      try simp only [Act.put, List.setIfInBounds_toArray, List.set_cons_zero, List.set_cons_succ]
      refine wpAnyH_take (i := 19) (v := ?_) (by simp only [List.getElem?_toArray, List.getElem?_cons_succ, List.getElem?_cons_zero]; rfl) (by kernel_rfl) (by kernel_rfl) (by kernel_rfl) (by exact fun _ _ _ h => h) (Or.inl ⟨by kernel_rfl, ?_⟩) hS ?_
      case refine_2 => ((intro w hSw; (try dsimp only at hSw); go_simp) <;> with_reducible rfl)
      try simp only [Act.put, List.setIfInBounds_toArray, List.set_cons_zero, List.set_cons_succ]
      refine wpAnyH_ready (rs := [20]) (by kernel_rfl) (by simp) ?_
      refine AllReadyH.cons (by simp only [List.getElem?_toArray, List.getElem?_cons_succ, List.getElem?_cons_zero]; rfl) (fun K hK => ?_) AllReadyH.nil
      go_simp
      rw [← hw5]
      refine hK.out _ _ hS5 (fun hS => ?_)
      clear hK K hS
      try simp only [Act.put, List.setIfInBounds_toArray, List.set_cons_zero, List.set_cons_succ]
      refine wpAnyH_done (by kernel_rfl) ?_ _
      have cW5 := cellB (i := 65 + i) H5.out.1 (by rw [wcl_where (by rw [List.length_set]; exact H1.out.1.len) (wherL_len _) hi]; exact wherL_at hi)
      have cN5 := cellB (i := 130) H5.out.1 (wcl_n (by rw [List.length_set]; exact H1.out.1.len) (wherL_len _))
      have f5 := frozenB H5.out.1
      rw [← HM.out] at cN5
      have HS5 := Lib.hid hS5
      clear hS5 hS3 hS4 f4 f2 cR2 hw5 hr4
      go_wp2
      go_ret
      exact set_end hi HT.out.2.2 HT.out.2.1 H1.out.1 H1.out.2.1 H1.out.2.2 H2.out.2.1 H2.out.2.2.1 H2.out.2.2.2.1 H2.out.2.2.2.2.2.1 H2.out.2.2.2.2.2.2.1 H2.out.2.2.2.2.2.2.2 H5.out.1 H5.out.2 HM.out

end Go.Proofs.Ytonahpilmchnkaa
