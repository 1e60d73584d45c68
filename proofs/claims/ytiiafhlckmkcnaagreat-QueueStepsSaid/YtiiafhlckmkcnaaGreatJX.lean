/- We, Wf, Wg, Wh, Wi, Wj, joined. -/
import Derived.Test.YtiiafhlckmkcnaaGreatJW
import Derived.Test.YtiiafhlckmkcnaaGreatShelf
import Derived.Sort.OwnSortedInts
import Derived.RangeFuncNested
import Derived.RangeFuncBound
import Derived.RangeFuncCalls
import Derived.RangeFuncLeaves
import Derived.Shelf.Abstract
import Derived.Shelf.RegionOpen
import Derived.OwnWalkIn
import Derived.TacticsInMore
import Derived.LoopNIn
import Derived.LoopIn
/- slices.SortFunc at a slice of ints of the call's own, whatever the comparison: a sorted permutation. -/
namespace Go.Proofs.YtiiafhlckmkcnaaGreat
open Go.RowKit Go.Sort

def SortPost (B : Nat) (v : Value) (zs : List Int) (cf : Int → Int → Int) (w : World) (e : Ending) (w' : World) : Prop :=
  e = .returned (.tuple #[]) ∧ ∃ ts : List Int, ts.Perm zs ∧ ts.Pairwise (fun x y => ¬ cf y x < 0) ∧ w'.ownsRow B 3 1 v zs.length (ts.map (Value.int .i64)) ∧ Chg v.ownBlock.toList w w'

theorem sort_ints (g : Nat) (cb : Array Value) (cf : Int → Int → Int) (hO : SWO (ltOf cf)) (eg : ∀ args w, (callFunc g args).run Tryz.prog w = .ok (.enter g args) w) (B : Nat) (v : Value) (zs : List Int) (w : World)
    (hown : w.ownsRow B 3 1 v zs.length (zs.map (Value.int .i64))) (hlen : zs.length < 4611686018427387904)
    (hcmp : ∀ W, Chg v.ownBlock.toList w W → ∀ x y : Int, Calls Tryz.prog g (#[.int .i64 x, .int .i64 y] ++ cb) W fun e w' => e = .returned (.int .i64 (cf x y)) ∧ Grw W w') :
    Calls Tryz.prog 83 #[v, .func (.func g) #[] cb] w (SortPost B v zs cf w) := by
  rcases hown.2 with ⟨rfl, h0⟩ | ⟨b, cap, cur, rfl, hbase, hb, h1, h2, h3, h4⟩
  · refine (Tryz.slices_SortFunc_none (α := Int) none 0 (.func (.func g) #[] cb) w).mono ?_
    rintro e w' ⟨rfl, rfl⟩
    have : zs = [] := List.eq_nil_of_length_eq_zero h0
    subst this
    exact ⟨rfl, [], .refl _, .nil, hown, Chg.refl _ _⟩
  · have hsz : zs.toArray.size = zs.length := by simp
    have hH := holds_of_blockI (ss := zs) hb (by simpa using h4)
    have hgr : ∀ (m : Nat) (os : Array Obj) (dk : Array Int), Chg [b] w (sortWorld (Value.int .i64) w b 0 m dk os) := fun m os dk => Chg.of_grown (row := some b) (grownBy_sortedI (n := m) (os := os) dk) (fun k hk => by cases hk; simp)
    have hc : CmpLays1 Tryz.prog g cb (Value.int .i64) cf b 0 zs.toArray.size w := fun m os dk _ x y =>
      (hcmp _ (hgr m os dk) x y).mono fun e w' ⟨he, q, os', hw⟩ => ⟨he, q, os', hw⟩
    have hS := Tryz.slices_SortFunc (Value.int .i64) (fun _ => rfl) cf hO g cb b 0 cap zs.toArray w eg hc hH (lt_of_blk hb) (by rw [hsz]; exact hlen)
    rw [hsz] at hS
    refine hS.mono ?_
    rintro e w' ⟨rfl, d', m, os, hP, hSo, rfl⟩
    have hpl : d'.toList.Perm zs := by
      have := hP.2.2
      rw [Array.extract_eq_self_of_le (by rw [hP.1, hsz]; exact Nat.le_refl _), Array.extract_eq_self_of_le (by simp)] at this
      simpa using this
    refine ⟨rfl, d'.toList, hpl, ?_, ?_, hgr m os d'⟩
    · rw [List.pairwise_iff_getElem]
      intro i j hi hj hij
      have hj' : j < d'.size := by simpa using hj
      have hi' : i < d'.size := by simpa using hi
      have := hSo i j (Nat.zero_le _) hij (by rw [← hpl.length_eq]; exact hj)
      rw [getElem!_pos d' j hj', getElem!_pos d' i hi'] at this
      simpa [ltOf] using this
    · exact ownsRow_sortedI (ss := zs) (ts := d'.toList) hpl.length_eq hbase hb h1 h2 h3

end Go.Proofs.YtiiafhlckmkcnaaGreat

/- sorted: the threads that wait, by a comparison. -/
namespace Go.Proofs.YtiiafhlckmkcnaaGreat
open Go.RowKit Go.Sort

theorem infoInt : (Tryz.prog.info? 3).map (fun i => (i.zero, i.size, i.bytes)) = some (some (.int .i64 0), 1, 8) := by kernel_rfl

/-- Who waits, by a comparison: a permutation of the threads, no later one less than an earlier one. -/
def SortedPost (B : Nat) (L1 : List W1) (cf : Int → Int → Int → Int → Int) (w : World) (e : Ending) (w' : World) : Prop :=
  ∃ v ts, e = .returned v ∧ List.Perm ts (L1.map W1.t) ∧ ts.Pairwise (fun x y => ¬ cfT cf L1 y x < 0) ∧ w'.ownsRow B 3 1 v ts.length (ts.map (Value.int .i64)) ∧ Chg [] w w'

theorem WIn.nodup {w : World} {ab mb : Nat} {n : Int} {L1 : List W1} (h : WIn w ab mb n L1) : (L1.map W1.t).Nodup := by
  have := h.map.nodup
  rw [List.map_map] at this
  exact this
theorem WIn.few {w : World} {ab mb : Nat} {n : Int} {L1 : List W1} (h : WIn w ab mb n L1) : L1.length ≤ 16 := by
  have h1 := List.Nodup.length_le_of_subset (l₁ := L1.map W1.t) (l₂ := (List.range 16).map (fun k : Nat => (k : Int))) h.nodup (by
    intro t ht
    obtain ⟨x, hx, rfl⟩ := List.mem_map.1 ht
    have := (h.ok x hx).1
    unfold okT at this
    exact List.mem_map.2 ⟨x.t.toNat, by simp; omega, by omega⟩)
  simpa using h1

set_option maxRecDepth 100000 in
set_option maxHeartbeats 1000000 in
theorem sorted_any (g : Nat) (cf : Int → Int → Int → Int → Int) (hg : CmpOf g cf) (eg : ∀ args w, (callFunc g args).run Tryz.prog w = .ok (.enter g args) w) (ab mb : Nat) (n : Int) (L1 : List W1) (w : World)
    (hW : WIn w ab mb n L1) (hO : SWO (ltOf (cfT cf L1))) :
    Calls Tryz.prog 62 #[.pointer (some ⟨ab, 0, none⟩), .func (.func g) #[] #[]] w (SortedPost w.heap.size L1 cf w) := by
  obtain ⟨i0, hi, hz0, hz1, hz2⟩ := info_parts infoInt
  obtain ⟨M, hM, hMp⟩ := hW.map
  have c0 := cellB hW.head (i := 0) rfl
  have hab := lt_of_blk hW.head
  have hmb := hM.lt
  have hfew := hW.few
  have hMl : M.length ≤ 16 := by rw [hMp.length_eq]; simpa using hfew
  have ht := there_yes ab mb ((w.alloc (.cells #[.pointer (some ⟨ab, 0, none⟩)] 43)).alloc (.cells #[.func (.func g) #[] #[]] 100)) (by simp [go_sem, hab, c0])
  obtain ⟨o, hrange, hR0⟩ := run_range_I (P := Tryz.prog) Tryz.underlying85 (show MapI ((w.alloc (.cells #[.pointer (some ⟨ab, 0, none⟩)] 43)).alloc (.cells #[.func (.func g) #[] #[]] 100)) mb M from hM.kept (S := []) (((Chg.refl _ _).alloc _).alloc _) (by simp))
  have HC : Hid (Chg [] w (((w.alloc (.cells #[.pointer (some ⟨ab, 0, none⟩)] 43)).alloc (.cells #[.func (.func g) #[] #[]] 100)).alloc o)) := (((Chg.refl _ _).alloc _).alloc _).alloc _
  have HB : Hid ((((w.alloc (.cells #[.pointer (some ⟨ab, 0, none⟩)] 43)).alloc (.cells #[.func (.func g) #[] #[]] 100)).alloc o).heap[w.heap.size]? = some (.cells #[.pointer (some ⟨ab, 0, none⟩)] 43 (0, 0)) ∧ (((w.alloc (.cells #[.pointer (some ⟨ab, 0, none⟩)] 43)).alloc (.cells #[.func (.func g) #[] #[]] 100)).alloc o).heap[w.heap.size + 1]? = some (.cells #[.func (.func g) #[] #[]] 100 (0, 0))) :=
    ⟨blk_alloc (blk_alloc (heap_alloc_eq w _) _) _, blk_alloc (by have := heap_alloc_eq (w.alloc (.cells #[.pointer (some ⟨ab, 0, none⟩)] 43)) (.cells #[.func (.func g) #[] #[]] 100); rwa [World.size_alloc] at this) _⟩
  have HR := Lib.hid hR0
  have HW := Lib.hid hW
  have HO := Lib.hid hO
  have HG := Lib.hid hg
  clear hW hO hfew hR0 hg hM
  simp only [World.size_alloc] at hrange HR
  go_enter Tryz.func62, Tryz.ntmps62
  go_wp2_with (go_at_call 58; refine ht.mono ?_; rintro e w' ⟨rfl, rfl⟩)
  go_loopw [5] (fun v wr => ∃ done rest, RngP wr mb (w.heap.size + 1 + 1) M rest ∧ M.Perm (done ++ rest) ∧ wr.ownsRow (w.heap.size + 1 + 1 + 1) 3 1 v done.length (done.map fun p => .int .i64 p.1) ∧
      w.heap.size + 1 + 1 + 1 ≤ wr.heap.size ∧ wr.heap[w.heap.size]? = some (.cells #[.pointer (some ⟨ab, 0, none⟩)] 43 (0, 0)) ∧ wr.heap[w.heap.size + 1]? = some (.cells #[.func (.func g) #[] #[]] 100 (0, 0)) ∧ Chg [] w wr)
    (fun _ wr => rleft wr mb (w.heap.size + 1 + 1))
  case atStart =>
    refine ⟨[], M, HR.out, by simp, World.ownsRow_nil .., by simp, HB.out.1, HB.out.2, HC.out⟩
  case round =>
    obtain ⟨done, rest, hR, hP, hown, hsz, hbw, hbc, hC⟩ := hrel
    rcases run_next_I (P := Tryz.prog) hR with ⟨hr0, hnx⟩ | ⟨p, r1, r2, w1, hr0, hnx, hR1, hen, hC1, hsz1⟩
    · subst hr0
      rw [List.append_nil] at hP
      have e1 : (done.map fun p => Value.int .i64 p.1) = (done.map (·.1)).map (Value.int .i64) := by rw [List.map_map]; rfl
      have hown' : wr.ownsRow (w.heap.size + 1 + 1 + 1) 3 1 u5 (done.map (·.1)).length ((done.map (·.1)).map (Value.int .i64)) := by rw [← e1, List.length_map]; exact hown
      have hd : done.length ≤ 16 := by rw [← hP.length_eq]; exact hMl
      have eg51 : ∀ args w, (callFunc 84 args).run Tryz.prog w = .ok (.enter 84 args) w := enters_of Tryz.func84 (by kernel_rfl) rfl
      have hS := sort_ints 84 #[.pointer (some ⟨w.heap.size + 1, 0, none⟩), .pointer (some ⟨w.heap.size, 0, none⟩)] (cfT cf L1) HO.out eg51 (w.heap.size + 1 + 1 + 1) u5 (done.map (·.1)) wr hown' (by simp; omega)
        (fun W hCW x y => by
          have hn : ∀ k, k < w.heap.size + 1 + 1 + 1 → k ∉ u5.ownBlock.toList := fun k hk => own_notin hown' hk
          have := sorted1_any g cf HG.out eg (w.heap.size + 1) w.heap.size ab mb n L1 W (cellB (hCW.blk hbc (hn _ (by omega))) rfl) (cellB (hCW.blk hbw (hn _ (by omega))) rfl)
            ((HW.out.kept hC (by simp) (by simp)).kept hCW (hn _ (by omega)) (hn _ (by omega))) x y
          simpa using this)
      have HS := Lib.hid hS
      have HN := Lib.hid hown'
      clear hS eg51 e1 hown hown'
      go_wp2_with (go_at_call 83; refine HS.out.mono ?_; rintro e w' ⟨rfl, ts, hT1, hT2, hT3, hT4⟩)
      go_ret
      refine ⟨u5, ts, rfl, hT1.trans ?_, by simpa using hT2, own_mono (by rw [hT1.length_eq]; exact hT3) (by omega), ?_⟩
      · have h1 := (hP.symm.trans hMp).map (·.1)
        rw [List.map_map] at h1
        exact h1
      · exact hC.trans' hT4 (fun k hk => .inr (by have := own_ge HN.out k hk; omega))
    · have hl1 := hR.left
      have hl2 := hR1.left
      have hlen : done.length + rest.length ≤ 16 := by have := hP.length_eq; rw [List.length_append] at this; omega
      have hrl : rest.length = (r1 ++ r2).length + 1 := by rw [hr0]; simp; omega
      have hown1 := own_kept hown hC1 (fun k hk => by simp at hk; subst hk; exact own_notin hown (by omega))
      have HN := Lib.hid hown
      have HF := Lib.hid (And.intro hR1 (And.intro hbw (And.intro hbc (And.intro hC (And.intro hl1 (And.intro hrl (And.intro hr0 (And.intro hsz (And.intro hC1 hsz1)))))))))
      have hB1 : w.heap.size + 1 + 1 + 1 ≤ w1.heap.size := by omega
      have hd1 : done.length + 1 ≤ maxLen := by unfold maxLen; omega
      have hd2 : (done.length + 1) * 8 ≤ 140737488355328 := by omega
      clear hl1 hl2 hrl hr0 hsz hsz1 hC1 hown hR1 hbw hbc hC
      go_wp2_with (at_builtin; refine wpList_push rfl _ _ 80 rfl (w.heap.size + 1 + 1 + 1) 3 i0 (.int .i64 0) 1 8 Tryz.underlying80 hi hz0 hz1 hz2 rfl (by decide) u5 done.length _ rfl hown1 [.int .i64 p.1] rfl rfl (by simp [Value.oneCell']) hd1 hd2 hB1 ?_; intro v' w2 hown2 hC2 hloc hnn)
      go_roundw
      case rel =>
        obtain ⟨hR1, hbw, hbc, hC, hl1, hrl, hr0, hsz, hC1, hsz1⟩ := HF.out
        have hn : ∀ k, k < w.heap.size + 1 + 1 + 1 → k ∉ u5.ownBlock.toList := fun k hk => own_notin HN.out hk
        refine ⟨done ++ [p], r1 ++ r2, hR1.kept hC2 (hn _ (by omega)) (hn _ (by omega)), ?_, by simpa using hown2, by have := hC2.size; omega, hC2.blk (hC1.blk hbw (by simp; omega)) (hn _ (by omega)), hC2.blk (hC1.blk hbc (by simp)) (hn _ (by omega)),
          (hC.trans' hC1 (by simp; omega)).trans' hC2 (fun k hk => .inr (by have := own_ge HN.out k hk; omega))⟩
        rw [hr0] at hP
        refine hP.trans ?_
        simp only [List.append_assoc, List.singleton_append]
        exact List.Perm.append_left done List.perm_middle
      case measure =>
        obtain ⟨hR1, hbw, hbc, hC, hl1, hrl, hr0, hsz, hC1, hsz1⟩ := HF.out
        have hn : ∀ k, k < w.heap.size + 1 + 1 + 1 → k ∉ u5.ownBlock.toList := fun k hk => own_notin HN.out hk
        rw [(hR1.kept hC2 (hn _ (by omega)) (hn _ (by omega))).left, hl1]
        omega

end Go.Proofs.YtiiafhlckmkcnaaGreat

/- The order of a waiting list, plain: there is one sorted permutation. -/
namespace Go.Proofs.YtiiafhlckmkcnaaGreat
open Go.RowKit Go.Sort

theorem cfL_lt (p1 c1 p2 c2 : Int) : cfL p1 c1 p2 c2 < 0 ↔ (p2 < p1 ∨ (p1 = p2 ∧ c1 < c2)) := by
  unfold cfL orI Lib.compareInt
  rcases Int.lt_trichotomy p2 p1 with h | h | h
  · simp [h]
  · subst h
    rcases Int.lt_trichotomy c1 c2 with h | h | h
    · simp [h]
    · simp [h]
    · have h1 : ¬ c1 < c2 := by omega
      simp [h, h1]
  · have h1 : ¬ p2 < p1 := by omega
    have h2 : ¬ p1 = p2 := by omega
    simp [h, h1, h2]
theorem cmp_lt (c1 c2 : Int) : Lib.compareInt c1 c2 < 0 ↔ c1 < c2 := by
  unfold Lib.compareInt
  rcases Int.lt_trichotomy c1 c2 with h | h | h
  · simp [h]
  · simp [h]
  · have h1 : ¬ c1 < c2 := by omega
    simp [h, h1]

theorem swo_list (L1 : List W1) : SWO (ltOf (cfT cfL L1)) := by
  have h : ∀ x y, ltOf (cfT cfL L1) x y = decide ((rowOf L1 y).1 < (rowOf L1 x).1 ∨ ((rowOf L1 x).1 = (rowOf L1 y).1 ∧ (rowOf L1 x).2 < (rowOf L1 y).2)) := fun x y => by
    unfold ltOf cfT
    exact decide_eq_decide.2 (cfL_lt ..)
  refine ⟨fun x => ?_, fun x y z h1 h2 => ?_, fun x y z h1 h2 => ?_⟩
  · rw [h]; simp
  · rw [h] at *; simp at *; omega
  · rw [h] at *; simp at *; omega
theorem swo_same (L1 : List W1) : SWO (ltOf (cfT (fun _ c1 _ c2 => Lib.compareInt c1 c2) L1)) := by
  have h : ∀ x y, ltOf (cfT (fun _ c1 _ c2 => Lib.compareInt c1 c2) L1) x y = decide ((rowOf L1 x).2 < (rowOf L1 y).2) := fun x y => by
    unfold ltOf cfT
    exact decide_eq_decide.2 (cmp_lt ..)
  refine ⟨fun x => ?_, fun x y z h1 h2 => ?_, fun x y z h1 h2 => ?_⟩
  · rw [h]; simp
  · rw [h] at *; simp at *; omega
  · rw [h] at *; simp at *; omega

theorem rowOf_mem {L1 : List W1} (hn : (L1.map W1.t).Nodup) {x : W1} (hx : x ∈ L1) : rowOf L1 x.t = (x.p, x.c) := by
  induction L1 with
  | nil => cases hx
  | cons y L1 ih =>
    have hn' := List.nodup_cons.1 hn
    unfold rowOf
    rcases List.mem_cons.1 hx with rfl | hx
    · simp
    · have : ¬ x.t = y.t := fun e => hn'.1 (List.mem_map.2 ⟨x, hx, e⟩)
      rw [if_neg this]
      exact ih hn'.2 hx

def ord1 (L1 : List W1) : List W1 := (List.range 31).flatMap fun (i : Nat) => L1.filter fun x => x.p == 31 - (i : Int)

theorem ord1_pair (L1 : List W1) : (ord1 L1).map W1.pair = ordL (L1.map W1.pair) := by
  unfold ord1 ordL
  rw [List.map_flatMap]
  congr 1
  funext i
  rw [List.filter_map]
  rfl

theorem flat_perm {α : Type} (f : α → Int) : ∀ (n : Nat) (l : List α), (∀ x ∈ l, 31 - (n : Int) < f x ∧ f x ≤ 31) → ((List.range n).flatMap fun (i : Nat) => l.filter fun x => f x == 31 - (i : Int)).Perm l
  | 0, l, h => by
    have : l = [] := by
      cases l with
      | nil => rfl
      | cons x l => have := h x (by simp); omega
    subst this
    simp
  | n + 1, l, h => by
    rw [List.range_succ, List.flatMap_append]
    have h1 := flat_perm f n (l.filter fun x => decide (31 - (n : Int) < f x)) (fun x hx => by
      have h2 := List.mem_filter.1 hx
      exact ⟨by simpa using h2.2, (h x h2.1).2⟩)
    have e1 : ((List.range n).flatMap fun (i : Nat) => (l.filter fun x => decide (31 - (n : Int) < f x)).filter fun x => f x == 31 - (i : Int)) = ((List.range n).flatMap fun (i : Nat) => l.filter fun x => f x == 31 - (i : Int)) := by
      rw [List.flatMap_def, List.flatMap_def]
      congr 1
      apply List.map_congr_left
      intro i hi
      rw [List.filter_filter]
      apply List.filter_congr
      intro x _
      have hi' := List.mem_range.1 hi
      by_cases hc : f x = 31 - (i : Int)
      · simp [hc]; omega
      · simp [hc]
    rw [e1] at h1
    have e2 : (l.filter fun x => f x == 31 - (n : Int)) = l.filter fun x => !(decide (31 - (n : Int) < f x)) := by
      apply List.filter_congr
      intro x hx
      have := h x hx
      by_cases hc : f x = 31 - (n : Int)
      · simp [hc]
      · have : 31 - (n : Int) < f x := by omega
        simp [hc, this]
    simp only [List.flatMap_cons, List.flatMap_nil, List.append_nil]
    rw [e2]
    exact (h1.append_right _).trans (List.filter_append_perm _ _)

theorem ord1_perm {L1 : List W1} (h : ∀ x ∈ L1, okP x.p) : (ord1 L1).Perm L1 :=
  flat_perm W1.p 31 L1 (fun x hx => by have := h x hx; unfold okP at this; omega)

theorem flat_pairwise (L1 : List W1) (hc : L1.Pairwise (fun x y => x.c < y.c)) : ∀ n : Nat, ((List.range n).flatMap fun (i : Nat) => L1.filter fun x => x.p == 31 - (i : Int)).Pairwise (fun x y => y.p < x.p ∨ (x.p = y.p ∧ x.c < y.c))
  | 0 => by simp
  | n + 1 => by
    rw [List.range_succ, List.flatMap_append]
    simp only [List.flatMap_cons, List.flatMap_nil, List.append_nil]
    refine List.pairwise_append.2 ⟨flat_pairwise L1 hc n, ?_, ?_⟩
    · refine List.Pairwise.imp_of_mem (R := fun x y => x.c < y.c) ?_ (List.Pairwise.filter _ hc)
      intro x y hx hy hxy
      have h1 := (List.mem_filter.1 hx).2
      have h2 := (List.mem_filter.1 hy).2
      simp at h1 h2
      right
      exact ⟨by omega, hxy⟩
    · intro x hx y hy
      obtain ⟨i, hi, hx⟩ := List.mem_flatMap.1 hx
      have h1 := (List.mem_filter.1 hx).2
      have h2 := (List.mem_filter.1 hy).2
      have hi' := List.mem_range.1 hi
      simp at h1 h2
      left
      omega

theorem came_inj : ∀ {L1 : List W1}, L1.Pairwise (fun x y => x.c < y.c) → ∀ {x y}, x ∈ L1 → y ∈ L1 → x.c = y.c → x = y
  | [], _, _, _, hx, _, _ => by cases hx
  | z :: L1, h, x, y, hx, hy, e => by
    have h' := List.pairwise_cons.1 h
    rcases List.mem_cons.1 hx with rfl | hx1
    · rcases List.mem_cons.1 hy with rfl | hy1
      · rfl
      · have := h'.1 y hy1; omega
    · rcases List.mem_cons.1 hy with rfl | hy1
      · have := h'.1 x hx1; omega
      · exact came_inj h'.2 hx1 hy1 e

theorem sorted_is {w : World} {ab mb : Nat} {n : Int} {L1 : List W1} (h : WIn w ab mb n L1) {ts : List Int} (hp : ts.Perm (L1.map W1.t)) (hs : ts.Pairwise (fun x y => ¬ cfT cfL L1 y x < 0)) : ts = ordT (L1.map W1.pair) := by
  have hn := h.nodup
  have h1 := ord1_perm (fun x hx => (h.ok x hx).2.1)
  have h2 := flat_pairwise L1 h.came 31
  have e : ordT (L1.map W1.pair) = (ord1 L1).map W1.t := by
    unfold ordT
    rw [← ord1_pair, List.map_map]
    rfl
  rw [e]
  have hmem : ∀ t ∈ L1.map W1.t, ∃ x ∈ L1, x.t = t ∧ rowOf L1 t = (x.p, x.c) := fun t ht => by
    obtain ⟨x, hx, rfl⟩ := List.mem_map.1 ht
    exact ⟨x, hx, rfl, rowOf_mem hn hx⟩
  refine List.Perm.eq_of_pairwise (le := fun x y => ¬ cfT cfL L1 y x < 0) ?_ hs ?_ (hp.trans (h1.map W1.t).symm)
  · intro a b ha hb hab hba
    obtain ⟨x, hx, rfl, hxr⟩ := hmem a (hp.mem_iff.1 ha)
    obtain ⟨y, hy, rfl, hyr⟩ := hmem b ((h1.map W1.t).mem_iff.1 hb)
    unfold cfT at hab hba
    rw [cfL_lt, hxr, hyr] at hab hba
    have hc : x.c = y.c := by simp at hab hba; omega
    rw [came_inj h.came hx hy hc]
  · rw [List.pairwise_map]
    refine List.Pairwise.imp_of_mem ?_ h2
    intro x y hx hy hxy
    unfold cfT
    rw [cfL_lt, rowOf_mem hn (h1.mem_iff.1 hx), rowOf_mem hn (h1.mem_iff.1 hy)]
    simp
    omega

end Go.Proofs.YtiiafhlckmkcnaaGreat

/- Package waits: List; All's closure goes over the list (a range over a function). -/
namespace Go.Proofs.YtiiafhlckmkcnaaGreat
open Go.RowKit Go.Shelf
attribute [local go_sem] Oper.semAt_some

/-- A list of ints of the call's own comes back. -/
def IntsPost (ts : List Int) (w : World) (e : Ending) (w' : World) : Prop :=
  ∃ v, e = .returned v ∧ w'.ownsRow w.heap.size 3 1 v ts.length (ts.map (Value.int .i64)) ∧ Chg [] w w'

set_option maxRecDepth 100000 in
set_option maxHeartbeats 400000 in
theorem list_any (ab mb : Nat) (n : Int) (L1 : List W1) (w : World) (hW : WIn w ab mb n L1) :
    Calls Tryz.prog 87 #[.pointer (some ⟨ab, 0, none⟩)] w (IntsPost (ordT (L1.map W1.pair)) w) := by
  have eg : ∀ args w, (callFunc 94 args).run Tryz.prog w = .ok (.enter 94 args) w := enters_of Tryz.func94 (by kernel_rfl) rfl
  have hs := sorted_any 94 cfL list1_any eg ab mb n L1 w hW (swo_list L1)
  have HS := Lib.hid hs
  have HW := Lib.hid hW
  clear eg hs hW
  go_enter Tryz.func87, Tryz.ntmps87
  go_wp2_with (go_at_call 62; refine HS.out.mono ?_; rintro e w' ⟨v, ts, rfl, hp, hs, ho, hC⟩)
  go_ret
  rw [sorted_is HW.out hp (by simpa using hs)] at ho
  exact ⟨v, rfl, ho, hC⟩

/-- Cells of a type that is not among Ts, a map, or what goes over one. -/
def keepT (Ts : List TypeId) : Obj → Bool
  | .cells _ e _ => !Ts.contains e
  | o => o.isWalk

/-- What a round that goes on keeps: all of that kind, but the blocks of S. -/
structure KpS (S : List Nat) (Ts : List TypeId) (W W' : World) : Prop where
  os : W'.os = W.os
  tape : W'.tape = W.tape
  output : W'.output = W.output
  size : W.heap.size ≤ W'.heap.size
  same : ∀ k o, W.heap[k]? = some o → k ∉ S → keepT Ts o = true → W'.heap[k]? = some o
theorem KpS.refl (S : List Nat) (Ts : List TypeId) (W : World) : KpS S Ts W W := ⟨rfl, rfl, rfl, Nat.le_refl _, fun _ _ h _ _ => h⟩
theorem KpS.trans {S : List Nat} {Ts : List TypeId} {A B C : World} (h : KpS S Ts A B) (g : KpS S Ts B C) : KpS S Ts A C :=
  ⟨g.os.trans h.os, g.tape.trans h.tape, g.output.trans h.output, Nat.le_trans h.size g.size, fun k o hk hn ho => g.same k o (h.same k o hk hn ho) hn ho⟩
theorem KpS.put {S : List Nat} {Ts : List TypeId} {W : World} {l : Nat} {o : Obj} (o' : Obj) (hl : W.heap[l]? = some o) (h1 : o.isCells = false) (h2 : o.isWalk = false) : KpS S Ts W (W.putObj l o') := by
  have hg := grownBy_putObj' W l o'
  refine ⟨hg.os, hg.tape, hg.output, hg.size, fun k x hk _ hx => ?_⟩
  refine (hg.block k (lt_of_blk hk) (fun e => ?_)).trans hk
  cases e
  rw [hl] at hk
  cases hk
  cases o <;> simp [keepT, Obj.isCells, Obj.isWalk] at hx h1 h2
/-- A step that turns blocks of S, or of a type among Ts. -/
theorem KpS.chg {S S2 : List Nat} {Ts : List TypeId} {W W' : World} (h : Chg S2 W W') (hS : ∀ k ∈ S2, k ∈ S ∨ ∀ o, W.heap[k]? = some o → keepT Ts o = false) : KpS S Ts W W' :=
  ⟨h.os, h.tape, h.output, h.size, fun k o hk hn ho => h.blk hk (fun hm => by
    rcases hS k hm with h1 | h1
    · exact hn h1
    · rw [h1 o hk] at ho; cases ho)⟩
theorem KpS.blk {S : List Nat} {Ts : List TypeId} {W W' : World} {k : Nat} {cs : Array Value} {e : TypeId} {fr : Nat × Nat} (h : KpS S Ts W W') (hb : W.heap[k]? = some (.cells cs e fr)) (hn : k ∉ S) (he : e ∉ Ts) : W'.heap[k]? = some (.cells cs e fr) :=
  h.same k _ hb hn (by simpa [keepT] using he)
theorem WIn.keptK {S : List Nat} {Ts : List TypeId} {w w' : World} {ab mb : Nat} {n : Int} {L1 : List W1} (h : WIn w ab mb n L1) (hC : KpS S Ts w w') (ha : ab ∉ S) (hm : mb ∉ S) (hT : 87 ∉ Ts) : WIn w' ab mb n L1 := by
  obtain ⟨M, ⟨es, cl, hb, hE⟩, hp⟩ := h.map
  exact ⟨hC.blk h.head ha hT, ⟨M, ⟨es, cl, hC.same _ _ hb hm rfl, hE⟩, hp⟩, h.ok, h.came, h.low⟩
theorem own_keptK {S : List Nat} {Ts : List TypeId} {w w' : World} {B : Nat} {e : TypeId} {size : Nat} {v : Value} {n : Nat} {xs : List Value} (h : w.ownsRow B e size v n xs) (hC : KpS S Ts w w') (hS : ∀ k ∈ S, k < B) (hT : e ∉ Ts) : w'.ownsRow B e size v n xs := by
  refine ⟨h.1, ?_⟩
  rcases h.2 with h2 | ⟨g, cap, cur, rfl, h4, h5, h6⟩
  · exact .inl h2
  · exact .inr ⟨g, cap, cur, rfl, h4, hC.blk h5 (fun hm => by have := hS g hm; omega) hT, h6⟩
theorem Chg.grown {w w' : World} (h : Chg [] w w') : w.grownBy w' none := ⟨h.os, h.tape, h.output, h.size, fun k hk _ => h.block k hk (by simp)⟩

theorem own_some {w : World} {B : Nat} {e : TypeId} {v : Value} {xs : List Value} {n : Nat} (h : w.ownsRow B e 1 v n xs) (hn : n ≠ 0) : ∃ g cap, v = .slice (some ⟨g, 0, none⟩) n cap ∧ B ≤ g ∧ g < w.heap.size ∧ ∀ j u, xs[j]? = some u → w.cell? ⟨g, j, none⟩ = some u := by
  rcases h.2 with ⟨_, h2⟩ | ⟨g, cap, cur, rfl, h4, h5, h6, h7, h8, h9⟩
  · exact absurd h2 hn
  · refine ⟨g, cap, rfl, h4, lt_of_blk h5, fun j u hj => ?_⟩
    refine cellB h5 ?_
    rw [← h9] at hj
    rw [List.getElem?_take] at hj
    split at hj
    · simpa using hj
    · cases hj
theorem own_none {w : World} {B : Nat} {e : TypeId} {v : Value} {xs : List Value} {n : Nat} (h : w.ownsRow B e 1 v n xs) : ∃ a cap, v = .slice a n cap := by
  rcases h.2 with ⟨h1, h2⟩ | ⟨g, cap, cur, rfl, _⟩
  · exact ⟨none, 0, by rw [h1, h2]⟩
  · exact ⟨_, _, rfl⟩

def encW (x : Int × Int) : Array Value := #[.agg #[.int .i64 x.1, .int .i64 x.2]]

theorem ordL_mem {L : WL} {x : Int × Int} (h : x ∈ ordL L) : x ∈ L := by
  obtain ⟨i, _, hx⟩ := List.mem_flatMap.1 h
  exact (List.mem_filter.1 hx).1
theorem prioR_mem : ∀ {L : WL}, (L.map (·.1)).Nodup → ∀ {x : Int × Int}, x ∈ L → prioR L x.1 = x.2
  | [], _, _, hx => by cases hx
  | (t, p) :: L, hn, x, hx => by
    have hn' := List.nodup_cons.1 hn
    unfold prioR
    rw [List.lookup_cons]
    rcases List.mem_cons.1 hx with rfl | hx1
    · simp
    · have : (x.1 == t) = false := by
        have : x.1 ≠ t := fun e => hn'.1 (List.mem_map.2 ⟨x, hx1, e⟩)
        simpa using this
      rw [this]
      exact prioR_mem hn'.2 hx1
theorem pair_nodup {L1 : List W1} (h : (L1.map W1.t).Nodup) : ((L1.map W1.pair).map (·.1)).Nodup := by
  rw [List.map_map]; exact h

set_option maxRecDepth 100000 in
set_option maxHeartbeats 1000000 in
theorem all1_stops (S : List Nat) (Ts : List TypeId) (hT1 : 3 ∉ Ts) (hT2 : 43 ∉ Ts) (hT3 : 87 ∉ Ts) (bw ab mb : Nat) (n : Int) (L1 : List W1) (w : World) (hS : ∀ k ∈ S, k < w.heap.size) (hbw : w.heap[bw]? = some (.cells #[.pointer (some ⟨ab, 0, none⟩)] 43 (0, 0)))
    (hW : WIn w ab mb n L1) (h1 : bw ∉ S) (h2 : ab ∉ S) (h3 : mb ∉ S) :
    SeqStopsK Fence.wide 4 Tryz.prog 86 #[.pointer (some ⟨bw, 0, none⟩)] encW (KpS S Ts) (fun xs => xs = ordL (L1.map W1.pair)) (fun pre => pre <+: ordL (L1.map W1.pair)) (ordL (L1.map W1.pair)).length w := fun l J Jx W hBW hJ hJx hY h0 => by
  have hWW : WIn W ab mb n L1 := hW.kept (S := []) ⟨hBW.os, hBW.tape, hBW.output, hBW.size, fun k hk _ => hBW.block k hk⟩ (by simp) (by simp)
  have hbW : W.heap[bw]? = some (.cells #[.pointer (some ⟨ab, 0, none⟩)] 43 (0, 0)) := (hBW.block bw (lt_of_blk hbw)).trans hbw
  have hls := list_any ab mb n L1 W hWW
  have cb := cellB hbW (i := 0) rfl
  refine callsIn_of_wp Tryz.func86 rfl trivial ?_ rfl
  simp only [Tryz.ntmps86, List.size_toArray, List.length_cons, List.length_nil, Nat.reduceAdd, Nat.reduceSub, Array.replicate_succ, Array.replicate_zero, List.push_toArray, List.append_toArray, List.nil_append, List.cons_append]
  have HL := Lib.hid hls
  have HS := Lib.hid hS
  have HW := Lib.hid hWW
  have HB := Lib.hid hbW
  have HBW := Lib.hid hBW.size
  have HJ := Lib.hid hJ
  have HJx := Lib.hid hJx
  have HY := Lib.hid hY
  clear hls hW hWW hbw hbW hBW hS hJ hJx hY
  refine ?_
  by_cases hnil : ordT (L1.map W1.pair) = []
  · have hnl : ordL (L1.map W1.pair) = [] := by
      unfold ordT at hnil
      exact List.map_eq_nil_iff.1 hnil
    rw [hnil] at HL
    clear hnil
    gi_wp2_with (refine ⟨trivial, ?_⟩; gi_at_call 87; refine (callsIn_wide.2 HL.out).mono ?_; rintro e w' ⟨v, rfl, ho, hC⟩; obtain ⟨a, cap, rfl⟩ := own_none ho)
    have HC := Lib.hid hC
    have HN := Lib.hid hnl
    clear hC ho hnl
    refine wpIn_loop_rounds 1 ?_
    rw [roundsIn_succ]
    gi_wp2
    go_end0
    exact ⟨⟨_, rfl⟩, .inl ⟨_, rfl, by rw [HN.out]; exact HJ.out _ W w' none h0 HC.out.grown (by simp)⟩⟩
  · gi_wp2_with (refine ⟨trivial, ?_⟩; gi_at_call 87; refine (callsIn_wide.2 HL.out).mono ?_; rintro e w' ⟨v, rfl, ho, hC⟩; obtain ⟨g, cap, rfl, hg⟩ := own_some ho (by simpa using hnil))
    have HO := Lib.hid ho
    have HC := Lib.hid hC
    have hlen : (ordT (L1.map W1.pair)).length = (ordL (L1.map W1.pair)).length := by unfold ordT; simp
    have hfew : (ordT (L1.map W1.pair)).length ≤ 16 := by
      have h1 := (ord1_perm (fun x hx => (HW.out.ok x hx).2.1)).length_eq
      rw [hlen, ← ord1_pair, List.length_map, h1]
      exact HW.out.few
    generalize hT : (ordT (L1.map W1.pair)).length = len at *
    have HT := Lib.hid hT
    have HLen := Lib.hid hlen
    clear ho hC hT hlen cb
    gi_loopw [10] (fun i wr => ∃ k : Nat, k ≤ len ∧ i = .int .i64 k ∧ J ((ordL (L1.map W1.pair)).take k) wr ∧ WIn wr ab mb n L1 ∧ wr.heap[bw]? = some (.cells #[.pointer (some ⟨ab, 0, none⟩)] 43 (0, 0)) ∧
        wr.ownsRow W.heap.size 3 1 (.slice (some ⟨g, 0, none⟩) len cap) len ((ordT (L1.map W1.pair)).map (Value.int .i64)) ∧ W.heap.size ≤ wr.heap.size)
      (fun i _ => len - (intOf i).toNat)
    case atStart => exact ⟨0, by omega, rfl, by simpa using HJ.out _ W w' none h0 HC.out.grown (by simp), HW.out.kept HC.out (by simp) (by simp), HC.out.blk HB.out (by simp), HO.out, HC.out.size⟩
    case round =>
      obtain ⟨k, hk, rfl, hJk, hWk, hbk, hok, hsz⟩ := hrel
      by_cases hlt : k < len
      · obtain ⟨_, _, hge, _, _, hcell⟩ := own_some hok (by omega)
        cases hge
        have hkl : k < (ordL (L1.map W1.pair)).length := by rw [← HLen.out]; exact hlt
        obtain ⟨x, hx⟩ : ∃ x, (ordL (L1.map W1.pair))[k]? = some x := ⟨_, List.getElem?_eq_getElem hkl⟩
        have hxt : ((ordT (L1.map W1.pair)).map (Value.int .i64))[k]? = some (.int .i64 x.1) := by
          unfold ordT
          rw [List.map_map, List.getElem?_map, hx]
          rfl
        have hck := hcell k _ hxt
        have hpr : prioR (L1.map W1.pair) x.1 = x.2 := prioR_mem (pair_nodup HW.out.nodup) (ordL_mem (List.mem_of_getElem? hx))
        have hP := prio_any ab mb n L1 x.1 wr hWk
        rw [hpr] at hP
        have cb := cellB hbk (i := 0) rfl
        have htk : (ordL (L1.map W1.pair)).take (k + 1) = (ordL (L1.map W1.pair)).take k ++ [x] := by
          rw [List.take_add_one, hx]; rfl
        obtain ⟨t, p⟩ := x
        generalize ((L1.map W1.pair).lookup t).isSome = bs at hP
        have HX := Lib.hid (And.intro hJk (And.intro hWk (And.intro hbk (And.intro hok (And.intro hsz (And.intro htk (And.intro hkl hx)))))))
        have HP := Lib.hid hP
        clear hJk hWk hbk hok hsz htk hkl hP hpr hxt hcell hx
        simp only at hck HP
        gi_wp2_with (refine ⟨trivial, ?_⟩; gi_at_call 88; refine (callsIn_wide.2 HP.out).mono ?_; rintro e w2 ⟨rfl, hC2⟩; obtain ⟨fn, tmps, assign, body, hy, hR⟩ := HY.out _ (t, p) w2 (HJ.out _ _ _ none HX.out.1 hC2.grown (by simp)) (by have := HX.out.2.2.2.2.2.2.1; rw [List.length_take]; omega); simp only [encW] at hy)
        refine hR.mono ?_
        rintro e W3 (⟨rfl, hJ3, hK⟩ | ⟨rfl, hJx3⟩)
        · have HJ3 := Lib.hid hJ3
          have HK := Lib.hid hK
          have HC2 := Lib.hid hC2
          clear hJ3 hK hC2 hy hR hck
          gi_wp2
          go_roundw
          case rel =>
            obtain ⟨hJk, hWk, hbk, hok, hsz, htk, hkl, hx⟩ := HX.out
            refine ⟨k + 1, by omega, by go_num, ?_, (hWk.kept HC2.out (by simp) (by simp)).keptK HK.out h2 h3 hT3, HK.out.blk (HC2.out.blk hbk (by simp)) h1 hT2, own_keptK (own_kept hok HC2.out (by simp)) HK.out (fun j hj => by have := HS.out j hj; have := HBW.out; omega) hT1, by have := HK.out.size; have := HC2.out.size; omega⟩
            rw [htk]; exact HJ3.out
          case measure => simp [intOf]; omega
        · have HJx3 := Lib.hid hJx3
          clear hJx3 hC2 hy hR hck
          gi_wp2
          refine bodyPost_ret (results_none rfl _ _ _) rfl ?_
          obtain ⟨hJk, hWk, hbk, hok, hsz, htk, hkl, hx⟩ := HX.out
          refine ⟨⟨_, rfl⟩, .inr ⟨_, ?_, HJx3.out⟩⟩
          rw [← htk]
          exact List.take_prefix _ _
      · have hkk : k = len := by omega
        have HJk := Lib.hid hJk
        clear hJk hWk hbk hok
        gi_wp2
        go_end0
        refine ⟨⟨_, rfl⟩, .inl ⟨_, rfl, ?_⟩⟩
        have := HJk.out
        rwa [List.take_of_length_le (by rw [← HLen.out]; omega)] at this

end Go.Proofs.YtiiafhlckmkcnaaGreat

/- Package waits: All, First, Take, Clear. -/
namespace Go.Proofs.YtiiafhlckmkcnaaGreat
open Go.RowKit Go.Shelf
attribute [local go_sem] Oper.semAt_some

set_option maxRecDepth 100000 in
set_option maxHeartbeats 400000 in
theorem all_any (p : Option Addr) (w : World) : Calls Tryz.prog 65 #[.pointer p] w fun e w' => e = .returned (.func (.func 86) #[] #[.pointer (some ⟨w.heap.size, 0, none⟩)]) ∧ w' = w.alloc (.cells #[.pointer p] 43) := by
  go_enter Tryz.func65, Tryz.ntmps65
  go_wp2
  go_ret
  exact ⟨rfl, rfl⟩

theorem ownFrom_blk {β : Type} (B k : Nat) (cs : Array Value) (T : TypeId) (fr : Nat × Nat) : OwnFrom B (fun (_ : β) W => W.heap[k]? = some (.cells cs T fr)) := fun _ W W' row h hg hr => by
  refine (hg.block k (lt_of_blk h) (fun e => ?_)).trans h
  obtain ⟨_, o, ho, hc⟩ := hr k e.symm
  rw [h] at ho
  cases ho
  cases hc
theorem ownFrom_chg {β : Type} (B : Nat) (S : List Nat) (w : World) (hB : w.heap.size ≤ B) : OwnFrom B (fun (_ : β) W => Chg S w W) := fun _ W W' row h hg hr => by
  refine h.trans' (S2 := row.toList) (Chg.of_grown hg (fun k hk => by simp [hk])) (fun k hk => ?_)
  have := (hr k (by simpa using hk)).1
  exact .inr (by omega)
theorem keepsFrom_chg {B : Nat} {S : List Nat} {W W' : World} (h : Chg S W W') (hS : ∀ k ∈ S, ∀ o, W.heap[k]? = some o → o.isCells = true) : KeepsFrom B W W' :=
  ⟨h.size, fun k o _ hk ho => h.blk hk (fun hm => by rw [hS k hm o hk] at ho; cases ho)⟩

set_option maxRecDepth 100000 in
set_option maxHeartbeats 1000000 in
theorem first_any (ab mb : Nat) (n : Int) (L1 : List W1) (w : World) (hW : WIn w ab mb n L1) :
    Calls Tryz.prog 72 #[.pointer (some ⟨ab, 0, none⟩)] w fun e w' => e = .returned (.tuple #[.int .i64 (headT (ordL (L1.map W1.pair))), .bool (headB (ordL (L1.map W1.pair)))]) ∧ Chg [] w w' := by
  have hC0 : Chg [] w (((w.alloc (.cells #[.int .i64 0] 3)).alloc (.cells #[.bool false] 4)).alloc (.cells #[.pointer (some ⟨ab, 0, none⟩)] 43)) := (((Chg.refl [] w).alloc _).alloc _).alloc _
  have hab := lt_of_blk hW.head
  have hmb := hW.map.lt
  have hWl := hW.kept hC0 (by simp) (by simp)
  have b4 : (((w.alloc (.cells #[.int .i64 0] 3)).alloc (.cells #[.bool false] 4)).alloc (.cells #[.pointer (some ⟨ab, 0, none⟩)] 43)).heap[w.heap.size]? = some (.cells #[.int .i64 0] 3 (0, 0)) := blk_alloc (blk_alloc (heap_alloc_eq w _) _) _
  have b5 : (((w.alloc (.cells #[.int .i64 0] 3)).alloc (.cells #[.bool false] 4)).alloc (.cells #[.pointer (some ⟨ab, 0, none⟩)] 43)).heap[w.heap.size + 1]? = some (.cells #[.bool false] 4 (0, 0)) := blk_alloc (by have := heap_alloc_eq (w.alloc (.cells #[.int .i64 0] 3)) (.cells #[.bool false] 4); rwa [World.size_alloc] at this) _
  have b2 : (((w.alloc (.cells #[.int .i64 0] 3)).alloc (.cells #[.bool false] 4)).alloc (.cells #[.pointer (some ⟨ab, 0, none⟩)] 43)).heap[w.heap.size + 1 + 1]? = some (.cells #[.pointer (some ⟨ab, 0, none⟩)] 43 (0, 0)) := by
    have := heap_alloc_eq ((w.alloc (.cells #[.int .i64 0] 3)).alloc (.cells #[.bool false] 4)) (.cells #[.pointer (some ⟨ab, 0, none⟩)] 43); rwa [World.size_alloc, World.size_alloc] at this
  have hseq := all1_stops [w.heap.size, w.heap.size + 1] [] (by simp) (by simp) (by simp) (w.heap.size + 1 + 1) ab mb n L1 (((w.alloc (.cells #[.int .i64 0] 3)).alloc (.cells #[.bool false] 4)).alloc (.cells #[.pointer (some ⟨ab, 0, none⟩)] 43)) (by simp; omega) b2 hWl (by simp; omega) (by simp; omega) (by simp; omega)
  have HS := Lib.hid hseq
  have H0 := Lib.hid (And.intro b4 (And.intro b5 (And.intro b2 hC0)))
  clear hW hWl hC0 b4 b5 b2 hseq
  refine (callsIn_wide (n := 6)).1 ?_
  refine callsIn_of_wp_marks Tryz.func72 rfl trivial ?_ rfl
  simp only [Tryz.ntmps72, List.size_toArray, List.length_cons, List.length_nil, Nat.reduceAdd, Nat.reduceSub, Array.replicate_succ, Array.replicate_zero, List.push_toArray, List.append_toArray, List.nil_append, List.cons_append]
  refine wpIn_wide.2 ?_
  go_wp2
  go_step3
  go_wp2
  go_step3
  go_wp2_with (go_at_call 65; refine (all_any _ _).mono ?_; rintro e w' ⟨rfl, rfl⟩)
  refine (wpIn_wide (n := 5)).1 ?_
  generalize hWL : (((w.alloc (.cells #[.int .i64 0] 3)).alloc (.cells #[.bool false] 4)).alloc (.cells #[.pointer (some ⟨ab, 0, none⟩)] 43)) = WL at *
  have HWL := Lib.hid (show WL.heap.size = w.heap.size + 1 + 1 + 1 by rw [← hWL]; simp)
  clear hWL
  refine wpIn_rangeFunc_ownH rfl (by omega) (gf := 86) (lb := #[.pointer (some ⟨w.heap.size + 1 + 1, 0, none⟩)]) rfl trivial (enters_of Tryz.func86 (by kernel_rfl) rfl) HS.out
    KpS.trans (fun W l o o' _ ho h1 h2 => KpS.put o' ho h1 h2) (Below.refl _ _) (fun _ => rfl)
    (fun pre W => pre = [] ∧ W.heap[w.heap.size]? = some (.cells #[.int .i64 0] 3 (0, 0)) ∧ W.heap[w.heap.size + 1]? = some (.cells #[.bool false] 4 (0, 0)) ∧ W.heap[w.heap.size + 1 + 1]? = some (.cells #[.pointer (some ⟨ab, 0, none⟩)] 43 (0, 0)) ∧ Chg [] w W)
    (fun c pre W => c = .exit 0 ∧ ∃ x, pre = [x] ∧ W.heap[w.heap.size]? = some (.cells #[.int .i64 x.1] 3 (0, 0)) ∧ W.heap[w.heap.size + 1]? = some (.cells #[.bool true] 4 (0, 0)) ∧ Chg [] w W)
    (OwnFrom.and (ownFrom_pure _ (fun pre : List (Int × Int) => pre = [])) (OwnFrom.and (ownFrom_blk _ _ _ _ _) (OwnFrom.and (ownFrom_blk _ _ _ _ _) (OwnFrom.and (ownFrom_blk _ _ _ _ _) (ownFrom_chg _ _ _ (by rw [HWL.out]; omega))))))
    (fun c s A B row hs hg hr => by
      obtain ⟨h1, x, h2, h3, h4, h5⟩ := hs
      exact ⟨h1, x, h2, ownFrom_blk (β := Unit) _ _ _ _ _ () A B row h3 hg hr, ownFrom_blk (β := Unit) _ _ _ _ _ () A B row h4 hg hr, ownFrom_chg (β := Unit) _ _ _ (by rw [HWL.out]; omega) () A B row h5 hg hr⟩)
    ⟨rfl, H0.out⟩
    (fun x a' W => ∃ Bx, w.heap.size + 1 + 1 < Bx ∧ W.heap[Bx]? = some (.cells #[.int .i64 x.1, .int .i64 x.2] 104 (0, 0)) ∧ a' = { tmps := #[.pointer (some ⟨ab, 0, none⟩), undef, .int .i64 0, .bool false, .pointer (some ⟨w.heap.size, 0, none⟩), .pointer (some ⟨w.heap.size + 1, 0, none⟩), .pointer (some ⟨Bx, 0, none⟩), .pointer (some ⟨ab, 0, none⟩), .func (.func 86) #[] #[.pointer (some ⟨w.heap.size + 1 + 1, 0, none⟩)], .agg #[.int .i64 x.1, .int .i64 x.2], undef, undef, undef, undef], defers := [] })
    (fun x a' _ A B row hs hg hr => by
      obtain ⟨Bx, h1, h2, h3⟩ := hs
      exact ⟨Bx, h1, ownFrom_blk (β := Unit) _ _ _ _ _ () A B row h2 hg hr, h3⟩)
    ?assign ?body ?done ?stop
  case assign =>
    rintro l pre x W K ⟨rfl, h4, h5, h2, hC⟩ hK
    have HC := Lib.hid (And.intro h4 (And.intro h5 (And.intro h2 hC)))
    have HSz := Lib.hid (lt_of_blk h2)
    clear h4 h5 h2 hC
    unfold encW
    gi_wp2
    exact hK _ _ (keepsFrom_chg ((Chg.refl [] _).alloc _) (by simp)) (KpS.chg ((Chg.refl [] _).alloc _) (by simp)) ⟨by simp, blk_alloc HC.out.1 _, blk_alloc HC.out.2.1 _, blk_alloc HC.out.2.2.1 _, HC.out.2.2.2.alloc _⟩ ⟨W.heap.size, HSz.out, heap_alloc_eq _ _, rfl⟩
  case body =>
    rintro l pre x a' W hl ⟨r, hr⟩ ⟨rfl, h4, h5, h2, hC⟩ ⟨Bx, hBx, hX, rfl⟩ hlt
    have cx := cellB hX (i := 0) rfl
    have c4 := cellB h4 (i := 0) rfl
    have f4 := frozenB h4 0
    have c5 := cellB h5 (i := 0) rfl
    have f5 := frozenB h5 0
    have HC := Lib.hid (And.intro h4 (And.intro h5 hC))
    clear h4 h5 h2 hC hX hr
    gi_wp2
    refine ⟨keepsFrom_chg (S := [w.heap.size, w.heap.size + 1]) (((Chg.refl _ _).setCell _ _ (by simp)).setCell _ _ (by simp)) (by
      intro k hk o ho
      simp at hk
      rcases hk with rfl | rfl
      · rw [HC.out.1] at ho; cases ho; rfl
      · rw [HC.out.2.1] at ho; cases ho; rfl), rfl, x, rfl, ?_, ?_, ?_⟩
    · exact blk_setCell_ne (blk_setCell HC.out.1 _) (by simp) _
    · exact blk_setCell (blk_setCell_ne HC.out.2.1 (by simp) _) _
    · exact (HC.out.2.2.setCell _ _ (by simp)).setCell _ _ (by simp)
  case done =>
    rintro D xs W hD hxs ⟨hnil, h4, h5, h2, hC⟩ hK
    have HN := Lib.hid (hxs.symm.trans hnil)
    have c4 := cellB h4 (i := 0) rfl
    have c5 := cellB h5 (i := 0) rfl
    have HC := Lib.hid hC
    have HK := Lib.hid hK
    clear h4 h5 h2 hC hK hnil hxs
    go_wp2
    go_quiet (fail)
    go_wp2
    refine ⟨by simp, .inl ⟨_, _, rfl, run_takeDeferred (show (W.drewN nq).heap[D]? = _ from HK.out), ?_⟩⟩
    refine ⟨_, results_tmp2 rfl _ _ _, ?_, ((HC.out.drewN nq).setBlock D _ (.inr (by have := HWL.out; omega)))⟩
    rw [HN.out]
    rfl
  case stop =>
    rintro D c pre W hD hpre ⟨rfl, x, rfl, h4, h5, hC⟩ hK
    have HN := Lib.hid hpre
    have c4 := cellB h4 (i := 0) rfl
    have c5 := cellB h5 (i := 0) rfl
    have HC := Lib.hid hC
    have HK := Lib.hid hK
    clear h4 h5 hC hK hpre
    refine wpIn_wide.2 ?_
    go_wp2
    go_quiet (fail)
    go_wp2
    refine ⟨by simp, .inl ⟨_, _, rfl, run_takeDeferred (show (W.drewN nq).heap[D]? = _ from HK.out), ?_⟩⟩
    refine ⟨_, results_tmp2 rfl _ _ _, ?_, ((HC.out.drewN nq).setBlock D _ (.inr (by have := HWL.out; omega)))⟩
    obtain ⟨r, hr⟩ := HN.out
    rw [← hr]
    rfl

theorem ord_nil {w : World} {ab mb : Nat} {n : Int} {L1 : List W1} (h : WIn w ab mb n L1) (hn : ordL (L1.map W1.pair) = []) : L1 = [] := by
  have h1 := (ord1_perm (fun x hx => (h.ok x hx).2.1))
  have : ord1 L1 = [] := by
    rw [← ord1_pair] at hn
    exact List.map_eq_nil_iff.1 hn
  rw [this] at h1
  exact h1.symm.eq_nil

def w1rest (L1 : List W1) : List W1 := match ordL (L1.map W1.pair) with | [] => L1 | x :: _ => w1del L1 x.1

set_option maxRecDepth 100000 in
set_option maxHeartbeats 1000000 in
theorem take_in (ab mb : Nat) (n : Int) (L1 : List W1) (w : World) (hW : WIn w ab mb n L1) :
    Calls Tryz.prog 41 #[.pointer (some ⟨ab, 0, none⟩)] w fun e w' => e = .returned (.tuple #[.int .i64 (headT (ordL (L1.map W1.pair))), .bool (headB (ordL (L1.map W1.pair)))]) ∧ WIn w' ab mb n (w1rest L1) ∧ Chg [ab, mb] w w' := by
  have hf := first_any ab mb n L1 w hW
  have HW := Lib.hid hW
  have hh := hW.head
  have hm := hW.map
  have hne := hW.ne
  clear hW
  unfold w1rest
  cases ho : ordL (L1.map W1.pair) with
  | nil =>
    rw [ho] at hf
    have HF := Lib.hid hf
    clear hf ho
    simp only [headT, headB] at HF
    go_enter Tryz.func41, Tryz.ntmps41
    go_wp2_with (go_at_call 72; refine HF.out.mono ?_; rintro e w' ⟨rfl, hC⟩)
    go_ret2
    exact ⟨rfl, HW.out.kept hC (by simp) (by simp), hC.mono (by simp)⟩
  | cons x r =>
    rw [ho] at hf
    have HF := Lib.hid hf
    clear hf ho
    simp only [headT, headB] at HF
    obtain ⟨t, p⟩ := x
    simp only at HF
    go_enter Tryz.func41, Tryz.ntmps41
    go_wp2_with (go_at_call 72; refine HF.out.mono ?_; rintro e w' ⟨rfl, hC⟩; have b0 := hC.blk hh (by simp); have c0 := cellB b0 (i := 0) rfl; obtain ⟨w2, hrun, hM, hC2⟩ := run_delete_P (P := Tryz.prog) Tryz.underlying85 Tryz.underlying3 (hm.kept hC (by simp)) t 3 0)
    have b2 := hC2.blk (k := ab) b0 (by simpa using hne.symm)
    have hC3 : Chg [ab, mb] w w2 := (hC.mono (by simp)).trans' hC2 (by simp)
    clear hC2 b0 hm hh
    go_ret2
    refine ⟨rfl, ⟨b2, ?_, fun x hx => HW.out.ok x ((w1del_sub L1 t).subset hx), HW.out.came.sublist (w1del_sub L1 t), HW.out.low⟩, hC3⟩
    rw [w1del_row]
    exact hM


end Go.Proofs.YtiiafhlckmkcnaaGreat

/- Package waits: the contracts of its methods over lists of (thread, priority), as other texts use them. -/
namespace Go.Proofs.YtiiafhlckmkcnaaGreat
open Go.RowKit

theorem putc (ab mb : Nat) (N : Int) (L : WL) (t p : Int) (w : World) (hW : WAt w ab mb N L) (hN : N < 4611686018427387904) :
    Calls Tryz.prog 43 #[.pointer (some ⟨ab, 0, none⟩), .int .i64 t, .int .i64 p] w fun e w' => e = .returned (.int .i64 (askR L t p false)) ∧ WAt w' ab mb (N + 1) (putL L t p) ∧ Chg [ab, mb] w w' := by
  obtain ⟨n, L1, h, rfl, hn⟩ := hW
  by_cases ha : askR (L1.map W1.pair) t p false = 0
  · refine (put_yes ab mb n L1 t p w h (by omega) ha).mono ?_
    rintro e w' ⟨rfl, h1, h2⟩
    exact ⟨by rw [ha], ⟨n + 1, _, h1, by unfold putL; rw [if_pos ha]; simp [W1.pair], by omega⟩, h2⟩
  · refine (put_no ab mb n L1 t p w h ha).mono ?_
    rintro e w' ⟨rfl, h2⟩
    exact ⟨rfl, ⟨n, _, h.kept h2 (by simp) (by simp), by unfold putL; rw [if_neg ha], by omega⟩, h2.mono (by simp)⟩

theorem changec (ab mb : Nat) (N : Int) (L : WL) (t p : Int) (w : World) (hW : WAt w ab mb N L) :
    Calls Tryz.prog 53 #[.pointer (some ⟨ab, 0, none⟩), .int .i64 t, .int .i64 p] w fun e w' => e = .returned (.int .i64 (askR L t p true)) ∧ WAt w' ab mb N (chgL L t p) ∧ Chg [ab, mb] w w' := by
  obtain ⟨n, L1, h, rfl, hn⟩ := hW
  by_cases ha : askR (L1.map W1.pair) t p true = 0
  · refine (change_yes ab mb n L1 t p w h ha).mono ?_
    rintro e w' ⟨rfl, h1, h2⟩
    exact ⟨by rw [ha], ⟨n, _, h1, by unfold chgL; rw [if_pos ha, w1upd_pair], by omega⟩, h2⟩
  · refine (change_no ab mb n L1 t p w h ha).mono ?_
    rintro e w' ⟨rfl, h2⟩
    exact ⟨rfl, ⟨n, _, h.kept h2 (by simp) (by simp), by unfold chgL; rw [if_neg ha], by omega⟩, h2.mono (by simp)⟩

theorem leavec (ab mb : Nat) (N : Int) (L : WL) (t : Int) (w : World) (hW : WAt w ab mb N L) :
    Calls Tryz.prog 50 #[.pointer (some ⟨ab, 0, none⟩), .int .i64 t] w fun e w' => e = .returned (.int .i64 (askR L t 1 true)) ∧ WAt w' ab mb N (lvL L t) ∧ Chg [ab, mb] w w' := by
  obtain ⟨n, L1, h, rfl, hn⟩ := hW
  by_cases ha : askR (L1.map W1.pair) t 1 true = 0
  · refine (leave_yes ab mb n L1 t w h ha).mono ?_
    rintro e w' ⟨rfl, h1, h2⟩
    exact ⟨by rw [ha], ⟨n, _, h1, by unfold lvL; rw [if_pos ha, w1del_pair], by omega⟩, h2⟩
  · refine (leave_no ab mb n L1 t w h ha).mono ?_
    rintro e w' ⟨rfl, h2⟩
    exact ⟨rfl, ⟨n, _, h.kept h2 (by simp) (by simp), by unfold lvL; rw [if_neg ha], by omega⟩, h2.mono (by simp)⟩

theorem prioc (ab mb : Nat) (N : Int) (L : WL) (t : Int) (w : World) (hW : WAt w ab mb N L) :
    Calls Tryz.prog 88 #[.pointer (some ⟨ab, 0, none⟩), .int .i64 t] w fun e w' => e = .returned (.tuple #[.int .i64 (prioR L t), .bool (hasR L t)]) ∧ Chg [] w w' := by
  obtain ⟨n, L1, h, rfl, hn⟩ := hW
  exact prio_any ab mb n L1 t w h

theorem hasc (ab mb : Nat) (N : Int) (L : WL) (t : Int) (w : World) (hW : WAt w ab mb N L) :
    Calls Tryz.prog 69 #[.pointer (some ⟨ab, 0, none⟩), .int .i64 t] w fun e w' => e = .returned (.bool (hasR L t)) ∧ Chg [] w w' := by
  obtain ⟨n, L1, h, rfl, hn⟩ := hW
  exact has_any ab mb n L1 t w h

theorem listc (ab mb : Nat) (N : Int) (L : WL) (w : World) (hW : WAt w ab mb N L) :
    Calls Tryz.prog 87 #[.pointer (some ⟨ab, 0, none⟩)] w (IntsPost (ordT L) w) := by
  obtain ⟨n, L1, h, rfl, hn⟩ := hW
  exact list_any ab mb n L1 w h

theorem firstc (ab mb : Nat) (N : Int) (L : WL) (w : World) (hW : WAt w ab mb N L) :
    Calls Tryz.prog 72 #[.pointer (some ⟨ab, 0, none⟩)] w fun e w' => e = .returned (.tuple #[.int .i64 (headT (ordL L)), .bool (headB (ordL L))]) ∧ Chg [] w w' := by
  obtain ⟨n, L1, h, rfl, hn⟩ := hW
  exact first_any ab mb n L1 w h

theorem takec (ab mb : Nat) (N : Int) (L : WL) (w : World) (hW : WAt w ab mb N L) :
    Calls Tryz.prog 41 #[.pointer (some ⟨ab, 0, none⟩)] w fun e w' => e = .returned (.tuple #[.int .i64 (headT (ordL L)), .bool (headB (ordL L))]) ∧ WAt w' ab mb N (takeL L) ∧ Chg [ab, mb] w w' := by
  obtain ⟨n, L1, h, rfl, hn⟩ := hW
  refine (take_in ab mb n L1 w h).mono ?_
  rintro e w' ⟨rfl, h1, h2⟩
  refine ⟨rfl, ⟨n, _, h1, ?_, hn⟩, h2⟩
  unfold takeL w1rest
  cases ordL (L1.map W1.pair) with
  | nil => rfl
  | cons x r => exact (w1del_pair L1 x.1).symm

def ClearPost (ab mb : Nat) (N : Int) (L : WL) (w : World) (e : Ending) (w' : World) : Prop :=
  ∃ v, e = .returned v ∧ w'.ownsRow w.heap.size 3 1 v (ordT L).length ((ordT L).map (Value.int .i64)) ∧ WAt w' ab mb N [] ∧ Chg [ab, mb] w w'


def NewP (w : World) (e : Ending) (w' : World) : Prop := ∃ ab mb, e = .returned (.pointer (some ⟨ab, 0, none⟩)) ∧ w.heap.size ≤ ab ∧ w.heap.size ≤ mb ∧ WAt w' ab mb 0 [] ∧ Chg [] w w'

theorem newc (w : World) : Calls Tryz.prog 13 #[] w (NewP w) := by
  refine (new_any w).mono ?_
  rintro e w' ⟨ab, mb, rfl, h1, h2, h3, h4⟩
  exact ⟨ab, mb, rfl, h1, h2, ⟨0, [], h3, rfl, by omega⟩, h4⟩

/-- What a waiting list always is. -/
theorem WAt.facts {w : World} {ab mb : Nat} {N : Int} {L : WL} (h : WAt w ab mb N L) : (L.map (·.1)).Nodup ∧ (∀ x ∈ L, okT x.1 ∧ okP x.2) ∧ L.length ≤ 16 := by
  obtain ⟨n, L1, h, rfl, hn⟩ := h
  refine ⟨pair_nodup h.nodup, ?_, by rw [List.length_map]; exact h.few⟩
  intro x hx
  obtain ⟨y, hy, rfl⟩ := List.mem_map.1 hx
  exact ⟨(h.ok y hy).1, (h.ok y hy).2.1⟩

end Go.Proofs.YtiiafhlckmkcnaaGreat
