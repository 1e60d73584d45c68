
/- The wheel: remove: contract (written by wip/wheel1.py). -/
import Derived.Test.YtonahpilmchnkaaHd
import Derived.Deep.RegionHeld3
import Derived.Shelf.Abstract
namespace Go.Proofs.Ytonahpilmchnkaa
open Go.RowKit

set_option maxRecDepth 100000 in
set_option maxHeartbeats 4000000 in
theorem removec (b : Nat) (vs : List Value) (s : HS) (i : Nat) (w : World) (h : HAt w b vs s) (hi : i < 64) (hh : hasH s.M i = true) :
    Calls Try.prog 44 #[.pointer (some ⟨b, 0, none⟩), .int .i64 (i : Int)] w fun e w' => e = .returned (.tuple #[]) ∧ ∃ vs', HAt w' b vs' ⟨delH s.M i, s.c⟩ ∧ Chg [b] w w' ∧ (∀ k ∈ blocksH b vs', k ∈ blocksH b vs ∨ w.heap.size ≤ k) := by
  obtain ⟨x, hx, hxi, hwx⟩ : ∃ x ∈ s.M, x.1 = (i : Int) ∧ whereH s.M i = x.2.1 % 64 + 1 := by
    rcases where_has (M := s.M) (n := i) with ⟨_, h2⟩ | ⟨x, h1, h2, h3, _⟩
    · rw [h2] at hh; cases hh
    · exact ⟨x, h1, h2, h3⟩
  obtain ⟨k, hk⟩ : ∃ k : Nat, (k : Int) = x.2.1 % 64 := ⟨(x.2.1 % 64).toNat, by omega⟩
  have hk64 : k < 64 := by omega
  rw [← hk] at hwx
  obtain ⟨v, hv⟩ : ∃ v, vs[k]? = some v := ⟨_, List.getElem?_eq_getElem (by rw [h.len]; exact hk64)⟩
  have hxr : x ∈ ringH s.M k := List.mem_filter.2 ⟨hx, by simp [hk]⟩
  have hlen : 0 < (ringH s.M k).length := List.length_pos_of_mem hxr
  have hl2 : (ringH s.M k).length ≤ 64 := Nat.le_trans (ring_len _ _) h.inv.few
  obtain ⟨g, cap, rfl⟩ : ∃ g cap, v = .slice (some ⟨g, 0, none⟩) (ringH s.M k).length cap := by
    rcases (h.own k v hv).2 with ⟨_, e2⟩ | ⟨g, cap, cur, e1, _⟩
    · omega
    · exact ⟨g, cap, e1⟩
  have hrow := (RowT.of_own (h.own k _ hv) rfl).1
  obtain ⟨bx, hbx⟩ : ∃ bx, bx = w.heap.size := ⟨_, rfl⟩
  have hb64 := h.lt b (mem_blocks.2 (.inl rfl))
  have hgl : g < w.heap.size := h.lt g (mem_blocks.2 (.inr ⟨k, _, hv, by simp [Value.ownBlock]⟩))
  have hgb : b ≠ g := fun e => h.notb hv (by simp [Value.ownBlock, e])
  obtain ⟨w0, hw0⟩ : ∃ w0, w0 = w.alloc (intB i) := ⟨_, rfl⟩
  have hC0 : Chg [] w w0 := by rw [hw0]; exact (Chg.refl _ _).alloc _
  have hbox : w0.heap[bx]? = some (intB i) := by rw [hw0, hbx]; exact heap_alloc_eq w _
  have h0 := h.calm hC0
  have c3 := cellB (i := 0) (v := .int .i64 (i : Int)) hbox rfl
  have cW := h0.cW hi
  rw [hwx] at cW
  have cR := h0.cR hv
  have cN := h0.cN
  have fb := h0.cfr
  have hsz : w0.heap.size = bx + 1 := by rw [hw0, hbx]; simp
  have hbb : b ≠ bx := by omega
  have hbl : b < bx := by omega
  have hiz : (i : Int) < 64 := by omega
  have hkz : (k : Int) < 64 := by omega
  have hwk : IntKind.i64.wrap (k : Int) = (k : Int) := by rw [IntKind.wrap_i64]; omega
  have hrow0 := hrow.kept hC0 (by simp)
  have HH := Lib.hid (And.intro h0 (And.intro hrow0 (And.intro hbox (And.intro hC0 (And.intro hv (And.intro hx (And.intro hxi (And.intro hk (And.intro hlen hl2)))))))))
  obtain ⟨n, hn⟩ : ∃ n, n = (ringH s.M k).length := ⟨_, rfl⟩
  obtain ⟨m, hm⟩ : ∃ m : Int, m = s.M.length := ⟨_, rfl⟩
  rw [← hm] at cN
  rw [← hn] at cR
  have hms : 1 ≤ m ∧ m ≤ 64 := by
    have h1 := h.inv.few
    have h2 := ring_len s.M k
    omega
  have HN := Lib.hid (And.intro hn hm)
  clear h h0 hrow hrow0 hC0 hbox hwx hx hxi hk hxr hlen hl2 hn hm hh hv
  unfold intB at hw0
  go_enter Try.func44, Try.ntmps44
  go_wp2
  rw [← hbx, ← hw0]
  clear hbx hw0

  refine wp_region_held_drew (S := fun _ => True) (by kernel_rfl) trivial (fun _ => ?_)
  refine wpAnyH_take (i := 0) (v := ?_) (by simp only [List.getElem?_toArray, List.getElem?_cons_zero]; rfl) (by kernel_rfl) (by kernel_rfl) (by kernel_rfl) (by exact fun _ _ _ h => h) (Or.inl ⟨by kernel_rfl, ?_⟩) trivial ?_
  case refine_2 => ((intro w _; go_simp) <;> with_reducible rfl)
  try simp only [Act.put, List.setIfInBounds_toArray, List.set_cons_zero, List.set_cons_succ]
  refine wpAnyH_take (i := 2) (v := ?_) (by simp only [List.getElem?_toArray, List.getElem?_cons_succ, List.getElem?_cons_zero]; rfl) (by kernel_rfl) (by kernel_rfl) (by kernel_rfl) (by exact fun _ _ _ h => h) (Or.inl ⟨by kernel_rfl, ?_⟩) trivial ?_
  case refine_2 => ((intro w _; go_simp) <;> with_reducible rfl)
  try simp only [Act.put, List.setIfInBounds_toArray, List.set_cons_zero, List.set_cons_succ]
  refine wpAnyH_take (i := 3) (v := ?_) (by simp only [List.getElem?_toArray, List.getElem?_cons_succ, List.getElem?_cons_zero]; rfl) (by kernel_rfl) (by kernel_rfl) (by kernel_rfl) (by exact fun _ _ _ h => h) (Or.inl ⟨by kernel_rfl, ?_⟩) trivial ?_
  case refine_2 => ((intro w _; go_simp) <;> with_reducible rfl)
  try simp only [Act.put, List.setIfInBounds_toArray, List.set_cons_zero, List.set_cons_succ]
  refine wpAnyH_ready (rs := [1]) (by kernel_rfl) (by simp) ?_
  refine AllReadyH.cons (by simp only [List.getElem?_toArray, List.getElem?_cons_succ, List.getElem?_cons_zero]; rfl) (fun K hK => ?_) AllReadyH.nil
  go_simp
  refine hK.out _ _ trivial (fun _ => ?_)
  clear hK K
  try simp only [Act.put, List.setIfInBounds_toArray, List.set_cons_zero, List.set_cons_succ]
  refine wpAnyH_ready (rs := [4]) (by kernel_rfl) (by simp) ?_
  refine AllReadyH.cons (by simp only [List.getElem?_toArray, List.getElem?_cons_succ, List.getElem?_cons_zero]; rfl) (fun K hK => ?_) AllReadyH.nil
  go_simp
  refine hK.out _ _ trivial (fun _ => ?_)
  clear hK K
  try simp only [Act.put, List.setIfInBounds_toArray, List.set_cons_zero, List.set_cons_succ]
  refine wpAnyH_ready (rs := [5]) (by kernel_rfl) (by simp) ?_
  refine AllReadyH.cons (by simp only [List.getElem?_toArray, List.getElem?_cons_succ, List.getElem?_cons_zero]; rfl) (fun K hK => ?_) AllReadyH.nil
  go_simp
  refine hK.out _ _ trivial (fun _ => ?_)
  clear hK K
  try simp only [Act.put, List.setIfInBounds_toArray, List.set_cons_zero, List.set_cons_succ]
  refine wpAnyH_ready (rs := [6]) (by kernel_rfl) (by simp) ?_
  refine AllReadyH.cons (by simp only [List.getElem?_toArray, List.getElem?_cons_succ, List.getElem?_cons_zero]; rfl) (fun K hK => ?_) AllReadyH.nil
  go_simp
  refine hK.out _ _ trivial (fun _ => ?_)
  clear hK K
  try simp only [Act.put, List.setIfInBounds_toArray, List.set_cons_zero, List.set_cons_succ]
  refine wpAnyH_ready (rs := [7]) (by kernel_rfl) (by simp) ?_
  refine AllReadyH.cons (by simp only [List.getElem?_toArray, List.getElem?_cons_succ, List.getElem?_cons_zero]; rfl) (fun K hK => ?_) AllReadyH.nil
  go_simp
  refine hK.out _ _ trivial (fun _ => ?_)
  clear hK K
  try simp only [Act.put, List.setIfInBounds_toArray, List.set_cons_zero, List.set_cons_succ]
  refine wpAnyH_done (by kernel_rfl) ?_ _
  go_wp2

  have hCd : Chg [] w0 w0.drew.drew := ((Chg.refl [] w0).drew).drew
  have hCl := clonec g cap (ringH s.M k) w0.drew.drew (HH.out.2.1.kept hCd (by simp)) (by have := HH.out.2.2.2.2.2.2.2.2.2; omega)
  rw [← HN.out.1] at hCl
  have HCl := Lib.hid hCl
  have HCd := Lib.hid hCd
  clear hCl hCd

  refine wp_region_held_drew (S := fun _ => True) (by kernel_rfl) trivial (fun _ => ?_)
  refine wpAnyH_take (i := 0) (v := ?_) (by simp only [List.getElem?_toArray, List.getElem?_cons_zero]; rfl) (by kernel_rfl) (by kernel_rfl) (by kernel_rfl) (by exact fun _ _ _ h => h) (Or.inl ⟨by kernel_rfl, ?_⟩) trivial ?_
  case refine_2 => ((intro w _; go_simp) <;> with_reducible rfl)
  try simp only [Act.put, List.setIfInBounds_toArray, List.set_cons_zero, List.set_cons_succ]
  refine wpAnyH_take (i := 1) (v := ?_) (by simp only [List.getElem?_toArray, List.getElem?_cons_succ, List.getElem?_cons_zero]; rfl) (by kernel_rfl) (by kernel_rfl) (by kernel_rfl) (by exact fun _ _ _ h => h) (Or.inl ⟨by kernel_rfl, ?_⟩) trivial ?_
  case refine_2 => ((intro w _; go_simp) <;> with_reducible rfl)
  try simp only [Act.put, List.setIfInBounds_toArray, List.set_cons_zero, List.set_cons_succ]
  refine wpAnyH_take (i := 2) (v := ?_) (by simp only [List.getElem?_toArray, List.getElem?_cons_succ, List.getElem?_cons_zero]; rfl) (by kernel_rfl) (by kernel_rfl) (by kernel_rfl) (by exact fun _ _ _ h => h) (Or.inl ⟨by kernel_rfl, ?_⟩) trivial ?_
  case refine_2 => ((intro w _; go_simp) <;> with_reducible rfl)
  try simp only [Act.put, List.setIfInBounds_toArray, List.set_cons_zero, List.set_cons_succ]
  refine wpAnyH_take (i := 3) (v := ?_) (by simp only [List.getElem?_toArray, List.getElem?_cons_succ, List.getElem?_cons_zero]; rfl) (by kernel_rfl) (by kernel_rfl) (by kernel_rfl) (by exact fun _ _ _ h => h) (Or.inl ⟨by kernel_rfl, ?_⟩) trivial ?_
  case refine_2 => ((intro w _; go_simp) <;> with_reducible rfl)
  try simp only [Act.put, List.setIfInBounds_toArray, List.set_cons_zero, List.set_cons_succ]
  refine wpAnyH_take (i := 4) (v := ?_) (by simp only [List.getElem?_toArray, List.getElem?_cons_succ, List.getElem?_cons_zero]; rfl) (by kernel_rfl) (by kernel_rfl) (by kernel_rfl) (by exact fun _ _ _ h => h) (Or.inl ⟨by kernel_rfl, ?_⟩) trivial ?_
  case refine_2 => ((intro w _; go_simp) <;> with_reducible rfl)
  try simp only [Act.put, List.setIfInBounds_toArray, List.set_cons_zero, List.set_cons_succ]
  refine wpAnyH_take (i := 5) (v := ?_) (by simp only [List.getElem?_toArray, List.getElem?_cons_succ, List.getElem?_cons_zero]; rfl) (by kernel_rfl) (by kernel_rfl) (by kernel_rfl) (by exact fun _ _ _ h => h) (Or.inl ⟨by kernel_rfl, ?_⟩) trivial ?_
  case refine_2 => ((intro w _; go_simp) <;> with_reducible rfl)
  try simp only [Act.put, List.setIfInBounds_toArray, List.set_cons_zero, List.set_cons_succ]
  refine wpAnyH_take (i := 6) (v := ?_) (by simp only [List.getElem?_toArray, List.getElem?_cons_succ, List.getElem?_cons_zero]; rfl) (by kernel_rfl) (by kernel_rfl) (by kernel_rfl) (by exact fun _ _ _ h => h) (Or.inl ⟨by kernel_rfl, ?_⟩) trivial ?_
  case refine_2 => ((intro w _; go_simp) <;> with_reducible rfl)
  try simp only [Act.put, List.setIfInBounds_toArray, List.set_cons_zero, List.set_cons_succ]
  refine wpAnyH_take (i := 9) (v := ?_) (by simp only [List.getElem?_toArray, List.getElem?_cons_succ, List.getElem?_cons_zero]; rfl) (by kernel_rfl) (by kernel_rfl) (by kernel_rfl) (by exact fun _ _ _ h => h) (Or.inl ⟨by kernel_rfl, ?_⟩) trivial ?_
  case refine_2 => ((intro w _; go_simp) <;> with_reducible rfl)
  try simp only [Act.put, List.setIfInBounds_toArray, List.set_cons_zero, List.set_cons_succ]
  refine wpAnyH_take (i := 11) (v := ?_) (by simp only [List.getElem?_toArray, List.getElem?_cons_succ, List.getElem?_cons_zero]; rfl) (by kernel_rfl) (by kernel_rfl) (by kernel_rfl) (by exact fun _ _ _ h => h) (Or.inl ⟨by kernel_rfl, ?_⟩) trivial ?_
  case refine_2 => ((intro w _; go_simp) <;> with_reducible rfl)
  try simp only [Act.put, List.setIfInBounds_toArray, List.set_cons_zero, List.set_cons_succ]
  refine wpAnyH_take (i := 12) (v := ?_) (by simp only [List.getElem?_toArray, List.getElem?_cons_succ, List.getElem?_cons_zero]; rfl) (by kernel_rfl) (by kernel_rfl) (by kernel_rfl) (by exact fun _ _ _ h => h) (Or.inl ⟨by kernel_rfl, ?_⟩) trivial ?_
  case refine_2 => ((intro w _; go_simp) <;> with_reducible rfl)
  try simp only [Act.put, List.setIfInBounds_toArray, List.set_cons_zero, List.set_cons_succ]
  refine wpAnyH_ready (rs := [7]) (by kernel_rfl) (by simp) ?_
  refine AllReadyH.cons (by simp only [List.getElem?_toArray, List.getElem?_cons_succ, List.getElem?_cons_zero]; rfl) (fun K hK => ?_) AllReadyH.nil
  go_simp
  refine hK.out _ _ trivial (fun _ => ?_)
  clear hK K
  try simp only [Act.put, List.setIfInBounds_toArray, List.set_cons_zero, List.set_cons_succ]
  refine wpAnyH_ready (rs := [8]) (by kernel_rfl) (by simp) ?_
  refine AllReadyH.cons (by simp only [List.getElem?_toArray, List.getElem?_cons_succ, List.getElem?_cons_zero]; rfl) (fun K hK => ?_) AllReadyH.nil
  go_simp
  go_at_call 48
  refine HCl.out.mono ?_
  rintro e w2 ⟨v', rfl, ho, hC⟩
  obtain ⟨g1, cap1, rfl⟩ : ∃ g1 cap1, v' = .slice (some ⟨g1, 0, none⟩) n cap1 := by
    rcases ho.2 with ⟨_, e2⟩ | ⟨g1, cap1, cur, e1, _⟩
    · have := HH.out.2.2.2.2.2.2.2.2.1; have := HN.out.1; omega
    · exact ⟨g1, cap1, e1⟩
  have hO := RowT.of_own ho HN.out.1
  have hC2 := HCd.out.trans hC
  have hbx2 := hC2.blk HH.out.2.2.1 (by simp)
  have hg1 : bx + 1 ≤ g1 := by have h1 := hO.2.1; simp at h1; omega
  have hDl := delc 53 #[.pointer (some ⟨bx, 0, none⟩)] (fun x => x.1 == (i : Int)) bx (intB i) (premove1 i bx) (enters_of Try.func53 (by kernel_rfl) rfl) g1 cap1 (ringH s.M k) w2 hO.1 (by rw [← HN.out.1]; exact hO.2.2.1) hbx2 (by omega) (by have := HH.out.2.2.2.2.2.2.2.2.2; omega)
  rw [← HN.out.1] at hDl
  obtain ⟨n2, hn2⟩ : ∃ n2, n2 = ((ringH s.M k).filter fun x => !(x.1 == (i : Int))).length := ⟨_, rfl⟩
  rw [← hn2] at hDl
  have H2 := Lib.hid (And.intro hDl (And.intro hC2 (And.intro hn2 (And.intro hO.2.2.2 hO.2.2.1))))
  clear hDl ho hO hC hC2 hbx2 hn2
  go_wp2_with fail
  refine hK.out _ _ trivial (fun _ => ?_)
  clear hK K
  try simp only [Act.put, List.setIfInBounds_toArray, List.set_cons_zero, List.set_cons_succ]
  refine wpAnyH_ready (rs := [10]) (by kernel_rfl) (by simp) ?_
  refine AllReadyH.cons (by simp only [List.getElem?_toArray, List.getElem?_cons_succ, List.getElem?_cons_zero]; rfl) (fun K hK => ?_) AllReadyH.nil
  go_simp
  go_at_call 52
  refine H2.out.1.mono ?_
  rintro e w3 ⟨rfl, hr, hC⟩
  have hC3 : Chg [g1] w0 w3 := (H2.out.2.1.mono (by simp)).trans hC
  have hb3 := hC3.blk HH.out.1.head (by simp; omega)
  have hold := cellB (i := 1 + k) (v := _) hb3 (by rw [wcl_ring HH.out.1.len hk64]; exact HH.out.2.2.2.2.1)
  have hfr := frozenB hb3
  have H3 := Lib.hid (And.intro hr (And.intro hC3 (And.intro hb3 (hC3.blk HH.out.2.2.1 (by simp; omega)))))
  clear hr hC hC3 hb3
  go_wp2_with fail
  refine hK.out _ _ trivial (fun _ => ?_)
  clear hK K
  try simp only [Act.put, List.setIfInBounds_toArray, List.set_cons_zero, List.set_cons_succ]
  refine wpAnyH_take (i := 13) (v := ?_) (by simp only [List.getElem?_toArray, List.getElem?_cons_succ, List.getElem?_cons_zero]; rfl) (by kernel_rfl) (by kernel_rfl) (by kernel_rfl) (by exact fun _ _ _ h => h) (Or.inl ⟨by kernel_rfl, ?_⟩) trivial ?_
  case refine_2 => ((intro w _; go_simp) <;> with_reducible rfl)
  try simp only [Act.put, List.setIfInBounds_toArray, List.set_cons_zero, List.set_cons_succ]
  refine wpAnyH_ready (rs := [14]) (by kernel_rfl) (by simp) ?_
  refine AllReadyH.cons (by simp only [List.getElem?_toArray, List.getElem?_cons_succ, List.getElem?_cons_zero]; rfl) (fun K hK => ?_) AllReadyH.nil
  go_simp
  refine hK.out _ _ trivial (fun _ => ?_)
  clear hK K
  try simp only [Act.put, List.setIfInBounds_toArray, List.set_cons_zero, List.set_cons_succ]
  refine wpAnyH_done (by kernel_rfl) ?_ _

  obtain ⟨w4, hw4⟩ : ∃ w4, w4 = w3.setCell ⟨b, 1 + k, none⟩ (.slice (some ⟨g1, 0, none⟩) n2 cap1) := ⟨_, rfl⟩
  rw [← hw4]
  have hv64 : (vs.set k (.slice (some ⟨g1, 0, none⟩) n2 cap1)).length = 64 := by rw [List.length_set]; exact HH.out.1.len
  have hb4 : w4.heap[b]? = some (.cells (wcl (vs.set k (.slice (some ⟨g1, 0, none⟩) n2 cap1)) (wherL s.M) s.c s.M.length) 82 (0, 0)) := by
    rw [hw4, ← wcl_setR HH.out.1.len hk64]
    exact blk_setCell H3.out.2.2.1 _
  have hC4 : Chg [b] w3 w4 := by rw [hw4]; exact (Chg.refl [b] w3).setCell _ _ (by simp)
  have hbx4 := hC4.blk H3.out.2.2.2 (by simp; omega)
  have c3' := cellB (i := 0) (v := .int .i64 (i : Int)) hbx4 rfl
  have hw := cellB (i := 65 + i) hb4 (by rw [wcl_where hv64 (wherL_len _) hi]; exact wherL_at hi)
  have hfr4 := frozenB hb4
  have H4 := Lib.hid (And.intro hb4 (And.intro hC4 hv64))
  clear hb4 hC4 hbx4 hw4 hv64 hold hfr c3 cW cR cN fb
  go_wp2

  refine wp_region_held_drew (S := fun _ => True) (by kernel_rfl) trivial (fun _ => ?_)
  refine wpAnyH_take (i := 0) (v := ?_) (by simp only [List.getElem?_toArray, List.getElem?_cons_zero]; rfl) (by kernel_rfl) (by kernel_rfl) (by kernel_rfl) (by exact fun _ _ _ h => h) (Or.inl ⟨by kernel_rfl, ?_⟩) trivial ?_
  case refine_2 => ((intro w _; go_simp) <;> with_reducible rfl)
  try simp only [Act.put, List.setIfInBounds_toArray, List.set_cons_zero, List.set_cons_succ]
  refine wpAnyH_take (i := 2) (v := ?_) (by simp only [List.getElem?_toArray, List.getElem?_cons_succ, List.getElem?_cons_zero]; rfl) (by kernel_rfl) (by kernel_rfl) (by kernel_rfl) (by exact fun _ _ _ h => h) (Or.inl ⟨by kernel_rfl, ?_⟩) trivial ?_
  case refine_2 => ((intro w _; go_simp) <;> with_reducible rfl)
  try simp only [Act.put, List.setIfInBounds_toArray, List.set_cons_zero, List.set_cons_succ]
  refine wpAnyH_take (i := 3) (v := ?_) (by simp only [List.getElem?_toArray, List.getElem?_cons_succ, List.getElem?_cons_zero]; rfl) (by kernel_rfl) (by kernel_rfl) (by kernel_rfl) (by exact fun _ _ _ h => h) (Or.inl ⟨by kernel_rfl, ?_⟩) trivial ?_
  case refine_2 => ((intro w _; go_simp) <;> with_reducible rfl)
  try simp only [Act.put, List.setIfInBounds_toArray, List.set_cons_zero, List.set_cons_succ]
  refine wpAnyH_ready (rs := [1]) (by kernel_rfl) (by simp) ?_
  refine AllReadyH.cons (by simp only [List.getElem?_toArray, List.getElem?_cons_succ, List.getElem?_cons_zero]; rfl) (fun K hK => ?_) AllReadyH.nil
  go_simp
  refine hK.out _ _ trivial (fun _ => ?_)
  clear hK K
  try simp only [Act.put, List.setIfInBounds_toArray, List.set_cons_zero, List.set_cons_succ]
  refine wpAnyH_ready (rs := [4]) (by kernel_rfl) (by simp) ?_
  refine AllReadyH.cons (by simp only [List.getElem?_toArray, List.getElem?_cons_succ, List.getElem?_cons_zero]; rfl) (fun K hK => ?_) AllReadyH.nil
  go_simp
  refine hK.out _ _ trivial (fun _ => ?_)
  clear hK K
  try simp only [Act.put, List.setIfInBounds_toArray, List.set_cons_zero, List.set_cons_succ]
  refine wpAnyH_ready (rs := [5]) (by kernel_rfl) (by simp) ?_
  refine AllReadyH.cons (by simp only [List.getElem?_toArray, List.getElem?_cons_succ, List.getElem?_cons_zero]; rfl) (fun K hK => ?_) AllReadyH.nil
  go_simp
  refine hK.out _ _ trivial (fun _ => ?_)
  clear hK K
  try simp only [Act.put, List.setIfInBounds_toArray, List.set_cons_zero, List.set_cons_succ]
  refine wpAnyH_done (by kernel_rfl) ?_ _

  obtain ⟨w5, hw5⟩ : ∃ w5, w5 = (w4.setCell ⟨b, 65 + i, none⟩ (.int .i64 0)).drew := ⟨_, rfl⟩
  rw [← hw5]
  have hb5 : w5.heap[b]? = some (.cells (wcl (vs.set k (.slice (some ⟨g1, 0, none⟩) n2 cap1)) (wherL (delH s.M i)) s.c s.M.length) 82 (0, 0)) := by
    rw [hw5, ← wherL_set (M := s.M) (i := i) (x := 0) (by rw [where_del, if_pos rfl]) (fun j hj => by rw [where_del, if_neg (by omega)]), ← wcl_setW H4.out.2.2 (wherL_len _) hi]
    exact blk_setCell H4.out.1 _
  have hC5 : Chg [b] w4 w5 := by rw [hw5]; exact ((Chg.refl [b] w4).setCell _ _ (by simp)).drew
  have c5 := cellB (i := 130) hb5 (wcl_n H4.out.2.2 (wherL_len _))
  have f5 := frozenB hb5
  rw [← HN.out.2] at c5
  have H5 := Lib.hid (And.intro hb5 hC5)
  clear hb5 hC5 hw5 hw hfr4 c3'
  go_wp2
  go_end0
  obtain ⟨w6, hw6⟩ : ∃ w6, w6 = w5.setCell ⟨b, 130, none⟩ (.int .i64 (m - 1)) := ⟨_, rfl⟩
  rw [← hw6]
  have hdl := del_len HH.out.1.inv (n := (i : Int)) (has_iff.2 ⟨x, HH.out.2.2.2.2.2.1, HH.out.2.2.2.2.2.2.1⟩)
  have hb6 : w6.heap[b]? = some (.cells (wcl (vs.set k (.slice (some ⟨g1, 0, none⟩) n2 cap1)) (wherL (delH s.M i)) s.c (delH s.M i).length) 82 (0, 0)) := by
    rw [hw6, hdl, ← HN.out.2, ← wcl_setN (m := s.M.length) H4.out.2.2 (wherL_len _)]
    exact blk_setCell H5.out.1 _
  have hC6 : Chg [b] w5 w6 := by rw [hw6]; exact (Chg.refl [b] w5).setCell _ _ (by simp)
  have hC36 : Chg [b] w3 w6 := (H4.out.2.1.trans H5.out.2).trans hC6
  have hC06 : Chg [b, g1] w0 w6 := (H3.out.2.1.mono (by simp)).trans (hC36.mono (by simp))
  have hrd : (ringH s.M k).filter (fun x => !(x.1 == (i : Int))) = ringH (delH s.M i) k := (ring_del s.M i k).symm
  have hrow6 := H3.out.1.kept hC36 (by simp; omega)
  have hn2 := H2.out.2.2.1
  rw [hrd] at hrow6 hn2
  have hw0s := HH.out.2.2.2.1.size
  have hcap : n2 ≤ cap1 := by
    have h1 := H2.out.2.2.2.2
    have h2 : n2 ≤ n := by rw [hn2, HN.out.1, ring_del]; exact List.length_filter_le _ _
    omega
  obtain ⟨hA, hB⟩ := HH.out.1.reput (s' := ⟨delH s.M i, s.c⟩) hC06 HH.out.2.2.2.2.1 (v' := .slice (some ⟨g1, 0, none⟩) n2 cap1) (fun x hx => by simp at hx; rcases hx with rfl | rfl; exact .inl rfl; exact .inr (.inr (by omega))) hb6
    (by have h1 := hrow6.own (B := 0) (Nat.zero_le _) (by rw [← hn2]; exact hcap) H2.out.2.2.2.1; rw [← hn2] at h1 ⊢; exact h1)
    (fun x hx => by simp [Value.ownBlock] at hx; subst hx; exact .inr (by omega))
    (fun j hj => by rw [← HH.out.2.2.2.2.2.2.1]; exact ring_del_other HH.out.1.inv HH.out.2.2.2.2.2.1 j (by have := HH.out.2.2.2.2.2.2.2.1; omega))
    (HH.out.1.inv.del i)
  exact ⟨rfl, _, hA, (HH.out.2.2.2.1.mono (S2 := [b]) (by simp)).trans' hC06 (fun x hx => by simp at hx; rcases hx with rfl | rfl; exact .inl (by simp); exact .inr (by omega)), fun x hx => by rcases hB x hx with h | h; exact .inl h; exact .inr (by omega)⟩

end Go.Proofs.Ytonahpilmchnkaa
