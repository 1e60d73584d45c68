
/- Timers: Copy: contract. -/
import Derived.Test.YtonahpilmchnkaaGj
namespace Go.Proofs.Ytonahpilmchnkaa
open Go.RowKit

def PCopyP (s : TS) (w : World) (e : Ending) (w' : World) : Prop :=
  ∃ bc bs' vs', e = .returned (.pointer (some ⟨bc, 0, none⟩)) ∧ TAt w' bc bs' vs' s ∧ (∀ x ∈ blocksT bc bs' vs', w.heap.size ≤ x) ∧ Chg [] w w'
theorem sizeTimers : (Try.prog.info? 59).map (·.size) = some 59 := by kernel_rfl
theorem tcl_size {n : Int} {b0 b1 : Nat} {L : List TE} (h : L.length = 8) : (tcl n b0 b1 L).size = 59 := by
  unfold tcl
  rw [List.size_toArray, List.length_cons, List.length_cons, List.length_cons, flatT_len, h]
theorem tcl_one {n : Int} {b0 b1 : Nat} {L : List TE} : (tcl n b0 b1 L).all (·.oneCell') = true := by
  refine Array.all_eq_true_iff_forall_mem.2 fun v hv => ?_
  unfold tcl at hv
  simp only [List.mem_toArray, List.mem_cons] at hv
  rcases hv with rfl | rfl | rfl | hv
  · rfl
  · rfl
  · rfl
  · unfold flatT at hv
    obtain ⟨e, _, he⟩ := List.mem_flatMap.1 hv
    unfold TE.cells at he
    simp only [List.mem_cons, List.not_mem_nil, or_false] at he
    rcases he with rfl | rfl | rfl | rfl | rfl | rfl | rfl <;> rfl
theorem newTimers : ∃ z : Array Value, z.size = 59 ∧ ∀ w, (Instr.alloc 59 true (.tuple #[])).run Try.prog w = .ok (.pointer (some ⟨w.heap.size, 0, none⟩)) (w.alloc (.cells z 59 (0, 0))) :=
  ⟨(Value.int .i64 0 :: .pointer none :: .pointer none :: (List.replicate 8 [Value.bool false, .int .i64 0, .int .i64 0, .int .i64 0, .bool false, .int .i64 0, .int .i64 0]).flatten).toArray, by simp, fun w => by kernel_rfl⟩

set_option maxRecDepth 100000 in
set_option maxHeartbeats 4000000 in
theorem pcopyc (b : Nat) (bs : Int → Nat) (vs : Int → List Value) (s : TS) (w : World) (h : TAt w b bs vs s) : Calls Try.prog 21 #[.pointer (some ⟨b, 0, none⟩)] w (PCopyP s w) := by
  have HI := Lib.hid (pisc b bs vs s w h)
  have H := Lib.hid h
  obtain ⟨z, hz, hzr⟩ := newTimers
  have hls := tcl_size (n := s.n) (b0 := bs 0) (b1 := bs 1) h.len
  have hone := tcl_one (n := s.n) (b0 := bs 0) (b1 := bs 1) (L := s.L)
  obtain ⟨cs, hcs⟩ : ∃ cs, cs = tcl s.n (bs 0) (bs 1) s.L := ⟨_, rfl⟩
  rw [← hcs] at hls hone
  have hhd := h.head
  rw [← hcs] at hhd
  have HZ := Lib.hid (And.intro hz (And.intro hzr (And.intro hls (And.intro hcs (And.intro hhd hone)))))
  have hth : (w.alloc (.cells z 59 (0, 0))).there w.heap.size 0 cs.size := fun j hj => by
    have hn := heap_alloc_eq w (.cells z 59 (0, 0))
    rw [hls] at hj
    exact ⟨by rw [cellB hn (Array.getElem?_eq_getElem (by rw [hz]; omega))]; rfl, frozenB hn _⟩
  obtain ⟨w1, hw1⟩ : ∃ w1, w1 = (w.alloc (.cells z 59 (0, 0))).setCells w.heap.size 0 cs.toList := ⟨_, rfl⟩
  have hb1 : w1.heap[w.heap.size]? = some (.cells (tcl s.n (bs 0) (bs 1) s.L) 59 (0, 0)) := by
    rw [hw1, ← hcs]
    exact blk_full (heap_alloc_eq w _) cs.toList (by rw [hz, Array.length_toList, hls])
  have hC1 : Chg [] w w1 := by
    rw [hw1]
    exact ((Chg.refl [] w).alloc _).trans' (chg_setCells _ _ _) (fun x hx => .inr (by simp at hx; omega))
  have hA1 := h.calm hC1
  have cw0 : w1.cell? ⟨b, 1, none⟩ = some (.pointer (some ⟨bs 0, 0, none⟩)) := hA1.cw (k := 0) (by omega)
  have HW := Lib.hid (And.intro hth (And.intro hw1 (And.intro hb1 (And.intro hC1 hA1))))
  obtain ⟨B, hB⟩ : ∃ B, B = w.heap.size := ⟨_, rfl⟩
  have HB := Lib.hid hB
  clear h hz hzr hls hone hcs hhd hth hw1 hb1 hC1 hA1 hB
  go_enter Try.func21, Try.ntmps21
  go_wp2_with (first | (go_at_call 28; refine HI.out.mono ?_; rintro e w' ⟨rfl, rfl⟩) | (refine wpList_load_row (P := Try.prog) rfl 59 _ rfl b rfl _ cs _ _ HZ.out.2.2.2.2.1 Try.underlying59 rfl (by rw [HZ.out.2.2.1]; exact sizeTimers) ?_) | (refine wpList_new (P := Try.prog) rfl 59 rfl z (HZ.out.2.1 _) ?_) | (refine wpList_store_mid (P := Try.prog) rfl 59 _ _ rfl w'.heap.size 0 cs rfl rfl HW.out.1 (by rw [HZ.out.2.2.1]; exact sizeTimers) HZ.out.2.2.2.2.2 ?_; rw [← HW.out.2.1, ← HB.out]))
  refine wp_loop_rounds 3 ?_
  rw [rounds_succ]
  have hwB : B < w1.heap.size := by rw [HB.out]; exact lt_of_blk HW.out.2.2.1
  have HwB := Lib.hid hwB
  clear hwB
  go_wp2_with fail
  refine (copyc (bs 0) (vs 0) (s.W 0) w1 (HW.out.2.2.2.2.wh 0 (.inl rfl))).mono ?_
  rintro e w2 ⟨x0, u0, rfl, hA2, hB2, hC2⟩
  have hh2 := hC2.blk (show w1.heap[B]? = _ from by rw [HB.out]; exact HW.out.2.2.1) (by simp)
  have e1 : w2.cell? ⟨B, 1, none⟩ = some (.pointer (some ⟨bs 0, 0, none⟩)) := cellB (i := 1) hh2 rfl
  have fz := frozenB hh2
  have hT2 := HW.out.2.2.2.2.calm hC2
  have H2 := Lib.hid (And.intro hA2 (And.intro hB2 (And.intro hC2 (And.intro hh2 hT2))))
  clear hA2 hB2 hC2 hh2 hT2 cw0
  go_wp2_with fail
  obtain ⟨W2, hW2⟩ : ∃ W2, W2 = w2.setCell ⟨B, 1, none⟩ (.pointer (some ⟨x0, 0, none⟩)) := ⟨_, rfl⟩
  rw [← hW2]
  have hCs2 : Chg [B] w2 W2 := by rw [hW2]; exact (Chg.refl _ _).setCell _ _ (by simp)
  have hhW2 : W2.heap[B]? = some (.cells (tcl s.n x0 (bs 1) s.L) 59 (0, 0)) := by rw [hW2]; exact blk_setCell H2.out.2.2.2.1 _
  have hBn : B ∉ blocksT b bs vs := fun hm => by have := H.out.lt B hm; have := HB.out; omega
  have hTW2 := H2.out.2.2.2.2.kept hCs2 (fun x hx => by simp at hx; subst hx; exact hBn)
  have hBx0 : B ∉ blocksH x0 u0 := fun hm => by have := H2.out.2.1 B hm; have := HwB.out; omega
  have hA0 := H2.out.1.kept hCs2 (fun x hx => by simp at hx; subst hx; exact hBx0)
  have cw1 : W2.cell? ⟨b, 2, none⟩ = some (.pointer (some ⟨bs 1, 0, none⟩)) := hTW2.cw (k := 1) (by omega)
  have HW2 := Lib.hid (And.intro hCs2 (And.intro hhW2 (And.intro hTW2 (And.intro hBx0 hA0))))
  clear hW2 hCs2 hhW2 hTW2 hBn hBx0 hA0 e1 fz
  rw [rounds_succ]
  go_wp2_with fail
  refine (copyc (bs 1) (vs 1) (s.W 1) W2 (HW2.out.2.2.1.wh 1 (.inr rfl))).mono ?_
  rintro e w3 ⟨x1, u1, rfl, hA3, hB3, hC3⟩
  have hh3 := hC3.blk HW2.out.2.1 (by simp)
  have e2 : w3.cell? ⟨B, 2, none⟩ = some (.pointer (some ⟨bs 1, 0, none⟩)) := cellB (i := 2) hh3 rfl
  have fz := frozenB hh3
  have H3 := Lib.hid (And.intro hA3 (And.intro hB3 (And.intro hC3 (And.intro hh3 (HW2.out.2.2.2.2.calm hC3)))))
  clear hA3 hB3 hC3 hh3 cw1
  go_wp2_with fail
  obtain ⟨W3, hW3⟩ : ∃ W3, W3 = w3.setCell ⟨B, 2, none⟩ (.pointer (some ⟨x1, 0, none⟩)) := ⟨_, rfl⟩
  rw [← hW3]
  have hCs3 : Chg [B] w3 W3 := by rw [hW3]; exact (Chg.refl _ _).setCell _ _ (by simp)
  have hhW3 : W3.heap[B]? = some (.cells (tcl s.n x0 x1 s.L) 59 (0, 0)) := by rw [hW3]; exact blk_setCell H3.out.2.2.2.1 _
  have s12 := H2.out.2.2.1.size
  have sW2 := HW2.out.1.size
  have s23 := H3.out.2.2.1.size
  have hBl := HwB.out
  have hx0l : ∀ x ∈ blocksH x0 u0, x < W2.heap.size := HW2.out.2.2.2.2.lt
  have hBx1 : B ∉ blocksH x1 u1 := fun hm => by have := H3.out.2.1 B hm; omega
  have hw' : w'.heap.size ≤ w1.heap.size := HW.out.2.2.2.1.size
  have hfin : TAt W3 B (fun k => if k = 0 then x0 else x1) (fun k => if k = 0 then u0 else u1) s := by
    refine ⟨hhW3, H.out.n1, H.out.n8, H.out.len, fun k hk => ?_, fun x hx hm => ?_⟩
    · rcases hk with rfl | rfl
      · exact H3.out.2.2.2.2.kept hCs3 (fun x hx => by simp at hx; subst hx; exact HW2.out.2.2.2.1)
      · exact H3.out.1.kept hCs3 (fun x hx => by simp at hx; subst hx; exact hBx1)
    · have h1 := hx0l x hx
      have h2 := H3.out.2.1 x hm
      omega
  have hCall : Chg [] w' W3 := (((HW.out.2.2.2.1.trans H2.out.2.2.1).trans' HW2.out.1 (fun x hx => .inr (by simp at hx; have := HB.out; omega))).trans H3.out.2.2.1).trans' hCs3 (fun x hx => .inr (by simp at hx; have := HB.out; omega))
  have hown : ∀ x ∈ blocksT B (fun k => if k = 0 then x0 else x1) (fun k => if k = 0 then u0 else u1), w'.heap.size ≤ x := fun x hx => by
    rcases mem_blocksT.1 hx with rfl | ⟨k, hk, hm⟩
    · have := HB.out; omega
    · rcases hk with rfl | rfl
      · have := H2.out.2.1 x hm; omega
      · have := H3.out.2.1 x hm; omega
  have HF := Lib.hid (And.intro hfin (And.intro hown hCall))
  clear hfin hown hCall hCs3 hhW3 hW3 e2 fz
  rw [rounds_succ]
  go_wp2
  go_ret
  exact ⟨B, _, _, rfl, HF.out.1, HF.out.2.1, HF.out.2.2⟩

end Go.Proofs.Ytonahpilmchnkaa
