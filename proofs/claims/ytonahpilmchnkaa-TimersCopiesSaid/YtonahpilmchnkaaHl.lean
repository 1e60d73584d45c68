
/- The wheel: Copy: contract. -/
import Derived.Test.YtonahpilmchnkaaHi
namespace Go.Proofs.Ytonahpilmchnkaa
open Go.RowKit

theorem blk_setAll {b : Nat} {T : TypeId} {fr : Nat × Nat} : ∀ (vs : List Value) (o : Nat) (w : World) (cur : Array Value), w.heap[b]? = some (.cells cur T fr) → ∃ cur' : Array Value, (w.setCells b o vs).heap[b]? = some (.cells cur' T fr) ∧ cur'.size = cur.size ∧ (∀ k, k < o → cur'[k]? = cur[k]?) ∧ ∀ j, o + j < cur.size → j < vs.length → cur'[o + j]? = vs[j]?
  | [], _, _, cur, h => ⟨cur, h, rfl, fun _ _ => rfl, fun j _ hj => by simp at hj⟩
  | v :: r, o, w, cur, h => by
    obtain ⟨cur', h1, h2, h3, h4⟩ := blk_setAll r (o + 1) _ _ (blk_setCell (i := o) h v)
    refine ⟨cur', h1, by rw [h2]; simp, fun k hk => ?_, fun j hj hl => ?_⟩
    · rw [h3 k (by omega), Array.getElem?_setIfInBounds_ne (by omega)]
    · cases j with
      | zero =>
        rw [Nat.add_zero, h3 o (by omega), Array.getElem?_setIfInBounds_self_of_lt (by omega)]
        rfl
      | succ j =>
        rw [show o + (j + 1) = o + 1 + j by omega, h4 j (by simp; omega) (by simpa using hl)]
        rfl
theorem blk_full {w : World} {b : Nat} {T : TypeId} {z : Array Value} (h : w.heap[b]? = some (.cells z T (0, 0))) (cs : List Value) (hl : z.size = cs.length) : (w.setCells b 0 cs).heap[b]? = some (.cells cs.toArray T (0, 0)) := by
  obtain ⟨cur', h1, h2, _, h4⟩ := blk_setAll cs 0 w z h
  rw [h1]
  congr 2
  apply Array.ext_getElem?
  intro j
  by_cases hj : j < cs.length
  · have := h4 j (by omega) hj
    rw [Nat.zero_add] at this
    rw [this, List.getElem?_toArray]
  · rw [Array.getElem?_eq_none (by omega), List.getElem?_toArray, List.getElem?_eq_none (by omega)]

/-- The copy, k rings on. -/
structure CpyH (B bc : Nat) (w : World) (vs us : List Value) (s : HS) (k : Nat) : Prop where
  head : w.heap[bc]? = some (.cells (wcl (us ++ vs.drop k) (wherL s.M) s.c s.M.length) 82 (0, 0))
  len : us.length = k
  le : k ≤ 64
  own : ∀ (j : Nat) v, us[j]? = some v → w.ownsRow B 84 3 v (ringH s.M j).length (flatH (ringH s.M j))
  sep : ∀ (i j : Nat) u v, us[i]? = some u → us[j]? = some v → i ≠ j → ∀ x ∈ u.ownBlock.toList, x ∉ v.ownBlock.toList
theorem CpyH.next {B bc : Nat} {w w' : World} {vs us : List Value} {s : HS} {k : Nat} {v' : Value} (h : CpyH B bc w vs us s k) (hvs : vs.length = 64) (hk : k < 64) (hC : Chg [] w w')
    (ho : w'.ownsRow w.heap.size 84 3 v' (ringH s.M k).length (flatH (ringH s.M k))) (hB : B ≤ w.heap.size) :
    CpyH B bc (w'.setCell ⟨bc, 1 + k, none⟩ v') vs (us ++ [v']) s (k + 1) := by
  have hd : us ++ vs.drop k = us ++ vs[k] :: vs.drop (k + 1) := by rw [List.getElem_cons_drop]
  have hlu := h.len
  have hlen : (us ++ vs.drop k).length = 64 := by rw [List.length_append, List.length_drop]; omega
  have hbc := lt_of_blk h.head
  have hne : ∀ q ∈ v'.ownBlock.toList, w.heap.size ≤ q := own_ge ho
  have hS : Chg [bc] w' (w'.setCell ⟨bc, 1 + k, none⟩ v') := (Chg.refl _ _).setCell _ _ (by simp)
  have holdT : ∀ (j : Nat) u, us[j]? = some u → ∀ q ∈ u.ownBlock.toList, q < w.heap.size ∧ q ≠ bc := fun j u hj q hq => by
    refine ⟨((h.own j u hj).lt q (by simpa using hq)).2, fun e => ?_⟩
    obtain ⟨cs, hcs⟩ := own_cellsH (h.own j u hj) q hq
    rw [e, h.head] at hcs
    injection hcs with hcs
    injection hcs with _ h2 _
    exact absurd h2 (by decide)
  have hget : ∀ (j : Nat) u, (us ++ [v'])[j]? = some u → (j = k ∧ u = v') ∨ (j < k ∧ us[j]? = some u) := fun j u hj => by
    by_cases hjk : j < us.length
    · rw [List.getElem?_append_left hjk] at hj
      exact .inr ⟨by omega, hj⟩
    · rw [List.getElem?_append_right (by omega)] at hj
      have : j - us.length = 0 := by
        rcases Nat.eq_zero_or_pos (j - us.length) with e | e
        · exact e
        · rw [List.getElem?_eq_none (by simp; omega)] at hj; cases hj
      rw [this] at hj
      exact .inl ⟨by omega, by simpa using hj.symm⟩
  refine ⟨?_, by simp [hlu], by omega, ?_, ?_⟩
  · have h1 := blk_setCell (i := 1 + k) (hC.blk h.head (by simp)) v'
    have hset : (us ++ vs[k] :: vs.drop (k + 1)).set k v' = us ++ [v'] ++ vs.drop (k + 1) := by
      rw [List.set_append_right _ _ (by omega), show k - us.length = 0 by omega, List.set_cons_zero, List.append_assoc]
      rfl
    rw [wcl_setR hlen hk, hd, hset] at h1
    exact h1
  · intro j u hj
    rcases hget j u hj with ⟨rfl, rfl⟩ | ⟨_, hj⟩
    · exact own_mono (own_kept ho hS (fun q hq => by simp at hq; subst hq; intro hm; have := hne q hm; omega)) hB
    · exact own_kept (own_kept (h.own j u hj) hC (by simp)) hS (fun q hq => by simp at hq; subst hq; intro hm; exact (holdT j u hj q hm).2 rfl)
  · intro i j u v hi hj hij q hq hm
    rcases hget i u hi with ⟨e1, e2⟩ | ⟨h1, hi⟩
    · rcases hget j v hj with ⟨e3, e4⟩ | ⟨h3, hj⟩
      · omega
      · rw [e2] at hq
        have := hne q hq
        have := (holdT j v hj q hm).1
        omega
    · rcases hget j v hj with ⟨e3, e4⟩ | ⟨h3, hj⟩
      · rw [e4] at hm
        have := hne q hm
        have := (holdT i u hi q hq).1
        omega
      · exact h.sep i j u v hi hj hij q hq hm

def CopyP (w : World) (s : HS) (e : Ending) (w' : World) : Prop :=
  ∃ bc us, e = .returned (.pointer (some ⟨bc, 0, none⟩)) ∧ HAt w' bc us s ∧ (∀ x ∈ blocksH bc us, w.heap.size ≤ x) ∧ Chg [] w w'

theorem sizeWheel : (Try.prog.info? 82).map (·.size) = some 131 := by kernel_rfl
theorem wcl_size {vs W : List Value} {c m : Int} (hv : vs.length = 64) (hw : W.length = 64) : (wcl vs W c m).size = 131 := by
  unfold wcl
  simp [hv, hw]
theorem newWheel : ∃ z : Array Value, z.size = 131 ∧ ∀ w, (Instr.alloc 82 true (.tuple #[])).run Try.prog w = .ok (.pointer (some ⟨w.heap.size, 0, none⟩)) (w.alloc (.cells z 82 (0, 0))) :=
  ⟨(Value.bool false :: (List.replicate 64 (Value.slice none 0 0) ++ (List.replicate 64 (Value.int .i64 0) ++ [.int .i64 0, .int .i64 0]))).toArray, by simp, fun w => by kernel_rfl⟩

/-- slices.Clone, whatever the row. -/
theorem clone_any (v : Value) (l : HL) (w : World) (h : w.ownsRow 0 84 3 v l.length (flatH l)) (hl : l.length ≤ 1000000) :
    Calls Try.prog 48 #[v] w fun e w' => ∃ a cap, e = .returned (.slice a l.length cap) ∧ w'.ownsRow w.heap.size 84 3 (.slice a l.length cap) l.length (flatH l) ∧ Chg [] w w' := by
  rcases h.2 with ⟨e1, e2⟩ | ⟨g, cap, cur, e1, _⟩
  · subst e1
    have : l = [] := List.eq_nil_of_length_eq_zero e2
    subst this
    exact (clone_nil w).mono fun e w' ⟨he, hw⟩ => by subst hw; exact ⟨none, 0, he, World.ownsRow_nil .., Chg.refl _ _⟩
  · subst e1
    refine (clonec g cap l w (RowT.of_own h rfl).1 hl).mono fun e w' ⟨v', he, ho, hC⟩ => ?_
    obtain ⟨a, cap', rfl, _⟩ := IsT.of_own ho
    exact ⟨a, cap', he, ho, hC⟩
theorem wpList_new {P : Program} {ops : Array Oper} {rest : List Oper} {op : Oper} {a : Act} {w : World} {Q : Exit → Act → World → Prop} (hgd : op.guard = none) (ty : TypeId) (ho : op.op = .alloc ty) (z : Array Value)
    (hr : (Instr.alloc ty true (.tuple #[])).run P w = .ok (.pointer (some ⟨w.heap.size, 0, none⟩)) (w.alloc (.cells z ty (0, 0)))) (h : wpList P ops Q rest (a.put op.dst (.pointer (some ⟨w.heap.size, 0, none⟩))) (w.alloc (.cells z ty (0, 0)))) : wpList P ops Q (op :: rest) a w := by
  refine wpList_plain hgd fun K hK => ?_
  unfold Oper.wp execOp
  simp only [ho, Sem.run_bind, hr, Result.andThen_ok, Sem.run_pure]
  exact hK _ _ h

set_option maxRecDepth 100000 in
set_option maxHeartbeats 4000000 in
theorem copyc (b : Nat) (vs : List Value) (s : HS) (w : World) (h : HAt w b vs s) :
    Calls Try.prog 40 #[.pointer (some ⟨b, 0, none⟩)] w (CopyP w s) := by
  have HI := Lib.hid (hisc b vs s w h)
  have H := Lib.hid h
  obtain ⟨z, hz, hzr⟩ := newWheel
  have hls : (wcl vs (wherL s.M) s.c s.M.length).size = 131 := wcl_size h.len (wherL_len _)
  obtain ⟨cs, hcs⟩ : ∃ cs, cs = wcl vs (wherL s.M) s.c s.M.length := ⟨_, rfl⟩
  rw [← hcs] at hls
  have hhd := h.head
  rw [← hcs] at hhd
  have HZ := Lib.hid (And.intro hz (And.intro hzr (And.intro hls (And.intro hcs hhd))))
  clear h hz hzr hls hcs hhd
  have hone : cs.all (·.oneCell') = true := by
    refine Array.all_eq_true_iff_forall_mem.2 fun v hv => ?_
    rw [HZ.out.2.2.2.1] at hv
    unfold wcl at hv
    simp only [List.mem_toArray, List.mem_cons, List.mem_append, List.not_mem_nil, or_false] at hv
    rcases hv with rfl | hv | hv | rfl | rfl
    · rfl
    · obtain ⟨k, hk⟩ := List.getElem?_of_mem hv
      obtain ⟨a, cap, rfl, _⟩ := IsT.of_own (H.out.own k v hk)
      rfl
    · unfold wherL at hv
      obtain ⟨i, _, rfl⟩ := List.mem_map.1 hv
      rfl
    · rfl
    · rfl
  have hth : (w.alloc (.cells z 82 (0, 0))).there w.heap.size 0 cs.size := fun j hj => by
    have hn := heap_alloc_eq w (.cells z 82 (0, 0))
    rw [HZ.out.2.2.1] at hj
    exact ⟨by rw [cellB hn (Array.getElem?_eq_getElem (by rw [HZ.out.1]; omega))]; rfl, frozenB hn _⟩
  obtain ⟨w1, hw1⟩ : ∃ w1, w1 = (w.alloc (.cells z 82 (0, 0))).setCells w.heap.size 0 cs.toList := ⟨_, rfl⟩
  have hb1 : w1.heap[w.heap.size]? = some (.cells (wcl vs (wherL s.M) s.c s.M.length) 82 (0, 0)) := by
    rw [hw1, ← HZ.out.2.2.2.1]
    exact blk_full (heap_alloc_eq w _) cs.toList (by rw [HZ.out.1, Array.length_toList, HZ.out.2.2.1])
  have hC1 : Chg [] w w1 := by
    rw [hw1]
    exact ((Chg.refl [] w).alloc _).trans' (chg_setCells _ _ _) (fun x hx => .inr (by simp at hx; omega))
  have hA1 := H.out.calm hC1
  have HW := Lib.hid (And.intro hone (And.intro hth (And.intro hw1 (And.intro hb1 (And.intro hC1 hA1)))))
  obtain ⟨B, hB⟩ : ∃ B, B = w.heap.size := ⟨_, rfl⟩
  have HB := Lib.hid hB
  clear hone hth hw1 hb1 hC1 hA1 hB
  go_enter Try.func40, Try.ntmps40
  go_wp2_with (first | (go_at_call 42; refine HI.out.mono ?_; rintro e w' ⟨rfl, rfl⟩) | (refine wpList_load_row (P := Try.prog) rfl 82 _ rfl b rfl _ cs _ _ HZ.out.2.2.2.2 Try.underlying82 rfl (by rw [HZ.out.2.2.1]; exact sizeWheel) ?_) | (refine wpList_new (P := Try.prog) rfl 82 rfl z (HZ.out.2.1 _) ?_) | (refine wpList_store_mid (P := Try.prog) rfl 82 _ _ rfl w.heap.size 0 cs rfl rfl HW.out.2.1 (by rw [HZ.out.2.2.1]; exact sizeWheel) HW.out.1 ?_; rw [← HW.out.2.2.1, ← HB.out]) | (refine wpList_load_mid (P := Try.prog) rfl 79 _ rfl b 1 rfl vs _ HW.out.2.2.2.2.2.range Try.underlying79 rfl (by rw [H.out.len]; kernel_rfl) ?_))
  go_loopw [16] (fun i wr => ∃ (k : Nat) (us : List Value), k ≤ 64 ∧ i = .int .i64 k ∧ CpyH B B wr vs us s k ∧ Chg [] w wr) (fun i _ => 64 - (intOf i).toNat)
  case atStart =>
    refine ⟨0, [], by omega, rfl, ⟨?_, rfl, by omega, by simp, by simp⟩, HW.out.2.2.2.2.1⟩
    rw [HB.out]
    exact HW.out.2.2.2.1
  case round =>
    obtain ⟨k, us, hk, rfl, hP, hC⟩ := hrel
    by_cases hlt : k < 64
    · obtain ⟨v, hv⟩ : ∃ v, vs[k]? = some v := ⟨_, List.getElem?_eq_getElem (by rw [H.out.len]; exact hlt)⟩
      have hix := index_ring hv hlt
      have hdk : decide ((k : Int) < 64) = true := decide_eq_true (by omega)
      have hcl := clone_any v (ringH s.M k) wr (own_kept (H.out.own k v hv) hC (by simp)) (by have := ring_len s.M k; have := H.out.inv.few; omega)
      obtain ⟨n, hn⟩ : ∃ n, n = (ringH s.M k).length := ⟨_, rfl⟩
      rw [← hn] at hcl
      have hBw : B ≤ wr.heap.size := by have := hC.size; have := HB.out; omega
      have HX := Lib.hid (And.intro hP (And.intro hC (And.intro hn (And.intro hcl hv))))
      clear hP hC hn hcl hv
      go_wp2_with fail
      refine HX.out.2.2.2.1.mono ?_
      rintro e w2 ⟨a, cap, rfl, ho2, hC2⟩
      have hh2 := hC2.blk HX.out.1.head (by simp)
      have hlen : (us ++ vs.drop k).length = 64 := by rw [List.length_append, List.length_drop, HX.out.1.len, H.out.len]; omega
      obtain ⟨old, hold⟩ : ∃ old, (us ++ vs.drop k)[k]? = some old := ⟨_, List.getElem?_eq_getElem (by omega)⟩
      have cO := cellB (i := 1 + k) hh2 (by rw [wcl_ring hlen hlt]; exact hold)
      have fO := frozenB hh2
      have H2 := Lib.hid (And.intro ho2 hC2)
      clear ho2 hC2 hh2 hlen hold
      go_wp2
      go_roundw
      case rel =>
        have hN := HX.out.1.next (v' := .slice a n cap) H.out.len hlt H2.out.2 (by rw [← HX.out.2.2.1]; exact H2.out.1) hBw
        exact ⟨k + 1, us ++ [.slice a n cap], by omega, by go_num, hN, (HX.out.2.1.trans H2.out.2).trans' ((Chg.refl [B] w2).setCell _ _ (by simp)) (fun q hq => .inr (by simp at hq; have := HB.out; omega))⟩
      case measure => simp [intOf]; omega
    · have hk64 : k = 64 := by omega
      subst hk64
      have HX := Lib.hid (And.intro hP hC)
      clear hP hC
      go_wp2
      go_ret
      have hP := HX.out.1
      have hh := hP.head
      rw [List.drop_of_length_le (by rw [H.out.len]; omega), List.append_nil] at hh
      refine ⟨B, us, rfl, ⟨hh, hP.len, fun j v hj => own_mono (hP.own j v hj) (Nat.zero_le _), hP.sep, H.out.inv⟩, ?_, HX.out.2⟩
      intro x hx
      rw [← HB.out]
      rcases mem_blocks.1 hx with rfl | ⟨j, v, hj, hm⟩
      · exact Nat.le_refl _
      · exact own_ge (hP.own j v hj) x hm

end Go.Proofs.Ytonahpilmchnkaa
