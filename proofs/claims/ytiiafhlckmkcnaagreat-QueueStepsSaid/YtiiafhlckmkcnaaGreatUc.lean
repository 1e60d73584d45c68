
/- slices.Insert, slices.Delete at messages: contracts over rows of one's own. -/
import Derived.Test.YtiiafhlckmkcnaaGreatUb
namespace Go.Proofs.YtiiafhlckmkcnaaGreat
open Go.RowKit

section
variable {P : Program}
theorem wpList_cp {w : World} {ops : Array Oper} {rest : List Oper} {o : Oper} {a : Act} {Q : Exit → Act → World → Prop} (hgd : o.guard = none) (d s : Operand) (t ty : TypeId)
    (ho : o.op = .call { callee := .builtin .copy, args := #[d, s], argTypes := #[t, t] }) (hty : o.type = ty) (v u r : Value) (hd : a.eval d = v) (hs : a.eval s = u) (w' : World)
    (hr : (Builtin.copy_ #[t, t] ty #[v, u]).run P w = .ok r w') (h : wpList P ops Q rest (a.put o.dst r) w') : wpList P ops Q (o :: rest) a w := by
  subst hty
  refine wpList_plain hgd fun K hK => ?_
  unfold Oper.wp execOp
  simp only [ho, resolve, invoke, builtin, Sem.run_bind, Sem.run_pure, Result.andThen_ok, List.map_toArray, List.map_cons, List.map_nil, hd, hs, hr]
  exact hK _ _ h
theorem wpList_zr {w : World} {ops : Array Oper} {rest : List Oper} {o : Oper} {a : Act} {Q : Exit → Act → World → Prop} (hgd : o.guard = none) (d s : Operand) (t tn ty : TypeId)
    (ho : o.op = .call { callee := .builtin .append, args := #[d, s], argTypes := #[t, tn] }) (hty : o.type = ty) (v u r : Value) (hd : a.eval d = v) (hs : a.eval s = u) (w' : World)
    (hr : (Builtin.append_ #[t, tn] ty #[v, u]).run P w = .ok r w') (h : wpList P ops Q rest (a.put o.dst r) w') : wpList P ops Q (o :: rest) a w := by
  subst hty
  refine wpList_plain hgd fun K hK => ?_
  unfold Oper.wp execOp
  simp only [ho, resolve, invoke, builtin, Sem.run_bind, Sem.run_pure, Result.andThen_ok, List.map_toArray, List.map_cons, List.map_nil, hd, hs, hr]
  exact hK _ _ h
theorem step_cp {ops : Array Oper} {o : Oper} {a : Act} {w : World} {K : Act → World → Prop} {Q : Exit → Act → World → Prop} {E : Prop} (hgd : o.guard = none) (d s : Operand) (t ty : TypeId)
    (ho : o.op = .call { callee := .builtin .copy, args := #[d, s], argTypes := #[t, t] }) (hty : o.type = ty) (v u r : Value) (hd : a.eval d = v) (hs : a.eval s = u) (w' : World)
    (hr : (Builtin.copy_ #[t, t] ty #[v, u]).run P w = .ok r w') (hK : K (a.put o.dst r) w') : if Region.wanted o (yielded ops a.tmps) = true then Oper.wp P o a w K Q else E := by
  have hw : Region.wanted o (yielded ops a.tmps) = true := by simp [Region.wanted, hgd]
  rw [if_pos hw]
  subst hty
  unfold Oper.wp execOp
  simp only [ho, resolve, invoke, builtin, Sem.run_bind, Sem.run_pure, Result.andThen_ok, List.map_toArray, List.map_cons, List.map_nil, hd, hs, hr]
  exact hK
end

theorem setRow_size (w : World) (g : Nat) (cs : Array Value) : (w.setRow g cs).heap.size = w.heap.size := by simp [World.setRow]
theorem Chg.setRow {S : List Nat} {a b : World} (h : Chg S a b) (g : Nat) (cs : Array Value) (hp : g ∈ S ∨ a.heap.size ≤ g) : Chg S a (b.setRow g cs) :=
  h.trans' (S2 := [g]) ⟨rfl, rfl, rfl, by rw [setRow_size]; exact Nat.le_refl _, fun k _ hn => by
    have : g ≠ k := fun e => hn (by simp [e])
    simp [World.setRow, Array.getElem?_modify, this]⟩ (by simpa using hp)
theorem addr_add (g o j : Nat) : (⟨g, o, none⟩ : Addr).add j = ⟨g, o + j, none⟩ := by unfold Addr.add; split <;> simp_all
theorem flatW_take (l : WL) (k : Nat) : flatW (l.take k) = (flatW l).take (k * 2) := by
  induction l generalizing k with
  | nil => simp [flatW]
  | cons y l ih =>
    cases k with
    | zero => simp [flatW]
    | succ k =>
      have e : ∀ z (l : WL), flatW (z :: l) = .int .i64 z.1 :: .int .i64 z.2 :: flatW l := fun z l => by simp [flatW]
      rw [List.take_succ_cons, e, e, ih, show (k + 1) * 2 = k * 2 + 1 + 1 by omega]
      rfl
theorem flatW_drop (l : WL) (k : Nat) : flatW (l.drop k) = (flatW l).drop (k * 2) := by
  induction l generalizing k with
  | nil => simp [flatW]
  | cons y l ih =>
    cases k with
    | zero => simp [flatW]
    | succ k =>
      have e : ∀ z (l : WL), flatW (z :: l) = .int .i64 z.1 :: .int .i64 z.2 :: flatW l := fun z l => by simp [flatW]
      rw [List.drop_succ_cons, e, ih, show (k + 1) * 2 = k * 2 + 1 + 1 by omega]
      rfl
theorem flatW_app2 (l m : WL) : flatW (l ++ m) = flatW l ++ flatW m := by simp [flatW]
theorem flatW_cons (z : Int × Int) (l : WL) : flatW (z :: l) = .int .i64 z.1 :: .int .i64 z.2 :: flatW l := by simp [flatW]

def cM (m : Int × Int) : List Value := [.int .i64 m.1, .int .i64 m.2]
theorem cM_len (m : Int × Int) : (cM m).length = 2 := rfl
/-- A row with a message laid in: what stood from i on two cells on, then the message. -/
def rowSh (cur : List Value) (i : Nat) (tl : List Value) (m : Int × Int) : List Value :=
  let r := cur.take ((i + 1) * 2) ++ tl ++ cur.drop ((i + 1) * 2 + tl.length)
  r.take (i * 2) ++ cM m ++ r.drop (i * 2 + 2)
theorem rowSh_take {cur : List Value} {i n : Nat} {l : WL} {m : Int × Int} (hn : l.length = n) (hi : i ≤ n) (hc : (n + 1) * 2 ≤ cur.length) (hp : cur.take (i * 2) = flatW (l.take i)) :
    (rowSh cur i (flatW (l.drop i)) m).take ((n + 1) * 2) = flatW (l.take i ++ m :: l.drop i) := by
  unfold rowSh
  simp only
  have hd : (flatW (l.drop i)).length = (n - i) * 2 := by rw [flatW_len, List.length_drop, hn]
  have h1 : (cur.take ((i + 1) * 2)).length = i * 2 + 2 := by rw [List.length_take]; omega
  have h2 : (cur.take ((i + 1) * 2) ++ flatW (l.drop i) ++ cur.drop ((i + 1) * 2 + (flatW (l.drop i)).length)).take (i * 2) = flatW (l.take i) := by
    rw [List.append_assoc, List.take_append_of_le_length (by omega), List.take_take, Nat.min_eq_left (by omega), hp]
  have h3 : (cur.take ((i + 1) * 2) ++ flatW (l.drop i) ++ cur.drop ((i + 1) * 2 + (flatW (l.drop i)).length)).drop (i * 2 + 2) = flatW (l.drop i) ++ cur.drop ((i + 1) * 2 + (flatW (l.drop i)).length) := by
    rw [List.append_assoc, ← h1, List.drop_left]
  rw [h2, h3, flatW_app2, flatW_cons]
  have h4 : (flatW (l.take i)).length = i * 2 := by rw [flatW_len, List.length_take]; omega
  rw [List.append_assoc, ← List.append_assoc, ← List.append_assoc]
  rw [List.take_append_of_le_length (by simp only [List.length_append, cM_len, hd, h4]; omega)]
  rw [List.take_of_length_le (by simp only [List.length_append, cM_len, hd, h4]; omega), List.append_assoc]
  rfl

set_option maxRecDepth 100000 in
set_option maxHeartbeats 4000000 in
theorem uins_shift (g n c i vb : Nat) (l : WL) (m : Int × Int) (w : World) (hown : w.ownsRow 0 33 2 (.slice (some ⟨g, 0, none⟩) n c) n (flatW l)) (hn : l.length = n) (hi : i < n) (hroom : n + 1 ≤ c) (hv : w.heap[vb]? = some (msgB m)) (hne : vb ≠ g) :
    Calls Tryz.prog 75 #[.slice (some ⟨g, 0, none⟩) n c, .int .i64 i, .slice (some ⟨vb, 0, none⟩) 1 1] w fun e w' =>
      e = .returned (.slice (some ⟨g, 0, none⟩) (n + 1) c) ∧ w'.ownsRow 0 33 2 (.slice (some ⟨g, 0, none⟩) (n + 1) c) (n + 1) (flatW (l.take i ++ m :: l.drop i)) ∧ Chg [g] w w' := by
  obtain ⟨i0, hi0, hz0, hz1, hz2⟩ := info_parts infoMessage
  obtain ⟨cur, hg, hcm, hcs, hcur⟩ : ∃ cur, w.heap[g]? = some (.cells cur 33 (0, 0)) ∧ c ≤ maxLen ∧ cur.size = c * 2 ∧ cur.toList.take (n * 2) = flatW l := by
    obtain ⟨g', cap', cur, h1, _, h3, _, h5, h6, h7⟩ := own_blk hown (by omega)
    cases h1
    exact ⟨cur, h3, h5, h6, h7⟩
  have hsz : (Tryz.prog.info? 33).map (·.size) = some 2 := by rw [hi0]; simp [hz1]
  have hc63 : c ≤ 9223372036854775807 := by unfold maxLen at hcm; omega
  have hsa : w.shape? vb = some (33, 2) := by simp [World.shape?, hv, msgB]
  have hsb : w.shape? g = some (33, c * 2) := by simp [World.shape?, hg, hcs]
  have hfa : w.frozen? ⟨vb, 0, none⟩ = false := by simp [World.frozen?, hv, msgB]
  have hfe : w.frozen? ⟨vb, 2, none⟩ = false := by simp [World.frozen?, hv, msgB]
  have hov : ∀ lb cb, (callFunc 90 #[.slice (some ⟨vb, 0, none⟩) 1 1, .slice (some ⟨g, (i + 1) * 2, none⟩) lb cb]).run Tryz.prog w = .ok (.value (.bool false)) w := fun lb cb => by
    rw [run_callFunc_extern Tryz.func90 (by kernel_rfl) (by kernel_rfl) (by kernel_rfl) (e := Extern.SlicesOverlaps.overlaps #[47, 47] #[4]) (by kernel_rfl),
      Lib.run_overlaps_apart w 47 4 33 Tryz.underlying47 2 (fun w => by kernel_rfl) ⟨vb, 0, none⟩ ⟨g, (i + 1) * 2, none⟩ 1 1 lb cb hne 33 33 2 (c * 2) hsa hsb (by omega) hfa hfe]
    rfl
  have hdl : (flatW (l.drop i)).length = (n - i) * 2 := by rw [flatW_len, List.length_drop, hn]
  have hone : ∀ k : WL, ∀ u ∈ flatW k, u.oneCell' = true := fun k u hu => by
    obtain ⟨x, _, hx⟩ := List.mem_flatMap.1 hu
    simp at hx
    rcases hx with rfl | rfl <;> rfl
  have hcp1 : ∀ ty dc sc, (Builtin.copy_ #[47, 47] ty #[.slice (some ⟨g, (i + 1) * 2, none⟩) (n + 1 - (i + 1)) dc, .slice (some ⟨g, i * 2, none⟩) (n + 1 - i) sc]).run Tryz.prog w.drew = .ok (goInt (n - i : Nat)) (w.drew.setRow g (cur.toList.take ((i + 1) * 2) ++ flatW (l.drop i) ++ cur.toList.drop ((i + 1) * 2 + (flatW (l.drop i)).length)).toArray) := fun ty dc sc =>
    run_copy_rowN Tryz.prog w.drew 47 47 ty 33 g ((i + 1) * 2) (n + 1 - (i + 1)) dc ⟨g, i * 2, none⟩ (n + 1 - i) sc 2 (n - i) cur 33 (flatW (l.drop i)) Tryz.underlying47 hsz hg (by simp only [Nat.min_def]; split <;> omega) hdl
      (fun j u hj => by
        rw [addr_add]
        refine cellB (w := w.drew) hg (own_take hcur _ u ?_)
        rw [flatW_drop, List.getElem?_drop] at hj
        exact hj) (by rw [hdl, hcs]; omega) (hone _)
  obtain ⟨R1, hR1⟩ : ∃ R1 : Array Value, R1 = (cur.toList.take ((i + 1) * 2) ++ flatW (l.drop i) ++ cur.toList.drop ((i + 1) * 2 + (flatW (l.drop i)).length)).toArray := ⟨_, rfl⟩
  have hR1s : R1.size = c * 2 := by
    rw [hR1]
    simp only [List.size_toArray, List.length_append, List.length_take, List.length_drop, Array.length_toList, hdl, hcs]
    omega
  rw [← hR1] at hcp1
  obtain ⟨W1, hW1⟩ : ∃ W1, W1 = w.drew.setRow g R1 := ⟨_, rfl⟩
  have hg1 : W1.heap[g]? = some (.cells R1 33 (0, 0)) := by rw [hW1]; exact setRow_heap w.drew g cur R1 _ _ hg
  have hC1 : Chg [g] w W1 := by rw [hW1]; exact ((Chg.refl [g] w).drew).setRow g R1 (by simp)
  have hv1 := hC1.blk hv (by simpa using hne)
  have hcp2 : ∀ ty dc, (Builtin.copy_ #[47, 47] ty #[.slice (some ⟨g, i * 2, none⟩) (n + 1 - i) dc, .slice (some ⟨vb, 0, none⟩) 1 1]).run Tryz.prog W1 = .ok (goInt (1 : Nat)) (W1.setRow g (R1.toList.take (i * 2) ++ cM m ++ R1.toList.drop (i * 2 + 2)).toArray) := fun ty dc =>
    run_copy_rowN Tryz.prog W1 47 47 ty 33 g (i * 2) (n + 1 - i) dc ⟨vb, 0, none⟩ 1 1 2 1 R1 33 (cM m) Tryz.underlying47 hsz hg1 (by simp only [Nat.min_def]; split <;> omega) rfl
      (fun j u hj => by
        rw [addr_add, Nat.zero_add]
        exact cellB hv1 (by simpa [cM] using hj)) (by rw [hR1s, cM_len]; omega) (by simp [Value.oneCell', cM])
  have hfin : (W1.setRow g (R1.toList.take (i * 2) ++ cM m ++ R1.toList.drop (i * 2 + 2)).toArray).ownsRow 0 33 2 (.slice (some ⟨g, 0, none⟩) (n + 1) c) (n + 1) (flatW (l.take i ++ m :: l.drop i)) ∧ Chg [g] w (W1.setRow g (R1.toList.take (i * 2) ++ cM m ++ R1.toList.drop (i * 2 + 2)).toArray) := by
    refine ⟨⟨?_, .inr ⟨g, c, _, rfl, Nat.zero_le _, setRow_heap W1 g R1 _ _ _ hg1, hroom, hcm, ?_, ?_⟩⟩, hC1.setRow g _ (by simp)⟩
    · rw [flatW_len]; simp; omega
    · simp only [List.size_toArray, List.length_append, List.length_take, List.length_drop, Array.length_toList, hR1s, cM_len]; omega
    · have := rowSh_take (cur := cur.toList) (l := l) (m := m) hn (Nat.le_of_lt hi) (by rw [Array.length_toList, hcs]; omega) (by rw [flatW_take, ← hcur, List.take_take, Nat.min_eq_left (by omega)])
      unfold rowSh at this
      simp only at this
      rw [hR1]
      simpa using this
  obtain ⟨W2, hW2⟩ : ∃ W2, W2 = W1.setRow g (R1.toList.take (i * 2) ++ cM m ++ R1.toList.drop (i * 2 + 2)).toArray := ⟨_, rfl⟩
  rw [← hW2] at hcp2 hfin
  rw [← hW1] at hcp1
  have HF := Lib.hid hfin
  have hz2' : ¬ ((i : Int) = (n : Int)) := by omega
  have hw1 : IntKind.i64.wrap ((i : Int) + 1) = (i : Int) + 1 := by rw [IntKind.wrap_i64]; omega
  have hwn : IntKind.i64.wrap ((n : Int) + 1) = (n : Int) + 1 := by rw [IntKind.wrap_i64]; omega
  have hb1 : (0 : Int) ≤ (i : Int) + 1 := by omega
  have hin : i ≤ n := by omega
  have htn : ((i : Int) + 1).toNat = i + 1 := by omega
  have hb2 : ¬ (c = i + 1) := by omega
  have hb3 : (i : Int) ≤ (n : Int) + 1 := by omega
  have hb4 : ¬ (c = i) := by omega
  clear hfin hW2 hW1 hC1 hv1 hg1 hR1 hR1s hcur hcs hcm hown hg hv hsa hsb hfa hfe hone hdl hn
  go_enter Tryz.func75, Tryz.ntmps75
  go_wp2_with (simp only [hov])
  go_region_law (refine step_cp rfl _ _ 47 _ rfl rfl (.slice (some ⟨g, (i + 1) * 2, none⟩) (n + 1 - (i + 1)) (c - (i + 1))) (.slice (some ⟨g, i * 2, none⟩) (n + 1 - i) (c - i)) _ (by simp [Act.eval, Act.put]) (by simp [Act.eval, Act.put]) _ (hcp1 _ _ _) ?_)
  go_wp2_with (at_builtin; refine wpList_cp rfl _ _ 47 _ rfl rfl _ _ _ rfl rfl _ (hcp2 _ _) ?_)
  go_ret
  exact ⟨rfl, HF.out.1, HF.out.2⟩

theorem one_cells (k : WL) : ∀ u ∈ flatW k, u.oneCell' = true := fun u hu => by
  obtain ⟨x, _, hx⟩ := List.mem_flatMap.1 hu
  simp at hx
  rcases hx with rfl | rfl <;> rfl

set_option maxRecDepth 100000 in
set_option maxHeartbeats 4000000 in
theorem uins_grow (g n c i vb : Nat) (l : WL) (m : Int × Int) (w : World) (hown : w.ownsRow 0 33 2 (.slice (some ⟨g, 0, none⟩) n c) n (flatW l)) (hn : l.length = n) (hi : i < n) (hsm : n ≤ 1000) (hroom : ¬ n + 1 ≤ c) (hv : w.heap[vb]? = some (msgB m)) :
    Calls Tryz.prog 75 #[.slice (some ⟨g, 0, none⟩) n c, .int .i64 i, .slice (some ⟨vb, 0, none⟩) 1 1] w fun e w' =>
      ∃ c', e = .returned (.slice (some ⟨w.heap.size, 0, none⟩) (n + 1) c') ∧ w'.ownsRow 0 33 2 (.slice (some ⟨w.heap.size, 0, none⟩) (n + 1) c') (n + 1) (flatW (l.take i ++ m :: l.drop i)) ∧ Chg [] w w' := by
  obtain ⟨i0, hi0, hz0, hz1, hz2⟩ := info_parts infoMessage
  obtain ⟨cur, hg, hnc, hcm, hcs, hcur⟩ : ∃ cur, w.heap[g]? = some (.cells cur 33 (0, 0)) ∧ n ≤ c ∧ c ≤ maxLen ∧ cur.size = c * 2 ∧ cur.toList.take (n * 2) = flatW l := by
    obtain ⟨g', cap', cur, h1, _, h3, h4, h5, h6, h7⟩ := own_blk hown (by omega)
    cases h1
    exact ⟨cur, h3, h4, h5, h6, h7⟩
  have hsz : (Tryz.prog.info? 33).map (·.size) = some 2 := by rw [hi0]; simp [hz1]
  have hgl := lt_of_blk hg
  have hvl := lt_of_blk hv
  have hik : i + (n + 1 - i) = n + 1 := by omega
  have hold : (Builtin.firstCells i0.size i (.slice (some ⟨g, 0, none⟩) i c)).run Tryz.prog w.drew = .ok (flatW (l.take i)).toArray w.drew := by
    rw [hz1]
    exact run_firstCells_some w.drew 2 i ⟨g, 0, none⟩ i c (flatW (l.take i)) (by rw [flatW_len, List.length_take]; omega) (fun j u hj => by
      rw [addr_add, Nat.zero_add]
      refine cellB (w := w.drew) hg (own_take hcur _ u ?_)
      rw [flatW_take, List.getElem?_take] at hj
      split at hj
      · exact hj
      · cases hj)
  obtain ⟨G, hG⟩ : ∃ G, G = grownCap w (n + 1) c 33 := ⟨_, rfl⟩
  obtain ⟨R0, hR0⟩ : ∃ R0 : Array Value, R0 = (flatW (l.take i)).toArray ++ Builtin.zeroCells (Value.agg #[.int .i64 0, .int .i64 0]).cells (n + 1 - i) ++ Builtin.zeroCells (Value.agg #[.int .i64 0, .int .i64 0]).cells (G - (n + 1)) := ⟨_, rfl⟩
  have hGn : n + 1 ≤ G := by rw [hG]; exact grownCap_ge w _ _ _
  have hG63 : G ≤ maxLen := by
    have := grownCap_le_maxLen w (n + 1) c 33 (by unfold maxLen; omega)
    rwa [← hG] at this
  have hrz : ∀ ty, (Builtin.append_ #[47, 3] ty #[.slice (some ⟨g, 0, none⟩) i c, .int .i64 ((n : Int) + 1 - (i : Int))]).run Tryz.prog w = .ok (.slice (some ⟨w.heap.size, 0, none⟩) (n + 1) G) (w.drew.alloc (.cells R0 33)) := fun ty => by
    have h := Lib.run_append_grow_zeros w 47 3 ty 33 i0 _ .i64 .i64 Tryz.underlying47 Tryz.underlying3 hi0 hz0 (some ⟨g, 0, none⟩) i c (flatW (l.take i)) hold (n + 1 - i) (by omega) (by omega) (by omega) (by omega) (by rw [hz2]; omega) (by rw [hz2, hik]; exact growslice_fits (by omega) (by omega))
    rw [hik, ← hG, ← hR0] at h
    rw [show (n : Int) + 1 - (i : Int) = ((n + 1 - i : Nat) : Int) by omega]
    exact h
  have hz : ∀ k, (Builtin.zeroCells (Value.agg #[.int .i64 0, .int .i64 0]).cells k).size = k * 2 := fun k => by simp [Builtin.zeroCells, Value.cells]
  have hR0s : R0.size = G * 2 := by
    rw [hR0]
    simp only [Array.size_append, List.size_toArray, hz, flatW_len, List.length_take, hn]
    omega
  obtain ⟨W1, hW1⟩ : ∃ W1, W1 = w.drew.alloc (.cells R0 33) := ⟨_, rfl⟩
  rw [← hW1] at hrz
  obtain ⟨N, hN⟩ : ∃ N, N = w.heap.size := ⟨_, rfl⟩
  rw [← hN] at hgl hvl hrz ⊢
  have hN1 : W1.heap[N]? = some (.cells R0 33 (0, 0)) := by rw [hW1, hN]; exact heap_alloc_eq w.drew _
  have hC1 : Chg [] w W1 := by rw [hW1]; exact ((Chg.refl [] w).drew).alloc _
  have hv1 := hC1.blk hv (by simp)
  have hg1 := hC1.blk hg (by simp)
  have hcp1 : ∀ ty dc, (Builtin.copy_ #[47, 47] ty #[.slice (some ⟨N, i * 2, none⟩) (n + 1 - i) dc, .slice (some ⟨vb, 0, none⟩) 1 1]).run Tryz.prog W1 = .ok (goInt (1 : Nat)) (W1.setRow N (R0.toList.take (i * 2) ++ cM m ++ R0.toList.drop (i * 2 + 2)).toArray) := fun ty dc =>
    run_copy_rowN Tryz.prog W1 47 47 ty 33 N (i * 2) (n + 1 - i) dc ⟨vb, 0, none⟩ 1 1 2 1 R0 33 (cM m) Tryz.underlying47 hsz hN1 (by simp only [Nat.min_def]; split <;> omega) rfl
      (fun j u hj => by
        rw [addr_add, Nat.zero_add]
        exact cellB hv1 (by simpa [cM] using hj)) (by rw [hR0s, cM_len]; omega) (by simp [Value.oneCell', cM])
  obtain ⟨R1, hR1⟩ : ∃ R1 : Array Value, R1 = (R0.toList.take (i * 2) ++ cM m ++ R0.toList.drop (i * 2 + 2)).toArray := ⟨_, rfl⟩
  have hR1s : R1.size = G * 2 := by
    rw [hR1]
    simp only [List.size_toArray, List.length_append, List.length_take, List.length_drop, Array.length_toList, hR0s, cM_len]
    omega
  have hR1t : R1.toList.take (i * 2 + 2) = flatW (l.take i ++ [m]) := by
    have h1 : R0.toList.take (i * 2) = flatW (l.take i) := by
      rw [hR0]
      simp only [Array.toList_append, List.append_assoc]
      rw [List.take_append_of_le_length (by simp [flatW_len]; omega), List.take_of_length_le (by simp [flatW_len]; omega)]
    have h2 : (flatW (l.take i)).length = i * 2 := by rw [flatW_len, List.length_take]; omega
    rw [hR1, h1, flatW_app2]
    simp only
    rw [List.take_append_of_le_length (by simp [h2, cM_len]), List.take_of_length_le (by simp [h2, cM_len])]
    rfl
  rw [← hR1] at hcp1
  obtain ⟨W2, hW2⟩ : ∃ W2, W2 = W1.setRow N R1 := ⟨_, rfl⟩
  rw [← hW2] at hcp1
  have hN2 : W2.heap[N]? = some (.cells R1 33 (0, 0)) := by rw [hW2]; exact setRow_heap W1 N R0 R1 _ _ hN1
  have hC2 : Chg [] w W2 := by rw [hW2]; exact hC1.setRow N R1 (.inr (by omega))
  have hg2 := hC2.blk hg (by simp)
  have hdl : (flatW (l.drop i)).length = (n - i) * 2 := by rw [flatW_len, List.length_drop, hn]
  have hcp2 : ∀ (ty : TypeId) dc sc, (Builtin.copy_ #[47, 47] ty #[.slice (some ⟨N, (i + 1) * 2, none⟩) (n + 1 - (i + 1)) dc, .slice (some ⟨g, i * 2, none⟩) (n - i) sc]).run Tryz.prog W2.drew = .ok (goInt (n - i : Nat)) (W2.drew.setRow N (R1.toList.take ((i + 1) * 2) ++ flatW (l.drop i) ++ R1.toList.drop ((i + 1) * 2 + (flatW (l.drop i)).length)).toArray) := fun ty dc sc =>
    run_copy_rowN Tryz.prog W2.drew 47 47 ty 33 N ((i + 1) * 2) (n + 1 - (i + 1)) dc ⟨g, i * 2, none⟩ (n - i) sc 2 (n - i) R1 33 (flatW (l.drop i)) Tryz.underlying47 hsz hN2 (by simp only [Nat.min_def]; split <;> omega) hdl
      (fun j u hj => by
        rw [addr_add]
        refine cellB (w := W2.drew) hg2 (own_take hcur _ u ?_)
        rw [flatW_drop, List.getElem?_drop] at hj
        exact hj) (by rw [hdl, hR1s]; omega) (one_cells _)
  obtain ⟨W3, hW3⟩ : ∃ W3, W3 = W2.drew.setRow N (R1.toList.take ((i + 1) * 2) ++ flatW (l.drop i) ++ R1.toList.drop ((i + 1) * 2 + (flatW (l.drop i)).length)).toArray := ⟨_, rfl⟩
  rw [← hW3] at hcp2
  have hfin : W3.ownsRow 0 33 2 (.slice (some ⟨N, 0, none⟩) (n + 1) G) (n + 1) (flatW (l.take i ++ m :: l.drop i)) ∧ Chg [] w W3 := by
    refine ⟨⟨?_, .inr ⟨N, G, _, rfl, Nat.zero_le _, by rw [hW3]; exact setRow_heap W2.drew N R1 _ _ _ hN2, hGn, hG63, ?_, ?_⟩⟩, by rw [hW3]; exact hC2.drew.setRow N _ (.inr (by omega))⟩
    · rw [flatW_len]; simp; omega
    · simp only [List.size_toArray, List.length_append, List.length_take, List.length_drop, Array.length_toList, hR1s, hdl]; omega
    · simp only
      rw [show (i + 1) * 2 = i * 2 + 2 by omega, hR1t]
      have e : flatW (l.take i ++ m :: l.drop i) = flatW (l.take i ++ [m]) ++ flatW (l.drop i) := by rw [← flatW_app2, List.append_assoc]; rfl
      have h2 : (flatW (l.take i ++ [m])).length = (i + 1) * 2 := by rw [flatW_len, List.length_append, List.length_take, List.length_cons, List.length_nil]; omega
      rw [e, List.take_append_of_le_length (by rw [List.length_append, h2, hdl]; omega), List.take_of_length_le (by rw [List.length_append, h2, hdl]; omega)]
  have HF := Lib.hid hfin
  have hz2' : ¬ ((i : Int) = (n : Int)) := by omega
  have hz3 : (c : Int) < (n : Int) + 1 := by omega
  have hw1 : IntKind.i64.wrap ((i : Int) + 1) = (i : Int) + 1 := by rw [IntKind.wrap_i64]; omega
  have hwn : IntKind.i64.wrap ((n : Int) + 1) = (n : Int) + 1 := by rw [IntKind.wrap_i64]; omega
  have hwk : IntKind.i64.wrap ((n : Int) + 1 - (i : Int)) = (n : Int) + 1 - (i : Int) := by rw [IntKind.wrap_i64]; omega
  have hb1 : (0 : Int) ≤ (i : Int) + 1 := by omega
  have hin : i ≤ n := by omega
  have htn : ((i : Int) + 1).toNat = i + 1 := by omega
  have hGi : ¬ (G = i) := by omega
  have hGim : ¬ (G = i + 1) := by omega
  have hci : ¬ (c = i) := by omega
  have hb3 : (i : Int) ≤ (n : Int) := by omega
  have hic : i ≤ c := by omega
  have hG63' : G ≤ 9223372036854775807 := by unfold maxLen at hG63; omega
  clear hfin hW3 hW2 hW1 hC2 hC1 hv1 hg1 hg2 hN1 hN2 hR1 hR1s hR1t hR0 hR0s hcur hcs hcm hown hg hv hdl hn hold hz hik hG hN hG63 hroom
  go_enter Tryz.func75, Tryz.ntmps75
  go_wp2_with (first
    | (at_builtin; refine wpList_zr rfl _ _ 47 3 _ rfl rfl _ _ _ rfl rfl _ (hrz _) ?_)
    | (at_builtin; refine wpList_cp rfl _ _ 47 _ rfl rfl _ _ _ rfl rfl _ (hcp1 _ _) ?_))
  go_region_law (refine step_cp rfl _ _ 47 _ rfl rfl (.slice (some ⟨N, (i + 1) * 2, none⟩) (n + 1 - (i + 1)) (G - (i + 1))) (.slice (some ⟨g, i * 2, none⟩) (n - i) (c - i)) _ (by simp [Act.eval, Act.put]) (by simp [Act.eval, Act.put]) _ (hcp2 _ _ _) ?_)
  go_wp2
  go_ret
  exact ⟨G, rfl, HF.out.1, HF.out.2⟩

end Go.Proofs.YtiiafhlckmkcnaaGreat
