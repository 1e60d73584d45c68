
/- slices.Insert at messages, all its roads; slices.Delete of the first message: contracts. -/
import Derived.Test.YtiiafhlckmkcnaaGreatUc
import Derived.Laws.OwnMore
namespace Go.Proofs.YtiiafhlckmkcnaaGreat
open Go.RowKit

/-- A row behind a step: its block the same, or a new one. -/
def SameBlk (v v' : Value) (w : World) : Prop := v'.ownBlock = v.ownBlock ∨ ∃ k, w.heap.size ≤ k ∧ v'.ownBlock = some k
theorem SameBlk.sub {v v' : Value} {w : World} (h : SameBlk v v' w) : ∀ k ∈ v'.ownBlock.toList, k ∈ v.ownBlock.toList ∨ w.heap.size ≤ k := by
  intro k hk
  rcases h with h | ⟨j, hj, h⟩
  · rw [h] at hk; exact .inl hk
  · rw [h] at hk; simp at hk; subst hk; exact .inr hj

set_option maxRecDepth 100000 in
set_option maxHeartbeats 2000000 in
theorem uins_end (v : Value) (n vb : Nat) (l : WL) (m : Int × Int) (w : World) (hown : w.ownsRow 0 33 2 v n (flatW l)) (hn : l.length = n) (hsm : n ≤ 1000) (hv : w.heap[vb]? = some (msgB m)) :
    Calls Tryz.prog 75 #[v, .int .i64 n, .slice (some ⟨vb, 0, none⟩) 1 1] w fun e w' =>
      ∃ v', e = .returned v' ∧ w'.ownsRow 0 33 2 v' (n + 1) (flatW (l ++ [m])) ∧ Chg v.ownBlock.toList w w' ∧ SameBlk v v' w := by
  obtain ⟨i0, hi0, hz0, hz1, hz2⟩ := info_parts infoMessage
  have hs : SrcAt w (.slice (some ⟨vb, 0, none⟩) 1 1) 1 (cM m) := .inr ⟨⟨vb, 0, none⟩, 1, rfl, fun j u hj => by
    rw [addr_add, Nat.zero_add]
    exact cellB hv (by simpa [cM] using hj)⟩
  obtain ⟨v', w', hr, h2, h3, h4⟩ := run_more (P := Tryz.prog) (w := w) 0 47 47 33 i0 (.agg #[.int .i64 0, .int .i64 0]) 2 16 Tryz.underlying47 hi0 hz0 hz1 hz2 rfl (by decide) v n (flatW l) hown
    (.slice (some ⟨vb, 0, none⟩) 1 1) 1 (cM m) hs rfl (by simp [cM, Value.oneCell']) (by unfold maxLen; omega) (by omega) (Nat.zero_le _)
  have H := Lib.hid (show w'.ownsRow 0 33 2 v' (n + 1) (flatW (l ++ [m])) ∧ Chg v.ownBlock.toList w w' ∧ SameBlk v v' w from ⟨by rw [flatW_snoc]; exact h2, h3, h4⟩)
  obtain ⟨a, c, rfl⟩ := own_slice hown
  have hform : (a = none ∧ c = 0 ∧ n = 0) ∨ ∃ g, a = some ⟨g, 0, none⟩ ∧ n ≤ c := by
    rcases hown.2 with ⟨e1, e2⟩ | ⟨g, cap, cur, e1, _, _, e4, _⟩
    · cases e1; exact .inl ⟨rfl, rfl, rfl⟩
    · cases e1; exact .inr ⟨g, rfl, e4⟩
  clear h2 h3 h4 hown hs hv hn
  rcases hform with ⟨rfl, rfl, rfl⟩ | ⟨g, rfl, hnc⟩
  all_goals
    go_enter Tryz.func75, Tryz.ntmps75
    go_wp2_with (at_builtin; refine wpList_run rfl _ _ 47 47 rfl rfl _ _ v' rfl rfl w' hr ?_)
    all_goals
      go_ret
      exact ⟨v', rfl, H.out.1, H.out.2.1, H.out.2.2⟩

theorem uinsc (v : Value) (vb i : Nat) (l : WL) (m : Int × Int) (w : World) (hown : w.ownsRow 0 33 2 v l.length (flatW l)) (hi : i ≤ l.length) (hsm : l.length ≤ 1000) (hv : w.heap[vb]? = some (msgB m)) (hne : vb ∉ v.ownBlock.toList) :
    Calls Tryz.prog 75 #[v, .int .i64 i, .slice (some ⟨vb, 0, none⟩) 1 1] w fun e w' =>
      ∃ v', e = .returned v' ∧ w'.ownsRow 0 33 2 v' (l.length + 1) (flatW (l.take i ++ m :: l.drop i)) ∧ Chg v.ownBlock.toList w w' ∧ SameBlk v v' w := by
  by_cases hil : i < l.length
  · obtain ⟨g, c, cur, rfl, _, _, _⟩ := own_blk hown (by omega)
    by_cases hroom : l.length + 1 ≤ c
    · refine (uins_shift g l.length c i vb l m w hown rfl hil hroom hv (by simpa [Value.ownBlock] using hne)).mono ?_
      rintro e w' ⟨rfl, h1, h2⟩
      exact ⟨_, rfl, h1, by simpa [Value.ownBlock] using h2, .inl rfl⟩
    · refine (uins_grow g l.length c i vb l m w hown rfl hil hsm hroom hv).mono ?_
      rintro e w' ⟨c', rfl, h1, h2⟩
      exact ⟨_, rfl, h1, h2.mono (by simp), .inr ⟨w.heap.size, Nat.le_refl _, rfl⟩⟩
  · have : i = l.length := by omega
    subst this
    refine (uins_end v l.length vb l m w hown rfl hsm hv).mono ?_
    rintro e w' ⟨v', rfl, h1, h2, h3⟩
    exact ⟨v', rfl, by rw [List.take_of_length_le (Nat.le_refl _), List.drop_of_length_le (Nat.le_refl _)]; exact h1, h2, h3⟩

section
variable {P : Program}
theorem run_clear_one (w : World) (t ty e : TypeId) (z : Value) (zs : List Value) (g o cap : Nat) (cur : Array Value) (T : TypeId) (hu : P.underlying t = some (.slice e)) (hz : ∀ w, (zeroValue e).run P w = .ok z w) (hz1 : (Builtin.zeroCells z.cells 1).toList = zs) (hg : w.heap[g]? = some (.cells cur T (0, 0)))
    (hfit : o + zs.length ≤ cur.size) (h1 : ∀ v ∈ zs, v.oneCell' = true) :
    (Builtin.clear_ #[t] ty #[.slice (some ⟨g, o, none⟩) 1 cap]).run P w = .ok (.tuple #[]) (w.setRow g (cur.toList.take o ++ zs ++ cur.toList.drop (o + zs.length)).toArray) := by
  have hst := run_storeCells_at P g o T zs 0 cur w hg (by simpa using hfit) h1
  simp [Builtin.clear_, run_underlying hu, hz, hz1, hst, Result.andThen]
theorem wpList_clr {w : World} {ops : Array Oper} {rest : List Oper} {o : Oper} {a : Act} {Q : Exit → Act → World → Prop} (hgd : o.guard = none) (s : Operand) (t ty : TypeId)
    (ho : o.op = .call { callee := .builtin .clear, args := #[s], argTypes := #[t] }) (hty : o.type = ty) (u r : Value) (hs : a.eval s = u) (w' : World)
    (hr : (Builtin.clear_ #[t] ty #[u]).run P w = .ok r w') (h : wpList P ops Q rest (a.put o.dst r) w') : wpList P ops Q (o :: rest) a w := by
  subst hty
  refine wpList_plain hgd fun K hK => ?_
  unfold Oper.wp execOp
  simp only [ho, resolve, invoke, builtin, Sem.run_bind, Sem.run_pure, Result.andThen_ok, List.map_toArray, List.map_cons, List.map_nil, hs, hr]
  exact hK _ _ h
end

set_option maxRecDepth 100000 in
set_option maxHeartbeats 4000000 in
theorem udelc (v : Value) (x : Int × Int) (l : WL) (w : World) (hown : w.ownsRow 0 33 2 v (l.length + 1) (flatW (x :: l))) (hsm : l.length ≤ 1000) :
    Calls Tryz.prog 47 #[v, .int .i64 0, .int .i64 1] w fun e w' =>
      ∃ v', e = .returned v' ∧ w'.ownsRow 0 33 2 v' l.length (flatW l) ∧ Chg v.ownBlock.toList w w' ∧ v'.ownBlock = v.ownBlock := by
  obtain ⟨i0, hi0, hz0, hz1, hz2⟩ := info_parts infoMessage
  obtain ⟨n, hn⟩ : ∃ n, n = l.length := ⟨_, rfl⟩
  rw [← hn] at hown hsm ⊢
  obtain ⟨g, c, cur, rfl, _, hg, hnc, hcm, hcs, hcur⟩ := own_blk hown (by omega)
  have hdr := Lib.hid hown
  have h0 : w.drew.ownsRow 0 33 2 (.slice (some ⟨g, 0, none⟩) 0 c) 0 [] := ⟨by simp, .inr ⟨g, c, cur, rfl, Nat.zero_le _, hg, Nat.zero_le _, hcm, hcs, by simp⟩⟩
  obtain ⟨A, hA, hAc⟩ : ∃ A : Addr, (if c = 1 then (⟨g, 0, none⟩ : Addr) else ⟨g, 1 * 2, none⟩) = A ∧ ∀ j u, (flatW l)[j]? = some u → w.drew.cell? (A.add j) = some u := by
    refine ⟨_, rfl, fun j u hj => ?_⟩
    by_cases hc : c = 1
    · have : l = [] := List.eq_nil_of_length_eq_zero (by omega)
      subst this
      simp [flatW] at hj
    · rw [if_neg hc, addr_add]
      refine cellB (w := w.drew) hg (own_take hcur _ u ?_)
      rw [flatW_cons, show 1 * 2 + j = j + 1 + 1 by omega]
      exact hj
  obtain ⟨w1, hr, ho1, hgr⟩ := run_append_fits (P := Tryz.prog) w.drew 0 47 47 33 i0 2 Tryz.underlying47 hi0 hz1 g 0 c [] h0 A n (c - 1) (flatW l) (by rw [flatW_len, hn]) hAc (one_cells l) (by omega)
  simp only [Nat.zero_add, List.nil_append] at hr ho1
  have hC1 : Chg [g] w w1 := ((Chg.refl [g] w).drew).trans (Chg.of_grown hgr (fun k hk => by simp [← Option.some.inj hk]))
  obtain ⟨cur1, hg1, hcs1, hcur1⟩ : ∃ cur1, w1.heap[g]? = some (.cells cur1 33 (0, 0)) ∧ cur1.size = c * 2 ∧ cur1.toList.take (n * 2) = flatW l := by
    rcases ho1.2 with ⟨e1, _⟩ | ⟨g', cap', cur', e1, _, e3, _, _, e6, e7⟩
    · cases e1
    · cases e1; exact ⟨cur', e3, e6, e7⟩
  have hclr : ∀ ty cap, (Builtin.clear_ #[47] ty #[.slice (some ⟨g, n * 2, none⟩) 1 cap]).run Tryz.prog w1 = .ok (.tuple #[]) (w1.setRow g (cur1.toList.take (n * 2) ++ cM (0, 0) ++ cur1.toList.drop (n * 2 + 2)).toArray) := fun ty cap =>
    run_clear_one (P := Tryz.prog) w1 47 ty 33 (.agg #[.int .i64 0, .int .i64 0]) (cM (0, 0)) g (n * 2) cap cur1 33 Tryz.underlying47 (fun w => by kernel_rfl) (by kernel_rfl) hg1 (by rw [hcs1, cM_len]; omega) (by simp [cM, Value.oneCell'])
  obtain ⟨w2, hw2⟩ : ∃ w2, w2 = w1.setRow g (cur1.toList.take (n * 2) ++ cM (0, 0) ++ cur1.toList.drop (n * 2 + 2)).toArray := ⟨_, rfl⟩
  rw [← hw2] at hclr
  have hfin : w2.ownsRow 0 33 2 (.slice (some ⟨g, 0, none⟩) n c) n (flatW l) ∧ Chg [g] w w2 := by
    rw [hw2]
    refine ⟨⟨by rw [flatW_len, hn], .inr ⟨g, c, _, rfl, Nat.zero_le _, setRow_heap w1 g cur1 _ _ _ hg1, by omega, hcm, ?_, ?_⟩⟩, hC1.setRow g _ (by simp)⟩
    · simp only [List.size_toArray, List.length_append, List.length_take, List.length_drop, Array.length_toList, hcs1, cM_len]; omega
    · simp only [hcur1]
      rw [List.append_assoc, List.take_append_of_le_length (by rw [flatW_len, ← hn]; exact Nat.le_refl _), List.take_of_length_le (by rw [flatW_len, ← hn]; exact Nat.le_refl _)]
  have HF := Lib.hid hfin
  have hwn : IntKind.i64.wrap ((n : Int) + 1) = (n : Int) + 1 := by rw [IntKind.wrap_i64]; omega
  have hb1 : (1 : Int) ≤ (n : Int) + 1 := by omega
  have hb2 : n + 1 ≤ c := hnc
  have hb3 : ¬ (c = n) := by omega
  have hb4 : ((n : Int) + 1).toNat = n + 1 := by omega
  have hb5 : (n : Int) ≤ (n : Int) + 1 := by omega
  have hb6 : 1 ≤ n + 1 := by omega
  have hc63 : c ≤ 9223372036854775807 := by unfold maxLen at hcm; omega
  clear hfin hw2 hC1 hgr ho1 h0 hAc hcur1 hcs1 hg1 hcur hcs hcm hg hown hdr hn hnc
  by_cases hc1 : c = 1
  · subst hc1
    have hn0 : n = 0 := by omega
    subst hn0
    clear hb2 hb3 hb5 hb6 hwn hb1 hb4
    go_enter Tryz.func47, Tryz.ntmps47
    go_wp2
    go_region_law (refine step_run rfl _ _ 47 47 rfl rfl (.slice (some ⟨g, 0, none⟩) 0 1) (.slice (some A) 0 (1 - 1)) (.slice (some ⟨g, 0, none⟩) 0 1) (by simp [Act.eval, Act.put]) (by rw [← hA]; simp [Act.eval, Act.put]) w1 hr ?_)
    go_wp2_with (at_builtin; refine wpList_clr rfl _ 47 _ rfl rfl _ _ rfl w2 (hclr _ _) ?_)
    go_ret
    exact ⟨_, rfl, HF.out.1, by simpa [Value.ownBlock] using HF.out.2, rfl⟩
  · clear hb6
    go_enter Tryz.func47, Tryz.ntmps47
    go_wp2
    go_region_law (refine step_run rfl _ _ 47 47 rfl rfl (.slice (some ⟨g, 0, none⟩) 0 c) (.slice (some A) n (c - 1)) (.slice (some ⟨g, 0, none⟩) n c) (by simp [Act.eval, Act.put]) (by rw [← hA]; simp [Act.eval, Act.put, hc1]) w1 hr ?_)
    go_wp2_with (at_builtin; refine wpList_clr rfl _ 47 _ rfl rfl _ _ rfl w2 (hclr _ _) ?_)
    go_ret
    exact ⟨_, rfl, HF.out.1, by simpa [Value.ownBlock] using HF.out.2, rfl⟩

end Go.Proofs.YtiiafhlckmkcnaaGreat
