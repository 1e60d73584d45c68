
/- metronomeref19: Arm, Stop, Clear, Taken, New: contracts. -/
import Derived.Test.YtonahpilmchnkaaJu
namespace Go.Proofs.Ytonahpilmchnkaa
open Go.RowKit

def TS.armZ (s : TS) (id c t v : Int) (Z : List Int) (now : Int) : List Int × Int := if okArm s id c t v then (Z.set id.toNat (now + 1), now + 1) else (Z, now)
theorem TS.armS_n (s : TS) (id c t v : Int) : (s.armS id c t v).n = s.n := by
  unfold TS.armS
  split
  · unfold TS.arms
    split
    · exact TS.rests_n _ _
    · exact TS.rests_n _ _
  · rfl
theorem TS.armS_L {s : TS} {i : Nat} {c t v : Int} {e : TE} (hok : okArm s i c t v) (he : s.L[i]? = some e) : (s.armS i c t v).L = s.L.set i (e.arm c t v) := by
  have hg := TS.rests_get he
  unfold TS.armS
  rw [if_pos hok, Int.toNat_natCast]
  unfold TS.arms
  rw [hg]
  unfold TS.rests
  rw [he]
  show (s.L.set i e.rest).set i (e.rest.arm c t v) = _
  rw [List.set_set]
  rfl

set_option maxRecDepth 100000 in
set_option maxHeartbeats 4000000 in
theorem rarmc (b : Nat) (s : TS) (Z : List Int) (now id c t v : Int) (w : World) (h : RAt w b s.n s.L Z now) (h8 : s.n ≤ 8) (h0 : 0 ≤ now) (h1 : now < 4611686018427387904) :
    Calls Try.prog 32 #[.pointer (some ⟨b, 0, none⟩), .int .i64 id, .int .i64 c, .int .i64 t, .int .i64 v] w fun e w' => e = .returned (.int .i64 (s.armE id c t v)) ∧ RAt w' b (s.armS id c t v).n (s.armS id c t v).L (s.armZ id c t v Z now).1 (s.armZ id c t v Z now).2 ∧ Chg [b] w w' := by
  rw [TS.armS_n]
  have HTt := rtimec t w
  have HTv := rtimec v w
  have HN := rinc b s.n s.L Z now id w h
  by_cases hok : okArm s id c t v
  · rw [show s.armE id c t v = 0 from if_pos hok, show s.armZ id c t v Z now = (Z.set id.toNat (now + 1), now + 1) from if_pos hok]
    have hok2 := hok
    obtain ⟨⟨g0, g1⟩, hc, ht, hv⟩ := hok2
    obtain ⟨i, rfl⟩ := Int.eq_ofNat_of_zero_le g0
    obtain ⟨e, he⟩ : ∃ e, s.L[i]? = some e := ⟨_, List.getElem?_eq_getElem (by rw [h.len]; omega)⟩
    rw [TS.armS_L hok he, Int.toNat_natCast]
    rw [show decide (okAt t) = true from decide_eq_true ht] at HTt
    rw [show decide (okAt v) = true from decide_eq_true hv] at HTv
    rw [show decide (0 ≤ (i : Int) ∧ (i : Int) < (s.n : Int)) = true from decide_eq_true ⟨g0, g1⟩] at HN
    have d1 : decide (c < 0) = false := by rcases hc with rfl | rfl <;> rfl
    have d2 : decide (1 < c) = false := by rcases hc with rfl | rfl <;> rfl
    have HA := Lib.hid (rarmsc b s.n s.L Z now i e c t v w h he h0 h1)
    have HTt := Lib.hid HTt
    have HTv := Lib.hid HTv
    have HN := Lib.hid HN
    clear h hok hc ht hv he g0 g1 h0 h1 h8
    go_enter Try.func32, Try.ntmps32
    go_wp2_with (first | (go_at_call 37; (first | (with_reducible refine HTt.out.mono ?_) | (with_reducible refine HTv.out.mono ?_)); rintro e w' ⟨rfl, rfl⟩) | (go_at_call 47; refine HN.out.mono ?_; rintro e w' ⟨rfl, rfl⟩) | (go_at_call 39; refine HA.out.mono ?_; rintro e2 w2 ⟨rfl, hR2⟩; have H2 := Lib.hid hR2; clear hR2))
    go_ret
    exact ⟨rfl, H2.out⟩
  · rw [show s.armE id c t v = 2 from if_neg hok, show s.armZ id c t v Z now = (Z, now) from if_neg hok, show s.armS id c t v = s from if_neg hok]
    obtain ⟨B0, hB0⟩ : ∃ B0, B0 = decide (0 ≤ id ∧ id < (s.n : Int)) := ⟨_, rfl⟩
    obtain ⟨B1, hB1⟩ : ∃ B1, B1 = decide (okAt t) := ⟨_, rfl⟩
    obtain ⟨B2, hB2⟩ : ∃ B2, B2 = decide (okAt v) := ⟨_, rfl⟩
    rw [← hB0] at HN
    rw [← hB1] at HTt
    rw [← hB2] at HTv
    have hways : B0 = false ∨ (B0 = true ∧ decide (c < 0) = true) ∨ (B0 = true ∧ decide (c < 0) = false ∧ decide (1 < c) = true) ∨ (B0 = true ∧ decide (c < 0) = false ∧ decide (1 < c) = false ∧ B1 = false) ∨ (B0 = true ∧ decide (c < 0) = false ∧ decide (1 < c) = false ∧ B1 = true ∧ B2 = false) := by
      by_cases g0 : 0 ≤ id ∧ id < (s.n : Int)
      · rw [hB0, decide_eq_true g0]
        by_cases g1 : c < 0
        · exact .inr (.inl ⟨rfl, decide_eq_true g1⟩)
        · by_cases g2 : 1 < c
          · exact .inr (.inr (.inl ⟨rfl, decide_eq_false g1, decide_eq_true g2⟩))
          · by_cases g3 : okAt t
            · by_cases g4 : okAt v
              · exact absurd ⟨g0, by unfold isC; omega, g3, g4⟩ hok
              · exact .inr (.inr (.inr (.inr ⟨rfl, decide_eq_false g1, decide_eq_false g2, by rw [hB1]; exact decide_eq_true g3, by rw [hB2]; exact decide_eq_false g4⟩)))
            · exact .inr (.inr (.inr (.inl ⟨rfl, decide_eq_false g1, decide_eq_false g2, by rw [hB1]; exact decide_eq_false g3⟩)))
      · exact .inl (by rw [hB0]; exact decide_eq_false g0)
    have HTt := Lib.hid HTt
    have HTv := Lib.hid HTv
    have HN := Lib.hid HN
    have HR := Lib.hid h
    clear h hok hB0 hB1 hB2 h0 h1 h8
    rcases hways with rfl | ⟨rfl, d1⟩ | ⟨rfl, d1, d2⟩ | ⟨rfl, d1, d2, rfl⟩ | ⟨rfl, d1, d2, rfl, rfl⟩
    iterate 5
      · go_enter Try.func32, Try.ntmps32
        go_wp2_with (first | (go_at_call 37; (first | (with_reducible refine HTt.out.mono ?_) | (with_reducible refine HTv.out.mono ?_)); rintro e w' ⟨rfl, rfl⟩) | (go_at_call 47; refine HN.out.mono ?_; rintro e w' ⟨rfl, rfl⟩))
        go_ret
        exact ⟨rfl, HR.out, Chg.refl _ _⟩

theorem TS.rests_L {s : TS} {i : Nat} {e : TE} (he : s.L[i]? = some e) : (s.rests i).L = s.L.set i e.rest := by unfold TS.rests; rw [he]
theorem rstopc (b : Nat) (s : TS) (Z : List Int) (now id : Int) (w : World) (h : RAt w b s.n s.L Z now) (h8 : s.n ≤ 8) :
    Calls Try.prog 33 #[.pointer (some ⟨b, 0, none⟩), .int .i64 id] w fun e w' => e = .returned (.int .i64 (s.stopE id)) ∧ RAt w' b (s.stopS id).n (s.stopS id).L Z now ∧ Chg [b] w w' := by
  have HN := rinc b s.n s.L Z now id w h
  by_cases hin : inT s id
  · rw [show s.stopE id = 0 from if_pos hin, show s.stopS id = s.rests id.toNat from if_pos hin]
    obtain ⟨i, rfl⟩ := Int.eq_ofNat_of_zero_le hin.1
    obtain ⟨e, he⟩ : ∃ e, s.L[i]? = some e := ⟨_, List.getElem?_eq_getElem (by have := hin.2; rw [h.len]; omega)⟩
    rw [Int.toNat_natCast, TS.rests_n, TS.rests_L he]
    rw [show decide (0 ≤ (i : Int) ∧ (i : Int) < (s.n : Int)) = true from decide_eq_true hin] at HN
    have HA := Lib.hid (rrestsc b s.n s.L Z now i e w h he)
    have HN := Lib.hid HN
    clear h hin he h8
    go_enter Try.func33, Try.ntmps33
    go_wp2_with (first | (go_at_call 47; refine HN.out.mono ?_; rintro e w' ⟨rfl, rfl⟩) | (go_at_call 38; refine HA.out.mono ?_; rintro e2 w2 ⟨rfl, hR2⟩; have H2 := Lib.hid hR2; clear hR2))
    go_ret
    exact ⟨rfl, H2.out⟩
  · rw [show s.stopE id = 2 from if_neg hin, show s.stopS id = s from if_neg hin]
    rw [show decide (0 ≤ id ∧ id < (s.n : Int)) = false from decide_eq_false hin] at HN
    have HN := Lib.hid HN
    have HR := Lib.hid h
    clear h hin h8
    go_enter Try.func33, Try.ntmps33
    go_wp2_with (go_at_call 47; refine HN.out.mono ?_; rintro e w' ⟨rfl, rfl⟩)
    go_ret
    exact ⟨rfl, HR.out, Chg.refl _ _⟩

theorem RAt.seven {w : World} {b n : Nat} {L : List TE} {Z : List Int} {now : Int} (h : RAt w b n L Z now) {i : Nat} {e : TE} (he : L[i]? = some e) (x : TE) : RAt (w.setCells b (1 + i * 7) x.cells) b n (L.set i x) Z now := by
  have g : ∀ x : TE, (L.set i x)[i]? = some x := fun x => List.getElem?_set_self (List.getElem?_eq_some_iff.1 he).1
  have h1 := h.four he x.armed x.clock x.at_ x.iv
  have h5 := h1.put (g _) (f := 4) (by omega) (v := .bool x.out) ⟨x.armed, x.clock, x.at_, x.iv, x.out, e.cnt, e.ovr⟩ rfl
  rw [List.set_set] at h5
  have h6 := h5.put (g _) (f := 5) (by omega) (v := .int .i64 x.cnt) ⟨x.armed, x.clock, x.at_, x.iv, x.out, x.cnt, e.ovr⟩ rfl
  rw [List.set_set] at h6
  have h7 := h6.put (g _) (f := 6) (by omega) (v := .int .i64 x.ovr) x rfl
  rw [List.set_set] at h7
  exact h7
theorem RAt.there7 {w : World} {b n : Nat} {L : List TE} {Z : List Int} {now : Int} (h : RAt w b n L Z now) {i : Nat} {e : TE} (he : L[i]? = some e) : w.there b (1 + i * 7) 7 := by
  intro j hj
  have hv : e.cells[j]? = some (e.cells[j]'(by rw [TE.cells_len]; exact hj)) := List.getElem?_eq_getElem _
  exact ⟨by rw [cellB h.head (by rw [rcl_L he hj]; exact hv)]; rfl, h.fz _⟩
set_option maxRecDepth 100000 in
set_option maxHeartbeats 4000000 in
theorem rclearc (b : Nat) (s : TS) (Z : List Int) (now id : Int) (w : World) (h : RAt w b s.n s.L Z now) (h8 : s.n ≤ 8) :
    Calls Try.prog 35 #[.pointer (some ⟨b, 0, none⟩), .int .i64 id] w fun e w' => e = .returned (.int .i64 (s.stopE id)) ∧ RAt w' b (s.clearS id).n (s.clearS id).L Z now ∧ Chg [b] w w' := by
  have HN := rinc b s.n s.L Z now id w h
  by_cases hin : inT s id
  · obtain ⟨i, rfl⟩ := Int.eq_ofNat_of_zero_le hin.1
    have hi8 : i < 8 := by have := hin.2; omega
    have hz : (i : Int) < 8 := by omega
    have hz0 : (0 : Int) ≤ (i : Int) := by omega
    obtain ⟨e, he⟩ : ∃ e, s.L[i]? = some e := ⟨_, List.getElem?_eq_getElem (by rw [h.len]; exact hi8)⟩
    rw [show s.stopE (i : Int) = 0 from if_pos hin]
    rw [show s.clearS (i : Int) = ⟨s.n, s.L.set i TE.zero, (s.rests i).W⟩ from by unfold TS.clearS; rw [if_pos hin, Int.toNat_natCast, TS.rests_L he, List.set_set]]
    rw [show decide (0 ≤ (i : Int) ∧ (i : Int) < (s.n : Int)) = true from decide_eq_true hin] at HN
    have HA := Lib.hid (And.intro (h.there7 he) (h.seven he TE.zero))
    have HN := Lib.hid HN
    clear h hin he h8
    go_enter Try.func35, Try.ntmps35
    go_wp2_with (first | (go_at_call 47; refine HN.out.mono ?_; rintro e w' ⟨rfl, rfl⟩) | (refine wpList_store_mid (P := Try.prog) rfl 32 _ _ rfl b (1 + i * 7) TE.zero.cells.toArray rfl rfl HA.out.1 sizeT (oneT _) ?_))
    go_ret
    exact ⟨rfl, HA.out.2, (chg_setCells _ _ _)⟩
  · rw [show s.stopE id = 2 from if_neg hin, show s.clearS id = s from if_neg hin]
    rw [show decide (0 ≤ id ∧ id < (s.n : Int)) = false from decide_eq_false hin] at HN
    have HN := Lib.hid HN
    have HR := Lib.hid h
    clear h hin h8
    go_enter Try.func35, Try.ntmps35
    go_wp2_with (go_at_call 47; refine HN.out.mono ?_; rintro e w' ⟨rfl, rfl⟩)
    go_ret
    exact ⟨rfl, HR.out, Chg.refl _ _⟩

set_option maxRecDepth 100000 in
set_option maxHeartbeats 4000000 in
theorem rtakenc (b : Nat) (s : TS) (Z : List Int) (now id : Int) (w : World) (h : RAt w b s.n s.L Z now) (h8 : s.n ≤ 8) :
    Calls Try.prog 34 #[.pointer (some ⟨b, 0, none⟩), .int .i64 id] w fun e w' => e = .returned (.tuple #[.int .i64 (s.takenV id).1, .int .i64 (s.takenV id).2]) ∧ RAt w' b (s.takenS id).n (s.takenS id).L Z now ∧ Chg [b] w w' := by
  have HN := rinc b s.n s.L Z now id w h
  by_cases hin : inT s id
  · obtain ⟨i, rfl⟩ := Int.eq_ofNat_of_zero_le hin.1
    have hi8 : i < 8 := by have := hin.2; omega
    have hz : (i : Int) < 8 := by omega
    have hz0 : (0 : Int) ≤ (i : Int) := by omega
    obtain ⟨e, he⟩ : ∃ e, s.L[i]? = some e := ⟨_, List.getElem?_eq_getElem (by rw [h.len]; exact hi8)⟩
    have hv : s.takenV (i : Int) = (e.take.ovr, 0) := by unfold TS.takenV; rw [if_pos hin, Int.toNat_natCast, he]
    have hs : s.takenS (i : Int) = ⟨s.n, s.L.set i e.take, s.W⟩ := by unfold TS.takenS; rw [if_pos hin, Int.toNat_natCast, he]
    rw [hv, hs]
    rw [show decide (0 ≤ (i : Int) ∧ (i : Int) < (s.n : Int)) = true from decide_eq_true hin] at HN
    have HN := Lib.hid HN
    have fz := h.fz
    have HT := Lib.hid (And.intro h he)
    have hg : ∀ x : TE, (s.L.set i x)[i]? = some x := fun x => List.getElem?_set_self (List.getElem?_eq_some_iff.1 he).1
    have HG := Lib.hid hg
    obtain ⟨c0, c1, c2, c3, c4, c5, c6⟩ := h.cL he
    clear h he hin hv hs hg h8
    unfold TE.take
    cases ho : e.out with
    | false =>
      rw [ho] at c4
      rw [if_neg (by simp)]
      have hse : RAt w b s.n (s.L.set i e) Z now := by rw [set_same HT.out.2]; exact HT.out.1
      have HS := Lib.hid hse
      clear hse ho
      go_enter Try.func34, Try.ntmps34
      go_wp2_with (go_at_call 47; refine HN.out.mono ?_; rintro e w' ⟨rfl, rfl⟩)
      go_ret2
      exact ⟨rfl, HS.out, Chg.refl _ _⟩
    | true =>
      rw [ho] at c4
      rw [if_pos rfl]
      clear ho
      go_enter Try.func34, Try.ntmps34
      go_upto_region 5 with (go_at_call 47; refine HN.out.mono ?_; rintro e w' ⟨rfl, rfl⟩)
      obtain ⟨W1, hW1⟩ : ∃ W1, W1 = w'.setCell ⟨b, 1 + i * 7 + 4, none⟩ (.bool false) := ⟨_, rfl⟩
      rw [← hW1]
      have h1 := HT.out.1.put HT.out.2 (f := 4) (by omega) (v := .bool false) ⟨e.armed, e.clock, e.at_, e.iv, false, e.cnt, e.ovr⟩ rfl
      rw [← hW1] at h1
      have hC1 : Chg [b] w' W1 := by rw [hW1]; exact (Chg.refl _ _).setCell _ _ (by simp)
      clear c0 c1 c2 c3 c4 c5 c6 fz hW1
      obtain ⟨c0, c1, c2, c3, c4, c5, c6⟩ := h1.cL (HG.out _)
      have H1 := Lib.hid (And.intro h1 hC1)
      clear h1 hC1
      dsimp only at c5
      refine region_still_tail 13 (by kernel_rfl) (by kernel_rfl) ?_
      simp only [List.take_succ_cons, List.take_zero, List.drop_succ_cons, List.drop_zero]
      repeat still_step
      refine wpStill_nil ?_
      obtain ⟨W2, hW2⟩ : ∃ W2, W2 = W1.drew := ⟨_, rfl⟩
      rw [← hW2]
      have h2 := H1.out.1.calm (w' := W2) (by rw [hW2]; exact (Chg.refl _ _).drew)
      have hC2 : Chg [b] w' W2 := by rw [hW2]; exact H1.out.2.drew
      clear c0 c1 c2 c3 c4 c5 c6 hW2
      obtain ⟨c0, c1, c2, c3, c4, c5, c6⟩ := h2.cL (HG.out _)
      dsimp only at c0 c1 c2 c3 c4 c5 c6
      have fz := h2.fz
      have h3 := h2.put (HG.out _) (f := 6) (by omega) (v := .int .i64 e.cnt) ⟨e.armed, e.clock, e.at_, e.iv, false, e.cnt, e.cnt⟩ rfl
      rw [List.set_set] at h3
      have h4 := h3.put (HG.out _) (f := 5) (by omega) (v := .int .i64 0) ⟨e.armed, e.clock, e.at_, e.iv, false, 0, e.cnt⟩ rfl
      rw [List.set_set] at h4
      have H4 := Lib.hid (And.intro h4 hC2)
      clear h2 h3 h4 hC2
      go_wp2
      go_ret2
      exact ⟨rfl, H4.out.1, (H4.out.2.setCell _ _ (by simp)).setCell _ _ (by simp)⟩
  · rw [show s.takenV id = (0, 2) from if_neg hin, show s.takenS id = s from if_neg hin]
    rw [show decide (0 ≤ id ∧ id < (s.n : Int)) = false from decide_eq_false hin] at HN
    have HN := Lib.hid HN
    have HR := Lib.hid h
    clear h hin h8
    go_enter Try.func34, Try.ntmps34
    go_wp2_with (go_at_call 47; refine HN.out.mono ?_; rintro e w' ⟨rfl, rfl⟩)
    go_ret2
    exact ⟨rfl, HR.out, Chg.refl _ _⟩

/-! ### New -/
def rz (n : Int) : Array Value := rcl n (List.replicate 8 TE.zero) (List.replicate 8 0) 0
theorem buildR (n : Int) (w : World) : (Instr.build 54 #[(0, .int .i64 n)]).run Try.prog w = .ok (.agg (rz n)) w := by kernel_rfl
theorem wpList_build1 {P : Program} {ops : Array Oper} {rest : List Oper} {op : Oper} {a : Act} {w : World} {Q : Exit → Act → World → Prop} (hgd : op.guard = none) (ty : TypeId) (x : Operand) (ho : op.op = .build ty #[(0, x)]) (vx : Value) (hx : a.eval x = vx) (v : Value)
    (hr : (Instr.build ty #[(0, vx)]).run P w = .ok v w) (h : wpList P ops Q rest (a.put op.dst v) w) : wpList P ops Q (op :: rest) a w := by
  refine wpList_plain hgd fun K hK => ?_
  unfold Oper.wp execOp
  simp only [ho, List.map_toArray, List.map_cons, List.map_nil, hx, Sem.run_bind, hr, Result.andThen_ok, Sem.run_pure]
  exact hK _ _ h
theorem rnewbad (n : Int) (w : World) (hn : ¬ (1 ≤ n ∧ n ≤ 8)) : Calls Try.prog 14 #[.int .i64 n] w fun e w' => e = .returned (.pointer none) ∧ w' = w := by
  by_cases h1 : n < 1
  · have d1 : decide (n < 1) = true := by simpa using h1
    clear h1 hn
    go_enter Try.func14, Try.ntmps14
    go_wp2
    go_ret
    exact ⟨rfl, rfl⟩
  · have d1 : decide (n < 1) = false := by simpa using h1
    have d2 : decide (8 < n) = true := by simp; omega
    clear h1 hn
    go_enter Try.func14, Try.ntmps14
    go_wp2
    go_ret
    exact ⟨rfl, rfl⟩
theorem rnewc (n : Int) (w : World) (hn : 1 ≤ n ∧ n ≤ 8) : Calls Try.prog 14 #[.int .i64 n] w fun e w' => ∃ b, e = .returned (.pointer (some ⟨b, 0, none⟩)) ∧ b = w.heap.size ∧ RAt w' b (ts0 n.toNat).n (ts0 n.toNat).L (List.replicate 8 0) 0 ∧ Chg [] w w' := by
  have d1 : decide (n < 1) = false := by simp; omega
  have d2 : decide (8 < n) = false := by simp; omega
  have hb := buildR n
  obtain ⟨cs, hcs⟩ : ∃ cs, cs = rz n := ⟨_, rfl⟩
  rw [← hcs] at hb
  have HC := Lib.hid (And.intro hcs hn)
  clear hcs hn
  go_enter Try.func14, Try.ntmps14
  go_wp2_with (refine wpList_build1 (P := Try.prog) rfl 54 _ rfl (.int .i64 n) rfl _ (hb _) ?_)
  go_ret
  refine ⟨_, rfl, rfl, ⟨?_, rfl, rfl⟩, (Chg.refl _ _).alloc _⟩
  rw [heap_alloc_eq w _, HC.out.1]
  unfold rz ts0
  have : ((n.toNat : Nat) : Int) = n := by have := HC.out.2; omega
  rw [this]

end Go.Proofs.Ytonahpilmchnkaa
