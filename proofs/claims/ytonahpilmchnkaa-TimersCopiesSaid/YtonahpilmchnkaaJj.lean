
/- Timers: Due: the walk. -/
import Derived.Test.YtonahpilmchnkaaJr
namespace Go.Proofs.Ytonahpilmchnkaa
open Go.RowKit

set_option maxRecDepth 100000 in
set_option maxHeartbeats 4000000 in
theorem pduebad (b : Nat) (bs : Int → Nat) (vs : Int → List Value) (s : TS) (c now : Int) (w : World) (h : TAt w b bs vs s) (hn : ¬ (isC c ∧ okAt now)) :
    Calls Try.prog 11 #[.pointer (some ⟨b, 0, none⟩), .int .i64 c, .int .i64 now] w fun e w' => e = .returned (.slice none 0 0) ∧ Chg [] w w' := by
  obtain ⟨nb, hnb⟩ : ∃ nb, nb = w.heap.size := ⟨_, rfl⟩
  obtain ⟨w1, hw1⟩ : ∃ w1, w1 = w.alloc (int64B now) := ⟨_, rfl⟩
  have hC1 : Chg [] w w1 := by rw [hw1]; exact (Chg.refl _ _).alloc _
  have hnew : w1.heap[nb]? = some (int64B now) := by rw [hw1, hnb]; exact heap_alloc_eq w _
  have cn := cellB hnew (i := 0) (v := .int .i64 now) rfl
  have HIs := Lib.hid (pisc b bs vs s w1 (h.calm hC1))
  have HTn := ptimec now w1
  have HC := Lib.hid hC1
  clear h hC1 hnew
  have hways : decide (c < 0) = true ∨ (decide (c < 0) = false ∧ decide (1 < c) = true) ∨ (decide (c < 0) = false ∧ decide (1 < c) = false ∧ ¬ okAt now) := by
    simp only [decide_eq_true_eq, decide_eq_false_iff_not]
    by_cases h1 : c < 0
    · exact .inl h1
    · by_cases h2 : 1 < c
      · exact .inr (.inl ⟨h1, h2⟩)
      · exact .inr (.inr ⟨h1, h2, fun h3 => hn ⟨by unfold isC; omega, h3⟩⟩)
  clear hn
  unfold int64B at hw1
  rcases hways with d1 | ⟨d1, d2⟩ | ⟨d1, d2, hno⟩
  iterate 2
    · clear HTn
      go_enter Try.func11, Try.ntmps11
      go_wp2_with fail
      rw [← hw1]
      clear hw1 hnb
      refine HIs.out.mono ?_
      rintro e w' ⟨rfl, rfl⟩
      go_wp2
      go_ret
      exact ⟨rfl, HC.out⟩
  · rw [show decide (okAt now) = false from decide_eq_false hno] at HTn
    have HTn := Lib.hid HTn
    clear hno
    go_enter Try.func11, Try.ntmps11
    go_wp2_with fail
    rw [← hw1, ← hnb]
    clear hw1 hnb
    refine HIs.out.mono ?_
    rintro e w' ⟨rfl, rfl⟩
    go_wp2_with fail
    refine HTn.out.mono ?_
    rintro e w' ⟨rfl, rfl⟩
    go_wp2
    go_ret
    exact ⟨rfl, HC.out⟩

set_option maxRecDepth 100000 in
set_option maxHeartbeats 4000000 in
theorem pduegood (b : Nat) (bs : Int → Nat) (vs : Int → List Value) (s : TS) (c now : Int) (w : World) (h : TAt w b bs vs s) (hI : TInv s) (hc : isC c) (hn : okAt now) (hcc : (s.W c).c < 4611686018427387000) :
    Calls Try.prog 11 #[.pointer (some ⟨b, 0, none⟩), .int .i64 c, .int .i64 now] w fun e w' => PDueP b bs vs (s.dueF c now ((s.W c).dueL now)).1 (s.dueF c now ((s.W c).dueL now)).2 w e w' := by
  obtain ⟨i0, hi, hzi0, hzi1, hzi2⟩ := info_parts infoInt
  obtain ⟨k, rfl⟩ : ∃ k : Nat, c = (k : Int) := by
    rcases hc with h1 | h1
    · exact ⟨0, h1⟩
    · exact ⟨1, h1⟩
  have hk2 : k < 2 := by rcases hc with h1 | h1 <;> omega
  have hkz : (k : Int) < 2 := by omega
  have hkz0 : (0 : Int) ≤ (k : Int) := by omega
  have d1 : decide ((k : Int) < 0) = false := by simp
  have d2 : decide ((1 : Int) < (k : Int)) = false := by simp; omega
  obtain ⟨nb, hnb⟩ : ∃ nb, nb = w.heap.size := ⟨_, rfl⟩
  obtain ⟨w1, hw1⟩ : ∃ w1, w1 = w.alloc (int64B now) := ⟨_, rfl⟩
  have hC1 : Chg [] w w1 := by rw [hw1]; exact (Chg.refl _ _).alloc _
  have hnew : w1.heap[nb]? = some (int64B now) := by rw [hw1, hnb]; exact heap_alloc_eq w _
  have cn := cellB hnew (i := 0) (v := .int .i64 now) rfl
  have hT1 := h.calm hC1
  have HIs := Lib.hid (pisc b bs vs s w1 hT1)
  have HTn := ptimec now w1
  rw [show decide (okAt now) = true from decide_eq_true hn] at HTn
  have HTn := Lib.hid HTn
  have cw := hT1.cw hk2
  have hnT : nb ∉ blocksT b bs vs := fun hm => by have := h.lt nb hm; omega
  obtain ⟨l, hl⟩ : ∃ l, l = (s.W k).dueL now := ⟨_, rfl⟩
  rw [← hl]
  obtain ⟨p0, hp0⟩ : ∃ p0 : TS × List Int, p0 = (⟨s.n, s.L, updW s.W k ((s.W k).dueS now)⟩, []) := ⟨_, rfl⟩
  have hfold : s.dueF k now l = l.foldl (TS.due1 k now) p0 := by rw [hp0]; rfl
  rw [hfold]
  have HP0 := Lib.hid hp0
  clear hp0 hfold
  have HDu := (duec (bs k) (vs k) (s.W k) now w1.drew ((hT1.calm (Chg.refl _ _).drew).wh k hc))
  rw [← hl] at HDu
  obtain ⟨N, hN⟩ : ∃ N, N = l.length := ⟨_, rfl⟩
  have HDu := Lib.hid HDu
  have HL := Lib.hid (And.intro hl hN)
  clear hl hN
  have H := Lib.hid (And.intro h (And.intro hT1 (And.intro hI (And.intro hc (And.intro hn (And.intro hcc (And.intro hC1 (And.intro hnew (And.intro hnT hnb)))))))))
  clear h hI hc hn hcc hC1 hnew hT1 hnT
  unfold int64B at hw1
  go_enter Try.func11, Try.ntmps11
  go_wp2_with fail
  rw [← hw1, ← hnb]
  clear hw1 hnb
  refine HIs.out.mono ?_
  rintro e w' ⟨rfl, rfl⟩
  go_wp2_with fail
  refine HTn.out.mono ?_
  rintro e w' ⟨rfl, rfl⟩
  go_wp2
  go_region_held3 (fun w' => w'.cell? ⟨b, 1 + k, none⟩ = some (.pointer (some ⟨bs k, 0, none⟩)) ∧ w'.cell? ⟨nb, 0, none⟩ = some (.int .i64 now)) (first | exact ⟨cw, cn⟩ | exact x1)
    (first | (go_at_call 30; refine HDu.out.mono ?_; rintro e1 w2 ⟨v2, us2, rfl, ho2, hA2, hC2, hB2, hsep2⟩; obtain ⟨a2, cap2, rfl, hI2⟩ := IntsAt.of_own ho2 rfl; have hN2 := (H.out.2.1.calm (Chg.refl _ _).drew).wheelx H.out.2.2.2.1 hA2 hC2 hB2; have x1 : w2.cell? ⟨b, 1 + k, none⟩ = some (.pointer (some ⟨bs k, 0, none⟩)) ∧ w2.cell? ⟨nb, 0, none⟩ = some (.int .i64 now) := ⟨hN2.1.cw hk2, cellB (hC2.blk (show w'.drew.heap[nb]? = _ from H.out.2.2.2.2.2.2.2.1) (fun hm => H.out.2.2.2.2.2.2.2.2.1 (mem_blocksT.2 (.inr ⟨_, H.out.2.2.2.1, hm⟩)))) (i := 0) rfl⟩; have H2 := Lib.hid (And.intro hN2 (And.intro ho2 (And.intro hI2 (And.intro hsep2 (And.intro hC2 hB2))))); clear hN2 ho2 hI2 hsep2 hC2 hB2 hA2))
  rw [← HL.out.2]
  clear x1 cw cn HDu HTn HIs
  go_wp2
  go_loopw [8, 40] (fun v i wr => ∃ j : Nat, j ≤ N ∧ i = .int .i64 j ∧ DueR w b bs vs ((l.take j).foldl (TS.due1 k now) p0).1 ((l.take j).foldl (TS.due1 k now) p0).2 v a2 l nb now wr) (fun _ i _ => N - (intOf i).toNat)
  case atStart =>
    refine ⟨0, by omega, rfl, ?_⟩
    rw [List.take_zero, List.foldl_nil, HP0.out]
    obtain ⟨⟨hT2, hC2, hB2⟩, ho2, hI2, hsep2, _, _⟩ := H2.out
    have hC1 := H.out.2.2.2.2.2.2.1
    have hsz : w'.drew.heap.size = w'.heap.size := rfl
    have s1 := hC1.size
    have s2 := hC2.size
    have hnT := H.out.2.2.2.2.2.2.2.2.1
    have hnb := H.out.2.2.2.2.2.2.2.2.2
    have hnw := lt_of_blk H.out.2.2.2.2.2.2.2.1
    have hb2 := hC2.blk (show w'.drew.heap[nb]? = _ from H.out.2.2.2.2.2.2.2.1) hnT
    have hall : ∀ y ∈ blocksT b bs (fun m => if m = (k : Int) then us2 else vs m), y ∈ blocksT b bs vs ∨ w.heap.size ≤ y := fun y hy => (hB2 y hy).imp (fun h => h) (fun h => by omega)
    have hga : ∀ g, a2 = some ⟨g, 0, none⟩ → g < w2.heap.size ∧ w'.heap.size ≤ g ∧ g ∉ blocksH (bs k) us2 := fun g e => by
      subst e
      exact ⟨(ho2.lt g (by simp [Value.ownBlock])).2, own_ge ho2 g (by simp [Value.ownBlock]), hsep2 g (by simp [Value.ownBlock])⟩
    refine ⟨⟨_, hT2, hall, by simp [Value.ownBlock], fun g e hm => ?_, fun hm => ?_⟩, World.ownsRow_nil .., hI2, hb2, (hC1.drew.mono (by simp)).trans hC2, ⟨by omega, by omega, by simp [Value.ownBlock]⟩, fun g e => ⟨(hga g e).1, by have := (hga g e).2.1; omega, by simp [Value.ownBlock], by have := (hga g e).2.1; omega⟩⟩
    · rcases mem_upd hm with h1 | h1
      · exact (hga g e).2.2 h1
      · have := (H.out.2.1.lt g h1)
        have := (hga g e).2.1
        omega
    · rcases hB2 nb hm with h1 | h1
      · exact hnT h1
      · omega
  case round =>
    obtain ⟨j, hj, rfl, hR⟩ := hrel
    obtain ⟨p, hp⟩ : ∃ p, p = (l.take j).foldl (TS.due1 k now) p0 := ⟨_, rfl⟩
    rw [← hp] at hR
    by_cases hlt : j < N
    · obtain ⟨id, hid⟩ : ∃ id, l[j]? = some id := ⟨_, List.getElem?_eq_getElem (by have := HL.out.2; omega)⟩
      obtain ⟨i, e, rfl, hin, he, harm, hclk, hat0, hat1, hiv⟩ := H.out.2.2.1.due H.out.2.2.2.1 (show ((s.W k).dueL now)[j]? = some id from by rw [← HL.out.1]; exact hid)
      have hnod : l.Nodup := by rw [HL.out.1]; exact ord_ids (H.out.2.2.1.wh _ H.out.2.2.2.1) _
      have hget : p.1.L[i]? = some e := by
        rw [hp, dueF_L]
        · rw [HP0.out]; exact he
        · intro x hx
          obtain ⟨q, hq⟩ := List.getElem?_of_mem (List.mem_of_mem_take hx)
          obtain ⟨i2, _, e2, _⟩ := H.out.2.2.1.due H.out.2.2.2.1 (show ((s.W k).dueL now)[q]? = some x from by rw [← HL.out.1]; exact hq)
          omega
        · intro hm
          obtain ⟨q, hq1, hq2⟩ := List.mem_take_iff_getElem.1 hm
          have h1 := (List.getElem?_eq_some_iff.1 hid).1
          have h2 := (List.getElem?_eq_some_iff.1 hid).2
          have := (List.getElem_inj hnod).1 (hq2.trans h2.symm)
          omega
      obtain ⟨⟨c0, c1, c2, c3, c4, c5, c6⟩, fz⟩ := hR.cells hget
      obtain ⟨ga, rfl, hIg⟩ := hR.ints.resolve_left (fun h => by subst h; simp at hid)
      have dj := hIg j _ hid
      have hi8 : i < 8 := by have := H.out.2.2.1.n8; omega
      have hz : (i : Int) < 8 := by omega
      have hz0 : (0 : Int) ≤ (i : Int) := by omega
      have hnum := H.out.2.2.1.num i e he
      have hlen := HL.out.2
      have hfew : l.length ≤ 64 := by
        rw [HL.out.1]
        unfold HS.dueL
        rw [List.length_map, ordH_len]
        exact Nat.le_trans (List.length_filter_le _ _) (H.out.2.2.1.wh _ H.out.2.2.2.1).few
      have hN64 : N ≤ 64 := by omega
      have hpc : (p.1.W k).c < 4611686018427387904 := by
        have h1 := dueF_c (k : Int) now (l.take j) (k : Int) p0
        rw [← hp, HP0.out] at h1
        have h2 : ((updW s.W (k : Int) ((s.W k).dueS now)) (k : Int)).c = (s.W k).c := by rw [updW_same]; rfl
        have h3 := H.out.2.2.2.2.2.1
        rw [h2, List.length_take] at h1
        omega
      have hpo : p.2.length ≤ 64 := by
        have h1 := dueF_out_le (k : Int) now (l.take j) p0
        rw [← hp, HP0.out, List.length_take] at h1
        simp at h1
        omega
      have hnext : (l.take (j + 1)).foldl (TS.due1 k now) p0 = TS.due1 k now p (i : Int) := by rw [fold_take _ _ hid, ← hp]
      have hdue : TS.due1 k now p (i : Int) = (⟨p.1.n, p.1.L.set i (e.dueE now), updW p.1.W k (e.dueW now i (p.1.W k))⟩, if e.out then p.2 else p.2 ++ [(i : Int)]) := by
        unfold TS.due1
        rw [Int.toNat_natCast, hget]
      have hp1 : p.1.n = s.n := by rw [hp, dueF_n, HP0.out]
      have HX := Lib.hid (And.intro hR (And.intro hget (And.intro hpc (And.intro hpo (And.intro hnext (And.intro hdue (And.intro hnum (And.intro hlen hN64))))))))
      have HE := Lib.hid (And.intro hclk (And.intro hat0 (And.intro hat1 hiv)))
      have HOf := Lib.hid (oftenc e now nb wr (cellB hR.num (i := 0) rfl) hat0 hat1 H.out.2.2.2.2.1.2 hiv.1)
      clear hR hid hget hp hpc hpo hnext hdue hnum hlen hN64 hp1 hfew he harm hclk hat0 hat1 hiv hnod hIg hin
      go_wp2_with fail
      refine HOf.out.mono ?_
      rintro x w3 ⟨rfl, hC3⟩
      obtain ⟨m, hm⟩ : ∃ m, m = e.often now := ⟨_, rfl⟩
      rw [← hm]
      have hmb : 1 ≤ m ∧ m ≤ now - e.at_ + 1 ∧ 0 ≤ m * e.iv ∧ m * e.iv ≤ now - e.at_ + e.iv := by
        obtain ⟨_, g1, g2, g3, g4⟩ := HE.out
        rw [hm]
        unfold TE.often
        split
        · rename_i h0
          rw [h0]
          omega
        · rename_i h0
          have q0 : 0 ≤ (now - e.at_) / e.iv := Int.ediv_nonneg (by omega) g3
          have q1 : (now - e.at_) / e.iv ≤ now - e.at_ := Int.ediv_le_self _ (by omega)
          have q2 := Int.ediv_mul_le (now - e.at_) h0
          have q3 : 0 ≤ (now - e.at_) / e.iv * e.iv := Int.mul_nonneg q0 g3
          rw [Int.add_mul, Int.one_mul]
          omega
      have hb := H.out.2.2.2.2.1.2
      have ha0 := HE.out.2.1
      have ha1 := HE.out.2.2.1
      have hv1 := HE.out.2.2.2.2
      have hR3 := HX.out.1.calm hC3
      obtain ⟨⟨c0, c1, c2, c3, c4, c5, c6⟩, fz⟩ := hR3.cells HX.out.2.1
      have hw1 : IntKind.i64.wrap (m * e.iv) = m * e.iv := by rw [IntKind.wrap_i64]; omega
      have hw2 : IntKind.i64.wrap (e.at_ + m * e.iv) = e.at_ + m * e.iv := by rw [IntKind.wrap_i64]; omega
      have H3 := Lib.hid (And.intro hR3 (And.intro hm hmb))
      clear hR3 hC3 hm HOf dj
      go_wp2_with fail
      go_quiet (fail)
      rename_i nq
      obtain ⟨W, hW⟩ : ∃ W, W = w3.drewN nq := ⟨_, rfl⟩
      rw [← hW]
      have hRW := H3.out.1.calm (w2 := W) (by rw [hW]; exact (Chg.refl _ _).drewN nq)
      obtain ⟨⟨c0, c1, c2, c3, c4, c5, c6⟩, fz⟩ := hRW.cells HX.out.2.1
      have HW := Lib.hid hRW
      clear hW hRW
      by_cases hA : 0 < e.iv ∧ e.at_ + m * e.iv ≤ 1099511627776
      · have dA1 : decide (0 < e.iv) = true := by simpa using hA.1
        have dA2 : decide (e.at_ + m * e.iv ≤ 1099511627776) = true := by simpa using hA.2
        have h2 := HW.out.put HX.out.2.1 (f := 2) (by omega) (u := .int .i64 (e.at_ + m * e.iv)) ⟨e.armed, e.clock, e.at_ + m * e.iv, e.iv, e.out, e.cnt, e.ovr⟩ rfl
        have H4 := Lib.hid (And.intro hA h2)
        have cw := HW.out.cw hk2
        have nq0 : ¬ 1 + k = 3 + i * 7 + 2 := by omega
        clear hA h2
        repeat (first | go_values | go_skip | go_guarded | go_step)
        refine (H4.out.2.setc H.out.2.2.2.1 (i : Int) (e.at_ + m * e.iv) HX.out.2.2.1).mono ?_
        rintro x w4 ⟨rfl, hR4⟩
        have hg4 : (p.1.L.set i ⟨e.armed, e.clock, e.at_ + m * e.iv, e.iv, e.out, e.cnt, e.ovr⟩)[i]? = some ⟨e.armed, e.clock, e.at_ + m * e.iv, e.iv, e.out, e.cnt, e.ovr⟩ := List.getElem?_set_self (List.getElem?_eq_some_iff.1 HX.out.2.1).1
        obtain ⟨⟨c0, c1, c2, c3, c4, c5, c6⟩, fz⟩ := hR4.cells hg4
        have HR4 := Lib.hid (And.intro hR4 hg4)
        clear hR4 hg4 dA1 dA2 cw nq0
        dsimp only at c0 c1 c2 c3 c4 c5 c6
        dsimp only
        cases ho : e.out
        · rw [ho] at c4
          have hown := HR4.out.1.own
          have hsz := HR4.out.1.chg.size
          have hd1 : p.2.length + 1 ≤ maxLen := by unfold maxLen; have := HX.out.2.2.2.1; omega
          have hd2 : (p.2.length + 1) * 8 ≤ 140737488355328 := by have := HX.out.2.2.2.1; omega
          have h5 := HR4.out.1.put HR4.out.2 (f := 4) (by omega) (u := .bool true) ⟨e.armed, e.clock, e.at_ + m * e.iv, e.iv, true, e.cnt, e.ovr⟩ rfl
          rw [List.set_set] at h5
          have hg5 : (p.1.L.set i ⟨e.armed, e.clock, e.at_ + m * e.iv, e.iv, true, e.cnt, e.ovr⟩)[i]? = some ⟨e.armed, e.clock, e.at_ + m * e.iv, e.iv, true, e.cnt, e.ovr⟩ := List.getElem?_set_self (List.getElem?_eq_some_iff.1 HX.out.2.1).1
          have hsz4 : w4.heap.size = (w4.setCell ⟨b, 3 + i * 7 + 4, none⟩ (.bool true)).heap.size := by simp [World.setCell]
          have HS4 := Lib.hid hsz4
          clear hsz4
          have HQ := Lib.hid (And.intro h5.own (And.intro h5.chg.size (And.intro hd1 hd2)))
          have H5 := Lib.hid (And.intro h5 hg5)
          clear h5 hg5 hown hsz hd1 hd2
          repeat ((fail_if_success at_builtin); (first | go_values | go_skip | go_guarded | go_step))
          rw [HS4.out]
          refine wpList_push rfl _ _ 29 rfl w.heap.size 3 i0 (.int .i64 0) 1 8 Try.underlying29 hi hzi0 hzi1 hzi2 rfl (by decide) u8 p.2.length _ rfl HQ.out.1 [.int .i64 (i : Int)] rfl rfl (by simp [Value.oneCell']) HQ.out.2.2.1 HQ.out.2.2.2 HQ.out.2.1 ?_
          intro v' w5 hown6 hC5 hloc hnn
          have hR6 := H5.out.1.push (i : Int) hown6 hC5 hloc
          clear hown6 hC5 hloc hnn c0 c1 c2 c3 c4 c5 c6 fz
          obtain ⟨⟨c0, c1, c2, c3, c4, c5, c6⟩, fz⟩ := hR6.cells H5.out.2
          dsimp only at c0 c1 c2 c3 c4 c5 c6
          have HR6 := Lib.hid hR6
          clear hR6
          repeat (first | go_values | go_skip | go_guarded | go_step)
          refine ⟨⟨j + 1, hlt, congrArg (Value.int .i64) (wrap_succ hlt HX.out.2.2.2.2.2.2.2.2), ?_⟩, meas_succ hlt HX.out.2.2.2.2.2.2.2.2⟩
          have ho2 : ¬ e.out = true := by rw [ho]; decide
          rw [HX.out.2.2.2.2.1, due1_A HX.out.2.1 H3.out.2.1 H4.out.1, if_neg ho2, if_neg ho2]
          have hwr : wrap64 (e.cnt + (m - 1)) = e.cnt + (m - 1) := wrap_le (by have := HX.out.2.2.2.2.2.2.1; omega) (by have := HX.out.2.2.2.2.2.2.1; omega)
          have h7 := HR6.out.put H5.out.2 (f := 5) (by omega) (u := .int .i64 (min (e.cnt + (m - 1)) 32767)) ⟨e.armed, e.clock, e.at_ + m * e.iv, e.iv, true, min (e.cnt + (m - 1)) 32767, e.ovr⟩ rfl
          rw [List.set_set] at h7
          rw [hwr]
          exact h7
        · rw [ho] at c4
          repeat (first | go_values | go_skip | go_guarded | go_step)
          refine ⟨⟨j + 1, hlt, congrArg (Value.int .i64) (wrap_succ hlt HX.out.2.2.2.2.2.2.2.2), ?_⟩, meas_succ hlt HX.out.2.2.2.2.2.2.2.2⟩
          rw [HX.out.2.2.2.2.1, due1_A HX.out.2.1 H3.out.2.1 H4.out.1, if_pos ho, if_pos ho]
          have hwr : wrap64 (e.cnt + m) = e.cnt + m := wrap_le (by have := HX.out.2.2.2.2.2.2.1; omega) (by have := HX.out.2.2.2.2.2.2.1; omega)
          have h5 := HR4.out.1.put HR4.out.2 (f := 5) (by omega) (u := .int .i64 (min (e.cnt + m) 32767)) ⟨e.armed, e.clock, e.at_ + m * e.iv, e.iv, true, min (e.cnt + m) 32767, e.ovr⟩ (by rw [ho]; rfl)
          rw [List.set_set] at h5
          rw [hwr]
          exact h5
      · have h2 := HW.out.four HX.out.2.1 false 0 0 0
        have hg4 : (p.1.L.set i ⟨false, 0, 0, 0, e.out, e.cnt, e.ovr⟩)[i]? = some ⟨false, 0, 0, 0, e.out, e.cnt, e.ovr⟩ := List.getElem?_set_self (List.getElem?_eq_some_iff.1 HX.out.2.1).1
        have HR4 := Lib.hid (And.intro h2 hg4)
        have HA := Lib.hid hA
        have hways : decide (0 < e.iv) = false ∨ (decide (0 < e.iv) = true ∧ decide (e.at_ + m * e.iv ≤ 1099511627776) = false) := by
          simp only [decide_eq_true_eq, decide_eq_false_iff_not]
          by_cases h1 : 0 < e.iv
          · exact .inr ⟨h1, fun h3 => hA ⟨h1, h3⟩⟩
          · exact .inl h1
        clear h2 hg4 hA
        rcases hways with dA1 | ⟨dA1, dA2⟩
        iterate 2
          · cases ho : e.out
            · rw [ho] at c4
              have hown := HR4.out.1.own
              have hsz := HR4.out.1.chg.size
              have hd1 : p.2.length + 1 ≤ maxLen := by unfold maxLen; have := HX.out.2.2.2.1; omega
              have hd2 : (p.2.length + 1) * 8 ≤ 140737488355328 := by have := HX.out.2.2.2.1; omega
              have h5 := HR4.out.1.put HR4.out.2 (f := 4) (by omega) (u := .bool true) ⟨false, 0, 0, 0, true, e.cnt, e.ovr⟩ rfl
              rw [List.set_set] at h5
              have hg5 : (p.1.L.set i ⟨false, 0, 0, 0, true, e.cnt, e.ovr⟩)[i]? = some ⟨false, 0, 0, 0, true, e.cnt, e.ovr⟩ := List.getElem?_set_self (List.getElem?_eq_some_iff.1 HX.out.2.1).1
              have hsz4 : W.heap.size = (((((W.setCell ⟨b, 3 + i * 7, none⟩ (.bool false)).setCell ⟨b, 3 + i * 7 + 1, none⟩ (.int .i64 0)).setCell ⟨b, 3 + i * 7 + 2, none⟩ (.int .i64 0)).setCell ⟨b, 3 + i * 7 + 3, none⟩ (.int .i64 0)).setCell ⟨b, 3 + i * 7 + 4, none⟩ (.bool true)).heap.size := by simp [World.setCell]
              have HS4 := Lib.hid hsz4
              clear hsz4
              have HQ := Lib.hid (And.intro h5.own (And.intro h5.chg.size (And.intro hd1 hd2)))
              have H5 := Lib.hid (And.intro h5 hg5)
              clear h5 hg5 hown hsz hd1 hd2
              repeat ((fail_if_success at_builtin); (first | go_values | go_skip | go_guarded | go_step))
              rw [HS4.out]
              refine wpList_push rfl _ _ 29 rfl w.heap.size 3 i0 (.int .i64 0) 1 8 Try.underlying29 hi hzi0 hzi1 hzi2 rfl (by decide) u8 p.2.length _ rfl HQ.out.1 [.int .i64 (i : Int)] rfl rfl (by simp [Value.oneCell']) HQ.out.2.2.1 HQ.out.2.2.2 HQ.out.2.1 ?_
              intro v' w5 hown6 hC5 hloc hnn
              have hR6 := H5.out.1.push (i : Int) hown6 hC5 hloc
              clear hown6 hC5 hloc hnn c0 c1 c2 c3 c4 c5 c6 fz
              obtain ⟨⟨c0, c1, c2, c3, c4, c5, c6⟩, fz⟩ := hR6.cells H5.out.2
              dsimp only at c0 c1 c2 c3 c4 c5 c6
              have HR6 := Lib.hid hR6
              clear hR6
              repeat (first | go_values | go_skip | go_guarded | go_step)
              refine ⟨⟨j + 1, hlt, congrArg (Value.int .i64) (wrap_succ hlt HX.out.2.2.2.2.2.2.2.2), ?_⟩, meas_succ hlt HX.out.2.2.2.2.2.2.2.2⟩
              have ho2 : ¬ e.out = true := by rw [ho]; decide
              rw [HX.out.2.2.2.2.1, due1_B HX.out.2.1 H3.out.2.1 HA.out, if_neg ho2, if_neg ho2]
              have hwr : wrap64 (e.cnt + (m - 1)) = e.cnt + (m - 1) := wrap_le (by have := HX.out.2.2.2.2.2.2.1; omega) (by have := HX.out.2.2.2.2.2.2.1; omega)
              have h7 := HR6.out.put H5.out.2 (f := 5) (by omega) (u := .int .i64 (min (e.cnt + (m - 1)) 32767)) ⟨false, 0, 0, 0, true, min (e.cnt + (m - 1)) 32767, e.ovr⟩ rfl
              rw [List.set_set] at h7
              rw [hwr]
              exact h7
            · rw [ho] at c4
              repeat (first | go_values | go_skip | go_guarded | go_step)
              refine ⟨⟨j + 1, hlt, congrArg (Value.int .i64) (wrap_succ hlt HX.out.2.2.2.2.2.2.2.2), ?_⟩, meas_succ hlt HX.out.2.2.2.2.2.2.2.2⟩
              rw [HX.out.2.2.2.2.1, due1_B HX.out.2.1 H3.out.2.1 HA.out, if_pos ho, if_pos ho]
              have hwr : wrap64 (e.cnt + m) = e.cnt + m := wrap_le (by have := HX.out.2.2.2.2.2.2.1; omega) (by have := HX.out.2.2.2.2.2.2.1; omega)
              have h5 := HR4.out.1.put HR4.out.2 (f := 5) (by omega) (u := .int .i64 (min (e.cnt + m) 32767)) ⟨false, 0, 0, 0, true, min (e.cnt + m) 32767, e.ovr⟩ (by rw [ho]; rfl)
              rw [List.set_set] at h5
              rw [hwr]
              exact h5
    · have hjn : j = N := by omega
      have hp2 : l.foldl (TS.due1 k now) p0 = p := by rw [hp, List.take_of_length_le (by have := HL.out.2; omega)]
      subst hjn
      have HX := Lib.hid (And.intro hR hp2)
      clear hR hp hp2
      go_wp2
      go_ret
      obtain ⟨vs', hT, hB, hv, _⟩ := HX.out.1.at_
      rw [HX.out.2]
      exact ⟨_, vs', rfl, HX.out.1.own, hT, HX.out.1.chg, hB, hv⟩

end Go.Proofs.Ytonahpilmchnkaa
