
/- metronomeref19: Due: the walk. -/
import Derived.Test.YtonahpilmchnkaaGb
import Derived.Deep.RegionHeld3
namespace Go.Proofs.Ytonahpilmchnkaa
open Go.RowKit

def lenOf : Value → Nat
  | .slice _ n _ => n
  | _ => 0

set_option maxRecDepth 100000 in
set_option maxHeartbeats 8000000 in
theorem rduegood (b : Nat) (s : TS) (Z : List Int) (nw c now : Int) (w : World) (h : RAt w b s.n s.L Z nw) (hI : TInv s) (hL : LinkT s Z nw) (hc : isC c) (hn : okAt now) (hq : nw < 4611686018427387000) :
    Calls Try.prog 18 #[.pointer (some ⟨b, 0, none⟩), .int .i64 c, .int .i64 now] w fun e w' => RDueP b (s.dueF c now ((s.W c).dueL now)).1 (s.dueF c now ((s.W c).dueL now)).2 (nw + 64) w e w' := by
  obtain ⟨i0, hi, hzi0, hzi1, hzi2⟩ := info_parts infoInt
  have d1 : decide (c < 0) = false := by rcases hc with rfl | rfl <;> rfl
  have d2 : decide (1 < c) = false := by rcases hc with rfl | rfl <;> rfl
  have HTn := rtimec now w
  rw [show decide (okAt now) = true from decide_eq_true hn] at HTn
  have HTn := Lib.hid HTn
  obtain ⟨l, hl⟩ : ∃ l, l = (s.W c).dueL now := ⟨_, rfl⟩
  rw [← hl]
  obtain ⟨p0, hp0⟩ : ∃ p0 : TS × List Int, p0 = (⟨s.n, s.L, updW s.W c ((s.W c).dueS now)⟩, []) := ⟨_, rfl⟩
  have hfold : s.dueF c now l = l.foldl (TS.due1 c now) p0 := by rw [hp0]; rfl
  rw [hfold]
  have HP0 := Lib.hid hp0
  obtain ⟨N, hN⟩ : ∃ N, N = l.length := ⟨_, rfl⟩
  have hN64 : N ≤ 64 := by
    rw [hN, hl]
    unfold HS.dueL
    rw [List.length_map, ordH_len]
    exact Nat.le_trans (List.length_filter_le _ _) (hI.wh c hc).few
  have HL := Lib.hid (And.intro hl hN)
  have HN64 := Lib.hid hN64
  have hn8 : s.n ≤ 8 := hI.n8
  have hlen8 : s.L.length = 8 := hI.len
  have hbl := lt_of_blk h.head
  have H := Lib.hid (And.intro h (And.intro hI (And.intro hL (And.intro hc (And.intro hn hq)))))
  obtain ⟨db, hdb⟩ : ∃ db, db = w.heap.size := ⟨_, rfl⟩
  obtain ⟨w1, hw1⟩ : ∃ w1, w1 = w.alloc (.cells ((List.replicate 8 false).map Value.bool).toArray 74 (0, 0)) := ⟨_, rfl⟩
  have hC1 : Chg [] w w1 := by rw [hw1]; exact (Chg.refl _ _).alloc _
  have hS0 : SelW w b db s.n s.L Z nw l 0 (.slice none 0 0) w1 := ⟨h.calm hC1, by rw [marksT_zero, hw1, hdb]; exact heap_alloc_eq w _, World.ownsRow_nil .., hC1, by simp [Value.ownBlock], by omega, hbl⟩
  have HS0 := Lib.hid hS0
  clear hS0 hC1 h hI hL hc hn hp0 hfold hl hN hq
  go_enter Try.func18, Try.ntmps18
  go_wp2_with fail
  refine HTn.out.mono ?_
  rintro e w' ⟨rfl, rfl⟩
  go_wp2_with (refine wpList_new (P := Try.prog) rfl 74 rfl _ (newB8 _) ?_)
  rw [← hw1, ← hdb]
  clear hw1 hdb HTn
  go_simp
  go_loopw [7] (fun v wr => ∃ (q : Nat) (va : Option Addr) (vc : Nat), q ≤ N ∧ v = .slice va q vc ∧ SelW w' b db s.n s.L Z nw l q v wr) (fun v _ => N + 1 - lenOf v)
  case atStart => exact ⟨0, none, 0, by omega, rfl, HS0.out⟩
  case round =>
    obtain ⟨q, va, vc, hqN, rfl, hS⟩ := hrel
    go_wp2_with fail
    clear HTn
    obtain ⟨n, hnn⟩ : ∃ n, n = s.n := ⟨_, rfl⟩
    have HSq := Lib.hid hS
    have HNn := Lib.hid hnn
    rw [← hnn] at hn8
    clear hS hnn
    go_loopw [9, 10] (fun k i wx => ∃ (m : Nat) (kz : Int), m ≤ n ∧ i = .int .i64 m ∧ k = .int .i64 kz ∧ bestT s Z c now q m kz ∧ SelW w' b db s.n s.L Z nw l q (.slice va q vc) wx) (fun _ i _ => n - (intOf i).toNat)
    case atStart => exact ⟨0, -1, by omega, rfl, rfl, .inl ⟨rfl, fun j hj => by omega⟩, HSq.out⟩
    case round =>
      obtain ⟨m, kz, hmn, rfl, rfl, hB, hS⟩ := hrel
      have cn := hS.at_.cn
      rw [← HNn.out] at cn
      by_cases hlt : m < n
      · have hm8 : m < 8 := by omega
        have hz : (m : Int) < 8 := by omega
        have hz0 : (0 : Int) ≤ (m : Int) := by omega
        obtain ⟨e, he⟩ : ∃ e, s.L[m]? = some e := ⟨_, List.getElem?_eq_getElem (by omega)⟩
        obtain ⟨c0, c1, c2, c3, c4, c5, c6⟩ := hS.at_.cL he
        obtain ⟨tb, htb⟩ : ∃ tb, tb = wr.heap.size := ⟨_, rfl⟩
        obtain ⟨W1, hW1⟩ : ∃ W1, W1 = wr.alloc (.cells e.cells.toArray 32 (0, 0)) := ⟨_, rfl⟩
        have hnew : W1.heap[tb]? = some (.cells e.cells.toArray 32 (0, 0)) := by rw [hW1, htb]; exact heap_alloc_eq wr _
        have hS1 := hS.calm (w2 := W1) (by rw [hW1]; exact (Chg.refl _ _).alloc _)
        have hrem : remT s c now q m ↔ (e.armed = true ∧ e.clock = c ∧ e.at_ ≤ now ∧ (m : Int) ∉ l.take q) := by
          unfold remT
          rw [due_mem H.out.2.1 H.out.2.2.2.1, ← HL.out.1]
          constructor
          · rintro ⟨⟨e', g1, _, g3, g4, g5⟩, g6⟩
            rw [he] at g1
            cases g1
            exact ⟨g3, g4, g5, g6⟩
          · rintro ⟨g3, g4, g5, g6⟩
            exact ⟨⟨e, he, by rw [← HNn.out]; exact hlt, g3, g4, g5⟩, g6⟩
        have hways : (e.armed = false ∧ ¬ remT s c now q m) ∨ (e.armed = true ∧ (e.clock != c) = true ∧ ¬ remT s c now q m) ∨ (e.armed = true ∧ (e.clock != c) = false ∧ decide (now < e.at_) = true ∧ ¬ remT s c now q m) ∨
            (e.armed = true ∧ (e.clock != c) = false ∧ decide (now < e.at_) = false ∧ decide ((m : Int) ∈ l.take q) = true ∧ ¬ remT s c now q m) ∨ (e.armed = true ∧ (e.clock != c) = false ∧ decide (now < e.at_) = false ∧ decide ((m : Int) ∈ l.take q) = false ∧ remT s c now q m) := by
          rw [hrem]
          cases ha : e.armed
          · exact .inl ⟨rfl, fun g => by cases g.1⟩
          · by_cases g1 : e.clock = c
            · by_cases g2 : now < e.at_
              · exact .inr (.inr (.inl ⟨rfl, by simpa using g1, decide_eq_true g2, fun g => by omega⟩))
              · by_cases g3 : (m : Int) ∈ l.take q
                · exact .inr (.inr (.inr (.inl ⟨rfl, by simpa using g1, decide_eq_false g2, decide_eq_true g3, fun g => g.2.2.2 g3⟩)))
                · exact .inr (.inr (.inr (.inr ⟨rfl, by simpa using g1, decide_eq_false g2, decide_eq_false g3, ⟨rfl, g1, by omega, g3⟩⟩)))
            · exact .inr (.inl ⟨rfl, by simpa using g1, fun g => g1 g.2.1⟩)
        have HX := Lib.hid (And.intro hS1 (And.intro hB (And.intro hnew he)))
        have hdm := hS1.mark hm8
        clear hS hB hnew hrem hS1 he
        go_upto_region 10 with fail
        unfold TE.cells at hW1
        rw [← hW1, ← htb]
        clear hW1 htb c0 c1 c2 c3 c4 c5 c6 cn
        have t0 := cellB HX.out.2.2.1 (i := 0) (v := .bool e.armed) rfl
        have t1 := cellB HX.out.2.2.1 (i := 1) (v := .int .i64 e.clock) rfl
        have t2 := cellB HX.out.2.2.1 (i := 2) (v := .int .i64 e.at_) rfl
        rcases hways with ⟨x0, hnr⟩ | ⟨x0, x1, hnr⟩ | ⟨x0, x1, x2, hnr⟩ | ⟨x0, x1, x2, x3, hnr⟩ | ⟨x0, x1, x2, x3, hr⟩
        iterate 4
          · rw [x0] at t0
            have HB := Lib.hid (HX.out.2.1.skip hnr)
            clear hnr
            go_wp2_with fail
            exact ⟨⟨m + 1, kz, by omega, rfl, rfl, HB.out, HX.out.1⟩, by simp only [intOf]; omega⟩
        · have hB := HX.out.2.1
          rw [x0] at t0
          rcases id hB with ⟨rfl, _⟩ | ⟨kk, rfl, hkm, _⟩
          · have HB := Lib.hid (hB.first (by decide) hr)
            clear hB hr
            go_wp2_with fail
            go_quiet (fail)
            rename_i nq
            have HS := Lib.hid (HX.out.1.calm ((Chg.refl _ W1).drewN nq))
            go_wp2_with fail
            exact ⟨⟨m + 1, (m : Int), by omega, rfl, rfl, HB.out, HS.out⟩, by simp only [intOf]; omega⟩
          · have hk8 : kk < 8 := by omega
            have hkz : (kk : Int) < 8 := by omega
            have hkz0 : (0 : Int) ≤ (kk : Int) := by omega
            have dk : decide ((kk : Int) < 0) = false := by simp
            obtain ⟨e2, he2⟩ : ∃ e2, s.L[kk]? = some e2 := ⟨_, List.getElem?_eq_getElem (by omega)⟩
            obtain ⟨zm, hzm⟩ : ∃ z, Z[m]? = some z := ⟨_, List.getElem?_eq_getElem (by rw [H.out.1.zen]; omega)⟩
            obtain ⟨zk, hzk⟩ : ∃ z, Z[kk]? = some z := ⟨_, List.getElem?_eq_getElem (by rw [H.out.1.zen]; omega)⟩
            obtain ⟨_, _, g2, _⟩ := HX.out.1.at_.cL he2
            have gm := HX.out.1.at_.cZ hzm
            have gk := HX.out.1.at_.cZ hzk
            have hls : lessT s Z m kk ↔ (e.at_ < e2.at_ ∨ (e.at_ = e2.at_ ∧ zm < zk)) := by
              constructor
              · rintro ⟨ei, ej, zi, zj, a1, a2, a3, a4, a5⟩
                rw [HX.out.2.2.2] at a1
                cases a1
                rw [he2] at a2
                cases a2
                rw [hzm] at a3
                cases a3
                rw [hzk] at a4
                cases a4
                exact a5
              · intro g
                exact ⟨e, e2, zm, zk, HX.out.2.2.2, he2, hzm, hzk, g⟩
            have hways2 : (decide (e.at_ < e2.at_) = true ∧ bestT s Z c now q (m + 1) m) ∨ (decide (e.at_ < e2.at_) = false ∧ (e.at_ == e2.at_) = false ∧ bestT s Z c now q (m + 1) kk) ∨
                (decide (e.at_ < e2.at_) = false ∧ (e.at_ == e2.at_) = true ∧ decide (zm < zk) = true ∧ bestT s Z c now q (m + 1) m) ∨ (decide (e.at_ < e2.at_) = false ∧ (e.at_ == e2.at_) = true ∧ decide (zm < zk) = false ∧ bestT s Z c now q (m + 1) kk) := by
              by_cases g1 : e.at_ < e2.at_
              · exact .inl ⟨decide_eq_true g1, hB.take hr (hls.2 (.inl g1))⟩
              · by_cases g3 : e.at_ = e2.at_
                · by_cases g4 : zm < zk
                  · exact .inr (.inr (.inl ⟨decide_eq_false g1, by simpa using g3, decide_eq_true g4, hB.take hr (hls.2 (.inr ⟨g3, g4⟩))⟩))
                  · exact .inr (.inr (.inr ⟨decide_eq_false g1, by simpa using g3, decide_eq_false g4, hB.keep H.out.2.1 H.out.2.2.1 H.out.2.2.2.1 hr (fun g => by rcases hls.1 g with g | g; exact g1 g; exact g4 g.2)⟩))
                · exact .inr (.inl ⟨decide_eq_false g1, by simpa using g3, hB.keep H.out.2.1 H.out.2.2.1 H.out.2.2.2.1 hr (fun g => by rcases hls.1 g with g | g; exact g1 g; exact g3 g.1)⟩)
            clear hB hr hls he2 hzm hzk
            rcases hways2 with ⟨y0, hb⟩ | ⟨y0, y1, hb⟩ | ⟨y0, y1, y2, hb⟩ | ⟨y0, y1, y2, hb⟩
            iterate 4
              · have HB := Lib.hid hb
                clear hb
                go_wp2_with fail
                go_quiet (fail)
                rename_i nq
                have HS := Lib.hid (HX.out.1.calm ((Chg.refl _ W1).drewN nq))
                go_wp2_with fail
                exact ⟨⟨m + 1, _, by omega, rfl, rfl, HB.out, HS.out⟩, by simp only [intOf]; omega⟩
      · have hmn2 : m = n := by omega
        subst hmn2
        have hD := HNn.out ▸ hB
        rcases (bestT.done H.out.2.1 H.out.2.2.1 H.out.2.2.2.1 (show bestT s Z c now q s.n kz from by rw [← HNn.out]; exact hB)) with ⟨rfl, hlq⟩ | ⟨kk, rfl, hkn, hlk⟩
        · have hqN2 : q = N := by rw [← HL.out.1, ← HL.out.2] at hlq; omega
          subst hqN2
          have HS := Lib.hid hS
          clear hS hB hD hlq
          go_wp2_with fail
          go_loopw [12, 13] (fun v i wx => ∃ j : Nat, j ≤ q ∧ i = .int .i64 j ∧ DueQ w' b ((l.take j).foldl (TS.due1 c now) p0).1 ((l.take j).foldl (TS.due1 c now) p0).2 v va l (nw + j) wx) (fun _ i _ => q - (intOf i).toNat)
          case atStart =>
            refine ⟨0, by omega, rfl, ?_⟩
            rw [List.take_zero, List.foldl_nil, HP0.out]
            have hown := HS.out.own
            rw [List.take_of_length_le (by have := HL.out.2; omega)] at hown
            obtain ⟨a', cap', e', hIa⟩ := IntsAt.of_own hown HL.out.2
            cases e'
            refine ⟨⟨Z, nw, HS.out.at_, H.out.2.2.1.sub (fun k hk x hx => ?_), by omega⟩, World.ownsRow_nil .., hIa, HS.out.chg.mono (by simp), fun g e => ?_, HS.out.bl⟩
            · dsimp only at hx
              by_cases e1 : k = c
              · subst e1
                rw [updW_same] at hx
                exact (List.mem_filter.1 hx).1
              · rw [updW_other e1] at hx
                exact hx
            · subst e
              have := hown.lt g (by simp [Value.ownBlock])
              exact ⟨this.1, this.2, by simp [Value.ownBlock]⟩
          case round =>
            obtain ⟨j, hj, rfl, hQ⟩ := hrel
            obtain ⟨p, hp⟩ : ∃ p, p = (l.take j).foldl (TS.due1 c now) p0 := ⟨_, rfl⟩
            rw [← hp] at hQ
            by_cases hlt : j < q
            · obtain ⟨id, hid⟩ : ∃ id, l[j]? = some id := ⟨_, List.getElem?_eq_getElem (by have := HL.out.2; omega)⟩
              have hD0 : TInvD p0.1 c now l := by rw [HP0.out, HL.out.1]; exact TInvD.start H.out.2.1 H.out.2.2.2.1
              have hDj := hD0.upto H.out.2.2.2.1 j
              rw [← hp, List.drop_eq_getElem_cons (by have := HL.out.2; omega), (List.getElem?_eq_some_iff.1 hid).2] at hDj
              obtain ⟨i, e, rfl, he, harm, hclk, hat1⟩ := hDj.rem id List.mem_cons_self
              obtain ⟨hin, _, hat0, hiv⟩ := hDj.on i e he harm
              have hnum := hDj.num i e he
              have hi8 : i < 8 := by have := hDj.n8; omega
              have hz : (i : Int) < 8 := by omega
              have hz0 : (0 : Int) ≤ (i : Int) := by omega
              obtain ⟨⟨c0, c1, c2, c3, c4, c5, c6⟩, fz⟩ := hQ.cells he
              obtain ⟨ga, rfl, hIg⟩ := hQ.ints.resolve_left (fun h => by subst h; simp at hid)
              have dj := hIg j _ hid
              have hpo : p.2.length ≤ 64 := by
                have h1 := dueF_out_le c now (l.take j) p0
                rw [← hp, HP0.out, List.length_take] at h1
                simp at h1
                omega
              have hnext : (l.take (j + 1)).foldl (TS.due1 c now) p0 = TS.due1 c now p (i : Int) := by rw [fold_take _ _ hid, ← hp]
              obtain ⟨m, hm⟩ : ∃ m, m = e.often now := ⟨_, rfl⟩
              have hmb : 1 ≤ m ∧ m ≤ now - e.at_ + 1 ∧ 0 ≤ m * e.iv ∧ m * e.iv ≤ now - e.at_ + e.iv := by
                have g3 := hiv.1
                rw [hm]
                unfold TE.often
                split
                · rename_i h0
                  rw [h0]
                  omega
                · rename_i h0
                  have q0 : 0 ≤ (now - e.at_) / e.iv := Int.ediv_nonneg (by omega) g3
                  have q1 : (now - e.at_) / e.iv ≤ now - e.at_ := Int.ediv_le_self _ (by omega)
                  have q2 := Int.ediv_mul_le (now - e.at_) h0
                  have q3 : 0 ≤ (now - e.at_) / e.iv * e.iv := Int.mul_nonneg q0 g3
                  rw [Int.add_mul, Int.one_mul]
                  omega
              obtain ⟨tb, htb⟩ : ∃ tb, tb = wr.heap.size := ⟨_, rfl⟩
              obtain ⟨W1, hW1⟩ : ∃ W1, W1 = wr.alloc (.cells e.cells.toArray 32 (0, 0)) := ⟨_, rfl⟩
              have hC1 : Chg [] wr W1 := by rw [hW1]; exact (Chg.refl _ _).alloc _
              have hnew : W1.heap[tb]? = some (.cells e.cells.toArray 32 (0, 0)) := by rw [hW1, htb]; exact heap_alloc_eq wr _
              have hbw : b < wr.heap.size := by have := hQ.bl; have := hQ.chg.size; omega
              have htv : tb ∉ u12.ownBlock.toList := fun hm2 => by have := (hQ.own.lt tb (by simpa using hm2)).2; omega
              have hQ1 := hQ.calm hC1
              obtain ⟨Z1, nw1, hR1, hL1, hq1⟩ := hQ1.at_
              have HRe := Lib.hid (rrestsc b p.1.n p.1.L Z1 nw1 i e W1 hR1 he)
              have hDu := hL1.due1 hDj H.out.2.2.2.1 he
              have hn0 := hL1.n0
              have hnb : nw1 < 4611686018427387904 := by have := H.out.2.2.2.2.2; omega
              have htb1 : tb ≠ b := by omega
              have HX := Lib.hid (And.intro hQ1 (And.intro he (And.intro hnew (And.intro hpo (And.intro HN64.out hnext)))))
              have HY := Lib.hid (And.intro hDu (And.intro hm (And.intro hq1 (And.intro hclk (And.intro hn0 (And.intro hnb (And.intro htb1 (And.intro htv harm))))))))
              have hb := H.out.2.2.2.2.1.2
              have ha0 := hat0.1
              have hv0 := hiv.1
              have hv1 := hiv.2
              have hcn0 := hnum.1
              have hcn1 := hnum.2.1
              clear hm hQ hp hid hD0 hDj harm hclk hin hat0 hiv hnum hIg hpo hnext hC1 hnew hbw htv hQ1 hR1 hL1 hq1 hDu hn0 hnb htb1
              go_upto_region 22 with fail
              unfold TE.cells at hW1
              rw [← hW1, ← htb]
              clear hW1 htb c0 c1 c2 c3 c4 c5 c6 dj fz
              have t0 := cellB HX.out.2.2.1 (i := 0) (v := .bool e.armed) rfl
              have t1 := cellB HX.out.2.2.1 (i := 1) (v := .int .i64 e.clock) rfl
              have t2 := cellB HX.out.2.2.1 (i := 2) (v := .int .i64 e.at_) rfl
              have t3 := cellB HX.out.2.2.1 (i := 3) (v := .int .i64 e.iv) rfl
              have t4 := cellB HX.out.2.2.1 (i := 4) (v := .bool e.out) rfl
              have t5 := cellB HX.out.2.2.1 (i := 5) (v := .int .i64 e.cnt) rfl
              have t6 := cellB HX.out.2.2.1 (i := 6) (v := .int .i64 e.ovr) rfl
              by_cases hiv0 : e.iv = 0
              · have hm1 : m = 1 := by rw [HY.out.2.1]; unfold TE.often; rw [if_pos hiv0]
                have dA1 : decide (0 < e.iv) = false := decide_eq_false (by omega)
                have HA := Lib.hid (show ¬ (0 < e.iv ∧ e.at_ + m * e.iv ≤ 1099511627776) from fun g => by omega)
                subst hm1
                clear hiv0
                go_upto_region 26 with fail
                go_wp2_with fail
                refine HRe.out.mono ?_
                rintro x w4 ⟨rfl, hR4, hC4⟩
                have hlk : LinkT ⟨p.1.n, p.1.L.set i ⟨false, 0, 0, 0, e.out, e.cnt, e.ovr⟩, p.1.W⟩ Z1 nw1 := by
                  have h0 := HY.out.1
                  rw [due1_B HX.out.2.1 HY.out.2.1 HA.out] at h0
                  unfold dueZ at h0
                  have hng : ¬ (0 < e.iv ∧ e.at_ + e.often now * e.iv ≤ 1099511627776) := by rw [← HY.out.2.1]; exact HA.out
                  rw [if_neg hng] at h0
                  exact h0.sub (fun k hk x hx => hx)
                have hQ4 := HX.out.1.next (s' := ⟨p.1.n, p.1.L.set i ⟨false, 0, 0, 0, e.out, e.cnt, e.ovr⟩, p.1.W⟩) (q' := nw + ((j + 1 : Nat) : Int)) hR4 hlk (by have := HY.out.2.2.1; omega) hC4
                have hg4 : (p.1.L.set i ⟨false, 0, 0, 0, e.out, e.cnt, e.ovr⟩)[i]? = some ⟨false, 0, 0, 0, e.out, e.cnt, e.ovr⟩ := List.getElem?_set_self (List.getElem?_eq_some_iff.1 HX.out.2.1).1
                have htb4 := hC4.blk HX.out.2.2.1 (by simpa using HY.out.2.2.2.2.2.2.1)
                have HD1 := Lib.hid (due1_B (k := c) (now := now) HX.out.2.1 HY.out.2.1 HA.out)
                obtain ⟨⟨c0, c1, c2, c3, c4, c5, c6⟩, fz⟩ := hQ4.cells hg4
                dsimp only at c0 c1 c2 c3 c4 c5 c6
                have t4 := cellB htb4 (i := 4) (v := .bool e.out) rfl
                have t5 := cellB htb4 (i := 5) (v := .int .i64 e.cnt) rfl
                have t3 := cellB htb4 (i := 3) (v := .int .i64 e.iv) rfl
                have t0 := cellB htb4 (i := 0) (v := .bool e.armed) rfl
                have t1 := cellB htb4 (i := 1) (v := .int .i64 e.clock) rfl
                have t2 := cellB htb4 (i := 2) (v := .int .i64 e.at_) rfl
                have t6 := cellB htb4 (i := 6) (v := .int .i64 e.ovr) rfl
                have HQ4 := Lib.hid (And.intro hQ4 hg4)
                have HT4 := Lib.hid (And.intro htb4 (And.intro HY.out.2.2.2.2.2.2.1 HY.out.2.2.2.2.2.2.2.1))
                dsimp only
                clear hR4 hC4 hlk hQ4 hg4 htb4
                cases ho : e.out
                · rw [ho] at t4
                  have h5 := HQ4.out.1.put HQ4.out.2 (f := 4) (by omega) (u := .bool true) ⟨false, 0, 0, 0, true, e.cnt, e.ovr⟩ rfl
                  rw [List.set_set] at h5
                  have hg5 : (p.1.L.set i ⟨false, 0, 0, 0, true, e.cnt, e.ovr⟩)[i]? = some ⟨false, 0, 0, 0, true, e.cnt, e.ovr⟩ := List.getElem?_set_self (List.getElem?_eq_some_iff.1 HX.out.2.1).1
                  have hd1 : p.2.length + 1 ≤ maxLen := by unfold maxLen; have := HX.out.2.2.2.1; omega
                  have hd2 : (p.2.length + 1) * 8 ≤ 140737488355328 := by have := HX.out.2.2.2.1; omega
                  have hsz4 : w4.heap.size = (w4.setCell ⟨b, 1 + i * 7 + 4, none⟩ (.bool true)).heap.size := by simp [World.setCell]
                  have hcs : Chg [b] w4 (w4.setCell ⟨b, 1 + i * 7 + 4, none⟩ (.bool true)) := (Chg.refl _ _).setCell _ _ (by simp)
                  have htb5 := hcs.blk HT4.out.1 (by simpa using HT4.out.2.1)
                  have HP := Lib.hid (And.intro h5.own (And.intro h5.chg.size (And.intro hd1 (And.intro hd2 (And.intro hsz4 htb5)))))
                  have H5 := Lib.hid (And.intro h5 hg5)
                  clear h5 hg5 hd1 hd2 hsz4 hcs htb5
                  repeat ((fail_if_success at_builtin); (first | go_values | go_skip | go_guarded | go_step))
                  rw [HP.out.2.2.2.2.1]
                  refine wpList_push rfl _ _ 29 rfl w'.heap.size 3 i0 (.int .i64 0) 1 8 Try.underlying29 hi hzi0 hzi1 hzi2 rfl (by decide) u12 p.2.length _ rfl HP.out.1 [.int .i64 (i : Int)] rfl rfl (by simp [Value.oneCell']) HP.out.2.2.1 HP.out.2.2.2.1 HP.out.2.1 ?_
                  intro v' w5 hown6 hC5 hloc hnn
                  have hR6 := H5.out.1.push (i : Int) hown6 hC5 hloc
                  have htb6 := hC5.blk HP.out.2.2.2.2.2 HT4.out.2.2
                  clear hown6 hC5 hloc hnn c0 c1 c2 c3 c4 c5 c6 fz t0 t1 t2 t3 t4 t5 t6
                  obtain ⟨⟨c0, c1, c2, c3, c4, c5, c6⟩, fz⟩ := hR6.cells H5.out.2
                  dsimp only at c0 c1 c2 c3 c4 c5 c6
                  have t5 := cellB htb6 (i := 5) (v := .int .i64 e.cnt) rfl
                  have t3 := cellB htb6 (i := 3) (v := .int .i64 e.iv) rfl
                  have t0 := cellB htb6 (i := 0) (v := .bool e.armed) rfl
                  have t1 := cellB htb6 (i := 1) (v := .int .i64 e.clock) rfl
                  have t2 := cellB htb6 (i := 2) (v := .int .i64 e.at_) rfl
                  have t4 := cellB htb6 (i := 4) (v := .bool e.out) rfl
                  have t6 := cellB htb6 (i := 6) (v := .int .i64 e.ovr) rfl
                  have HR6 := Lib.hid hR6
                  clear hR6 htb6
                  have ho2 : ¬ e.out = true := by rw [ho]; decide
                  have dcl : decide (32767 < e.cnt) = false := decide_eq_false (by omega)
                  have h7 := HR6.out.put H5.out.2 (f := 5) (by omega) (u := .int .i64 (e.cnt)) ⟨false, 0, 0, 0, true, e.cnt, e.ovr⟩ rfl
                  rw [List.set_set] at h7
                  have H7 := Lib.hid h7
                  clear h7
                  repeat (first | go_values | go_skip | go_guarded | go_step)
                  refine ⟨⟨j + 1, hlt, rfl, ?_⟩, by simp only [intOf]; omega⟩
                  rw [HX.out.2.2.2.2.2, HD1.out, if_neg ho2, if_neg ho2, show min (e.cnt + (1 - 1)) 32767 = e.cnt from by omega]
                  exact H7.out
                · rw [ho] at t4
                  by_cases hcl : 32767 < e.cnt + 1
                  · have dcl : decide (32767 < e.cnt + 1) = true := by simpa using hcl
                    have h7 := HQ4.out.1.put HQ4.out.2 (f := 5) (by omega) (u := .int .i64 32767) ⟨false, 0, 0, 0, true, 32767, e.ovr⟩ (by rw [ho]; rfl)
                    rw [List.set_set] at h7
                    have H7 := Lib.hid h7
                    clear h7
                    repeat (first | go_values | go_skip | go_guarded | go_step)
                    refine ⟨⟨j + 1, hlt, rfl, ?_⟩, by simp only [intOf]; omega⟩
                    rw [HX.out.2.2.2.2.2, HD1.out, if_pos ho, if_pos ho, show min (e.cnt + 1) 32767 = 32767 from by omega]
                    exact H7.out
                  · have dcl : decide (32767 < e.cnt + 1) = false := by simpa using hcl
                    have h7 := HQ4.out.1.put HQ4.out.2 (f := 5) (by omega) (u := .int .i64 (e.cnt + 1)) ⟨false, 0, 0, 0, true, e.cnt + 1, e.ovr⟩ (by rw [ho]; rfl)
                    rw [List.set_set] at h7
                    have H7 := Lib.hid h7
                    clear h7
                    repeat (first | go_values | go_skip | go_guarded | go_step)
                    refine ⟨⟨j + 1, hlt, rfl, ?_⟩, by simp only [intOf]; omega⟩
                    rw [HX.out.2.2.2.2.2, HD1.out, if_pos ho, if_pos ho, show min (e.cnt + 1) 32767 = e.cnt + 1 from by omega]
                    exact H7.out
              · have dA1 : decide (0 < e.iv) = true := decide_eq_true (by omega)
                have ez : (e.iv == 0) = false := by simpa using hiv0
                have hq : Int.tdiv (now - e.at_) e.iv = (now - e.at_) / e.iv := Int.tdiv_eq_ediv_of_nonneg (by omega)
                have hmq : (now - e.at_) / e.iv + 1 = m := by rw [HY.out.2.1]; unfold TE.often; rw [if_neg hiv0]
                have hd0 : 0 ≤ (now - e.at_) / e.iv := Int.ediv_nonneg (by omega) (by omega)
                have hd1 : (now - e.at_) / e.iv ≤ now - e.at_ := Int.ediv_le_self _ (by omega)
                have hx1 : wrap64 (wrap64 ((now - e.at_) / e.iv) + 1) = m := by rw [wrap_le hd0 (by omega), hmq]; exact wrap_le (by omega) (by omega)
                have hx2 : wrap64 (e.at_ + wrap64 (m * e.iv)) = e.at_ + m * e.iv := by rw [wrap_le (x := m * e.iv) (by omega) (by omega)]; exact wrap_le (by omega) (by omega)
                have HQQ := Lib.hid (And.intro hx1 hx2)
                clear hmq hx1 hx2 hd0 hd1
                by_cases hA2 : e.at_ + m * e.iv ≤ 1099511627776
                · have dA2 : decide (e.at_ + m * e.iv ≤ 1099511627776) = true := by simpa using hA2
                  have HA := Lib.hid (show 0 < e.iv ∧ e.at_ + m * e.iv ≤ 1099511627776 from ⟨by omega, hA2⟩)
                  clear hA2
                  go_upto_region 26 with fail
                  rw [HQQ.out.1, HQQ.out.2]
                  go_wp2_with fail
                  refine HRe.out.mono ?_
                  rintro x w3 ⟨rfl, hR3, hC3⟩
                  have htb3 := hC3.blk HX.out.2.2.1 (by simpa using HY.out.2.2.2.2.2.2.1)
                  have t3 := cellB htb3 (i := 3) (v := .int .i64 e.iv) rfl
                  have H3 := Lib.hid (And.intro hR3 (And.intro hC3 htb3))
                  clear hR3 hC3 htb3
                  go_wp2_with fail
                  refine (rarmsc b p.1.n (p.1.L.set i e.rest) Z1 nw1 i e.rest c (e.at_ + m * e.iv) e.iv w3 H3.out.1 (List.getElem?_set_self (List.getElem?_eq_some_iff.1 HX.out.2.1).1) HY.out.2.2.2.2.1 HY.out.2.2.2.2.2.1).mono ?_
                  rintro x w4 ⟨rfl, hR4, hC4⟩
                  rw [List.set_set] at hR4
                  have hlk : LinkT ⟨p.1.n, p.1.L.set i ⟨true, c, e.at_ + m * e.iv, e.iv, e.out, e.cnt, e.ovr⟩, updW p.1.W c ((p.1.W c).setS i (e.at_ + m * e.iv))⟩ (Z1.set i (nw1 + 1)) (nw1 + 1) := by
                    have h0 := HY.out.1
                    rw [due1_A HX.out.2.1 HY.out.2.1 HA.out] at h0
                    unfold dueZ at h0
                    have hng : 0 < e.iv ∧ e.at_ + e.often now * e.iv ≤ 1099511627776 := by rw [← HY.out.2.1]; exact HA.out
                    rw [if_pos hng] at h0
                    exact h0.sub (fun k hk x hx => hx)
                  have hQ4 := HX.out.1.next (s' := ⟨p.1.n, p.1.L.set i ⟨true, c, e.at_ + m * e.iv, e.iv, e.out, e.cnt, e.ovr⟩, updW p.1.W c ((p.1.W c).setS i (e.at_ + m * e.iv))⟩) (q' := nw + ((j + 1 : Nat) : Int)) hR4 hlk (by have := HY.out.2.2.1; omega) (H3.out.2.1.trans hC4)
                  have hg4 : (p.1.L.set i ⟨true, c, e.at_ + m * e.iv, e.iv, e.out, e.cnt, e.ovr⟩)[i]? = some ⟨true, c, e.at_ + m * e.iv, e.iv, e.out, e.cnt, e.ovr⟩ := List.getElem?_set_self (List.getElem?_eq_some_iff.1 HX.out.2.1).1
                  have htb4 := hC4.blk H3.out.2.2 (by simpa using HY.out.2.2.2.2.2.2.1)
                  have hd0 := due1_A (k := c) (now := now) HX.out.2.1 HY.out.2.1 HA.out
                  rw [HY.out.2.2.2.2.2.2.2.2, HY.out.2.2.2.1] at hd0
                  have HD1 := Lib.hid hd0
                  obtain ⟨⟨c0, c1, c2, c3, c4, c5, c6⟩, fz⟩ := hQ4.cells hg4
                  dsimp only at c0 c1 c2 c3 c4 c5 c6
                  have t4 := cellB htb4 (i := 4) (v := .bool e.out) rfl
                  have t5 := cellB htb4 (i := 5) (v := .int .i64 e.cnt) rfl
                  have t3 := cellB htb4 (i := 3) (v := .int .i64 e.iv) rfl
                  have t0 := cellB htb4 (i := 0) (v := .bool e.armed) rfl
                  have t1 := cellB htb4 (i := 1) (v := .int .i64 e.clock) rfl
                  have t2 := cellB htb4 (i := 2) (v := .int .i64 e.at_) rfl
                  have t6 := cellB htb4 (i := 6) (v := .int .i64 e.ovr) rfl
                  have HQ4 := Lib.hid (And.intro hQ4 hg4)
                  have HT4 := Lib.hid (And.intro htb4 (And.intro HY.out.2.2.2.2.2.2.1 HY.out.2.2.2.2.2.2.2.1))
                  dsimp only
                  clear hR4 hC4 hlk hQ4 hg4 htb4 hd0
                  cases ho : e.out
                  · rw [ho] at t4
                    have h5 := HQ4.out.1.put HQ4.out.2 (f := 4) (by omega) (u := .bool true) ⟨true, c, e.at_ + m * e.iv, e.iv, true, e.cnt, e.ovr⟩ rfl
                    rw [List.set_set] at h5
                    have hg5 : (p.1.L.set i ⟨true, c, e.at_ + m * e.iv, e.iv, true, e.cnt, e.ovr⟩)[i]? = some ⟨true, c, e.at_ + m * e.iv, e.iv, true, e.cnt, e.ovr⟩ := List.getElem?_set_self (List.getElem?_eq_some_iff.1 HX.out.2.1).1
                    have hd1 : p.2.length + 1 ≤ maxLen := by unfold maxLen; have := HX.out.2.2.2.1; omega
                    have hd2 : (p.2.length + 1) * 8 ≤ 140737488355328 := by have := HX.out.2.2.2.1; omega
                    have hsz4 : w4.heap.size = (w4.setCell ⟨b, 1 + i * 7 + 4, none⟩ (.bool true)).heap.size := by simp [World.setCell]
                    have hcs : Chg [b] w4 (w4.setCell ⟨b, 1 + i * 7 + 4, none⟩ (.bool true)) := (Chg.refl _ _).setCell _ _ (by simp)
                    have htb5 := hcs.blk HT4.out.1 (by simpa using HT4.out.2.1)
                    have HP := Lib.hid (And.intro h5.own (And.intro h5.chg.size (And.intro hd1 (And.intro hd2 (And.intro hsz4 htb5)))))
                    have H5 := Lib.hid (And.intro h5 hg5)
                    clear h5 hg5 hd1 hd2 hsz4 hcs htb5
                    repeat ((fail_if_success at_builtin); (first | go_values | go_skip | go_guarded | go_step))
                    rw [HP.out.2.2.2.2.1]
                    refine wpList_push rfl _ _ 29 rfl w'.heap.size 3 i0 (.int .i64 0) 1 8 Try.underlying29 hi hzi0 hzi1 hzi2 rfl (by decide) u12 p.2.length _ rfl HP.out.1 [.int .i64 (i : Int)] rfl rfl (by simp [Value.oneCell']) HP.out.2.2.1 HP.out.2.2.2.1 HP.out.2.1 ?_
                    intro v' w5 hown6 hC5 hloc hnn
                    have hR6 := H5.out.1.push (i : Int) hown6 hC5 hloc
                    have htb6 := hC5.blk HP.out.2.2.2.2.2 HT4.out.2.2
                    clear hown6 hC5 hloc hnn c0 c1 c2 c3 c4 c5 c6 fz t0 t1 t2 t3 t4 t5 t6
                    obtain ⟨⟨c0, c1, c2, c3, c4, c5, c6⟩, fz⟩ := hR6.cells H5.out.2
                    dsimp only at c0 c1 c2 c3 c4 c5 c6
                    have t5 := cellB htb6 (i := 5) (v := .int .i64 e.cnt) rfl
                    have t3 := cellB htb6 (i := 3) (v := .int .i64 e.iv) rfl
                    have t0 := cellB htb6 (i := 0) (v := .bool e.armed) rfl
                    have t1 := cellB htb6 (i := 1) (v := .int .i64 e.clock) rfl
                    have t2 := cellB htb6 (i := 2) (v := .int .i64 e.at_) rfl
                    have t4 := cellB htb6 (i := 4) (v := .bool e.out) rfl
                    have t6 := cellB htb6 (i := 6) (v := .int .i64 e.ovr) rfl
                    have HR6 := Lib.hid hR6
                    clear hR6 htb6
                    have ho2 : ¬ e.out = true := by rw [ho]; decide
                    by_cases hcl : 32767 < e.cnt + (m - 1)
                    · have dcl : decide (32767 < e.cnt + (m - 1)) = true := by simpa using hcl
                      have h7 := HR6.out.put H5.out.2 (f := 5) (by omega) (u := .int .i64 32767) ⟨true, c, e.at_ + m * e.iv, e.iv, true, 32767, e.ovr⟩ rfl
                      rw [List.set_set] at h7
                      have H7 := Lib.hid h7
                      clear h7
                      repeat (first | go_values | go_skip | go_guarded | go_step)
                      refine ⟨⟨j + 1, hlt, rfl, ?_⟩, by simp only [intOf]; omega⟩
                      rw [HX.out.2.2.2.2.2, HD1.out, if_neg ho2, if_neg ho2, show min (e.cnt + (m - 1)) 32767 = 32767 from by omega]
                      exact H7.out
                    · have dcl : decide (32767 < e.cnt + (m - 1)) = false := by simpa using hcl
                      have h7 := HR6.out.put H5.out.2 (f := 5) (by omega) (u := .int .i64 (e.cnt + (m - 1))) ⟨true, c, e.at_ + m * e.iv, e.iv, true, e.cnt + (m - 1), e.ovr⟩ rfl
                      rw [List.set_set] at h7
                      have H7 := Lib.hid h7
                      clear h7
                      repeat (first | go_values | go_skip | go_guarded | go_step)
                      refine ⟨⟨j + 1, hlt, rfl, ?_⟩, by simp only [intOf]; omega⟩
                      rw [HX.out.2.2.2.2.2, HD1.out, if_neg ho2, if_neg ho2, show min (e.cnt + (m - 1)) 32767 = e.cnt + (m - 1) from by omega]
                      exact H7.out
                  · rw [ho] at t4
                    by_cases hcl : 32767 < e.cnt + m
                    · have dcl : decide (32767 < e.cnt + m) = true := by simpa using hcl
                      have h7 := HQ4.out.1.put HQ4.out.2 (f := 5) (by omega) (u := .int .i64 32767) ⟨true, c, e.at_ + m * e.iv, e.iv, true, 32767, e.ovr⟩ (by rw [ho]; rfl)
                      rw [List.set_set] at h7
                      have H7 := Lib.hid h7
                      clear h7
                      repeat (first | go_values | go_skip | go_guarded | go_step)
                      refine ⟨⟨j + 1, hlt, rfl, ?_⟩, by simp only [intOf]; omega⟩
                      rw [HX.out.2.2.2.2.2, HD1.out, if_pos ho, if_pos ho, show min (e.cnt + m) 32767 = 32767 from by omega]
                      exact H7.out
                    · have dcl : decide (32767 < e.cnt + m) = false := by simpa using hcl
                      have h7 := HQ4.out.1.put HQ4.out.2 (f := 5) (by omega) (u := .int .i64 (e.cnt + m)) ⟨true, c, e.at_ + m * e.iv, e.iv, true, e.cnt + m, e.ovr⟩ (by rw [ho]; rfl)
                      rw [List.set_set] at h7
                      have H7 := Lib.hid h7
                      clear h7
                      repeat (first | go_values | go_skip | go_guarded | go_step)
                      refine ⟨⟨j + 1, hlt, rfl, ?_⟩, by simp only [intOf]; omega⟩
                      rw [HX.out.2.2.2.2.2, HD1.out, if_pos ho, if_pos ho, show min (e.cnt + m) 32767 = e.cnt + m from by omega]
                      exact H7.out
                · have dA2 : decide (e.at_ + m * e.iv ≤ 1099511627776) = false := by simpa using hA2
                  have HA := Lib.hid (show ¬ (0 < e.iv ∧ e.at_ + m * e.iv ≤ 1099511627776) from fun g => hA2 g.2)
                  clear hA2
                  go_upto_region 26 with fail
                  rw [HQQ.out.1, HQQ.out.2]
                  go_wp2_with fail
                  refine HRe.out.mono ?_
                  rintro x w4 ⟨rfl, hR4, hC4⟩
                  have hlk : LinkT ⟨p.1.n, p.1.L.set i ⟨false, 0, 0, 0, e.out, e.cnt, e.ovr⟩, p.1.W⟩ Z1 nw1 := by
                    have h0 := HY.out.1
                    rw [due1_B HX.out.2.1 HY.out.2.1 HA.out] at h0
                    unfold dueZ at h0
                    have hng : ¬ (0 < e.iv ∧ e.at_ + e.often now * e.iv ≤ 1099511627776) := by rw [← HY.out.2.1]; exact HA.out
                    rw [if_neg hng] at h0
                    exact h0.sub (fun k hk x hx => hx)
                  have hQ4 := HX.out.1.next (s' := ⟨p.1.n, p.1.L.set i ⟨false, 0, 0, 0, e.out, e.cnt, e.ovr⟩, p.1.W⟩) (q' := nw + ((j + 1 : Nat) : Int)) hR4 hlk (by have := HY.out.2.2.1; omega) hC4
                  have hg4 : (p.1.L.set i ⟨false, 0, 0, 0, e.out, e.cnt, e.ovr⟩)[i]? = some ⟨false, 0, 0, 0, e.out, e.cnt, e.ovr⟩ := List.getElem?_set_self (List.getElem?_eq_some_iff.1 HX.out.2.1).1
                  have htb4 := hC4.blk HX.out.2.2.1 (by simpa using HY.out.2.2.2.2.2.2.1)
                  have HD1 := Lib.hid (due1_B (k := c) (now := now) HX.out.2.1 HY.out.2.1 HA.out)
                  obtain ⟨⟨c0, c1, c2, c3, c4, c5, c6⟩, fz⟩ := hQ4.cells hg4
                  dsimp only at c0 c1 c2 c3 c4 c5 c6
                  have t4 := cellB htb4 (i := 4) (v := .bool e.out) rfl
                  have t5 := cellB htb4 (i := 5) (v := .int .i64 e.cnt) rfl
                  have t3 := cellB htb4 (i := 3) (v := .int .i64 e.iv) rfl
                  have t0 := cellB htb4 (i := 0) (v := .bool e.armed) rfl
                  have t1 := cellB htb4 (i := 1) (v := .int .i64 e.clock) rfl
                  have t2 := cellB htb4 (i := 2) (v := .int .i64 e.at_) rfl
                  have t6 := cellB htb4 (i := 6) (v := .int .i64 e.ovr) rfl
                  have HQ4 := Lib.hid (And.intro hQ4 hg4)
                  have HT4 := Lib.hid (And.intro htb4 (And.intro HY.out.2.2.2.2.2.2.1 HY.out.2.2.2.2.2.2.2.1))
                  dsimp only
                  clear hR4 hC4 hlk hQ4 hg4 htb4
                  cases ho : e.out
                  · rw [ho] at t4
                    have h5 := HQ4.out.1.put HQ4.out.2 (f := 4) (by omega) (u := .bool true) ⟨false, 0, 0, 0, true, e.cnt, e.ovr⟩ rfl
                    rw [List.set_set] at h5
                    have hg5 : (p.1.L.set i ⟨false, 0, 0, 0, true, e.cnt, e.ovr⟩)[i]? = some ⟨false, 0, 0, 0, true, e.cnt, e.ovr⟩ := List.getElem?_set_self (List.getElem?_eq_some_iff.1 HX.out.2.1).1
                    have hd1 : p.2.length + 1 ≤ maxLen := by unfold maxLen; have := HX.out.2.2.2.1; omega
                    have hd2 : (p.2.length + 1) * 8 ≤ 140737488355328 := by have := HX.out.2.2.2.1; omega
                    have hsz4 : w4.heap.size = (w4.setCell ⟨b, 1 + i * 7 + 4, none⟩ (.bool true)).heap.size := by simp [World.setCell]
                    have hcs : Chg [b] w4 (w4.setCell ⟨b, 1 + i * 7 + 4, none⟩ (.bool true)) := (Chg.refl _ _).setCell _ _ (by simp)
                    have htb5 := hcs.blk HT4.out.1 (by simpa using HT4.out.2.1)
                    have HP := Lib.hid (And.intro h5.own (And.intro h5.chg.size (And.intro hd1 (And.intro hd2 (And.intro hsz4 htb5)))))
                    have H5 := Lib.hid (And.intro h5 hg5)
                    clear h5 hg5 hd1 hd2 hsz4 hcs htb5
                    repeat ((fail_if_success at_builtin); (first | go_values | go_skip | go_guarded | go_step))
                    rw [HP.out.2.2.2.2.1]
                    refine wpList_push rfl _ _ 29 rfl w'.heap.size 3 i0 (.int .i64 0) 1 8 Try.underlying29 hi hzi0 hzi1 hzi2 rfl (by decide) u12 p.2.length _ rfl HP.out.1 [.int .i64 (i : Int)] rfl rfl (by simp [Value.oneCell']) HP.out.2.2.1 HP.out.2.2.2.1 HP.out.2.1 ?_
                    intro v' w5 hown6 hC5 hloc hnn
                    have hR6 := H5.out.1.push (i : Int) hown6 hC5 hloc
                    have htb6 := hC5.blk HP.out.2.2.2.2.2 HT4.out.2.2
                    clear hown6 hC5 hloc hnn c0 c1 c2 c3 c4 c5 c6 fz t0 t1 t2 t3 t4 t5 t6
                    obtain ⟨⟨c0, c1, c2, c3, c4, c5, c6⟩, fz⟩ := hR6.cells H5.out.2
                    dsimp only at c0 c1 c2 c3 c4 c5 c6
                    have t5 := cellB htb6 (i := 5) (v := .int .i64 e.cnt) rfl
                    have t3 := cellB htb6 (i := 3) (v := .int .i64 e.iv) rfl
                    have t0 := cellB htb6 (i := 0) (v := .bool e.armed) rfl
                    have t1 := cellB htb6 (i := 1) (v := .int .i64 e.clock) rfl
                    have t2 := cellB htb6 (i := 2) (v := .int .i64 e.at_) rfl
                    have t4 := cellB htb6 (i := 4) (v := .bool e.out) rfl
                    have t6 := cellB htb6 (i := 6) (v := .int .i64 e.ovr) rfl
                    have HR6 := Lib.hid hR6
                    clear hR6 htb6
                    have ho2 : ¬ e.out = true := by rw [ho]; decide
                    by_cases hcl : 32767 < e.cnt + (m - 1)
                    · have dcl : decide (32767 < e.cnt + (m - 1)) = true := by simpa using hcl
                      have h7 := HR6.out.put H5.out.2 (f := 5) (by omega) (u := .int .i64 32767) ⟨false, 0, 0, 0, true, 32767, e.ovr⟩ rfl
                      rw [List.set_set] at h7
                      have H7 := Lib.hid h7
                      clear h7
                      repeat (first | go_values | go_skip | go_guarded | go_step)
                      refine ⟨⟨j + 1, hlt, rfl, ?_⟩, by simp only [intOf]; omega⟩
                      rw [HX.out.2.2.2.2.2, HD1.out, if_neg ho2, if_neg ho2, show min (e.cnt + (m - 1)) 32767 = 32767 from by omega]
                      exact H7.out
                    · have dcl : decide (32767 < e.cnt + (m - 1)) = false := by simpa using hcl
                      have h7 := HR6.out.put H5.out.2 (f := 5) (by omega) (u := .int .i64 (e.cnt + (m - 1))) ⟨false, 0, 0, 0, true, e.cnt + (m - 1), e.ovr⟩ rfl
                      rw [List.set_set] at h7
                      have H7 := Lib.hid h7
                      clear h7
                      repeat (first | go_values | go_skip | go_guarded | go_step)
                      refine ⟨⟨j + 1, hlt, rfl, ?_⟩, by simp only [intOf]; omega⟩
                      rw [HX.out.2.2.2.2.2, HD1.out, if_neg ho2, if_neg ho2, show min (e.cnt + (m - 1)) 32767 = e.cnt + (m - 1) from by omega]
                      exact H7.out
                  · rw [ho] at t4
                    by_cases hcl : 32767 < e.cnt + m
                    · have dcl : decide (32767 < e.cnt + m) = true := by simpa using hcl
                      have h7 := HQ4.out.1.put HQ4.out.2 (f := 5) (by omega) (u := .int .i64 32767) ⟨false, 0, 0, 0, true, 32767, e.ovr⟩ (by rw [ho]; rfl)
                      rw [List.set_set] at h7
                      have H7 := Lib.hid h7
                      clear h7
                      repeat (first | go_values | go_skip | go_guarded | go_step)
                      refine ⟨⟨j + 1, hlt, rfl, ?_⟩, by simp only [intOf]; omega⟩
                      rw [HX.out.2.2.2.2.2, HD1.out, if_pos ho, if_pos ho, show min (e.cnt + m) 32767 = 32767 from by omega]
                      exact H7.out
                    · have dcl : decide (32767 < e.cnt + m) = false := by simpa using hcl
                      have h7 := HQ4.out.1.put HQ4.out.2 (f := 5) (by omega) (u := .int .i64 (e.cnt + m)) ⟨false, 0, 0, 0, true, e.cnt + m, e.ovr⟩ (by rw [ho]; rfl)
                      rw [List.set_set] at h7
                      have H7 := Lib.hid h7
                      clear h7
                      repeat (first | go_values | go_skip | go_guarded | go_step)
                      refine ⟨⟨j + 1, hlt, rfl, ?_⟩, by simp only [intOf]; omega⟩
                      rw [HX.out.2.2.2.2.2, HD1.out, if_pos ho, if_pos ho, show min (e.cnt + m) 32767 = e.cnt + m from by omega]
                      exact H7.out
            · have hjn : j = q := by omega
              have hp2 : l.foldl (TS.due1 c now) p0 = p := by rw [hp, List.take_of_length_le (by have := HL.out.2; omega)]
              have HX := Lib.hid (And.intro hQ (And.intro hp2 (And.intro hjn HN64.out)))
              clear hQ hp hp2
              go_wp2
              go_ret
              rw [HX.out.2.1]
              obtain ⟨Z1, nw1, hR1, hL1, hq1⟩ := HX.out.1.at_
              exact ⟨_, rfl, HX.out.1.own, ⟨Z1, nw1, hR1, hL1, by have := HX.out.2.2.1; have := HX.out.2.2.2; omega⟩, HX.out.1.chg⟩
        · rw [← HL.out.1] at hlk
          have hk8 : kk < 8 := by have := HNn.out; omega
          have hkz : (kk : Int) < 8 := by omega
          have hkz0 : (0 : Int) ≤ (kk : Int) := by omega
          have dk : decide ((kk : Int) < 0) = false := by simp
          have hdm := hS.mark hk8
          have fzd := frozenB hS.mks
          have hqlt : q < N := by have := (List.getElem?_eq_some_iff.1 hlk).1; have := HL.out.2; omega
          have HS := Lib.hid (And.intro hS hlk)
          have hd1 : q + 1 ≤ maxLen := by unfold maxLen; omega
          have hd2 : (q + 1) * 8 ≤ 140737488355328 := by omega
          have hC0 : Chg [db] wr (wr.setCell ⟨db, kk, none⟩ (.bool true)) := (Chg.refl _ _).setCell _ _ (by simp)
          have hown5 := own_kept hS.own hC0 (fun x hx hm => by simp at hx; subst hx; exact hS.ne hm)
          have hsz4 : wr.heap.size = (wr.setCell ⟨db, kk, none⟩ (.bool true)).heap.size := by simp [World.setCell]
          have HQ := Lib.hid (And.intro hown5 (And.intro hd1 (And.intro hd2 (And.intro hsz4 (show w'.heap.size ≤ (wr.setCell ⟨db, kk, none⟩ (.bool true)).heap.size from by rw [← hsz4]; exact hS.chg.size)))))
          clear hS hB hD hlk hd1 hd2 hC0 hown5 hsz4
          repeat ((fail_if_success at_builtin); (first | go_values | go_skip | go_guarded | go_step))
          rw [HQ.out.2.2.2.1]
          refine wpList_push rfl _ _ 29 rfl w'.heap.size 3 i0 (.int .i64 0) 1 8 Try.underlying29 hi hzi0 hzi1 hzi2 rfl (by decide) (.slice va q vc) q _ rfl HQ.out.1 [.int .i64 (kk : Int)] rfl rfl (by simp [Value.oneCell']) HQ.out.2.1 HQ.out.2.2.1 HQ.out.2.2.2.2 ?_
          intro v' w5 hown6 hC5 hloc hnn
          obtain ⟨va2, vc2, rfl⟩ := own_slice hown6
          have HN2 := Lib.hid (HS.out.1.next HS.out.2 hown6 hC5 hloc)
          clear hown6 hC5 hloc hnn
          repeat (first | go_values | go_skip | go_guarded | go_step)
          exact ⟨⟨q + 1, va2, vc2, by omega, rfl, HN2.out⟩, by simp only [lenOf]; omega⟩

end Go.Proofs.Ytonahpilmchnkaa
