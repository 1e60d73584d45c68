
/- metronomelaw19.TimersCopies: the walk. -/
import Derived.Test.YtonahpilmchnkaaGn
namespace Go.Proofs.Ytonahpilmchnkaa
open Go.RowKit Go.Sort


theorem PB.lt {w : World} {b : Nat} {bs : Int → Nat} {vs : Int → List Value} {rb : Nat} {s : TS} {q : Int} (h : PB w b bs vs rb s q) : ∀ x ∈ rb :: blocksT b bs vs, x < w.heap.size := fun x hx => by
  rcases List.mem_cons.1 hx with rfl | hx
  · obtain ⟨Z, nw, hR, _⟩ := h.r
    exact lt_of_blk hR.head
  · exact h.p.lt x hx
structure TwoT (w : World) (b1 : Nat) (bs1 : Int → Nat) (vs1 : Int → List Value) (rb1 b2 : Nat) (bs2 : Int → Nat) (vs2 : Int → List Value) (rb2 : Nat) (s : TS) (t : TS) (q : Int) (w1 : World) : Prop where
  p1 : PB w1 b1 bs1 vs1 rb1 s q
  p2 : PB w1 b2 bs2 vs2 rb2 t q
  sep : ∀ x ∈ rb1 :: blocksT b1 bs1 vs1, x ∉ rb2 :: blocksT b2 bs2 vs2
  chg : Chg [] w w1
  o1 : ∀ x ∈ rb1 :: blocksT b1 bs1 vs1, w.heap.size ≤ x
  o2 : ∀ x ∈ rb2 :: blocksT b2 bs2 vs2, w.heap.size ≤ x
section
variable {w w1 w2 : World} {b1 : Nat} {bs1 : Int → Nat} {vs1 : Int → List Value} {rb1 b2 : Nat} {bs2 : Int → Nat} {vs2 : Int → List Value} {rb2 : Nat} {s t s' : TS} {q q' : Int}
theorem TwoT.swap (h : TwoT w b1 bs1 vs1 rb1 b2 bs2 vs2 rb2 s t q w1) : TwoT w b2 bs2 vs2 rb2 b1 bs1 vs1 rb1 t s q w1 := ⟨h.p2, h.p1, fun x hx hm => h.sep x hm hx, h.chg, h.o2, h.o1⟩
theorem TwoT.next (h : TwoT w b1 bs1 vs1 rb1 b2 bs2 vs2 rb2 s t q w1) (hS : StT b1 bs1 vs1 rb1 s' q' w1 w2) (hq : q ≤ q') : ∃ vs', TwoT w b1 bs1 vs' rb1 b2 bs2 vs2 rb2 s' t q' w2 := by
  obtain ⟨vs', hP, hC, hB⟩ := hS
  have hs := h.chg.size
  have hB' : ∀ x ∈ rb1 :: blocksT b1 bs1 vs', x ∈ rb1 :: blocksT b1 bs1 vs1 ∨ w1.heap.size ≤ x := fun x hx => by
    rcases List.mem_cons.1 hx with rfl | hx
    · exact .inl List.mem_cons_self
    · exact (hB x hx).imp (fun h => List.mem_cons_of_mem _ h) (fun h => h)
  refine ⟨vs', hP, (h.p2.kept hC (fun x hx => ⟨fun hm => h.sep x hx (List.mem_cons_of_mem _ hm), fun e => h.sep x hx (by rw [e]; exact List.mem_cons_self)⟩)).more hq, fun x hx hm => ?_, h.chg.trans' hC (fun x hx => .inr (h.o1 x hx)), fun x hx => ?_, h.o2⟩
  · rcases hB' x hx with h1 | h1
    · exact h.sep x h1 hm
    · have := h.p2.lt x hm
      omega
  · rcases hB' x hx with h1 | h1
    · exact h.o1 x h1
    · omega
end
structure ThreeT (w : World) (b1 : Nat) (bs1 : Int → Nat) (vs1 : Int → List Value) (rb1 b2 : Nat) (bs2 : Int → Nat) (vs2 : Int → List Value) (s : TS) (q0 : Int) (b3 : Nat) (bs3 : Int → Nat) (vs3 : Int → List Value) (rb2 : Nat) (t : TS) (q : Int) (w1 : World) : Prop where
  px : PB w1 b1 bs1 vs1 rb1 s q0
  po : TAt w1 b2 bs2 vs2 s
  pc : PB w1 b3 bs3 vs3 rb2 t q
  sep : ∀ x ∈ rb2 :: blocksT b3 bs3 vs3, x ∉ rb1 :: blocksT b1 bs1 vs1 ∧ x ∉ blocksT b2 bs2 vs2
  chg : Chg [] w w1
  own : ∀ x ∈ rb2 :: blocksT b3 bs3 vs3, w.heap.size ≤ x
section
variable {w w1 w2 : World} {b1 : Nat} {bs1 : Int → Nat} {vs1 : Int → List Value} {rb1 b2 : Nat} {bs2 : Int → Nat} {vs2 : Int → List Value} {rb2 b3 : Nat} {bs3 : Int → Nat} {vs3 : Int → List Value} {s t t' : TS} {q0 q q' : Int}
theorem ThreeT.calm (h : ThreeT w b1 bs1 vs1 rb1 b2 bs2 vs2 s q0 b3 bs3 vs3 rb2 t q w1) (hC : Chg [] w1 w2) : ThreeT w b1 bs1 vs1 rb1 b2 bs2 vs2 s q0 b3 bs3 vs3 rb2 t q w2 :=
  ⟨h.px.calm hC, h.po.calm hC, h.pc.calm hC, h.sep, h.chg.trans hC, h.own⟩
theorem TwoT.copied (h : TwoT w b1 bs1 vs1 rb1 b2 bs2 vs2 rb2 s s q w1) (hA : TAt w2 b3 bs3 vs3 s) (hN : ∀ x ∈ blocksT b3 bs3 vs3, w1.heap.size ≤ x) (hC : Chg [] w1 w2) : ThreeT w b1 bs1 vs1 rb1 b2 bs2 vs2 s q b3 bs3 vs3 rb2 s q w2 := by
  have hs := h.chg.size
  obtain ⟨Z, nw, hR, hL, hq⟩ := h.p2.r
  have hrb := lt_of_blk hR.head
  refine ⟨h.p1.calm hC, h.p2.p.calm hC, ⟨hA, ⟨Z, nw, hR.calm hC, hL, hq⟩, fun hm => by have := hN rb2 hm; omega, h.p2.inv, h.p2.cnt⟩, fun x hx => ?_, h.chg.trans hC, fun x hx => ?_⟩
  · rcases List.mem_cons.1 hx with rfl | hx
    · exact ⟨fun hm => h.sep _ hm List.mem_cons_self, h.p2.ne⟩
    · have h1 := hN x hx
      exact ⟨fun hm => by have := h.p1.lt x hm; omega, fun hm => by have := h.p2.p.lt x hm; omega⟩
  · rcases List.mem_cons.1 hx with rfl | hx
    · exact h.o2 _ List.mem_cons_self
    · have := hN x hx; omega
theorem ThreeT.next (h : ThreeT w b1 bs1 vs1 rb1 b2 bs2 vs2 s q0 b3 bs3 vs3 rb2 t q w1) (hS : StT b3 bs3 vs3 rb2 t' q' w1 w2) : ∃ vs', ThreeT w b1 bs1 vs1 rb1 b2 bs2 vs2 s q0 b3 bs3 vs' rb2 t' q' w2 := by
  obtain ⟨vs', hP, hC, hB⟩ := hS
  have hs := h.chg.size
  have hB' : ∀ x ∈ rb2 :: blocksT b3 bs3 vs', x ∈ rb2 :: blocksT b3 bs3 vs3 ∨ w1.heap.size ≤ x := fun x hx => by
    rcases List.mem_cons.1 hx with rfl | hx
    · exact .inl List.mem_cons_self
    · exact (hB x hx).imp (fun h => List.mem_cons_of_mem _ h) (fun h => h)
  refine ⟨vs', h.px.kept hC (fun x hx => ⟨fun hm => (h.sep x hx).1 (List.mem_cons_of_mem _ hm), fun e => (h.sep x hx).1 (by rw [e]; exact List.mem_cons_self)⟩), h.po.kept hC (fun x hx => (h.sep x hx).2), hP, fun x hx => ?_, h.chg.trans' hC (fun x hx => .inr (h.own x hx)), fun x hx => ?_⟩
  · rcases hB' x hx with h1 | h1
    · exact h.sep x h1
    · exact ⟨fun hm => by have := h.px.lt x hm; omega, fun hm => by have := h.po.lt x hm; omega⟩
  · rcases hB' x hx with h1 | h1
    · exact h.own x h1
    · omega
end
theorem RAt.loadL {w : World} {b n : Nat} {L : List TE} {Z : List Int} {now : Int} (h : RAt w b n L Z now) : (loadVar 51 ⟨b, 1, none⟩).run Try.prog w = .ok (.agg (flatT L).toArray) w :=
  run_loadVar_mid w b 1 51 (flatT L) _ (fun j v hj => cellB h.head (by
    unfold rcl
    have := (List.getElem?_eq_some_iff.1 hj).1
    rw [List.getElem?_toArray, show 1 + j = j + 1 by omega, List.getElem?_cons_succ, List.getElem?_append_left this]
    exact hj)) Try.underlying51 rfl (by rw [flatT_len, h.len]; kernel_rfl)
theorem quiet_loadO {P : Program} {o : Oper} {a : Act} {C : World → Prop} {K : Act → Prop} (ty : TypeId) (x : Operand) (ho : o.op = .load ty x) (b : Nat) (hx : a.eval x = .pointer (some ⟨b, 1, none⟩)) (A : Value)
    (hl : ∀ w, C w → (loadVar ty ⟨b, 1, none⟩).run P w = .ok A w) (hk : K (a.put o.dst A)) : o.quiet P a C K :=
  ⟨A, fun w hw => by
    unfold Oper.quietAt execOp
    simp only [ho, hx, Instr.loadAt, Instr.sureAddr, Sem.run_bind, Sem.run_pure, Result.andThen_ok, hl w hw]
    exact ⟨rfl, rfl⟩, hk⟩
theorem stepS_n' (s : TS) (kd id c t v : Int) : (s.stepS kd id c t v).n = s.n := TS.stepS_n s kd id c t v

set_option maxRecDepth 100000 in
set_option maxHeartbeats 8000000 in
theorem timersCopies_any (n : Int) (v0 v1 : Value) (R S : List (Nat → Int)) (w : World) (h0 : IsRows 5 w v0 R) (h1 : IsRows 5 w v1 S) :
    Calls Try.prog 6 #[.int .i64 n, v0, v1] w fun e w' => e = .returned (.bool true) ∧ Chg [] w w' := by
  obtain ⟨a0, cap0, rfl⟩ := h0.slice
  obtain ⟨a1, cap1, rfl⟩ := h1.slice
  obtain ⟨N, hN⟩ : ∃ N, N = R.length := ⟨_, rfl⟩
  obtain ⟨M, hM⟩ : ∃ M, M = S.length := ⟨_, rfl⟩
  rw [← hN] at h0 ⊢
  rw [← hM] at h1 ⊢
  have H0 := Lib.hid (And.intro h0 hN)
  have H1 := Lib.hid (And.intro h1 hM)
  clear h0 hN h1 hM
  by_cases hn : 1 ≤ n ∧ n ≤ 8
  · go_enter Try.func6, Try.ntmps6
    go_wp2_with fail
    refine (pnewc n w hn).mono ?_
    rintro e w1 hN0
    obtain ⟨b1, bs1, rfl, hk⟩ := KT.new hn hN0
    have HK := Lib.hid hk
    clear hN0 hk
    have hways : decide ((100 : Int) < (N : Int)) = true ∨ (decide ((100 : Int) < (N : Int)) = false ∧ decide ((100 : Int) < (M : Int)) = true) ∨ (decide ((100 : Int) < (N : Int)) = false ∧ decide ((100 : Int) < (M : Int)) = false) := by
      simp only [decide_eq_true_eq, decide_eq_false_iff_not]
      omega
    rcases hways with d1 | ⟨d1, d2⟩ | ⟨d1, d2⟩
    iterate 2
      · go_wp2_with fail
        refine (knownc w1).mono ?_
        rintro e w' ⟨rfl, hC⟩
        have HC := Lib.hid hC
        clear hC
        go_wp2
        go_ret
        exact ⟨rfl, HK.out.chg.trans HC.out⟩
    · have hN1 : N ≤ 100 := by simp at d1; omega
      have hM1 : M ≤ 100 := by simp at d2; omega
      go_wp2_with fail
      refine (pnewc n w1 hn).mono ?_
      rintro e w2 hN0
      obtain ⟨b2, bs2, rfl, hk2⟩ := KT.new hn hN0
      have HK2 := Lib.hid hk2
      clear hN0 hk2
      go_wp2_with fail
      refine (rnewc n w2 hn).mono ?_
      rintro e w3 ⟨rb1, rfl, hrb1, hR1, hC3⟩
      have HR1 := Lib.hid (And.intro hrb1 (And.intro hR1 hC3))
      clear hrb1 hR1 hC3
      go_wp2_with fail
      refine (rnewc n w3 hn).mono ?_
      rintro e w4 ⟨rb2, rfl, hrb2, hR2, hC4⟩
      have hT0 : TwoT w b1 bs1 (fun _ => vs0) rb1 b2 bs2 (fun _ => vs0) rb2 (ts0 n.toNat) (ts0 n.toNat) 0 w4 := by
        obtain ⟨g1, g2, g3⟩ := HR1.out
        have s1 := HK.out.chg.size
        have s2 := HK2.out.chg.size
        have s3 := g3.size
        have hx : ∀ x ∈ blocksT b1 bs1 (fun _ => vs0), x < w1.heap.size := HK.out.at_.lt
        have ho : ∀ x ∈ blocksT b2 bs2 (fun _ => vs0), x < w2.heap.size := HK2.out.at_.lt
        have hs3 := lt_of_blk g2.head
        refine ⟨⟨((HK.out.at_.calm HK2.out.chg).calm g3).calm hC4, ⟨_, 0, g2.calm hC4, LinkT.new _, Int.le_refl _⟩, fun hm => by have := hx rb1 hm; omega, HK.out.inv, fun _ _ => Int.le_refl _⟩,
          ⟨(HK2.out.at_.calm g3).calm hC4, ⟨_, 0, hR2, LinkT.new _, Int.le_refl _⟩, fun hm => by have := ho rb2 hm; omega, HK2.out.inv, fun _ _ => Int.le_refl _⟩, fun x hx1 hx2 => ?_, ((HK.out.chg.trans HK2.out.chg).trans g3).trans hC4, fun x hx1 => ?_, fun x hx1 => ?_⟩
        · rcases List.mem_cons.1 hx1 with rfl | hx1
          · rcases List.mem_cons.1 hx2 with e | hx2
            · omega
            · have := ho _ hx2; omega
          · have l1 := hx _ hx1
            rcases List.mem_cons.1 hx2 with rfl | hx2
            · omega
            · have := HK2.out.own _ hx2; omega
        · rcases List.mem_cons.1 hx1 with rfl | hx1
          · omega
          · exact HK.out.own x hx1
        · rcases List.mem_cons.1 hx1 with rfl | hx1
          · omega
          · have := HK2.out.own x hx1; omega
      have HT0 := Lib.hid hT0
      clear hT0 hrb2 hR2 hC4
      go_wp2_with fail
      go_loopw [13] (fun z wr => ∃ k : Nat, k ≤ N ∧ z = .int .i64 k ∧ ∃ vs1 vs2 s, s.n = n.toNat ∧ TwoT w b1 bs1 vs1 rb1 b2 bs2 vs2 rb2 s s (128 * k) wr) (fun z _ => N - (intOf z).toNat)
      case atStart => exact ⟨0, by omega, rfl, _, _, _, rfl, HT0.out⟩
      case round =>
        obtain ⟨k, hk, rfl, vs1, vs2, s, hsn, hP⟩ := hrel
        by_cases hlt : k < N
        · obtain ⟨x, hx⟩ : ∃ x, R[k]? = some x := ⟨_, List.getElem?_eq_getElem (by have := H0.out.2; omega)⟩
          obtain ⟨g, o, cp, hg, hd⟩ := (show IsRows 5 w (.slice a0 R.length cap0) R from by rw [← H0.out.2]; exact H0.out.1).addr (fun e => by rw [e] at hx; simp at hx)
          cases hg
          obtain ⟨kd, hkd⟩ : ∃ kd, kd = x 0 := ⟨_, rfl⟩
          obtain ⟨ix, hix⟩ : ∃ id, id = x 1 := ⟨_, rfl⟩
          obtain ⟨c, hc⟩ : ∃ c, c = x 2 := ⟨_, rfl⟩
          obtain ⟨t, ht⟩ : ∃ t, t = x 3 := ⟨_, rfl⟩
          obtain ⟨v, hv⟩ : ∃ v, v = x 4 := ⟨_, rfl⟩
          have hcells : ∀ W, Chg [] w W → W.cell? ⟨g, o + k * 5, none⟩ = some (.int .i64 kd) ∧ W.cell? ⟨g, o + k * 5 + 1, none⟩ = some (.int .i64 ix) ∧ W.cell? ⟨g, o + k * 5 + 2, none⟩ = some (.int .i64 c) ∧ W.cell? ⟨g, o + k * 5 + 3, none⟩ = some (.int .i64 t) ∧ W.cell? ⟨g, o + k * 5 + 4, none⟩ = some (.int .i64 v) := fun W hC => by
            have hrow := IsRows.row hd hC hx
            rw [hkd, hix, hc, ht, hv]
            exact ⟨hrow 0 (by omega), hrow 1 (by omega), hrow 2 (by omega), hrow 3 (by omega), hrow 4 (by omega)⟩
          have HCe := Lib.hid hcells
          obtain ⟨e0, e1, e2, e3, e4⟩ := HCe.out _ hP.chg
          have HX := Lib.hid (And.intro hP hsn)
          clear hx hd hP hsn hcells hkd hix hc ht hv
          go_wp2_with fail
          refine (doesc b1 bs1 vs1 rb1 s kd ix c t v (128 * k) _ HX.out.1.p1 (by omega)).mono ?_
          rintro e w5 ⟨rfl, hS5⟩
          obtain ⟨vs1', hP5⟩ := HX.out.1.next hS5 (by omega)
          clear e0 e1 e2 e3 e4 hS5
          obtain ⟨e0, e1, e2, e3, e4⟩ := HCe.out _ hP5.chg
          have H5 := Lib.hid hP5.swap
          clear hP5
          go_wp2_with fail
          refine (doesc b2 bs2 vs2 rb2 s kd ix c t v (128 * k + 64) _ H5.out.p1 (by omega)).mono ?_
          rintro e w6 ⟨rfl, hS6⟩
          obtain ⟨vs2', hP6⟩ := H5.out.next (hS6) (by omega)
          have H6 := Lib.hid hP6.swap
          clear hP6 hS6
          go_wp2_with fail
          go_roundw
          case measure => simp [intOf]; omega
          exact ⟨k + 1, by omega, by simp [go_sem], vs1', vs2', _, by rw [TS.stepS_n]; exact HX.out.2, (show (128 : Int) * ((k + 1 : Nat) : Int) = 128 * (k : Int) + 64 + 64 from by omega) ▸ H6.out⟩
        · obtain ⟨q0, hq0⟩ : ∃ q0 : Int, q0 = 128 * (k : Int) := ⟨_, rfl⟩
          have hq0b : 0 ≤ q0 ∧ q0 ≤ 12800 := by omega
          rw [← hq0] at hP
          have HX := Lib.hid (And.intro hP hq0b)
          clear hP hsn hq0 hq0b
          go_wp2_with fail
          refine (pcopyc b1 bs1 vs1 s _ HX.out.1.p1.p).mono ?_
          rintro e w5 ⟨b3, bs3, vs3, rfl, hA3, hB3, hC3⟩
          have H3 := Lib.hid (HX.out.1.copied hA3 hB3 hC3)
          clear hA3 hB3 hC3
          go_wp2_with fail
          refine (psameeq b1 b3 bs1 bs3 vs1 vs3 s _ H3.out.px.p H3.out.pc.p).mono ?_
          rintro e w6 ⟨rfl, hC6⟩
          have H6 := Lib.hid (H3.out.calm hC6)
          clear hC6
          go_wp2_with fail
          refine (psameeq b1 b2 bs1 bs2 vs1 vs2 s _ H6.out.px.p H6.out.po).mono ?_
          rintro e w7 ⟨rfl, hC7⟩
          have H7 := Lib.hid (H6.out.calm hC7)
          clear hC7
          go_wp2_with fail
          go_loopw [15] (fun z wx => ∃ m : Nat, m ≤ M ∧ z = .int .i64 m ∧ ∃ vs4 t, t.n = s.n ∧ ThreeT w b1 bs1 vs1 rb1 b2 bs2 vs2 s q0 b3 bs3 vs4 rb2 t (q0 + 64 * m) wx) (fun z _ => M - (intOf z).toNat)
          case atStart => exact ⟨0, by omega, rfl, _, _, rfl, ⟨H7.out.px, H7.out.po, H7.out.pc.more (by omega), H7.out.sep, H7.out.chg, H7.out.own⟩⟩
          case round =>
            obtain ⟨m, hm, rfl, vs4, t, htn, hQ⟩ := hrel
            by_cases hlt2 : m < M
            · obtain ⟨x, hx⟩ : ∃ x, S[m]? = some x := ⟨_, List.getElem?_eq_getElem (by have := H1.out.2; omega)⟩
              obtain ⟨g, o, cp, hg, hd⟩ := (show IsRows 5 w (.slice a1 S.length cap1) S from by rw [← H1.out.2]; exact H1.out.1).addr (fun e => by rw [e] at hx; simp at hx)
              cases hg
              have hrow := IsRows.row hd hQ.chg hx
              have e0 := hrow 0 (by omega)
              have e1 := hrow 1 (by omega)
              have e2 := hrow 2 (by omega)
              have e3 := hrow 3 (by omega)
              have e4 := hrow 4 (by omega)
              rw [Nat.add_zero] at e0
              obtain ⟨kd, hkd⟩ : ∃ kd, kd = x 0 := ⟨_, rfl⟩
              obtain ⟨ix, hix⟩ : ∃ id, id = x 1 := ⟨_, rfl⟩
              obtain ⟨c, hc⟩ : ∃ c, c = x 2 := ⟨_, rfl⟩
              obtain ⟨tt, ht⟩ : ∃ t, t = x 3 := ⟨_, rfl⟩
              obtain ⟨v, hv⟩ : ∃ v, v = x 4 := ⟨_, rfl⟩
              rw [← hkd] at e0
              rw [← hix] at e1
              rw [← hc] at e2
              rw [← ht] at e3
              rw [← hv] at e4
              have HQ := Lib.hid (And.intro hQ htn)
              clear hx hd hQ htn hrow hkd hix hc ht hv
              go_wp2_with fail
              refine (doesc b3 bs3 vs4 rb2 t kd ix c tt v (q0 + 64 * m) _ HQ.out.1.pc (by have := HX.out.2; omega)).mono ?_
              rintro e w8 ⟨rfl, hS8⟩
              obtain ⟨vs5, hP8⟩ := HQ.out.1.next hS8
              have H8 := Lib.hid hP8
              clear hP8 hS8
              go_wp2_with fail
              go_roundw
              case measure => simp [intOf]; omega
              exact ⟨m + 1, by omega, by simp [go_sem], vs5, _, by rw [TS.stepS_n]; exact HQ.out.2, (show q0 + 64 * ((m + 1 : Nat) : Int) = q0 + 64 * (m : Int) + 64 from by omega) ▸ H8.out⟩
            · have HQ := Lib.hid (And.intro hQ htn)
              clear hQ htn
              obtain ⟨Za, na, hRa, _⟩ := HQ.out.1.px.r
              obtain ⟨Zb, nb, hRb, _⟩ := HQ.out.1.pc.r
              go_upto_region 21 with fail
              have l1 := fun (d : Nat) (os : Array Obj) => (hRa.calm (chg_regrown wr d os)).loadL
              have l2 := fun (d : Nat) (os : Array Obj) => (hRb.calm (chg_regrown wr d os)).loadL
              have hE := fun (W : World) => neqL hRa.len hRb.len W
              have k0 : s.L ≠ t.L → ∀ (d : Nat) (os : Array Obj), Calls Try.prog 22 #[.pointer (some ⟨b3, 0, none⟩), .pointer (some ⟨b1, 0, none⟩)] (grow (redrawn wr d) os) fun e w'' => e = .returned (.bool false) ∧ ∃ p : Regrown, w'' = grow (redrawn wr p.d) p.os := fun hne d os => by
                refine Calls.regrown_of ((psamene b3 b1 bs3 bs1 vs4 vs1 t s _ (HQ.out.1.pc.p.calm (chg_regrown wr d os)) (HQ.out.1.px.p.calm (chg_regrown wr d os)) HQ.out.2 (fun e => hne e.symm)).mono ?_)
                rintro e w' ⟨rfl, hC⟩
                exact ⟨rfl, hC.below (Nat.le_refl _)⟩
              have hfin := HQ.out.1
              have hiff := allEqb_iff hRa.len hRb.len
              by_cases hLL : s.L = t.L
              · rw [hiff.2 hLL] at hE
                obtain ⟨A1, hA1⟩ : ∃ A1, A1 = (flatT s.L).toArray := ⟨_, rfl⟩
                obtain ⟨A2, hA2⟩ : ∃ A2, A2 = (flatT t.L).toArray := ⟨_, rfl⟩
                simp only [← hA1] at l1 hE
                simp only [← hA2] at l2 hE
                clear hA1 hA2 hRa hRb k0 hiff hfin hLL
                refine wp_region_quiet_below (by kernel_rfl) (by kernel_rfl) ?_
                repeat (first
                  | (go_big_quiet_want; refine quiet_loadO 51 _ rfl rb1 rfl _ (fun W hW => by obtain ⟨p, rfl⟩ := hW; exact l1 p.d p.os) ?_; go_simp; go_big_quiet_on)
                  | (go_big_quiet_want; refine quiet_loadO 51 _ rfl rb2 rfl _ (fun W hW => by obtain ⟨p, rfl⟩ := hW; exact l2 p.d p.os) ?_; go_simp; go_big_quiet_on)
                  | go_big_quiet_step (fail))
                refine wpQuiet_nil ?_
                intro _ hw'
                obtain ⟨⟨dq, osq⟩, hw''⟩ := hw'
                subst hw''
                obtain ⟨W9, hW9⟩ : ∃ W9, W9 = grow (redrawn wr dq) osq := ⟨_, rfl⟩
                rw [← hW9]
                have H9 := Lib.hid (HQ.out.1.calm (w2 := W9) (by rw [hW9]; exact chg_regrown _ _ _))
                clear hW9 l1 l2 hE
                go_wp2_with fail
                refine (psameeq b1 b2 bs1 bs2 vs1 vs2 s _ H9.out.px.p H9.out.po).mono ?_
                rintro e w10 ⟨rfl, hC10⟩
                have H10 := Lib.hid (H9.out.calm hC10)
                clear hC10
                go_wp2_with fail
                refine (standsc b1 bs1 vs1 rb1 s q0 _ H10.out.px).mono ?_
                rintro e w11 ⟨rfl, hC11⟩
                have H11 := Lib.hid (H10.out.calm hC11)
                clear hC11
                go_wp2_with fail
                refine (knownc _).mono ?_
                rintro e w12 ⟨rfl, hC12⟩
                have H12 := Lib.hid (H11.out.chg.trans hC12)
                clear hC12
                go_wp2
                go_ret
                exact ⟨rfl, H12.out⟩
              · have hf : allEqb s.L t.L (List.range 8) = false := by
                  cases e : allEqb s.L t.L (List.range 8) with
                  | false => rfl
                  | true => exact absurd (hiff.1 e) hLL
                rw [hf] at hE
                have k1 := Lib.hid (k0 hLL)
                obtain ⟨A1, hA1⟩ : ∃ A1, A1 = (flatT s.L).toArray := ⟨_, rfl⟩
                obtain ⟨A2, hA2⟩ : ∃ A2, A2 = (flatT t.L).toArray := ⟨_, rfl⟩
                simp only [← hA1] at l1 hE
                simp only [← hA2] at l2 hE
                clear hA1 hA2 hRa hRb k0 hiff hfin hLL hf
                refine wp_region_quiet_below (by kernel_rfl) (by kernel_rfl) ?_
                repeat (first
                  | (go_big_quiet_want; refine quiet_loadO 51 _ rfl rb1 rfl _ (fun W hW => by obtain ⟨p, rfl⟩ := hW; exact l1 p.d p.os) ?_; go_simp; go_big_quiet_on)
                  | (go_big_quiet_want; refine quiet_loadO 51 _ rfl rb2 rfl _ (fun W hW => by obtain ⟨p, rfl⟩ := hW; exact l2 p.d p.os) ?_; go_simp; go_big_quiet_on)
                  | go_big_quiet_step (exact k1.out _ _))
                refine wpQuiet_nil ?_
                intro _ hw'
                obtain ⟨⟨dq, osq⟩, hw''⟩ := hw'
                subst hw''
                obtain ⟨W9, hW9⟩ : ∃ W9, W9 = grow (redrawn wr dq) osq := ⟨_, rfl⟩
                rw [← hW9]
                have H9 := Lib.hid (HQ.out.1.calm (w2 := W9) (by rw [hW9]; exact chg_regrown _ _ _))
                clear hW9 l1 l2 hE
                go_wp2_with fail
                refine (psameeq b1 b2 bs1 bs2 vs1 vs2 s _ H9.out.px.p H9.out.po).mono ?_
                rintro e w10 ⟨rfl, hC10⟩
                have H10 := Lib.hid (H9.out.calm hC10)
                clear hC10
                go_wp2_with fail
                refine (standsc b1 bs1 vs1 rb1 s q0 _ H10.out.px).mono ?_
                rintro e w11 ⟨rfl, hC11⟩
                have H11 := Lib.hid (H10.out.calm hC11)
                clear hC11
                go_wp2_with fail
                refine (knownc _).mono ?_
                rintro e w12 ⟨rfl, hC12⟩
                have H12 := Lib.hid (H11.out.chg.trans hC12)
                clear hC12
                go_wp2
                go_ret
                exact ⟨rfl, H12.out⟩
  · go_enter Try.func6, Try.ntmps6
    go_wp2_with fail
    refine (pnewbad n w hn).mono ?_
    rintro e w' ⟨rfl, rfl⟩
    go_wp2_with fail
    refine (knownc w').mono ?_
    rintro e w2 ⟨rfl, hC⟩
    have HC := Lib.hid hC
    clear hC
    go_wp2
    go_ret
    exact ⟨rfl, HC.out⟩

end Go.Proofs.Ytonahpilmchnkaa
