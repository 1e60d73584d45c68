
/- metronomelaw19.TimersStop: the walk. -/
import Derived.Test.YtonahpilmchnkaaGh
import Derived.Test.YtonahpilmchnkaaGi
namespace Go.Proofs.Ytonahpilmchnkaa
open Go.RowKit

theorem TS.stepS_n (s : TS) (kd id c t v : Int) : (s.stepS kd id c t v).n = s.n := by
  unfold TS.stepS
  split
  · exact TS.armS_n _ _ _ _ _
  · split
    · unfold TS.stopS
      split
      · exact TS.rests_n _ _
      · rfl
    · split
      · unfold TS.dueS
        split
        · exact dueF_n _ _ _ _
        · rfl
      · split
        · unfold TS.takenS
          split
          · split <;> rfl
          · rfl
        · split
          · unfold TS.clearS
            split <;> rfl
          · rfl

theorem stopS_n (s : TS) (id : Int) : (s.stopS id).n = s.n := by
  unfold TS.stopS
  split
  · exact TS.rests_n _ _
  · rfl
theorem clearS_n (s : TS) (id : Int) : (s.clearS id).n = s.n := by
  unfold TS.clearS
  split <;> rfl
theorem TS.dueS_n (s : TS) (c t : Int) : (s.dueS c t).n = s.n := by
  unfold TS.dueS
  split
  · exact dueF_n _ _ _ _
  · rfl
/-- Behind the stop: the program's timers at s, the document's at t. -/
structure StopP (w : World) (b : Nat) (bs : Int → Nat) (rb i : Nat) (q : Int) (vs : Int → List Value) (s t : TS) (w1 : World) : Prop where
  p : TAt w1 b bs vs s
  inv : TInv s
  tnv : TInv t
  off : OffT i t s
  cnt : ∀ k, isC k → (s.W k).c ≤ q
  r : ∃ Z nw, RAt w1 rb t.n t.L Z nw ∧ LinkT t Z nw ∧ nw ≤ q
  ne : rb ∉ blocksT b bs vs
  chg : Chg [] w w1
  own : ∀ x ∈ blocksT b bs vs, w.heap.size ≤ x
  ro : w.heap.size ≤ rb
theorem StopP.calm {w : World} {b : Nat} {bs : Int → Nat} {rb i : Nat} {q : Int} {vs : Int → List Value} {s t : TS} {w1 w2 : World} (h : StopP w b bs rb i q vs s t w1) (hC : Chg [] w1 w2) : StopP w b bs rb i q vs s t w2 := by
  obtain ⟨Z, nw, hR, hL, hq⟩ := h.r
  exact ⟨h.p.calm hC, h.inv, h.tnv, h.off, h.cnt, ⟨Z, nw, hR.calm hC, hL, hq⟩, h.ne, h.chg.trans hC, h.own, h.ro⟩
theorem PlT.stopped {w : World} {b : Nat} {bs : Int → Nat} {vs : Int → List Value} {rb i : Nat} {s s' : TS} {q : Int} {w1 w2 : World} (h : PlT w b bs vs rb s q w1) (hN : NextT b bs vs s' w1 w2) (ho : OffT i s s') (hI : TInv s') (hc : ∀ k, isC k → (s'.W k).c ≤ q) : ∃ vs', StopP w b bs rb i q vs' s' s w2 := by
  obtain ⟨vs', hT, hC, hB⟩ := hN
  obtain ⟨Z, nw, hR, hL, hq⟩ := h.pb.r
  have hrb := lt_of_blk hR.head
  have hs := h.chg.size
  refine ⟨vs', hT, hI, h.pb.inv, ho, hc, ⟨Z, nw, hR.kept hC h.pb.ne, hL, hq⟩, fun hm => ?_, h.chg.trans' hC (fun x hx => .inr (h.own x hx)), fun x hx => ?_, h.ro⟩
  · rcases hB rb hm with h1 | h1
    · exact h.pb.ne h1
    · omega
  · rcases hB x hx with h1 | h1
    · exact h.own x h1
    · omega
/-- Both due. -/
theorem StopP.due {w : World} {b : Nat} {bs : Int → Nat} {rb i : Nat} {q : Int} {vs vs' : Int → List Value} {s t : TS} {w1 w2 w3 : World} (h : StopP w b bs rb i q vs s t w1) (c now : Int) (hT : TAt w2 b bs vs' (s.dueS c now)) (hC : Chg (blocksT b bs vs) w1 w2) (hB : ∀ x ∈ blocksT b bs vs', x ∈ blocksT b bs vs ∨ w1.heap.size ≤ x)
    {Z : List Int} {nw : Int} (hR : RAt w3 rb (t.dueS c now).n (t.dueS c now).L Z nw) (hL : LinkT (t.dueS c now) Z nw) (hq : nw ≤ q + 64) (hC3 : Chg [rb] w2 w3) : StopP w b bs rb i (q + 64) vs' (s.dueS c now) (t.dueS c now) w3 := by
  obtain ⟨Z0, n0, hR0, _⟩ := h.r
  have hrb := lt_of_blk hR0.head
  have hs := h.chg.size
  have hne : rb ∉ blocksT b bs vs' := fun hm => by
    rcases hB rb hm with h1 | h1
    · exact h.ne h1
    · omega
  refine ⟨hT.kept hC3 (fun x hx => by simp at hx; subst hx; exact hne), h.inv.dueS _ _, h.tnv.dueS _ _, (h.off.due h.tnv c now).2, fun k hk => by have := dueS_c h.inv c now k; have := h.cnt k hk; omega, ⟨Z, nw, hR, hL, hq⟩, hne,
    (h.chg.trans' hC (fun x hx => .inr (h.own x hx))).trans' hC3 (fun x hx => .inr (by simp at hx; subst hx; exact h.ro)), fun x hx => ?_, h.ro⟩
  rcases hB x hx with h1 | h1
  · exact h.own x h1
  · omega

set_option maxRecDepth 100000 in
set_option maxHeartbeats 8000000 in
theorem timersStop_any (n : Int) (v0 : Value) (id : Int) (cl : Bool) (later : Int) (R : List (Nat → Int)) (w : World) (h0 : IsRows 5 w v0 R) :
    Calls Try.prog 4 #[.int .i64 n, v0, .int .i64 id, .bool cl, .int .i64 later] w fun e w' => e = .returned (.bool true) ∧ Chg [] w w' := by
  obtain ⟨i0, hi, hzi0, hzi1, hzi2⟩ := info_parts infoInt
  obtain ⟨a0, cap0, rfl⟩ := h0.slice
  obtain ⟨N, hN⟩ : ∃ N, N = R.length := ⟨_, rfl⟩
  rw [← hN] at h0 ⊢
  have H0 := Lib.hid (And.intro h0 hN)
  clear h0 hN
  by_cases hn : 1 ≤ n ∧ n ≤ 8
  · go_enter Try.func4, Try.ntmps4
    go_wp2_with fail
    refine (pnewc n w hn).mono ?_
    rintro e w1 hN0
    obtain ⟨b, bs, rfl, hk⟩ := KT.new hn hN0
    have HK := Lib.hid hk
    clear hN0 hk
    go_wp2_with fail
    refine (rnewc n w1 hn).mono ?_
    rintro e w2 ⟨rb, rfl, hrb, hR, hC⟩
    have HP0 := Lib.hid (PlT.new HK.out hrb hR hC)
    clear hrb hR hC
    have hways : decide ((100 : Int) < (N : Int)) = true ∨ (decide ((100 : Int) < (N : Int)) = false ∧ decide (id < 0) = true) ∨ (decide ((100 : Int) < (N : Int)) = false ∧ decide (id < 0) = false ∧ decide (n ≤ id) = true) ∨ (decide ((100 : Int) < (N : Int)) = false ∧ decide (id < 0) = false ∧ decide (n ≤ id) = false) := by
      simp only [decide_eq_true_eq, decide_eq_false_iff_not]
      omega
    rcases hways with d1 | ⟨d1, d2⟩ | ⟨d1, d2, d3⟩ | ⟨d1, d2, d3⟩
    iterate 3
      · go_wp2_with fail
        refine (knownc w2).mono ?_
        rintro e w' ⟨rfl, hC⟩
        have HC := Lib.hid hC
        clear hC
        go_wp2
        go_ret
        exact ⟨rfl, HP0.out.chg.trans HC.out⟩
    · have hN1 : N ≤ 100 := by simp at d1; omega
      have hid : 0 ≤ id ∧ id < n := by simp at d2 d3; omega
      obtain ⟨i, rfl⟩ := Int.eq_ofNat_of_zero_le hid.1
      go_wp2_with fail
      go_loopw [14] (fun z wr => ∃ k : Nat, k ≤ N ∧ z = .int .i64 k ∧ ∃ vs s, s.n = n.toNat ∧ PlT w b bs vs rb s (64 * k) wr) (fun z _ => N - (intOf z).toNat)
      case atStart => exact ⟨0, by omega, rfl, _, _, rfl, HP0.out⟩
      case round =>
        obtain ⟨k, hk, rfl, vs, s, hsn, hP⟩ := hrel
        by_cases hlt : k < N
        · obtain ⟨x, hx⟩ : ∃ x, R[k]? = some x := ⟨_, List.getElem?_eq_getElem (by have := H0.out.2; omega)⟩
          obtain ⟨g, o, cp, hg, hd⟩ := (show IsRows 5 w (.slice a0 R.length cap0) R from by rw [← H0.out.2]; exact H0.out.1).addr (fun e => by rw [e] at hx; simp at hx)
          cases hg
          have hrow := IsRows.row hd hP.chg hx
          have e0 := hrow 0 (by omega)
          have e1 := hrow 1 (by omega)
          have e2 := hrow 2 (by omega)
          have e3 := hrow 3 (by omega)
          have e4 := hrow 4 (by omega)
          rw [Nat.add_zero] at e0
          obtain ⟨kd, hkd⟩ : ∃ kd, kd = x 0 := ⟨_, rfl⟩
          obtain ⟨ix, hix⟩ : ∃ id, id = x 1 := ⟨_, rfl⟩
          obtain ⟨c, hc⟩ : ∃ c, c = x 2 := ⟨_, rfl⟩
          obtain ⟨t, ht⟩ : ∃ t, t = x 3 := ⟨_, rfl⟩
          obtain ⟨v, hv⟩ : ∃ v, v = x 4 := ⟨_, rfl⟩
          rw [← hkd] at e0
          rw [← hix] at e1
          rw [← hc] at e2
          rw [← ht] at e3
          rw [← hv] at e4
          have HX := Lib.hid (And.intro hP hsn)
          clear hx hd hP hrow hkd hix hc ht hv hsn
          go_wp2_with fail
          refine (doesc b bs vs rb s kd ix c t v (64 * k) _ HX.out.1.pb (by omega)).mono ?_
          rintro e w3 ⟨rfl, hS⟩
          obtain ⟨vs2, hP2⟩ := HX.out.1.next hS
          have H2 := Lib.hid hP2
          clear hP2 hS
          go_wp2_with fail
          go_roundw
          case measure => simp [intOf]; omega
          exact ⟨k + 1, by omega, by simp [go_sem], vs2, _, by rw [TS.stepS_n]; exact HX.out.2, (show (64 : Int) * ((k + 1 : Nat) : Int) = 64 * (k : Int) + 64 from by omega) ▸ H2.out⟩
        · obtain rfl : N = k := by omega
          have hin : i < s.n := by rw [hsn]; omega
          have hon : ∀ (i : Nat) e, s.L[i]? = some e → e.armed = true → isC e.clock := fun i e he ha => (hP.pb.inv.on i e he ha).2.1
          obtain ⟨q0, hq0⟩ : ∃ q0 : Int, q0 = 64 * (N : Int) := ⟨_, rfl⟩
          rw [← hq0] at hP
          have hq0b : 0 ≤ q0 ∧ q0 ≤ 6400 := by omega
          have HX := Lib.hid (And.intro hP (And.intro hin (And.intro hon hq0b)))
          clear hP hsn hin hon hq0b hq0
          cases cl
          · go_wp2_with fail
            refine (pstopc b bs vs s i wr HX.out.1.pb.p HX.out.2.2.1).mono ?_
            rintro e w3 ⟨rfl, hNx⟩
            obtain ⟨vs3, hSt⟩ := HX.out.1.stopped (i := i) hNx (OffT.stop HX.out.1.pb.inv HX.out.2.1) (HX.out.1.pb.inv.stopS _) (fun q hq => by rw [stopS_c]; exact HX.out.1.pb.cnt q hq)
            have HSt := Lib.hid hSt
            clear hNx hSt
            go_wp2_with fail
            go_loopw [15] (fun z wx => ∃ (k2 : Nat) (vs4 : Int → List Value) (s4 t4 : TS), k2 ≤ 2 ∧ z = .int .i64 k2 ∧ s4.n = s.n ∧ StopP w b bs rb i (q0 + 64 * k2) vs4 s4 t4 wx) (fun z _ => 2 - (intOf z).toNat)
            case atStart => exact ⟨0, _, _, _, by omega, rfl, by first | exact stopS_n _ _ | exact clearS_n _ _, (show q0 + 64 * ((0 : Nat) : Int) = q0 from by omega) ▸ HSt.out⟩
            case round =>
              obtain ⟨k2, vs4, s4, t4, hk2, rfl, hsn4, hQ⟩ := hrel
              by_cases hlt2 : k2 < 2
              · obtain ⟨Z, nw, hR, hL, hq⟩ := hQ.r
                have HPd := Lib.hid (pduec b bs vs4 s4 k2 later wr hQ.p hQ.inv (fun q hq => by have := hQ.cnt q hq; have := HX.out.2.2.2.1; have := HX.out.2.2.2.2; omega))
                have HRd := Lib.hid (fun (W : World) (hW : RAt W rb t4.n t4.L Z nw) => rduec rb t4 Z nw k2 later W hW hQ.tnv hL (by have := HX.out.2.2.2.1; have := HX.out.2.2.2.2; omega))
                have hl64 := dueL_len hQ.tnv k2 later
                have hld := hQ.off.due hQ.tnv k2 later
                have hrbl := lt_of_blk hR.head
                have HQ := Lib.hid (And.intro hQ (And.intro hR (And.intro hld (And.intro hl64 (And.intro hrbl (And.intro hq hsn4))))))
                clear hQ hR hld hl64 hrbl hL hq hsn4
                go_wp2_with fail
                refine HPd.out.mono ?_
                rintro e w5 ⟨v5, vs5, rfl, ho5, hA5, hC5, hB5, _⟩
                obtain ⟨a5, cap5, rfl, hI5⟩ := IntsAt.of_own ho5 rfl
                have H5 := Lib.hid (And.intro ho5 (And.intro hA5 (And.intro hC5 (And.intro hB5 (And.intro hI5 (HQ.out.2.1.kept hC5 HQ.out.1.ne))))))
                clear ho5 hA5 hC5 hB5 hI5
                go_wp2_with fail
                refine (HRd.out w5 H5.out.2.2.2.2.2).mono ?_
                rintro e w6 ⟨v6, rfl, ho6, ⟨Z6, nw6, hR6, hL6, hq6⟩, hC6⟩
                obtain ⟨a6, cap6, rfl, hI6⟩ := IntsAt.of_own ho6 rfl
                have hSt6 := HQ.out.1.due k2 later H5.out.2.1 H5.out.2.2.1 H5.out.2.2.2.1 hR6 hL6 (by have := HQ.out.2.2.2.2.2.1; omega) hC6
                have hI5' := H5.out.2.2.2.2.1.kept hC6 (fun g e hm => by subst e; have h1 := own_ge H5.out.1 g (by simp [Value.ownBlock]); have h2 := HQ.out.2.2.2.2.1; simp at hm; omega)
                obtain ⟨l, hl⟩ : ∃ l, l = t4.dueL k2 later := ⟨_, rfl⟩
                rw [← hl] at hI6 ⊢
                obtain ⟨M, hM⟩ : ∃ M, M = l.length := ⟨_, rfl⟩
                rw [← hM]
                have hM64 : M ≤ 64 := by rw [hM, hl]; exact HQ.out.2.2.2.1
                have H6 := Lib.hid (And.intro hSt6 (And.intro hI5' (And.intro hI6 (And.intro hM (And.intro hl hM64)))))
                clear hSt6 hI5' hI6 hM hl hR6 hL6 hq6 hC6 ho6
                go_wp2_with fail
                go_loopw [18, 19] (fun v j wx => ∃ m : Nat, m ≤ M ∧ j = .int .i64 m ∧ wx.ownsRow w6.heap.size 3 1 v ((l.take m).filter (fun x => !(x == (i : Int)))).length (((l.take m).filter (fun x => !(x == (i : Int)))).map (Value.int .i64)) ∧ Chg [] w6 wx) (fun _ j _ => M - (intOf j).toNat)
                case atStart => exact ⟨0, by omega, rfl, World.ownsRow_nil .., Chg.refl _ _⟩
                case round =>
                  obtain ⟨m, hm, rfl, hown, hC⟩ := hrel
                  by_cases hlt3 : m < M
                  · obtain ⟨x, hx⟩ : ∃ x, l[m]? = some x := ⟨_, List.getElem?_eq_getElem (by have := H6.out.2.2.2.1; omega)⟩
                    obtain ⟨g6, rfl, hd6⟩ := (H6.out.2.2.1.calm hC).resolve_left (fun e => by subst e; simp at hx)
                    have e0 := hd6 m x hx
                    have hstep : l.take (m + 1) = l.take m ++ [x] := by rw [List.take_add_one, hx]; rfl
                    by_cases hxi : x = (i : Int)
                    · have e1 : (x != (i : Int)) = false := by simpa using hxi
                      have hsame : (l.take (m + 1)).filter (fun x => !(x == (i : Int))) = (l.take m).filter (fun x => !(x == (i : Int))) := by
                        rw [hstep, List.filter_append, List.filter_cons_of_neg (by simpa using hxi)]; simp
                      have HY := Lib.hid (And.intro hown (And.intro hC hsame))
                      clear hown hC hsame hx hd6 hstep
                      go_wp2_with fail
                      exact ⟨⟨m + 1, by omega, rfl, by rw [HY.out.2.2]; exact HY.out.1, HY.out.2.1⟩, by simp only [intOf]; omega⟩
                    · have e1 : (x != (i : Int)) = true := by simpa using hxi
                      have hsame : (l.take (m + 1)).filter (fun x => !(x == (i : Int))) = (l.take m).filter (fun x => !(x == (i : Int))) ++ [x] := by
                        rw [hstep, List.filter_append, List.filter_cons_of_pos (by simpa using hxi)]; rfl
                      have hfl : ((l.take m).filter (fun x => !(x == (i : Int)))).length ≤ 64 := by
                        have h1 := List.length_filter_le (fun x => !(x == (i : Int))) (l.take m)
                        rw [List.length_take] at h1
                        have := H6.out.2.2.2.2.2
                        omega
                      obtain ⟨fl, hfle⟩ : ∃ fl, fl = (l.take m).filter (fun x => !(x == (i : Int))) := ⟨_, rfl⟩
                      rw [← hfle] at hown hsame hfl
                      have hd1 : fl.length + 1 ≤ maxLen := by unfold maxLen; omega
                      have hd2 : (fl.length + 1) * 8 ≤ 140737488355328 := by omega
                      have HY := Lib.hid (And.intro hown (And.intro hC (And.intro hsame (And.intro hd1 (And.intro hd2 hC.size)))))
                      clear hown hC hsame hx hd6 hstep hd1 hd2 hfle hfl
                      repeat ((fail_if_success at_builtin); (first | go_values | go_skip | go_guarded | go_step))
                      refine wpList_push rfl _ _ 29 rfl w6.heap.size 3 i0 (.int .i64 0) 1 8 Try.underlying29 hi hzi0 hzi1 hzi2 rfl (by decide) u18 fl.length _ rfl HY.out.1 [.int .i64 x] rfl rfl (by simp [Value.oneCell']) HY.out.2.2.2.1 HY.out.2.2.2.2.1 HY.out.2.2.2.2.2 ?_
                      intro v' w7 hown7 hC7 hloc hnn
                      have hC67 : Chg [] w6 w7 := HY.out.2.1.trans' hC7 (fun x hx => .inr (own_ge HY.out.1 x hx))
                      have H7 := Lib.hid (And.intro hown7 hC67)
                      clear hown7 hC7 hloc hnn hC67
                      repeat (first | go_values | go_skip | go_guarded | go_step)
                      exact ⟨⟨m + 1, by omega, rfl, by rw [HY.out.2.2.1, List.length_append, List.map_append]; exact H7.out.1, H7.out.2⟩, by simp only [intOf]; omega⟩
                  · have hmM : l.take m = l := List.take_of_length_le (by have := H6.out.2.2.2.1; omega)
                    rw [hmM] at hown
                    obtain ⟨a7, cap7, rfl, hI7⟩ := IntsAt.of_own hown rfl
                    have hfe : s4.dueL k2 later = l.filter (fun x => !(x == (i : Int))) := by rw [H6.out.2.2.2.2.1]; exact HQ.out.2.2.1.1
                    have hS := lsamec a5 a7 cap5 cap7 (s4.dueL k2 later) (l.filter (fun x => !(x == (i : Int)))) wr (H6.out.2.1.calm hC) hI7 (by have := dueL_len HQ.out.1.inv k2 later; omega)
                    rw [show decide (s4.dueL k2 later = l.filter (fun x => !(x == (i : Int)))) = true from decide_eq_true hfe] at hS
                    have HS := Lib.hid (And.intro hS hC)
                    clear hS hown hI7 hC hmM hfe
                    go_wp2_with fail
                    refine HS.out.1.mono ?_
                    rintro e w8 ⟨rfl, hC8⟩
                    have H8 := Lib.hid ((H6.out.1.calm HS.out.2).calm hC8)
                    clear hC8
                    go_wp2_with fail
                    exact ⟨⟨k2 + 1, _, _, _, by omega, rfl, by rw [TS.dueS_n]; exact HQ.out.2.2.2.2.2.2, (show q0 + 64 * ((k2 + 1 : Nat) : Int) = q0 + 64 * (k2 : Int) + 64 from by omega) ▸ H8.out⟩, by simp only [intOf]; omega⟩
              · have hin4 : inT s4 (i : Int) := ⟨by omega, by rw [hsn4]; have := HX.out.2.1; omega⟩
                obtain ⟨e4, he4⟩ : ∃ e, s4.L[i]? = some e := ⟨_, List.getElem?_eq_getElem (by have := hQ.inv.len; have := hQ.inv.n8; have := hin4.2; omega)⟩
                have hav : s4.atV (i : Int) = .tuple #[e4.val, .bool true] := by unfold TS.atV; rw [if_pos hin4, Int.toNat_natCast, he4]
                have hoff := hQ.off.off e4 he4
                have HA := Lib.hid (patc b bs vs4 s4 i wr hQ.p)
                have HQ := Lib.hid hQ
                clear hQ hin4 he4 hsn4
                go_wp2_with fail
                refine HA.out.mono ?_
                rintro e w9 ⟨rfl, hC9⟩
                have H9 := Lib.hid (HQ.out.chg.trans hC9)
                clear hC9
                rw [hav]
                unfold TE.val TE.cells
                rw [hoff]
                go_wp2_with fail
                refine (knownc _).mono ?_
                rintro e w10 ⟨rfl, hC10⟩
                have H10 := Lib.hid ((H9.out.alloc _).trans hC10)
                clear hC10
                go_wp2
                go_ret
                exact ⟨rfl, H10.out⟩
          · go_wp2_with fail
            refine (pclearc b bs vs s i wr HX.out.1.pb.p HX.out.2.2.1).mono ?_
            rintro e w3 ⟨rfl, hNx⟩
            obtain ⟨vs3, hSt⟩ := HX.out.1.stopped (i := i) hNx (OffT.clear HX.out.1.pb.inv HX.out.2.1) (HX.out.1.pb.inv.clearS _) (fun q hq => by rw [clearS_c]; exact HX.out.1.pb.cnt q hq)
            have HSt := Lib.hid hSt
            clear hNx hSt
            go_wp2_with fail
            go_loopw [15] (fun z wx => ∃ (k2 : Nat) (vs4 : Int → List Value) (s4 t4 : TS), k2 ≤ 2 ∧ z = .int .i64 k2 ∧ s4.n = s.n ∧ StopP w b bs rb i (q0 + 64 * k2) vs4 s4 t4 wx) (fun z _ => 2 - (intOf z).toNat)
            case atStart => exact ⟨0, _, _, _, by omega, rfl, by first | exact stopS_n _ _ | exact clearS_n _ _, (show q0 + 64 * ((0 : Nat) : Int) = q0 from by omega) ▸ HSt.out⟩
            case round =>
              obtain ⟨k2, vs4, s4, t4, hk2, rfl, hsn4, hQ⟩ := hrel
              by_cases hlt2 : k2 < 2
              · obtain ⟨Z, nw, hR, hL, hq⟩ := hQ.r
                have HPd := Lib.hid (pduec b bs vs4 s4 k2 later wr hQ.p hQ.inv (fun q hq => by have := hQ.cnt q hq; have := HX.out.2.2.2.1; have := HX.out.2.2.2.2; omega))
                have HRd := Lib.hid (fun (W : World) (hW : RAt W rb t4.n t4.L Z nw) => rduec rb t4 Z nw k2 later W hW hQ.tnv hL (by have := HX.out.2.2.2.1; have := HX.out.2.2.2.2; omega))
                have hl64 := dueL_len hQ.tnv k2 later
                have hld := hQ.off.due hQ.tnv k2 later
                have hrbl := lt_of_blk hR.head
                have HQ := Lib.hid (And.intro hQ (And.intro hR (And.intro hld (And.intro hl64 (And.intro hrbl (And.intro hq hsn4))))))
                clear hQ hR hld hl64 hrbl hL hq hsn4
                go_wp2_with fail
                refine HPd.out.mono ?_
                rintro e w5 ⟨v5, vs5, rfl, ho5, hA5, hC5, hB5, _⟩
                obtain ⟨a5, cap5, rfl, hI5⟩ := IntsAt.of_own ho5 rfl
                have H5 := Lib.hid (And.intro ho5 (And.intro hA5 (And.intro hC5 (And.intro hB5 (And.intro hI5 (HQ.out.2.1.kept hC5 HQ.out.1.ne))))))
                clear ho5 hA5 hC5 hB5 hI5
                go_wp2_with fail
                refine (HRd.out w5 H5.out.2.2.2.2.2).mono ?_
                rintro e w6 ⟨v6, rfl, ho6, ⟨Z6, nw6, hR6, hL6, hq6⟩, hC6⟩
                obtain ⟨a6, cap6, rfl, hI6⟩ := IntsAt.of_own ho6 rfl
                have hSt6 := HQ.out.1.due k2 later H5.out.2.1 H5.out.2.2.1 H5.out.2.2.2.1 hR6 hL6 (by have := HQ.out.2.2.2.2.2.1; omega) hC6
                have hI5' := H5.out.2.2.2.2.1.kept hC6 (fun g e hm => by subst e; have h1 := own_ge H5.out.1 g (by simp [Value.ownBlock]); have h2 := HQ.out.2.2.2.2.1; simp at hm; omega)
                obtain ⟨l, hl⟩ : ∃ l, l = t4.dueL k2 later := ⟨_, rfl⟩
                rw [← hl] at hI6 ⊢
                obtain ⟨M, hM⟩ : ∃ M, M = l.length := ⟨_, rfl⟩
                rw [← hM]
                have hM64 : M ≤ 64 := by rw [hM, hl]; exact HQ.out.2.2.2.1
                have H6 := Lib.hid (And.intro hSt6 (And.intro hI5' (And.intro hI6 (And.intro hM (And.intro hl hM64)))))
                clear hSt6 hI5' hI6 hM hl hR6 hL6 hq6 hC6 ho6
                go_wp2_with fail
                go_loopw [18, 19] (fun v j wx => ∃ m : Nat, m ≤ M ∧ j = .int .i64 m ∧ wx.ownsRow w6.heap.size 3 1 v ((l.take m).filter (fun x => !(x == (i : Int)))).length (((l.take m).filter (fun x => !(x == (i : Int)))).map (Value.int .i64)) ∧ Chg [] w6 wx) (fun _ j _ => M - (intOf j).toNat)
                case atStart => exact ⟨0, by omega, rfl, World.ownsRow_nil .., Chg.refl _ _⟩
                case round =>
                  obtain ⟨m, hm, rfl, hown, hC⟩ := hrel
                  by_cases hlt3 : m < M
                  · obtain ⟨x, hx⟩ : ∃ x, l[m]? = some x := ⟨_, List.getElem?_eq_getElem (by have := H6.out.2.2.2.1; omega)⟩
                    obtain ⟨g6, rfl, hd6⟩ := (H6.out.2.2.1.calm hC).resolve_left (fun e => by subst e; simp at hx)
                    have e0 := hd6 m x hx
                    have hstep : l.take (m + 1) = l.take m ++ [x] := by rw [List.take_add_one, hx]; rfl
                    by_cases hxi : x = (i : Int)
                    · have e1 : (x != (i : Int)) = false := by simpa using hxi
                      have hsame : (l.take (m + 1)).filter (fun x => !(x == (i : Int))) = (l.take m).filter (fun x => !(x == (i : Int))) := by
                        rw [hstep, List.filter_append, List.filter_cons_of_neg (by simpa using hxi)]; simp
                      have HY := Lib.hid (And.intro hown (And.intro hC hsame))
                      clear hown hC hsame hx hd6 hstep
                      go_wp2_with fail
                      exact ⟨⟨m + 1, by omega, rfl, by rw [HY.out.2.2]; exact HY.out.1, HY.out.2.1⟩, by simp only [intOf]; omega⟩
                    · have e1 : (x != (i : Int)) = true := by simpa using hxi
                      have hsame : (l.take (m + 1)).filter (fun x => !(x == (i : Int))) = (l.take m).filter (fun x => !(x == (i : Int))) ++ [x] := by
                        rw [hstep, List.filter_append, List.filter_cons_of_pos (by simpa using hxi)]; rfl
                      have hfl : ((l.take m).filter (fun x => !(x == (i : Int)))).length ≤ 64 := by
                        have h1 := List.length_filter_le (fun x => !(x == (i : Int))) (l.take m)
                        rw [List.length_take] at h1
                        have := H6.out.2.2.2.2.2
                        omega
                      obtain ⟨fl, hfle⟩ : ∃ fl, fl = (l.take m).filter (fun x => !(x == (i : Int))) := ⟨_, rfl⟩
                      rw [← hfle] at hown hsame hfl
                      have hd1 : fl.length + 1 ≤ maxLen := by unfold maxLen; omega
                      have hd2 : (fl.length + 1) * 8 ≤ 140737488355328 := by omega
                      have HY := Lib.hid (And.intro hown (And.intro hC (And.intro hsame (And.intro hd1 (And.intro hd2 hC.size)))))
                      clear hown hC hsame hx hd6 hstep hd1 hd2 hfle hfl
                      repeat ((fail_if_success at_builtin); (first | go_values | go_skip | go_guarded | go_step))
                      refine wpList_push rfl _ _ 29 rfl w6.heap.size 3 i0 (.int .i64 0) 1 8 Try.underlying29 hi hzi0 hzi1 hzi2 rfl (by decide) u18 fl.length _ rfl HY.out.1 [.int .i64 x] rfl rfl (by simp [Value.oneCell']) HY.out.2.2.2.1 HY.out.2.2.2.2.1 HY.out.2.2.2.2.2 ?_
                      intro v' w7 hown7 hC7 hloc hnn
                      have hC67 : Chg [] w6 w7 := HY.out.2.1.trans' hC7 (fun x hx => .inr (own_ge HY.out.1 x hx))
                      have H7 := Lib.hid (And.intro hown7 hC67)
                      clear hown7 hC7 hloc hnn hC67
                      repeat (first | go_values | go_skip | go_guarded | go_step)
                      exact ⟨⟨m + 1, by omega, rfl, by rw [HY.out.2.2.1, List.length_append, List.map_append]; exact H7.out.1, H7.out.2⟩, by simp only [intOf]; omega⟩
                  · have hmM : l.take m = l := List.take_of_length_le (by have := H6.out.2.2.2.1; omega)
                    rw [hmM] at hown
                    obtain ⟨a7, cap7, rfl, hI7⟩ := IntsAt.of_own hown rfl
                    have hfe : s4.dueL k2 later = l.filter (fun x => !(x == (i : Int))) := by rw [H6.out.2.2.2.2.1]; exact HQ.out.2.2.1.1
                    have hS := lsamec a5 a7 cap5 cap7 (s4.dueL k2 later) (l.filter (fun x => !(x == (i : Int)))) wr (H6.out.2.1.calm hC) hI7 (by have := dueL_len HQ.out.1.inv k2 later; omega)
                    rw [show decide (s4.dueL k2 later = l.filter (fun x => !(x == (i : Int)))) = true from decide_eq_true hfe] at hS
                    have HS := Lib.hid (And.intro hS hC)
                    clear hS hown hI7 hC hmM hfe
                    go_wp2_with fail
                    refine HS.out.1.mono ?_
                    rintro e w8 ⟨rfl, hC8⟩
                    have H8 := Lib.hid ((H6.out.1.calm HS.out.2).calm hC8)
                    clear hC8
                    go_wp2_with fail
                    exact ⟨⟨k2 + 1, _, _, _, by omega, rfl, by rw [TS.dueS_n]; exact HQ.out.2.2.2.2.2.2, (show q0 + 64 * ((k2 + 1 : Nat) : Int) = q0 + 64 * (k2 : Int) + 64 from by omega) ▸ H8.out⟩, by simp only [intOf]; omega⟩
              · have hin4 : inT s4 (i : Int) := ⟨by omega, by rw [hsn4]; have := HX.out.2.1; omega⟩
                obtain ⟨e4, he4⟩ : ∃ e, s4.L[i]? = some e := ⟨_, List.getElem?_eq_getElem (by have := hQ.inv.len; have := hQ.inv.n8; have := hin4.2; omega)⟩
                have hav : s4.atV (i : Int) = .tuple #[e4.val, .bool true] := by unfold TS.atV; rw [if_pos hin4, Int.toNat_natCast, he4]
                have hoff := hQ.off.off e4 he4
                have HA := Lib.hid (patc b bs vs4 s4 i wr hQ.p)
                have HQ := Lib.hid hQ
                clear hQ hin4 he4 hsn4
                go_wp2_with fail
                refine HA.out.mono ?_
                rintro e w9 ⟨rfl, hC9⟩
                have H9 := Lib.hid (HQ.out.chg.trans hC9)
                clear hC9
                rw [hav]
                unfold TE.val TE.cells
                rw [hoff]
                go_wp2_with fail
                refine (knownc _).mono ?_
                rintro e w10 ⟨rfl, hC10⟩
                have H10 := Lib.hid ((H9.out.alloc _).trans hC10)
                clear hC10
                go_wp2
                go_ret
                exact ⟨rfl, H10.out⟩
  · go_enter Try.func4, Try.ntmps4
    go_wp2_with fail
    refine (pnewbad n w hn).mono ?_
    rintro e w' ⟨rfl, rfl⟩
    go_wp2_with fail
    refine (rnewbad n w' hn).mono ?_
    rintro e w2 ⟨rfl, rfl⟩
    go_wp2_with fail
    refine (knownc w2).mono ?_
    rintro e w' ⟨rfl, hC⟩
    have HC := Lib.hid hC
    clear hC
    go_wp2
    go_ret
    exact ⟨rfl, HC.out⟩

end Go.Proofs.Ytonahpilmchnkaa
