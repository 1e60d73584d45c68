
/- metronomelaw19.TimersPlay: the walk. -/
import Derived.Test.YtonahpilmchnkaaGg
import Derived.Test.YtonahpilmchnkaaRow
namespace Go.Proofs.Ytonahpilmchnkaa
open Go.RowKit

/-- What stands in memory between the steps. -/
structure PlT (w : World) (b : Nat) (bs : Int → Nat) (vs : Int → List Value) (rb : Nat) (s : TS) (q : Int) (w' : World) : Prop where
  pb : PB w' b bs vs rb s q
  chg : Chg [] w w'
  own : ∀ x ∈ blocksT b bs vs, w.heap.size ≤ x
  ro : w.heap.size ≤ rb
theorem PlT.calm {w w1 w2 : World} {b : Nat} {bs : Int → Nat} {vs : Int → List Value} {rb : Nat} {s : TS} {q : Int} (h : PlT w b bs vs rb s q w1) (hC : Chg [] w1 w2) : PlT w b bs vs rb s q w2 :=
  ⟨h.pb.calm hC, h.chg.trans hC, h.own, h.ro⟩
theorem PlT.next {w w1 w2 : World} {b : Nat} {bs : Int → Nat} {vs : Int → List Value} {rb : Nat} {s s' : TS} {q q' : Int} (h : PlT w b bs vs rb s q w1) (hN : StT b bs vs rb s' q' w1 w2) : ∃ vs', PlT w b bs vs' rb s' q' w2 := by
  obtain ⟨vs', hP, hC, hB⟩ := hN
  refine ⟨vs', hP, h.chg.trans' hC (fun x hx => .inr ?_), fun x hx => ?_, h.ro⟩
  · rcases List.mem_cons.1 hx with rfl | hx
    · exact h.ro
    · exact h.own x hx
  · rcases hB x hx with h1 | h1
    · exact h.own x h1
    · exact Nat.le_trans h.chg.size h1
theorem PlT.new {w w1 w2 : World} {b : Nat} {bs : Int → Nat} {n : Nat} {rb : Nat} (h : KT w b bs (fun _ => vs0) (ts0 n) w1) (hr : rb = w1.heap.size) (hR : RAt w2 rb (ts0 n).n (ts0 n).L (List.replicate 8 0) 0) (hC : Chg [] w1 w2) : PlT w b bs (fun _ => vs0) rb (ts0 n) 0 w2 :=
  ⟨⟨h.at_.calm hC, ⟨_, 0, hR, LinkT.new n, Int.le_refl _⟩, fun hm => by have := h.at_.lt rb hm; omega, h.inv, fun _ _ => Int.le_refl _⟩, h.chg.trans hC, h.own, by have := h.chg.size; omega⟩

set_option maxRecDepth 100000 in
set_option maxHeartbeats 8000000 in
theorem timersPlay_any (n : Int) (v0 : Value) (R : List (Nat → Int)) (w : World) (h0 : IsRows 5 w v0 R) :
    Calls Try.prog 5 #[.int .i64 n, v0] w fun e w' => e = .returned (.bool true) ∧ Chg [] w w' := by
  obtain ⟨a0, cap0, rfl⟩ := h0.slice
  obtain ⟨N, hN⟩ : ∃ N, N = R.length := ⟨_, rfl⟩
  rw [← hN] at h0 ⊢
  have H0 := Lib.hid (And.intro h0 hN)
  clear h0 hN
  by_cases hn : 1 ≤ n ∧ n ≤ 8
  · go_enter Try.func5, Try.ntmps5
    go_wp2_with fail
    refine (pnewc n w hn).mono ?_
    rintro e w1 hN0
    obtain ⟨b, bs, rfl, hk⟩ := KT.new hn hN0
    have HK := Lib.hid hk
    clear hN0 hk
    go_wp2_with fail
    refine (rnewc n w1 hn).mono ?_
    rintro e w2 ⟨rb, rfl, hrb, hR, hC⟩
    have HP0 := Lib.hid (PlT.new HK.out hrb hR hC)
    clear hrb hR hC
    by_cases hbig : (200 : Int) < (N : Int)
    · have d1 : decide ((200 : Int) < (N : Int)) = true := by simpa using hbig
      clear hbig
      go_wp2_with fail
      refine (knownc w2).mono ?_
      rintro e w' ⟨rfl, hC⟩
      have HC := Lib.hid hC
      clear hC
      go_wp2
      go_ret
      exact ⟨rfl, HP0.out.chg.trans HC.out⟩
    · have d1 : decide ((200 : Int) < (N : Int)) = false := by simpa using hbig
      have hN1 : N ≤ 200 := by omega
      clear hbig
      go_wp2_with fail
      go_loopw [8] (fun i wr => ∃ k : Nat, k ≤ N ∧ i = .int .i64 k ∧ ∃ vs s, PlT w b bs vs rb s (64 * k) wr) (fun i _ => N - (intOf i).toNat)
      case atStart => exact ⟨0, by omega, rfl, _, _, HP0.out⟩
      case round =>
        obtain ⟨k, hk, rfl, vs, s, hP⟩ := hrel
        by_cases hlt : k < N
        · obtain ⟨x, hx⟩ : ∃ x, R[k]? = some x := ⟨_, List.getElem?_eq_getElem (by have := H0.out.2; omega)⟩
          obtain ⟨g, o, cp, hg, hd⟩ := (show IsRows 5 w (.slice a0 R.length cap0) R from by rw [← H0.out.2]; exact H0.out.1).addr (fun e => by rw [e] at hx; simp at hx)
          cases hg
          have hrow := IsRows.row hd hP.chg hx
          have d0 := hrow 0 (by omega)
          have d1' := hrow 1 (by omega)
          have d2' := hrow 2 (by omega)
          have d3' := hrow 3 (by omega)
          have d4' := hrow 4 (by omega)
          rw [Nat.add_zero] at d0
          obtain ⟨kd, hkd⟩ : ∃ kd, kd = x 0 := ⟨_, rfl⟩
          obtain ⟨id, hid⟩ : ∃ id, id = x 1 := ⟨_, rfl⟩
          obtain ⟨c, hc⟩ : ∃ c, c = x 2 := ⟨_, rfl⟩
          obtain ⟨t, ht⟩ : ∃ t, t = x 3 := ⟨_, rfl⟩
          obtain ⟨v, hv⟩ : ∃ v, v = x 4 := ⟨_, rfl⟩
          rw [← hkd] at d0
          rw [← hid] at d1'
          rw [← hc] at d2'
          rw [← ht] at d3'
          rw [← hv] at d4'
          have HX := Lib.hid hP
          clear hx hd hP hrow hkd hid hc ht hv
          go_wp2_with fail
          refine (doesc b bs vs rb s kd id c t v (64 * k) _ HX.out.pb (by omega)).mono ?_
          rintro e w3 ⟨rfl, hS⟩
          obtain ⟨vs2, hP2⟩ := HX.out.next hS
          have H2 := Lib.hid hP2
          clear hP2 hS
          go_wp2_with fail
          refine (standsc b bs vs2 rb _ _ _ H2.out.pb).mono ?_
          rintro e w4 ⟨rfl, hC4⟩
          have H4 := Lib.hid (H2.out.calm hC4)
          clear hC4
          go_wp2_with fail
          go_roundw
          case measure => simp [intOf]; omega
          exact ⟨k + 1, by omega, by simp [go_sem], vs2, _, (show (64 : Int) * ((k + 1 : Nat) : Int) = 64 * (k : Int) + 64 from by omega) ▸ H4.out⟩
        · obtain rfl : N = k := by omega
          have HX := Lib.hid hP
          clear hP
          go_wp2_with fail
          refine (knownc _).mono ?_
          rintro e w4 ⟨rfl, hC4⟩
          have H4 := Lib.hid hC4
          clear hC4
          go_wp2
          go_ret
          exact ⟨rfl, HX.out.chg.trans H4.out⟩
  · go_enter Try.func5, Try.ntmps5
    go_wp2_with fail
    refine (pnewbad n w hn).mono ?_
    rintro e w' ⟨rfl, rfl⟩
    go_wp2_with fail
    refine (rnewbad n w' hn).mono ?_
    rintro e w2 ⟨rfl, rfl⟩
    go_wp2_with fail
    refine (knownc w2).mono ?_
    rintro e w' ⟨rfl, hC⟩
    have HC := Lib.hid hC
    clear hC
    go_wp2
    go_ret
    exact ⟨rfl, HC.out⟩

end Go.Proofs.Ytonahpilmchnkaa
