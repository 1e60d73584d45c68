
/- metronomelaw18.QueueSteps answers true, whatever the room, the script and where the going over is left. -/
import Derived.Test.YtiiafhlckmkcnaaGreatYm
import Derived.Test.YtiiafhlckmkcnaaGreatUo
import Derived.Test.YtiiafhlckmkcnaaGreatRow
namespace Go.Proofs.YtiiafhlckmkcnaaGreat
open Go.RowKit

set_option maxRecDepth 100000 in
set_option maxHeartbeats 8000000 in
theorem queueSteps_any (room : Int) (v : Value) (leave : Int) (R : List (Nat → Int)) (w : World) (hv : IsRows 5 w v R) :
    Calls Tryz.prog 4 #[.int .i64 room, v, .int .i64 leave] w fun e w' => e = .returned (.bool true) ∧ Chg [] w w' := by
  obtain ⟨a, cap, rfl⟩ := hv.slice
  have HV := Lib.hid hv
  clear hv
  cases hr : roomB room with
  | false =>
    have HU := Lib.hid (unewno room w hr)
    have HD := Lib.hid (dqnewno room w hr)
    have HKn := Lib.hid (known18 w)
    clear hr
    go_enter Tryz.func4, Tryz.ntmps4
    go_wp2_with fail
    refine HU.out.mono ?_
    rintro e w' ⟨rfl, rfl⟩
    go_wp2_with fail
    refine HD.out.mono ?_
    rintro e w' ⟨rfl, rfl⟩
    go_wp2_with (go_at_call 11; refine (unumc _ _).mono ?_; rintro e w' ⟨rfl, rfl⟩)
    refine HKn.out.mono ?_
    rintro e w' ⟨rfl, hC⟩
    have HC := Lib.hid hC
    clear hC
    go_wp2
    go_ret
    exact ⟨rfl, HC.out⟩
  | true =>
    have HU := Lib.hid (unewc room w hr)
    have HD := Lib.hid (fun W => dqnewc room W hr)
    clear hr
    go_enter Tryz.func4, Tryz.ntmps4
    go_wp2_with fail
    refine HU.out.mono ?_
    rintro e w1 ⟨u, rfl, hg, hU, hC⟩
    have H1 := Lib.hid (And.intro hg (And.intro hU hC))
    clear hg hU hC
    go_wp2_with fail
    refine (HD.out w1).mono ?_
    rintro e w2 ⟨rc, rr, rw_, rfl, hg, hD, hC⟩
    have hz := H1.out.2.2.size
    have HS := Lib.hid (And.intro (show TQ w2 u (.slice none 0 0) 0 rc rr rw_ (.slice none 0 0) (qnew room) from ⟨H1.out.2.1.calm hC, hD, fun k hk hm => by
      have h1 := H1.out.2.1.lt k hk
      have h2 := hg k hm
      omega⟩) (And.intro (H1.out.2.2.trans hC) (show ∀ k ∈ blkT u (.slice none 0 0) rc rr rw_ (.slice none 0 0), w.heap.size ≤ k from fun k hk => by
      rcases List.mem_append.1 hk with h1 | h1
      · rcases List.mem_append.1 h1 with h2 | h2
        · exact H1.out.1 k h2
        · simp [Value.ownBlock] at h2
      · have := hg k h1; omega)))
    clear hg hD hC hz H1
    go_wp2_with (go_at_call 11; refine (unumc _ _).mono ?_; rintro e w' ⟨rfl, rfl⟩)
    go_loopw [7, 9, 10] (fun x p i wr => ∃ (k : Nat) (u : UB) (v : Value) (N : Int) (rc rr rw_ : Nat) (vd : Value) (s : QS), k ≤ R.length ∧ k ≤ 200 ∧ x = .pointer (some ⟨u.q, 0, none⟩) ∧ p = .pointer (some ⟨rc, 0, none⟩) ∧ i = .int .i64 k ∧ TQ wr u v N rc rr rw_ vd s ∧ Chg [] w wr ∧ (∀ k ∈ blkT u v rc rr rw_ vd, w.heap.size ≤ k) ∧ N ≤ k) (fun _ _ i _ => 200 - (intOf i).toNat)
    case atStart => exact ⟨0, u, _, 0, rc, rr, rw_, _, _, by omega, by omega, rfl, rfl, rfl, HS.out.1, HS.out.2.1, HS.out.2.2, by omega⟩
    case round =>
      clear HS HU HD
      obtain ⟨k, u, v, N, rc, rr, rw_, vd, s, hk1, hk2, rfl, rfl, rfl, hT, hG, hg, hN⟩ := hrel
      have HK := Lib.hid (And.intro hT (And.intro hG (And.intro hg hN)))
      clear hT hG hg hN
      have hcase : (k < R.length ∧ k < 200) ∨ (¬ k < R.length) ∨ (k < R.length ∧ ¬ k < 200) := by omega
      rcases hcase with ⟨hlt, hlt2⟩ | hlt | ⟨hlt, hlt2⟩
      · as_aux_lemma =>
        have hne : R ≠ [] := fun e => by rw [e] at hlt; simp at hlt
        obtain ⟨g, o, cap', hsl, hcells⟩ := HV.out.addr hne
        cases hsl
        obtain ⟨x, hx⟩ : ∃ x, R[k]? = some x := ⟨_, List.getElem?_eq_getElem hlt⟩
        have hrow := IsRows.row hcells HK.out.2.1 hx
        have d0 := hrow 0 (by omega)
        have d1 := hrow 1 (by omega)
        have d2 := hrow 2 (by omega)
        have d3 := hrow 3 (by omega)
        have d4 := hrow 4 (by omega)
        rw [Nat.add_zero] at d0
        generalize x 0 = kd at *
        generalize x 1 = t at *
        generalize x 2 = p at *
        generalize x 3 = ma at *
        generalize x 4 = mb at *
        have hd := do18c u v N rc rr rw_ vd s kd t p ma mb wr HK.out.1 (by have := HK.out.2.2.2; omega)
        unfold stepV at hd
        have HD := Lib.hid hd
        clear hd hcells hrow hx hne
        go_wp2_with fail
        refine HD.out.mono ?_
        rintro e w4 ⟨u', v', vd', N', rfl, hN', hT, hC, hs⟩
        have hG4 := HK.out.2.1.trans' hC (fun j hj => .inr (HK.out.2.2.1 j hj))
        have HM := Lib.hid (And.intro hT (And.intro hG4 (And.intro (show ∀ j ∈ blkT u' v' rc rr rw_ vd', w.heap.size ≤ j from fun j hj => by
          rcases hs j hj with h1 | h1
          · exact HK.out.2.2.1 j h1
          · have := HK.out.2.1.size; omega) (show N' ≤ ((k + 1 : Nat) : Int) by have := HK.out.2.2.2; omega))))
        clear hN' hT hC hs hG4 d0 d1 d2 d3 d4 HD
        go_wp2_with fail
        refine (stands18 u' v' N' rc rr rw_ vd' _ leave w4 HM.out.1).mono ?_
        rintro e w5 ⟨rfl, hC⟩
        have H5 := Lib.hid hC
        clear hC
        go_wp2
        go_roundw
        case rel => exact ⟨k + 1, u', v', N', rc, rr, rw_, vd', _, by omega, by omega, rfl, rfl, by go_num, HM.out.1.calm H5.out, HM.out.2.1.trans H5.out, HM.out.2.2.1, HM.out.2.2.2⟩
        case measure => simp [intOf]; omega
      all_goals
        as_aux_lemma =>
        go_wp2_with fail
        refine (known18 wr).mono ?_
        rintro e w' ⟨rfl, hC⟩
        have HC := Lib.hid (HK.out.2.1.trans hC)
        clear hC
        go_wp2
        go_ret
        exact ⟨rfl, HC.out⟩

end Go.Proofs.YtiiafhlckmkcnaaGreat
