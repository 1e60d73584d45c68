
/- waits.Same. -/
import Derived.Test.YtiiafhlckmkcnaaGreatWn
import Derived.Test.YtiiafhlckmkcnaaGreatL09p
namespace Go.Proofs.YtiiafhlckmkcnaaGreat
open Go.RowKit

theorem same_of {La Lb : WL} (ha : ListOk La) (hb : ListOk Lb) (h1 : La.map (·.1) = Lb.map (·.1)) (h2 : ordL La = ordL Lb) : La = Lb := by
  have hp : La.Perm Lb := (ordL_perm ha).symm.trans (h2 ▸ ordL_perm hb)
  have hl : La.length = Lb.length := hp.length_eq
  refine List.ext_getElem hl fun i hi hi' => ?_
  have e1 : (La[i]).1 = (Lb[i]).1 := by
    have := congrArg (fun l => l[i]?) h1
    simpa [List.getElem?_map, hi, hi'] using this
  have m1 : La[i] ∈ Lb := hp.mem_iff.1 (List.getElem_mem hi)
  have m2 : Lb[i] ∈ Lb := List.getElem_mem hi'
  have p1 := prioR_mem hb.nodup m1
  have p2 := prioR_mem hb.nodup m2
  rw [e1] at p1
  exact Prod.ext e1 (p1.symm.trans p2)

theorem colc (bw ab mb : Nat) (N : Int) (L : WL) (w : World) (hbw : w.heap[bw]? = some (.cells #[.pointer (some ⟨ab, 0, none⟩)] 43 (0, 0))) (hW : WAt w ab mb N L) :
    Calls Tryz.prog 64 #[.func (.func 86) #[] #[.pointer (some ⟨bw, 0, none⟩)]] w (PairsPost (ordL L) w) := by
  obtain ⟨n, L1, h, rfl, hn⟩ := hW
  exact colWaiters_any bw ab mb n L1 w hbw h

theorem ordT_len {L : WL} (h : ListOk L) : (ordL L).length = L.length := (ordL_perm h).length_eq
theorem WAt.yes {w : World} {ab mb : Nat} {N : Int} {L : WL} (h : WAt w ab mb N L) : Calls Tryz.prog 58 #[.pointer (some ⟨ab, 0, none⟩)] w fun e w' => e = .returned (.bool true) ∧ w = w' := by
  obtain ⟨n, L1, h, rfl, hn⟩ := h
  exact there_yes ab mb w (cellB h.head (i := 0) rfl)

set_option maxRecDepth 100000 in
set_option maxHeartbeats 2000000 in
theorem samec (a1 m1 a2 m2 : Nat) (N1 N2 : Int) (La Lb : WL) (w : World) (hA : WAt w a1 m1 N1 La) (hB : WAt w a2 m2 N2 Lb) :
    Calls Tryz.prog 25 #[.pointer (some ⟨a1, 0, none⟩), .pointer (some ⟨a2, 0, none⟩)] w fun e w' => e = .returned (.bool (decide (La = Lb))) ∧ Chg [] w w' := by
  have HA := Lib.hid (And.intro hA (And.intro hB (And.intro hA.lok (And.intro hB.lok (And.intro hA.facts.2.2 hB.facts.2.2)))))
  have hT : ∀ a : Nat, a = a1 ∨ a = a2 → Calls Tryz.prog 58 #[.pointer (some ⟨a, 0, none⟩)] w fun e w' => e = .returned (.bool true) ∧ w = w' := by
    rintro a (rfl | rfl)
    · exact hA.yes
    · exact hB.yes
  have HT := Lib.hid hT
  clear hA hB hT
  obtain ⟨r, hr⟩ : ∃ r, r = decide (La = Lb) := ⟨_, rfl⟩
  rw [← hr]
  have HR := Lib.hid hr
  clear hr
  go_enter Tryz.func25, Tryz.ntmps25
  go_wp2_with (go_at_call 58; refine (HT.out _ (by first | exact .inl rfl | exact .inr rfl)).mono ?_; rintro e w' ⟨rfl, rfl⟩)
  refine (sortedSame a1 m1 N1 La w HA.out.1).mono ?_
  rintro e w1 ⟨v1, rfl, ho1, hC1⟩
  have H1 := Lib.hid (And.intro ho1 hC1)
  clear ho1 hC1
  go_wp2_with fail
  refine (sortedSame a2 m2 N2 Lb w1 (HA.out.2.1.kept H1.out.2 (by simp) (by simp))).mono ?_
  rintro e w2 ⟨v2, rfl, ho2, hC2⟩
  have H2 := Lib.hid (And.intro ho2 hC2)
  clear ho2 hC2
  go_wp2_with fail
  have l1 : (La.map (·.1)).length < 4611686018427387904 := by have := HA.out.2.2.2.2.1; rw [List.length_map]; omega
  have l2 : (Lb.map (·.1)).length < 4611686018427387904 := by have := HA.out.2.2.2.2.2; rw [List.length_map]; omega
  refine (equalInts_any v1 v2 (La.map (·.1)) (Lb.map (·.1)) w2 (.of_own (own_kept H1.out.1 H2.out.2 (by simp))) (.of_own H2.out.1) l1 l2).mono ?_
  rintro e w3 ⟨rfl, hC3⟩
  have H3 := Lib.hid ((H1.out.2.trans H2.out.2).trans hC3)
  clear hC3 l1 l2
  by_cases he : La.map (·.1) = Lb.map (·.1)
  · rw [decide_eq_true he]
    have HE := Lib.hid he
    clear he
    go_wp2_with fail
    refine (all_any _ w3).mono ?_
    rintro e w4 ⟨rfl, rfl⟩
    go_wp2_with fail
    have hC4 : Chg [] w (w3.alloc (.cells #[.pointer (some ⟨a1, 0, none⟩)] 43)) := H3.out.alloc _
    refine (colc w3.heap.size a1 m1 N1 La _ (heap_alloc_eq w3 _) (HA.out.1.kept hC4 (by simp) (by simp))).mono ?_
    rintro e w5 ⟨v5, rfl, ho5, hC5⟩
    have H5 := Lib.hid (And.intro ho5 (hC4.trans hC5))
    clear ho5 hC5 hC4
    go_wp2_with fail
    refine (all_any _ w5).mono ?_
    rintro e w6 ⟨rfl, rfl⟩
    go_wp2_with fail
    have hC6 : Chg [] w (w5.alloc (.cells #[.pointer (some ⟨a2, 0, none⟩)] 43)) := H5.out.2.alloc _
    have hD6 : Chg [] w5 (w5.alloc (.cells #[.pointer (some ⟨a2, 0, none⟩)] 43)) := (Chg.refl _ _).alloc _
    refine (colc w5.heap.size a2 m2 N2 Lb _ (heap_alloc_eq w5 _) (HA.out.2.1.kept hC6 (by simp) (by simp))).mono ?_
    rintro e w7 ⟨v7, rfl, ho7, hC7⟩
    have H7 := Lib.hid (And.intro ho7 (And.intro (hC6.trans hC7) (own_kept H5.out.1 (hD6.trans hC7) (by simp))))
    clear ho7 hC7 hC6 hD6
    go_wp2_with fail
    have l1 : (ordL La).length < 4611686018427387904 := by have := HA.out.2.2.2.2.1; rw [ordT_len HA.out.2.2.1]; omega
    have l2 : (ordL Lb).length < 4611686018427387904 := by have := HA.out.2.2.2.2.2; rw [ordT_len HA.out.2.2.2.1]; omega
    refine (equalPairs_any v5 v7 (ordL La) (ordL Lb) w7 (.of_own H7.out.2.2) (.of_own H7.out.1) l1 l2).mono ?_
    rintro e w8 ⟨rfl, hC8⟩
    have hd : decide (ordL La = ordL Lb) = r := by
      rw [HR.out]
      exact decide_eq_decide.2 ⟨fun h => same_of HA.out.2.2.1 HA.out.2.2.2.1 HE.out h, fun h => by rw [h]⟩
    rw [hd]
    have HC := Lib.hid (H7.out.2.1.trans hC8)
    clear hC8 hd l1 l2
    go_wp2_with fail
    go_ret
    exact ⟨rfl, HC.out⟩
  · rw [decide_eq_false he]
    have hr : r = false := by rw [HR.out]; exact decide_eq_false (fun h => he (by rw [h]))
    subst hr
    clear he
    go_wp2_with fail
    go_ret
    exact ⟨rfl, H3.out⟩

end Go.Proofs.YtiiafhlckmkcnaaGreat
