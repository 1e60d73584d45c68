
/- slices.Equal at []int; the list by coming. -/
import Derived.Test.YtiiafhlckmkcnaaGreatIns
import Derived.Test.YtiiafhlckmkcnaaGreatWk
namespace Go.Proofs.YtiiafhlckmkcnaaGreat
open Go.RowKit

set_option maxRecDepth 100000 in
set_option maxHeartbeats 1000000 in
theorem equalInts_any (v u : Value) (ts us : List Int) (w : World) (hv : IsInts w v ts) (hu : IsInts w u us) (ht : ts.length < 4611686018427387904) (hu' : us.length < 4611686018427387904) :
    Calls Tryz.prog 61 #[v, u] w fun e w' => e = .returned (.bool (decide (ts = us))) ∧ Chg [] w w' := by
  by_cases hl : ts.length = us.length
  · by_cases hnil : ts = []
    · subst hnil
      have : us = [] := List.eq_nil_of_length_eq_zero hl.symm
      subst this
      obtain ⟨a1, cap1, rfl⟩ := hv.slice
      obtain ⟨a2, cap2, rfl⟩ := hu.slice
      clear hv hu ht hu' hl
      go_enter Tryz.func61, Tryz.ntmps61
      go_wp2
      refine wp_loop_rounds 1 ?_
      rw [rounds_succ]
      go_wp2
      go_ret
      exact ⟨rfl, Chg.refl _ _⟩
    · have hnil' : us ≠ [] := fun e => hnil (List.eq_nil_of_length_eq_zero (by rw [hl, e]; rfl))
      obtain ⟨b1, o1, cap1, rfl, hc1⟩ := hv.addr hnil
      obtain ⟨b2, o2, cap2, rfl, hc2⟩ := hu.addr hnil'
      rw [hl]
      have HL := Lib.hid hl
      have H1 := Lib.hid hc1
      have H2 := Lib.hid hc2
      generalize hn : us.length = n at *
      have HN := Lib.hid hn
      have hb : ((n : Int) != (n : Int)) = false := by simp
      clear hv hu hl hc1 hc2 hn hnil hnil' ht
      go_enter Tryz.func61, Tryz.ntmps61
      go_wp2
      go_loopw [13] (fun i wr => ∃ k : Nat, k ≤ n ∧ i = .int .i64 k ∧ ts.take k = us.take k ∧ ∃ q, wr = w.drewN q) (fun i _ => n - (intOf i).toNat)
      case atStart => exact ⟨0, by omega, rfl, by simp, 0, rfl⟩
      case round =>
        obtain ⟨k, hk, rfl, htk, q, rfl⟩ := hrel
        have HK := Lib.hid htk
        clear htk
        by_cases hlt : k < n
        · obtain ⟨t, hkt⟩ : ∃ t, ts[k]? = some t := ⟨_, List.getElem?_eq_getElem (by rw [HL.out]; exact hlt)⟩
          obtain ⟨u, hku⟩ : ∃ u, us[k]? = some u := ⟨_, List.getElem?_eq_getElem (by rw [HN.out]; exact hlt)⟩
          have d1 : w.cell? ⟨b1, o1 + k, none⟩ = some (.int .i64 t) := H1.out k t hkt
          have d2 : w.cell? ⟨b2, o2 + k, none⟩ = some (.int .i64 u) := H2.out k u hku
          have HT := Lib.hid (And.intro hkt hku)
          clear hkt hku
          by_cases htu : t = u
          · subst htu
            have hne : (t != t) = false := by simp
            go_wp2
            go_quiet (fail)
            go_wp2
            go_roundw
            case rel => exact ⟨k + 1, by omega, by go_num, by rw [List.take_add_one, List.take_add_one, HK.out, HT.out.1, HT.out.2], q + nq, rfl⟩
            case measure => simp [intOf]; omega
          · have hne : (t != u) = true := by simpa using htu
            have hd : decide (ts = us) = false := by
              apply decide_eq_false
              intro e
              have h1 := HT.out.1
              rw [e, HT.out.2] at h1
              exact htu (Option.some.inj h1).symm
            have HD := Lib.hid hd
            clear hd htu
            go_wp2
            go_quiet (fail)
            go_wp2
            go_ret
            exact ⟨ret_bool HD.out.symm, ((Chg.refl _ _).drewN _).drewN _⟩
        · have : k = n := by omega
          have hd : decide (ts = us) = true := by
            apply decide_eq_true
            have := HK.out
            rwa [List.take_of_length_le (by rw [HL.out]; omega), List.take_of_length_le (by rw [HN.out]; omega)] at this
          have HD := Lib.hid hd
          clear hd
          go_wp2
          go_ret
          exact ⟨ret_bool HD.out.symm, (Chg.refl _ _).drewN _⟩
  · have hd : decide (ts = us) = false := by
      apply decide_eq_false
      intro e
      exact hl (by rw [e])
    rw [hd]
    obtain ⟨a1, cap1, rfl⟩ := hv.slice
    obtain ⟨a2, cap2, rfl⟩ := hu.slice
    have hb : ((ts.length : Int) != (us.length : Int)) = true := by rw [bne_iff_ne]; omega
    generalize ts.length = n1 at *
    generalize us.length = n2 at *
    clear hd hv hu hl
    go_enter Tryz.func61, Tryz.ntmps61
    go_wp2
    go_ret
    exact ⟨rfl, Chg.refl _ _⟩


theorem sortedCame {w : World} {ab mb : Nat} {n : Int} {L1 : List W1} (h : WIn w ab mb n L1) {ts : List Int} (hp : ts.Perm (L1.map W1.t)) (hs : ts.Pairwise (fun x y => ¬ cfT (fun _ c1 _ c2 => Lib.compareInt c1 c2) L1 y x < 0)) : ts = L1.map W1.t := by
  have hn := h.nodup
  refine List.Perm.eq_of_pairwise (le := fun x y => ¬ cfT (fun _ c1 _ c2 => Lib.compareInt c1 c2) L1 y x < 0) ?_ hs ?_ hp
  · intro a b ha hb hab hba
    obtain ⟨x, hx, rfl⟩ := List.mem_map.1 (hp.mem_iff.1 ha)
    obtain ⟨y, hy, rfl⟩ := List.mem_map.1 hb
    unfold cfT at hab hba
    rw [cmp_lt, rowOf_mem hn hx, rowOf_mem hn hy] at hab hba
    have hc : x.c = y.c := by simp at hab hba; omega
    rw [came_inj h.came hx hy hc]
  · rw [List.pairwise_map]
    refine List.Pairwise.imp_of_mem ?_ h.came
    intro x y hx hy hxy
    unfold cfT
    rw [cmp_lt, rowOf_mem hn hx, rowOf_mem hn hy]
    simp
    omega

theorem sortedSame (ab mb : Nat) (N : Int) (L : WL) (w : World) (hW : WAt w ab mb N L) :
    Calls Tryz.prog 62 #[.pointer (some ⟨ab, 0, none⟩), .func (.func 59) #[] #[]] w (IntsPost (L.map (·.1)) w) := by
  obtain ⟨n, L1, h, rfl, hn⟩ := hW
  have eg : ∀ args w, (callFunc 59 args).run Tryz.prog w = .ok (.enter 59 args) w := enters_of Tryz.func59 (by kernel_rfl) rfl
  refine (sorted_any 59 (fun _ c1 _ c2 => Lib.compareInt c1 c2) same1_any eg ab mb n L1 w h (swo_same L1)).mono ?_
  rintro e w' ⟨v, ts, rfl, hp, hs, ho, hC⟩
  rw [sortedCame h hp hs] at ho
  have e1 : (L1.map W1.pair).map (·.1) = L1.map W1.t := by rw [List.map_map]; rfl
  rw [← e1] at ho
  exact ⟨v, rfl, ho, hC⟩

end Go.Proofs.YtiiafhlckmkcnaaGreat
