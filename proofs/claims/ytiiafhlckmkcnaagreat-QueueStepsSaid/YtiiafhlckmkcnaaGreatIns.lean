
/- Lists of ints in memory, only read; metronomeref09.SameInts. -/
import Derived.Test.YtiiafhlckmkcnaaGreatJX
namespace Go.Proofs.YtiiafhlckmkcnaaGreat
open Go.RowKit

/-- The value is a slice that reads as ts. -/
def IsInts (w : World) (v : Value) (ts : List Int) : Prop :=
  (ts = [] ∧ ∃ a cap, v = .slice a 0 cap) ∨ ∃ b o cap, v = .slice (some ⟨b, o, none⟩) ts.length cap ∧ ∀ j t, ts[j]? = some t → w.cell? ⟨b, o + j, none⟩ = some (.int .i64 t)

theorem IsInts.of_own {w : World} {B : Nat} {e : TypeId} {v : Value} {ts : List Int} (h : w.ownsRow B e 1 v ts.length (ts.map (Value.int .i64))) : IsInts w v ts := by
  by_cases hn : ts.length = 0
  · have : ts = [] := List.eq_nil_of_length_eq_zero hn
    subst this
    obtain ⟨a, cap, rfl⟩ := own_none h
    exact .inl ⟨rfl, a, cap, rfl⟩
  · obtain ⟨g, cap, rfl, _, _, hc⟩ := own_some h hn
    exact .inr ⟨g, 0, cap, rfl, fun j t hj => by rw [Nat.zero_add]; exact hc j _ (by rw [List.getElem?_map, hj]; rfl)⟩
theorem IsInts.of_blk {w : World} {b cap : Nat} {T : TypeId} {fr : Nat × Nat} {ts : List Int} (h : w.heap[b]? = some (.cells (ts.map (Value.int .i64)).toArray T fr)) : IsInts w (.slice (some ⟨b, 0, none⟩) ts.length cap) ts :=
  .inr ⟨b, 0, cap, rfl, fun j t hj => by rw [Nat.zero_add]; exact cellB h (by simp [hj])⟩
theorem IsInts.slice {w : World} {v : Value} {ts : List Int} (h : IsInts w v ts) : ∃ a cap, v = .slice a ts.length cap := by
  rcases h with ⟨rfl, a, cap, rfl⟩ | ⟨b, o, cap, rfl, _⟩
  · exact ⟨a, cap, rfl⟩
  · exact ⟨_, cap, rfl⟩
theorem IsInts.addr {w : World} {v : Value} {ts : List Int} (h : IsInts w v ts) (hn : ts ≠ []) : ∃ b o cap, v = .slice (some ⟨b, o, none⟩) ts.length cap ∧ ∀ j t, ts[j]? = some t → w.cell? ⟨b, o + j, none⟩ = some (.int .i64 t) := by
  rcases h with ⟨rfl, _⟩ | h
  · exact absurd rfl hn
  · exact h

set_option maxRecDepth 100000 in
set_option maxHeartbeats 1000000 in
theorem sameInts_any (v u : Value) (ts us : List Int) (w : World) (hv : IsInts w v ts) (hu : IsInts w u us) (ht : ts.length < 4611686018427387904) (hu' : us.length < 4611686018427387904) :
    Calls Tryz.prog 34 #[v, u] w fun e w' => e = .returned (.bool (decide (ts = us))) ∧ Chg [] w w' := by
  by_cases hl : ts.length = us.length
  · by_cases hnil : ts = []
    · subst hnil
      have : us = [] := List.eq_nil_of_length_eq_zero hl.symm
      subst this
      obtain ⟨a1, cap1, rfl⟩ := hv.slice
      obtain ⟨a2, cap2, rfl⟩ := hu.slice
      clear hv hu ht hu' hl
      go_enter Tryz.func34, Tryz.ntmps34
      go_wp2
      refine wp_loop_rounds 1 ?_
      rw [rounds_succ]
      go_wp2
      go_ret
      exact ⟨rfl, Chg.refl _ _⟩
    · have hnil' : us ≠ [] := fun e => hnil (List.eq_nil_of_length_eq_zero (by rw [hl, e]; rfl))
      obtain ⟨b1, o1, cap1, rfl, hc1⟩ := hv.addr hnil
      obtain ⟨b2, o2, cap2, rfl, hc2⟩ := hu.addr hnil'
      rw [hl]
      have HL := Lib.hid hl
      have H1 := Lib.hid hc1
      have H2 := Lib.hid hc2
      generalize hn : us.length = n at *
      have HN := Lib.hid hn
      have hb : ((n : Int) != (n : Int)) = false := by simp
      clear hv hu hl hc1 hc2 hn hnil hnil' ht
      go_enter Tryz.func34, Tryz.ntmps34
      go_wp2
      go_loopw [5] (fun i wr => ∃ k : Nat, k ≤ n ∧ i = .int .i64 k ∧ ts.take k = us.take k ∧ ∃ q, wr = w.drewN q) (fun i _ => n - (intOf i).toNat)
      case atStart => exact ⟨0, by omega, rfl, by simp, 0, rfl⟩
      case round =>
        obtain ⟨k, hk, rfl, htk, q, rfl⟩ := hrel
        have HK := Lib.hid htk
        clear htk
        by_cases hlt : k < n
        · obtain ⟨t, hkt⟩ : ∃ t, ts[k]? = some t := ⟨_, List.getElem?_eq_getElem (by rw [HL.out]; exact hlt)⟩
          obtain ⟨u, hku⟩ : ∃ u, us[k]? = some u := ⟨_, List.getElem?_eq_getElem (by rw [HN.out]; exact hlt)⟩
          have d1 : w.cell? ⟨b1, o1 + k, none⟩ = some (.int .i64 t) := H1.out k t hkt
          have d2 : w.cell? ⟨b2, o2 + k, none⟩ = some (.int .i64 u) := H2.out k u hku
          have HT := Lib.hid (And.intro hkt hku)
          clear hkt hku
          by_cases htu : t = u
          · subst htu
            have hne : (t != t) = false := by simp
            go_wp2
            go_quiet (fail)
            go_wp2
            go_roundw
            case rel => exact ⟨k + 1, by omega, by go_num, by rw [List.take_add_one, List.take_add_one, HK.out, HT.out.1, HT.out.2], q + nq, rfl⟩
            case measure => simp [intOf]; omega
          · have hne : (t != u) = true := by simpa using htu
            have hd : decide (ts = us) = false := by
              apply decide_eq_false
              intro e
              have h1 := HT.out.1
              rw [e, HT.out.2] at h1
              exact htu (Option.some.inj h1).symm
            have HD := Lib.hid hd
            clear hd htu
            go_wp2
            go_quiet (fail)
            go_wp2
            go_ret
            exact ⟨ret_bool HD.out.symm, ((Chg.refl _ _).drewN _).drewN _⟩
        · have : k = n := by omega
          have hd : decide (ts = us) = true := by
            apply decide_eq_true
            have := HK.out
            rwa [List.take_of_length_le (by rw [HL.out]; omega), List.take_of_length_le (by rw [HN.out]; omega)] at this
          have HD := Lib.hid hd
          clear hd
          go_wp2
          go_ret
          exact ⟨ret_bool HD.out.symm, (Chg.refl _ _).drewN _⟩
  · have hd : decide (ts = us) = false := by
      apply decide_eq_false
      intro e
      exact hl (by rw [e])
    rw [hd]
    obtain ⟨a1, cap1, rfl⟩ := hv.slice
    obtain ⟨a2, cap2, rfl⟩ := hu.slice
    have hb : ((ts.length : Int) != (us.length : Int)) = true := by rw [bne_iff_ne]; omega
    generalize ts.length = n1 at *
    generalize us.length = n2 at *
    clear hd hv hu hl
    go_enter Tryz.func34, Tryz.ntmps34
    go_wp2
    go_ret
    exact ⟨rfl, Chg.refl _ _⟩

end Go.Proofs.YtiiafhlckmkcnaaGreat
