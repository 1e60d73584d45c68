
/- The wheel: order: contract. -/
import Derived.Test.YtonahpilmchnkaaHf
import Derived.Test.YtonahpilmchnkaaHg
import Derived.Deep.MidRow
namespace Go.Proofs.Ytonahpilmchnkaa
open Go.RowKit

/-- What has been taken: the rings below k whole, of ring k the first j. -/
def accH (M : HL) (p : H1 → Bool) (k j : Nat) : HL := ((List.range k).flatMap fun r => (ringH M r).filter p) ++ ((ringH M k).take j).filter p
theorem acc_step {M : HL} {p : H1 → Bool} {k j : Nat} {x : H1} (h : (ringH M k)[j]? = some x) : accH M p k (j + 1) = if p x = true then accH M p k j ++ [x] else accH M p k j := by
  unfold accH
  rw [List.take_add_one, h, List.filter_append]
  cases hp : p x <;> simp [hp]
theorem acc_next {M : HL} {p : H1 → Bool} {k n : Nat} (hn : n = (ringH M k).length) : accH M p (k + 1) 0 = accH M p k n := by
  unfold accH
  rw [List.range_succ, List.flatMap_append, hn, List.take_length]
  simp
theorem acc_end (M : HL) (p : H1 → Bool) : (accH M p 64 0).Perm (M.filter p) := by
  unfold accH
  simpa using rings_filter M p
theorem acc_len (M : HL) (p : H1 → Bool) (k j : Nat) : (accH M p k j).length ≤ k * M.length + M.length := by
  unfold accH
  rw [List.length_append]
  have h1 : (((ringH M k).take j).filter p).length ≤ M.length := Nat.le_trans (List.length_filter_le _ _) (by rw [List.length_take]; have := ring_len M k; omega)
  have h2 : ((List.range k).flatMap fun r => (ringH M r).filter p).length ≤ k * M.length := by
    induction k with
    | zero => simp
    | succ k ih =>
      have ih' := ih (Nat.le_trans (List.length_filter_le _ _) (by rw [List.length_take]; have := ring_len M k; omega))
      rw [List.range_succ, List.flatMap_append, List.length_append, Nat.add_mul]
      have : ((ringH M k).filter p).length ≤ M.length := Nat.le_trans (List.length_filter_le _ _) (ring_len M k)
      simp only [List.flatMap_cons, List.flatMap_nil, List.append_nil]
      omega
  omega

theorem HAt.range {w : World} {b : Nat} {vs : List Value} {s : HS} (h : HAt w b vs s) : w.rangeAt b 1 vs := fun _ _ hj => h.cR hj
theorem index_ring {vs : List Value} {k : Nat} {v : Value} (hk : vs[k]? = some v) (hl : k < 64) (w : World) : (Instr.index 79 (.agg vs.toArray) (.int .i64 (k : Int))).run Try.prog w = .ok v w := by
  have h1 : (0 : Int) ≤ (k : Int) ∧ (k : Int) < ((64 : Nat) : Int) := by omega
  have h2 : (Go.sizeOf 78).run Try.prog w = .ok 1 w := by kernel_rfl
  have h3 : (isAgg 78).run Try.prog w = .ok false w := by kernel_rfl
  simp [Instr.index, asIntOf, run_underlying Try.underlying79, part, h2, h3, hk, Result.andThen, hl]

def OwnH (B : Nat) (w : World) (l : HL) (w0 : World) (e : Ending) : Prop := ∃ v, e = .returned v ∧ w.ownsRow B 84 3 v l.length (flatH l) ∧ Chg [] w0 w

set_option maxRecDepth 100000 in
set_option maxHeartbeats 4000000 in
theorem orderc (b : Nat) (vs : List Value) (s : HS) (w : World) (h : HAt w b vs s) (g : Nat) (cb : Array Value) (p : H1 → Bool) (bx : Nat) (ob : Obj) (hp : PredC g cb p bx ob) (eg : ∀ args w, (callFunc g args).run Try.prog w = .ok (.enter g args) w) (hbx : w.heap[bx]? = some ob) :
    Calls Try.prog 45 #[.pointer (some ⟨b, 0, none⟩), .func (.func g) #[] cb] w fun e w' => OwnH w.heap.size w' (ordH (s.M.filter p)) w e := by
  obtain ⟨i0, hi, hz0, hz1, hz2⟩ := info_parts infoHone
  have H := Lib.hid (And.intro h (And.intro hp hbx))
  obtain ⟨B, hB⟩ : ∃ B, B = w.heap.size := ⟨_, rfl⟩
  rw [← hB]
  have HB := Lib.hid hB
  clear h hp hbx hB
  go_enter Try.func45, Try.ntmps45
  go_wp2
  go_step3
  go_wp2
  go_step3
  go_wp2_with (refine wpList_load_mid (P := Try.prog) rfl 79 _ rfl b 1 rfl vs _ H.out.1.range Try.underlying79 rfl (by rw [H.out.1.len]; kernel_rfl) ?_)
  go_loopw [5, 14] (fun v i wr => ∃ k : Nat, k ≤ 64 ∧ i = .int .i64 k ∧ wr.ownsRow B 84 3 v (accH s.M p k 0).length (flatH (accH s.M p k 0)) ∧ Chg [] w wr) (fun _ i _ => 64 - (intOf i).toNat)
  case atStart => exact ⟨0, by omega, rfl, World.ownsRow_nil .., Chg.refl _ _⟩
  case round =>
    obtain ⟨k, hk, rfl, hown, hC⟩ := hrel
    by_cases hlt : k < 64
    · obtain ⟨v, hv⟩ : ∃ v, vs[k]? = some v := ⟨_, List.getElem?_eq_getElem (by rw [H.out.1.len]; exact hlt)⟩
      obtain ⟨a0, cap, rfl, hT⟩ := IsT.of_own (H.out.1.own k v hv)
      have hix := index_ring hv hlt
      obtain ⟨n, hn⟩ : ∃ n, n = (ringH s.M k).length := ⟨_, rfl⟩
      have hn64 : n ≤ 64 := by have := ring_len s.M k; have := H.out.1.inv.few; omega
      rw [← hn] at hix hv
      have HT := Lib.hid (And.intro hT (And.intro hn (And.intro hown hC)))
      clear hv hT hown hC hn
      have hdk : decide ((k : Int) < 64) = true := decide_eq_true (by omega)
      by_cases hn0 : n = 0
      · have e0 : ((n : Int) == 0) = true := by simp [hn0]
        go_wp2
        go_roundw
        case rel => exact ⟨k + 1, by omega, by go_num, by rw [acc_next HT.out.2.1, hn0]; exact HT.out.2.2.1, HT.out.2.2.2⟩
        case measure => simp [intOf]; omega
      · have e0 : ((n : Int) == 0) = false := by simp [hn0]
        go_wp2
        obtain ⟨wo, rfl⟩ : ∃ wo : World, wo = wr := ⟨_, rfl⟩
        go_loopw [5, 22] (fun v i wr => ∃ j : Nat, j ≤ n ∧ i = .int .i64 j ∧ wr.ownsRow B 84 3 v (accH s.M p k j).length (flatH (accH s.M p k j)) ∧ Chg [] w wr) (fun _ i _ => n - (intOf i).toNat)
        case atStart => exact ⟨0, by omega, rfl, HT.out.2.2.1, HT.out.2.2.2⟩
        case round =>
          obtain ⟨j, hj, rfl, hown, hC⟩ := hrel
          by_cases hjl : j < n
          · obtain ⟨x, hx⟩ : ∃ x, (ringH s.M k)[j]? = some x := ⟨_, List.getElem?_eq_getElem (by have := HT.out.2.1; omega)⟩
            have hne : ringH s.M k ≠ [] := fun e => by rw [e] at hx; simp at hx
            obtain ⟨g0, rfl, hd⟩ := (HT.out.1.calm hC).resolve_left hne
            obtain ⟨d0, d1, d2⟩ := hd j x hx
            have hacc := acc_step (p := p) hx
            have hlen : (accH s.M p k j).length ≤ 10000 := by
              have h1 := acc_len s.M p k j
              have h2 := H.out.1.inv.few
              have h3 : k * s.M.length ≤ 64 * 64 := Nat.mul_le_mul (by omega) h2
              omega
            obtain ⟨x1, x2, x3⟩ := x
            have hCa : Chg [] w (wr.alloc (.cells #[.int .i64 x1, .int .i64 x2, .int .i64 x3] 84)) := hC.alloc _
            have hbxa := hCa.blk H.out.2.2 (by simp)
            have HX := Lib.hid (And.intro hacc (And.intro hown (And.intro hC (And.intro hCa hbxa))))
            clear hx hd hne hacc hown hC hCa hbxa
            go_wp2_with fail
            refine (H.out.2.1 _ HX.out.2.2.2.2 x1 x2 x3).mono ?_
            rintro e w2 ⟨rfl, hC2⟩
            have b7 := hC2.blk (heap_alloc_eq wr (.cells #[.int .i64 x1, .int .i64 x2, .int .i64 x3] 84)) (by simp)
            have v0 := cellB b7 (i := 0) (v := .int .i64 x1) rfl
            have v1 := cellB b7 (i := 1) (v := .int .i64 x2) rfl
            have v2 := cellB b7 (i := 2) (v := .int .i64 x3) rfl
            have hCw : Chg [] wr w2 := ((Chg.refl [] wr).alloc _).trans hC2
            have hown2 := own_kept HX.out.2.1 hCw (by simp)
            have hB2 : B ≤ w2.heap.size := by have h1 := (HX.out.2.2.1.trans hCw).size; have := HB.out; omega
            have H2 := Lib.hid hCw
            have hd1 : (accH s.M p k j).length + 1 ≤ maxLen := by unfold maxLen; omega
            have hd2 : ((accH s.M p k j).length + 1) * 24 ≤ 140737488355328 := by omega
            clear hC2 b7 hCw
            cases hpx : p (x1, x2, x3) with
            | true =>
              have HP := Lib.hid hpx
              clear hpx
              go_wp2_with (at_builtin; refine wpList_push rfl _ _ 78 rfl B 84 i0 (.agg #[.int .i64 0, .int .i64 0, .int .i64 0]) 3 24 Try.underlying78 hi hz0 hz1 hz2 rfl (by decide) u5 (accH s.M p k j).length _ rfl hown2 [.int .i64 x1, .int .i64 x2, .int .i64 x3] rfl rfl (by simp [Value.oneCell']) hd1 hd2 hB2 ?_; intro v' w3 hown3 hC3 hloc hnn)
              go_roundw
              case rel =>
                have e := HX.out.1
                rw [if_pos HP.out] at e
                refine ⟨j + 1, by omega, by go_num, ?_, (HX.out.2.2.1.trans H2.out).trans' hC3 (fun q hq => .inr (by have := own_ge HX.out.2.1 q hq; have := HB.out; omega))⟩
                rw [e, List.length_append, flatH_app]
                simpa [flatH, rowV] using hown3
              case measure => simp [intOf]; omega
            | false =>
              have HP := Lib.hid hpx
              have HO := Lib.hid hown2
              clear hpx hown2
              go_wp2
              go_roundw
              case rel =>
                have e := HX.out.1
                rw [if_neg (by rw [HP.out]; simp)] at e
                exact ⟨j + 1, by omega, by go_num, by rw [e]; exact HO.out, HX.out.2.2.1.trans H2.out⟩
              case measure => simp [intOf]; omega
          · have hjn : n = j := by omega
            subst hjn
            have HO := Lib.hid (And.intro hown hC)
            clear hown hC
            go_wp2
            go_roundw
            case rel => exact ⟨k + 1, by omega, by go_num, by rw [acc_next HT.out.2.1]; exact HO.out.1, HO.out.2⟩
            case measure => simp [intOf]; omega
    · have hk64 : k = 64 := by omega
      subst hk64
      have hlen : (accH s.M p 64 0).length ≤ 10000 := by
        rw [(acc_end s.M p).length_eq]
        have h1 := List.length_filter_le p s.M
        have h2 := H.out.1.inv.few
        omega
      have hS := sortc B u5 _ wr hown (by omega)
      have HS := Lib.hid (And.intro hS (And.intro hown hC))
      clear hS hown hC
      go_wp2_with (go_at_call 54; refine HS.out.1.mono ?_; rintro e w2 ⟨rfl, ts, hT1, hT2, hT3, hT4⟩)
      rw [Exit.noGoto_ret]
      go_ret
      have hts := ordH_unique (M := s.M.filter p) (H.out.1.inv.sets.sublist List.filter_sublist) (hT1.trans (acc_end s.M p)) (hT2.imp (fun h => Int.not_lt.2 h))
      rw [← hts]
      exact ⟨_, rfl, by rw [hT1.length_eq]; exact hT3, HS.out.2.2.trans' hT4 (fun q hq => .inr (by have := own_ge HS.out.2.1 q hq; have := HB.out; omega))⟩

end Go.Proofs.Ytonahpilmchnkaa
