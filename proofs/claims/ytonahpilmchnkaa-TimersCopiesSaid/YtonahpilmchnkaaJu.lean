
/- metronomeref19: its timers in memory. -/
import Derived.Test.YtonahpilmchnkaaJn
import Derived.Deep.CutRange
namespace Go.Proofs.Ytonahpilmchnkaa
open Go.RowKit

/-! ### Cells -/
def rcl (n : Int) (L : List TE) (Z : List Int) (now : Int) : Array Value := (.int .i64 n :: (flatT L ++ (Z.map (Value.int .i64) ++ [.int .i64 now]))).toArray
theorem rcl_L {n : Int} {L : List TE} {Z : List Int} {now : Int} {i : Nat} {e : TE} (h : L[i]? = some e) {f : Nat} (hf : f < 7) : (rcl n L Z now)[1 + i * 7 + f]? = e.cells[f]? := by
  have hi := (List.getElem?_eq_some_iff.1 h).1
  unfold rcl
  rw [List.getElem?_toArray, show 1 + i * 7 + f = (i * 7 + f) + 1 by omega, List.getElem?_cons_succ, List.getElem?_append_left (by rw [flatT_len]; omega), flatT_get h hf]
theorem rcl_setL {n : Int} {L : List TE} {Z : List Int} {now : Int} {i : Nat} {e e' : TE} (h : L[i]? = some e) {f : Nat} (hf : f < 7) {v : Value} (hv : e.cells.set f v = e'.cells) : (rcl n L Z now).setIfInBounds (1 + i * 7 + f) v = rcl n (L.set i e') Z now := by
  have hi := (List.getElem?_eq_some_iff.1 h).1
  unfold rcl
  rw [List.setIfInBounds_toArray, show 1 + i * 7 + f = (i * 7 + f) + 1 by omega, List.set_cons_succ, List.set_append_left _ _ (by rw [flatT_len]; omega), flatT_set h hf hv]
theorem rcl_Z {n : Int} {L : List TE} {Z : List Int} {now : Int} (hL : L.length = 8) {i : Nat} {z : Int} (h : Z[i]? = some z) : (rcl n L Z now)[57 + i]? = some (.int .i64 z) := by
  have hi := (List.getElem?_eq_some_iff.1 h).1
  unfold rcl
  rw [List.getElem?_toArray, show 57 + i = (56 + i) + 1 by omega, List.getElem?_cons_succ, List.getElem?_append_right (by rw [flatT_len]; omega), flatT_len, hL, show 56 + i - 8 * 7 = i by omega, List.getElem?_append_left (by simpa using hi), List.getElem?_map, h]
  rfl
theorem rcl_setZ {n : Int} {L : List TE} {Z : List Int} {now : Int} (hL : L.length = 8) {i : Nat} (hi : i < Z.length) (z : Int) : (rcl n L Z now).setIfInBounds (57 + i) (.int .i64 z) = rcl n L (Z.set i z) now := by
  unfold rcl
  rw [List.setIfInBounds_toArray, show 57 + i = (56 + i) + 1 by omega, List.set_cons_succ, List.set_append_right _ _ (by rw [flatT_len]; omega), flatT_len, hL, show 56 + i - 8 * 7 = i by omega, List.set_append_left _ _ (by simpa using hi), List.map_set]
theorem rcl_now {n : Int} {L : List TE} {Z : List Int} {now : Int} (hL : L.length = 8) (hZ : Z.length = 8) : (rcl n L Z now)[65]? = some (.int .i64 now) := by
  unfold rcl
  rw [List.getElem?_toArray, show 65 = 64 + 1 by omega, List.getElem?_cons_succ, List.getElem?_append_right (by rw [flatT_len]; omega), flatT_len, hL, List.getElem?_append_right (by simp; omega)]
  simp [hZ]
theorem rcl_setnow {n : Int} {L : List TE} {Z : List Int} {now : Int} (hL : L.length = 8) (hZ : Z.length = 8) (m : Int) : (rcl n L Z now).setIfInBounds 65 (.int .i64 m) = rcl n L Z m := by
  unfold rcl
  rw [List.setIfInBounds_toArray, show 65 = 64 + 1 by omega, List.set_cons_succ, List.set_append_right _ _ (by rw [flatT_len]; omega), flatT_len, hL, List.set_append_right _ _ (by simp; omega)]
  simp [hZ]

/-! ### In memory -/
structure RAt (w : World) (b n : Nat) (L : List TE) (Z : List Int) (now : Int) : Prop where
  head : w.heap[b]? = some (.cells (rcl n L Z now) 54 (0, 0))
  len : L.length = 8
  zen : Z.length = 8
theorem RAt.kept {S : List Nat} {w w' : World} {b n : Nat} {L : List TE} {Z : List Int} {now : Int} (h : RAt w b n L Z now) (hC : Chg S w w') (hS : b ∉ S) : RAt w' b n L Z now := ⟨hC.blk h.head hS, h.len, h.zen⟩
theorem RAt.calm {w w' : World} {b n : Nat} {L : List TE} {Z : List Int} {now : Int} (h : RAt w b n L Z now) (hC : Chg [] w w') : RAt w' b n L Z now := h.kept hC (by simp)
theorem RAt.cn {w : World} {b n : Nat} {L : List TE} {Z : List Int} {now : Int} (h : RAt w b n L Z now) : w.cell? ⟨b, 0, none⟩ = some (.int .i64 n) := cellB h.head rfl
theorem RAt.cL {w : World} {b n : Nat} {L : List TE} {Z : List Int} {now : Int} (h : RAt w b n L Z now) {i : Nat} {e : TE} (he : L[i]? = some e) :
    (w.cell? ⟨b, 1 + i * 7, none⟩ = some (.bool e.armed) ∧ w.cell? ⟨b, 1 + i * 7 + 1, none⟩ = some (.int .i64 e.clock) ∧ w.cell? ⟨b, 1 + i * 7 + 2, none⟩ = some (.int .i64 e.at_) ∧ w.cell? ⟨b, 1 + i * 7 + 3, none⟩ = some (.int .i64 e.iv) ∧ w.cell? ⟨b, 1 + i * 7 + 4, none⟩ = some (.bool e.out) ∧ w.cell? ⟨b, 1 + i * 7 + 5, none⟩ = some (.int .i64 e.cnt) ∧ w.cell? ⟨b, 1 + i * 7 + 6, none⟩ = some (.int .i64 e.ovr)) := by
  have g : ∀ f (hf : f < 7) v, e.cells[f]? = some v → w.cell? ⟨b, 1 + i * 7 + f, none⟩ = some v := fun f hf v hv => cellB h.head (by rw [rcl_L he hf]; exact hv)
  exact ⟨g 0 (by omega) _ rfl, g 1 (by omega) _ rfl, g 2 (by omega) _ rfl, g 3 (by omega) _ rfl, g 4 (by omega) _ rfl, g 5 (by omega) _ rfl, g 6 (by omega) _ rfl⟩
theorem RAt.cZ {w : World} {b n : Nat} {L : List TE} {Z : List Int} {now : Int} (h : RAt w b n L Z now) {i : Nat} {z : Int} (hz : Z[i]? = some z) : w.cell? ⟨b, 57 + i, none⟩ = some (.int .i64 z) := cellB h.head (rcl_Z h.len hz)
theorem RAt.cnow {w : World} {b n : Nat} {L : List TE} {Z : List Int} {now : Int} (h : RAt w b n L Z now) : w.cell? ⟨b, 65, none⟩ = some (.int .i64 now) := cellB h.head (rcl_now h.len h.zen)
theorem RAt.fz {w : World} {b n : Nat} {L : List TE} {Z : List Int} {now : Int} (h : RAt w b n L Z now) (j : Nat) : w.frozen? ⟨b, j, none⟩ = false := frozenB h.head j
theorem RAt.put {w : World} {b n : Nat} {L : List TE} {Z : List Int} {now : Int} (h : RAt w b n L Z now) {i : Nat} {e : TE} (he : L[i]? = some e) {f : Nat} (hf : f < 7) {v : Value} (e' : TE) (hv : e.cells.set f v = e'.cells) : RAt (w.setCell ⟨b, 1 + i * 7 + f, none⟩ v) b n (L.set i e') Z now :=
  ⟨by rw [blk_setCell h.head v, rcl_setL he hf hv], by rw [List.length_set]; exact h.len, h.zen⟩
theorem RAt.putZ {w : World} {b n : Nat} {L : List TE} {Z : List Int} {now : Int} (h : RAt w b n L Z now) {i : Nat} (hi : i < 8) (z : Int) : RAt (w.setCell ⟨b, 57 + i, none⟩ (.int .i64 z)) b n L (Z.set i z) now :=
  ⟨by rw [blk_setCell h.head _, rcl_setZ h.len (by rw [h.zen]; exact hi)], h.len, by rw [List.length_set]; exact h.zen⟩
theorem RAt.putnow {w : World} {b n : Nat} {L : List TE} {Z : List Int} {now : Int} (h : RAt w b n L Z now) (m : Int) : RAt (w.setCell ⟨b, 65, none⟩ (.int .i64 m)) b n L Z m :=
  ⟨by rw [blk_setCell h.head _, rcl_setnow h.len h.zen], h.len, h.zen⟩
theorem RAt.four {w : World} {b n : Nat} {L : List TE} {Z : List Int} {now : Int} (h : RAt w b n L Z now) {i : Nat} {e : TE} (he : L[i]? = some e) (a : Bool) (c t v : Int) :
    RAt ((((w.setCell ⟨b, 1 + i * 7, none⟩ (.bool a)).setCell ⟨b, 1 + i * 7 + 1, none⟩ (.int .i64 c)).setCell ⟨b, 1 + i * 7 + 2, none⟩ (.int .i64 t)).setCell ⟨b, 1 + i * 7 + 3, none⟩ (.int .i64 v)) b n (L.set i ⟨a, c, t, v, e.out, e.cnt, e.ovr⟩) Z now := by
  have g : ∀ x : TE, (L.set i x)[i]? = some x := fun x => List.getElem?_set_self (List.getElem?_eq_some_iff.1 he).1
  have h1 := h.put he (f := 0) (by omega) (v := .bool a) ⟨a, e.clock, e.at_, e.iv, e.out, e.cnt, e.ovr⟩ rfl
  have h2 := h1.put (g _) (f := 1) (by omega) (v := .int .i64 c) ⟨a, c, e.at_, e.iv, e.out, e.cnt, e.ovr⟩ rfl
  rw [List.set_set] at h2
  have h3 := h2.put (g _) (f := 2) (by omega) (v := .int .i64 t) ⟨a, c, t, e.iv, e.out, e.cnt, e.ovr⟩ rfl
  rw [List.set_set] at h3
  have h4 := h3.put (g _) (f := 3) (by omega) (v := .int .i64 v) ⟨a, c, t, v, e.out, e.cnt, e.ovr⟩ rfl
  rw [List.set_set] at h4
  exact h4
theorem chg4 {w : World} {b i : Nat} {v0 v1 v2 v3 : Value} : Chg [b] w ((((w.setCell ⟨b, 1 + i * 7, none⟩ v0).setCell ⟨b, 1 + i * 7 + 1, none⟩ v1).setCell ⟨b, 1 + i * 7 + 2, none⟩ v2).setCell ⟨b, 1 + i * 7 + 3, none⟩ v3) :=
  ((((Chg.refl _ _).setCell _ _ (by simp)).setCell _ _ (by simp)).setCell _ _ (by simp)).setCell _ _ (by simp)

theorem rtimec (t : Int) (w : World) : Calls Try.prog 37 #[.int .i64 t] w fun e w' => e = .returned (.bool (decide (okAt t))) ∧ w' = w := by
  by_cases h1 : 0 ≤ t
  · by_cases h2 : t ≤ 1099511627776
    · have d1 : decide (0 ≤ t) = true := by simpa using h1
      have d2 : decide (t ≤ 1099511627776) = true := by simpa using h2
      rw [show decide (okAt t) = true from decide_eq_true ⟨h1, h2⟩]
      clear h1 h2
      go_enter Try.func37, Try.ntmps37
      go_wp2
      go_ret
      exact ⟨rfl, rfl⟩
    · have d1 : decide (0 ≤ t) = true := by simpa using h1
      have d2 : decide (t ≤ 1099511627776) = false := by simpa using h2
      rw [show decide (okAt t) = false from decide_eq_false (fun h => h2 h.2)]
      clear h1 h2
      go_enter Try.func37, Try.ntmps37
      go_wp2
      go_ret
      exact ⟨rfl, rfl⟩
  · have d1 : decide (0 ≤ t) = false := by simpa using h1
    rw [show decide (okAt t) = false from decide_eq_false (fun h => h1 h.1)]
    clear h1
    go_enter Try.func37, Try.ntmps37
    go_wp2
    go_ret
    exact ⟨rfl, rfl⟩
theorem rinc (b n : Nat) (L : List TE) (Z : List Int) (now id : Int) (w : World) (h : RAt w b n L Z now) : Calls Try.prog 47 #[.pointer (some ⟨b, 0, none⟩), .int .i64 id] w fun e w' => e = .returned (.bool (decide (0 ≤ id ∧ id < (n : Int)))) ∧ w' = w := by
  have c0 := h.cn
  clear h
  by_cases h1 : 0 ≤ id
  · have d1 : decide (0 ≤ id) = true := by simpa using h1
    obtain ⟨B, hB⟩ : ∃ B, B = decide (id < (n : Int)) := ⟨_, rfl⟩
    have e : decide (0 ≤ id ∧ id < (n : Int)) = B := by rw [hB]; simp [h1]
    rw [e]
    have d2 := hB.symm
    clear h1 hB e
    go_enter Try.func47, Try.ntmps47
    go_wp2
    go_ret
    exact ⟨rfl, rfl⟩
  · have d1 : decide (0 ≤ id) = false := by simpa using h1
    have e : decide (0 ≤ id ∧ id < (n : Int)) = false := decide_eq_false (fun h => h1 h.1)
    rw [e]
    clear h1 e
    go_enter Try.func47, Try.ntmps47
    go_wp2
    go_ret
    exact ⟨rfl, rfl⟩
set_option maxRecDepth 100000 in
set_option maxHeartbeats 4000000 in
theorem rrestsc (b n : Nat) (L : List TE) (Z : List Int) (now : Int) (i : Nat) (e : TE) (w : World) (h : RAt w b n L Z now) (he : L[i]? = some e) :
    Calls Try.prog 38 #[.pointer (some ⟨b, 0, none⟩), .int .i64 i] w fun x w' => x = .returned (.tuple #[]) ∧ RAt w' b n (L.set i e.rest) Z now ∧ Chg [b] w w' := by
  have hi8 : i < 8 := by have := (List.getElem?_eq_some_iff.1 he).1; have := h.len; omega
  have hz : (i : Int) < 8 := by omega
  have hz0 : (0 : Int) ≤ (i : Int) := by omega
  obtain ⟨c0, c1, c2, c3, c4, c5, c6⟩ := h.cL he
  have fz := h.fz
  have H := Lib.hid (h.four he false 0 0 0)
  clear h he
  go_enter Try.func38, Try.ntmps38
  go_wp2
  go_end0
  exact ⟨rfl, H.out, chg4⟩
set_option maxRecDepth 100000 in
set_option maxHeartbeats 4000000 in
theorem rarmsc (b n : Nat) (L : List TE) (Z : List Int) (now : Int) (i : Nat) (e : TE) (c t v : Int) (w : World) (h : RAt w b n L Z now) (he : L[i]? = some e) (h0 : 0 ≤ now) (h1 : now < 4611686018427387904) :
    Calls Try.prog 39 #[.pointer (some ⟨b, 0, none⟩), .int .i64 i, .int .i64 c, .int .i64 t, .int .i64 v] w fun x w' => x = .returned (.tuple #[]) ∧ RAt w' b n (L.set i (e.arm c t v)) (Z.set i (now + 1)) (now + 1) ∧ Chg [b] w w' := by
  have hi8 : i < 8 := by have := (List.getElem?_eq_some_iff.1 he).1; have := h.len; omega
  have hz : (i : Int) < 8 := by omega
  have hz0 : (0 : Int) ≤ (i : Int) := by omega
  have hwr : wrap64 (now + 1) = now + 1 := by unfold wrap64; omega
  have cnw := h.cnow
  have fz := h.fz
  have HH := Lib.hid (And.intro h he)
  clear h he
  go_enter Try.func39, Try.ntmps39
  go_wp2
  obtain ⟨W1, hW1⟩ : ∃ W1, W1 = w.setCell ⟨b, 65, none⟩ (.int .i64 (now + 1)) := ⟨_, rfl⟩
  rw [← hW1]
  have h1 := HH.out.1.putnow (now + 1)
  rw [← hW1] at h1
  have hC1 : Chg [b] w W1 := by rw [hW1]; exact (Chg.refl _ _).setCell _ _ (by simp)
  have cnw1 := h1.cnow
  have H1 := Lib.hid (And.intro h1 hC1)
  clear hW1 h1 hC1 cnw fz hwr
  refine region_still_tail 9 (by kernel_rfl) (by kernel_rfl) ?_
  simp only [List.take_succ_cons, List.take_zero, List.drop_succ_cons, List.drop_zero]
  repeat still_step
  refine wpStill_nil ?_
  obtain ⟨W2, hW2⟩ : ∃ W2, W2 = W1.drew := ⟨_, rfl⟩
  rw [← hW2]
  have h2 : RAt W2 b n L Z (now + 1) := by rw [hW2]; exact H1.out.1.calm (Chg.refl _ _).drew
  have hC2 : Chg [b] w W2 := by rw [hW2]; exact H1.out.2.drew
  obtain ⟨z, hzz⟩ : ∃ z, Z[i]? = some z := ⟨_, List.getElem?_eq_getElem (by rw [h2.zen]; exact hi8)⟩
  have cz := h2.cZ hzz
  have fz := h2.fz
  have H := Lib.hid (And.intro (h2.putZ hi8 (now + 1)) hC2)
  clear cnw1 hW2 h2 hC2 hzz
  go_upto_region 2 with fail
  obtain ⟨W3, hW3⟩ : ∃ W3, W3 = W2.setCell ⟨b, 57 + i, none⟩ (.int .i64 (now + 1)) := ⟨_, rfl⟩
  rw [← hW3]
  have h3 : RAt W3 b n L (Z.set i (now + 1)) (now + 1) := by rw [hW3]; exact H.out.1
  have hC3 : Chg [b] w W3 := by rw [hW3]; exact H.out.2.setCell _ _ (by simp)
  obtain ⟨c0, c1, c2, c3, c4, c5, c6⟩ := h3.cL HH.out.2
  have fz3 := h3.fz
  have H3 := Lib.hid (And.intro h3 hC3)
  clear hW3 h3 hC3 cz fz
  go_wp2
  go_end0
  exact ⟨rfl, H3.out.1.four HH.out.2 true c t v, H3.out.2.trans chg4⟩

end Go.Proofs.Ytonahpilmchnkaa
