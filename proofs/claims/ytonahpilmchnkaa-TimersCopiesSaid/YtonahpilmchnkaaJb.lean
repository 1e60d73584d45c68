
/- Timers: Stop, Arm, Clear: contracts. -/
import Derived.Test.YtonahpilmchnkaaJa
import Derived.Deep.RegionHeld3
namespace Go.Proofs.Ytonahpilmchnkaa
open Go.RowKit

theorem NextT.from_ {w w1 w2 : World} {b : Nat} {bs : Int → Nat} {vs : Int → List Value} {s : TS} (hC : Chg [] w w1) (h : NextT b bs vs s w1 w2) : NextT b bs vs s w w2 := by
  obtain ⟨vs2, hA, hC2, hB⟩ := h
  exact ⟨vs2, hA, (hC.mono (by simp)).trans hC2, fun x hx => (hB x hx).imp (fun h => h) (fun h => Nat.le_trans hC.size h)⟩
theorem NextT.calm {w w1 w2 : World} {b : Nat} {bs : Int → Nat} {vs : Int → List Value} {s : TS} (h : NextT b bs vs s w w1) (hC : Chg [] w1 w2) : NextT b bs vs s w w2 := by
  obtain ⟨vs2, hA, hC2, hB⟩ := h
  exact ⟨vs2, hA.calm hC, hC2.trans (hC.mono (by simp)), hB⟩
/-- The cells that are stored to. -/
theorem NextT.cells4 {w w2 : World} {b : Nat} {bs : Int → Nat} {vs : Int → List Value} {s : TS} (h : NextT b bs vs s w w2) {i : Nat} {e : TE} (he : s.L[i]? = some e) :
    (w2.cell? ⟨b, 3 + i * 7, none⟩ = some (.bool e.armed) ∧ w2.cell? ⟨b, 3 + i * 7 + 1, none⟩ = some (.int .i64 e.clock) ∧ w2.cell? ⟨b, 3 + i * 7 + 2, none⟩ = some (.int .i64 e.at_) ∧ w2.cell? ⟨b, 3 + i * 7 + 3, none⟩ = some (.int .i64 e.iv)) ∧ (∀ j : Nat, w2.frozen? ⟨b, j, none⟩ = false) := by
  obtain ⟨vs2, hA, _⟩ := h
  exact ⟨⟨hA.entry he (f := 0) (by omega) rfl, hA.entry he (f := 1) (by omega) rfl, hA.entry he (f := 2) (by omega) rfl, hA.entry he (f := 3) (by omega) rfl⟩, frozenB hA.head⟩
/-- An entry's first four cells. -/
theorem NextT.four {w w1 : World} {b : Nat} {bs : Int → Nat} {vs : Int → List Value} {s : TS} (h : NextT b bs vs s w w1) {i : Nat} {e : TE} (he : s.L[i]? = some e) (a : Bool) (c t v : Int) :
    NextT b bs vs ⟨s.n, s.L.set i ⟨a, c, t, v, e.out, e.cnt, e.ovr⟩, s.W⟩ w ((((w1.setCell ⟨b, 3 + i * 7, none⟩ (.bool a)).setCell ⟨b, 3 + i * 7 + 1, none⟩ (.int .i64 c)).setCell ⟨b, 3 + i * 7 + 2, none⟩ (.int .i64 t)).setCell ⟨b, 3 + i * 7 + 3, none⟩ (.int .i64 v)) := by
  have hi := (List.getElem?_eq_some_iff.1 he).1
  have g : ∀ x : TE, (s.L.set i x)[i]? = some x := fun x => List.getElem?_set_self hi
  have h1 := h.put he (f := 0) (by omega) (v := .bool a) (e' := ⟨a, e.clock, e.at_, e.iv, e.out, e.cnt, e.ovr⟩) rfl
  have h2 := h1.put (g _) (f := 1) (by omega) (v := .int .i64 c) (e' := ⟨a, c, e.at_, e.iv, e.out, e.cnt, e.ovr⟩) rfl
  rw [List.set_set] at h2
  have h3 := h2.put (g _) (f := 2) (by omega) (v := .int .i64 t) (e' := ⟨a, c, t, e.iv, e.out, e.cnt, e.ovr⟩) rfl
  rw [List.set_set] at h3
  have h4 := h3.put (g _) (f := 3) (by omega) (v := .int .i64 v) (e' := ⟨a, c, t, v, e.out, e.cnt, e.ovr⟩) rfl
  rw [List.set_set] at h4
  exact h4
set_option maxRecDepth 100000 in
set_option maxHeartbeats 4000000 in
theorem pstopc (b : Nat) (bs : Int → Nat) (vs : Int → List Value) (s : TS) (id : Int) (w : World) (h : TAt w b bs vs s) (hI : ∀ (i : Nat) e, s.L[i]? = some e → e.armed = true → isC e.clock) :
    Calls Try.prog 17 #[.pointer (some ⟨b, 0, none⟩), .int .i64 id] w fun e w' => e = .returned (.int .i64 (s.stopE id)) ∧ NextT b bs vs (s.stopS id) w w' := by
  have HMp := pmayc b bs vs s id true w h
  by_cases hin : inT s id
  · rw [if_pos ⟨hin, rfl⟩] at HMp
    rw [show s.stopE id = 0 from if_pos hin, show s.stopS id = s.rests id.toNat from if_pos hin]
    obtain ⟨i, rfl⟩ := Int.eq_ofNat_of_zero_le hin.1
    have hi8 : i < 8 := by have := hin.2; have := h.n8; omega
    obtain ⟨e, he⟩ : ∃ e, s.L[i]? = some e := ⟨_, List.getElem?_eq_getElem (by rw [h.len]; exact hi8)⟩
    rw [Int.toNat_natCast]
    have hz : (i : Int) < 8 := by omega
    have hz0 : (0 : Int) ≤ (i : Int) := by omega
    have HM := Lib.hid HMp
    have c0 := h.entry he (f := 0) (by omega) (v := .bool e.armed) rfl
    have HT := Lib.hid (And.intro h (And.intro he hI))
    have hr : s.rests i = ⟨s.n, s.L.set i e.rest, if e.armed then updW s.W e.clock ((s.W e.clock).canS i) else s.W⟩ := by unfold TS.rests; rw [he]
    rw [hr]
    have HR := Lib.hid hr
    clear h he hI hin hr HMp
    rw [Nat.add_zero] at c0
    cases ha : e.armed with
    | false =>
      rw [ha] at c0
      rw [if_neg (by simp)]
      have c1 := HT.out.1.entry HT.out.2.1 (f := 1) (by omega) (v := .int .i64 e.clock) rfl
      have c2 := HT.out.1.entry HT.out.2.1 (f := 2) (by omega) (v := .int .i64 e.at_) rfl
      have c3 := HT.out.1.entry HT.out.2.1 (f := 3) (by omega) (v := .int .i64 e.iv) rfl
      have fz := frozenB HT.out.1.head
      go_enter Try.func17, Try.ntmps17
      go_wp2_with (go_at_call 25; refine HM.out.mono ?_; rintro e w' ⟨rfl, rfl⟩)
      go_wp2
      go_ret
      exact ⟨rfl, (NextT.refl HT.out.1).four HT.out.2.1 false 0 0 0⟩
    | true =>
      rw [ha] at c0
      rw [if_pos rfl]
      have hcl := HT.out.2.2 i e HT.out.2.1 ha
      obtain ⟨c, hce⟩ : ∃ c : Nat, e.clock = (c : Int) := by
        rcases hcl with h1 | h1
        · exact ⟨0, h1⟩
        · exact ⟨1, h1⟩
      have hc2 : c < 2 := by
        rcases hcl with h1 | h1 <;> omega
      have hcz : (c : Int) < 2 := by omega
      have hcz0 : (0 : Int) ≤ (c : Int) := by omega
      rw [hce]
      rw [hce] at hcl
      have c1 := HT.out.1.entry HT.out.2.1 (f := 1) (by omega) (v := .int .i64 (c : Int)) (by rw [← hce]; rfl)
      have cw := HT.out.1.cw hc2
      have HL := Lib.hid (And.intro ha (And.intro hce hcl))
      clear ha hcl hce
      go_enter Try.func17, Try.ntmps17
      go_wp2_with (go_at_call 25; refine HM.out.mono ?_; rintro e w' ⟨rfl, rfl⟩)
      go_wp2
      have HCn := Lib.hid (cancelc (bs c) (vs c) (s.W c) i w'.drew ((HT.out.1.calm (Chg.refl _ _).drew).wh c HL.out.2.2))
      go_region_held3 (fun w' => w'.cell? ⟨b, 1 + c, none⟩ = some (.pointer (some ⟨bs c, 0, none⟩)) ∧ w'.cell? ⟨b, 3 + i * 7 + 1, none⟩ = some (.int .i64 (c : Int))) (first | exact ⟨cw, c1⟩ | exact x1)
        (first | (go_at_call 36; refine HCn.out.mono ?_; rintro e1 w2 ⟨rfl, vs2, hA2, hC2, hB2⟩; have hN2 := (HT.out.1.calm (Chg.refl _ _).drew).wheel HL.out.2.2 hA2 hC2 hB2; have x1 : w2.cell? ⟨b, 1 + c, none⟩ = some (.pointer (some ⟨bs c, 0, none⟩)) ∧ w2.cell? ⟨b, 3 + i * 7 + 1, none⟩ = some (.int .i64 (c : Int)) := (by obtain ⟨_, hh, _⟩ := hN2; exact ⟨hh.cw hc2, (hh.entry HT.out.2.1 (f := 1) (by omega) rfl).trans (by rw [HL.out.2.1])⟩); have H2 := Lib.hid hN2; clear hA2 hC2 hB2 hN2))
      have HN := Lib.hid (H2.out.from_ (Chg.refl _ _).drew)
      obtain ⟨⟨c0, c1, c2, c3⟩, fz⟩ := HN.out.cells4 HT.out.2.1
      clear H2 cw x1
      go_wp2
      go_ret
      exact ⟨rfl, HN.out.four HT.out.2.1 false 0 0 0⟩
  · rw [if_neg (fun h => hin h.1)] at HMp
    rw [show s.stopE id = 2 from if_neg hin, show s.stopS id = s from if_neg hin]
    have HM := Lib.hid HMp
    have HT := Lib.hid h
    clear h hI hin HMp
    go_enter Try.func17, Try.ntmps17
    go_wp2_with (go_at_call 25; refine HM.out.mono ?_; rintro e w' ⟨rfl, rfl⟩)
    go_wp2
    go_ret
    exact ⟨rfl, NextT.refl HT.out⟩

end Go.Proofs.Ytonahpilmchnkaa
