
/- metronomelaw18.QueueSame answers true, whatever the rooms and the steps (written by wip/same18l.py). -/
import Derived.Test.YtiiafhlckmkcnaaGreatYk
import Derived.Test.YtiiafhlckmkcnaaGreatUo
import Derived.Test.YtiiafhlckmkcnaaGreatRow
import Derived.Deep.RegionHeld3
namespace Go.Proofs.YtiiafhlckmkcnaaGreat
open Go.RowKit

theorem qcsameu' (a b : Qc) (p q : Option Addr) (hp : p = a.px) (hq : q = b.px) (w : World) (ha : a.at w) (hb : b.at w) : Calls Tryz.prog 8 #[.pointer p, .pointer q] w fun e w' => e = .returned (.bool (qcSame a b)) ∧ Chg [] w w' := by
  subst hp
  subst hq
  exact qcsameu a b w ha hb
theorem qcsamed' (a b : Qc) (p q : Option Addr) (hp : p = a.pr) (hq : q = b.pr) (w : World) (ha : a.at w) (hb : b.at w) : Calls Tryz.prog 9 #[.pointer p, .pointer q] w fun e w' => e = .returned (.bool (qcSame a b)) ∧ Chg [] w w' := by
  subst hp
  subst hq
  exact qcsamed a b w ha hb
set_option maxRecDepth 100000 in
set_option maxHeartbeats 8000000 in
theorem queueSame_any (n0 n1 : Int) (v u : Value) (R S : List (Nat → Int)) (w : World) (hv : IsRows 5 w v R) (hu : IsRows 5 w u S) :
    Calls Tryz.prog 3 #[.agg #[.int .i64 n0, .int .i64 n1], v, u] w fun e w' => e = .returned (.bool true) ∧ Chg [] w w' := by
  obtain ⟨a, cap, rfl⟩ := hv.slice
  obtain ⟨b, cap2, rfl⟩ := hu.slice
  have HV := Lib.hid (And.intro hv hu)
  clear hv hu
  have hCX : Chg [] w (w.alloc (.cells #[.int .i64 n0, .int .i64 n1] 22)) := (Chg.refl [] w).alloc _
  have hbX := heap_alloc_eq w (.cells #[.int .i64 n0, .int .i64 n1] 22)
  have c0 := cellB hbX (i := 0) rfl
  have HX := Lib.hid (And.intro hbX hCX)
  clear hbX hCX
  go_enter Tryz.func3, Tryz.ntmps3
  go_wp2_with fail
  refine (qnewu n0 (w.alloc (.cells #[.int .i64 n0, .int .i64 n1] 22))).mono ?_
  rintro e w1 ⟨x1, r1, rfl, hC1, h1⟩
  have hb1 := hC1.blk HX.out.1 (by simp)
  have c1 := cellB hb1 (i := 1) rfl
  have H1 := Lib.hid (And.intro h1 (And.intro hC1 hb1))
  clear h1 hC1 hb1 c0
  go_wp2_with fail
  refine (qnewu n1 w1).mono ?_
  rintro e w2 ⟨x2, r2, rfl, hC2, h2⟩
  have hb2 := hC2.blk H1.out.2.2 (by simp)
  have a0 := cellB hb2 (i := 0) rfl
  have a1 := cellB hb2 (i := 1) rfl
  have H2 := Lib.hid (And.intro h2 (And.intro hC2 hb2))
  clear h2 hC2 hb2 c1
  go_wp2
  go_region_held3 (fun w' => w'.cell? ⟨w.heap.size, 0, none⟩ = some (.int .i64 n0) ∧ w'.cell? ⟨w.heap.size, 1, none⟩ = some (.int .i64 n1)) (first | exact ⟨a0, a1⟩ | exact ⟨b0, b1⟩ | exact ⟨e0, e1⟩)
    (first
    | (have tk := a0; go_at_call 6; refine (qnewd n0 w2.drew).mono ?_; rintro e w3 ⟨p1, rfl, hC3, h3⟩; have hb3 := (show Chg [] w2 w3 from ⟨hC3.os, hC3.tape, hC3.output, hC3.size, hC3.block⟩).blk H2.out.2.2 (by simp); have b0 := cellB hb3 (i := 0) rfl; have b1 := cellB hb3 (i := 1) rfl; clear a0 a1 tk)
    | (have tk := b0; go_at_call 6; refine (qnewd n1 w3).mono ?_; rintro e w4 ⟨p2, rfl, hC4, h4⟩; have hb4 := hC4.blk hb3 (by simp); have e0 := cellB hb4 (i := 0) rfl; have e1 := cellB hb4 (i := 1) rfl; clear b0 b1 tk))
  have H3 := Lib.hid (And.intro h3 (And.intro (show Chg [] w2 w3 from ⟨hC3.os, hC3.tape, hC3.output, hC3.size, hC3.block⟩) hb3))
  have H4 := Lib.hid (And.intro h4 (And.intro hC4 hb4))
  clear h3 hC3 hb3 h4 hC4 hb4 e1 e0
  obtain ⟨y, ea1, ea2, ea3, ea4, ea5, ea8⟩ := qc_made H1.out.1 H2.out.2.1 H3.out.1 H3.out.2.1 H4.out.2.1
  obtain ⟨z, eb1, eb2, eb3, eb4, eb5, eb8⟩ := qc_made H2.out.1 H3.out.2.1 H4.out.1 H4.out.2.1 (Chg.refl [] w4)
  have s0 : w.heap.size ≤ (w.alloc (.cells #[.int .i64 n0, .int .i64 n1] 22)).heap.size := HX.out.2.size
  have s1 := H1.out.2.1.size
  have s2 := H2.out.2.1.size
  have s3 := H3.out.2.1.size
  have s4 := H4.out.2.1.size
  have s2d : w2.drew.heap.size = w2.heap.size := rfl
  have HS := Lib.hid (And.intro (show QQ w.heap.size w4 y z from ⟨ea3, eb3, fun x hx hy => by have := ea8 x hx; have := eb8 x hy; omega, fun x hx => by have := ea8 x hx; omega, fun x hx => by have := eb8 x hx; omega⟩)
    (And.intro (((HX.out.2.trans H1.out.2.1).trans H2.out.2.1).trans (H3.out.2.1.trans H4.out.2.1)) (And.intro (show y.N ≤ ((0 : Nat) : Int) by omega) (show z.N ≤ ((0 : Nat) : Int) by omega))))
  obtain rfl := ea1
  obtain rfl := ea2
  obtain rfl := eb1
  obtain rfl := eb2
  clear H1 H2 H3 H4 HX ea3 eb3 ea4 eb4 ea5 eb5 ea8 eb8 s0 s1 s2 s3 s4 s2d
  go_wp2
  go_loopw [7, 11, 13, 14] (fun x p ok i wr => ∃ (k : Nat) (d : Qc), k ≤ R.length ∧ k ≤ 60 ∧ x = .pointer d.px ∧ p = .pointer d.pr ∧ ok = .bool true ∧ i = .int .i64 k ∧ QQ w.heap.size wr d z ∧ Chg [] w wr ∧ d.N ≤ k) (fun _ _ _ i _ => 60 - (intOf i).toNat)
  case atStart => exact ⟨0, y, by omega, by omega, rfl, rfl, rfl, rfl, HS.out.1, HS.out.2.1, HS.out.2.2.1⟩
  case round =>
    have HS2 := Lib.hid HS.out.2.2.2
    clear HS
    obtain ⟨k, d, hk1, hk2, rfl, rfl, rfl, rfl, hS, hG, hN⟩ := hrel
    have HK := Lib.hid (And.intro hS (And.intro hG hN))
    clear hS hG hN
    have hcase : (k < R.length ∧ k < 60 ∧ d.on = true) ∨ (¬ k < R.length) ∨ (k < R.length ∧ ¬ k < 60) ∨ (k < R.length ∧ k < 60 ∧ d.on = false) := by
      cases d.on <;> simp <;> omega
    rcases hcase with ⟨hlt, hlt2, hon⟩ | hlt | ⟨hlt, hlt2⟩ | ⟨hlt, hlt2, hon⟩
    · as_aux_lemma =>
      have hne : R ≠ [] := fun e => by rw [e] at hlt; simp at hlt
      obtain ⟨g, o, cap', hsl, hcells⟩ := HV.out.1.addr hne
      cases hsl
      obtain ⟨x, hx⟩ : ∃ x, R[k]? = some x := ⟨_, List.getElem?_eq_getElem hlt⟩
      have hrow := IsRows.row hcells HK.out.2.1 hx
      have d0 := hrow 0 (by omega)
      have d1 := hrow 1 (by omega)
      have d2 := hrow 2 (by omega)
      have d3 := hrow 3 (by omega)
      have d4 := hrow 4 (by omega)
      rw [Nat.add_zero] at d0
      generalize x 0 = kd at *
      generalize x 1 = t at *
      generalize x 2 = p at *
      generalize x 3 = ma at *
      generalize x 4 = mb at *
      have hd := qcdo d kd t p ma mb wr HK.out.1.A hon (by have := HK.out.2.2; omega)
      obtain ⟨pa, pb, hpx, hpr⟩ : ∃ pa pb, d.px = some pa ∧ d.pr = some pb := by
        rcases HK.out.1.A.some with ⟨h0, _⟩ | ⟨_, pa, pb, h1, h2⟩
        · rw [hon] at h0; cases h0
        · exact ⟨pa, pb, h1, h2⟩
      rw [hpx, hpr] at hd ⊢
      unfold stepV at hd
      have HD := Lib.hid hd
      clear hd hcells hrow hx hne hpx hpr hon
      go_wp2_with fail
      refine HD.out.mono ?_
      rintro e w4 ⟨c', rfl, ha1, ha2, ha3, ha4, hC⟩
      have HM := Lib.hid (And.intro (HK.out.1.stepA HK.out.2.1.size ha2 ha3 hC) (And.intro (HK.out.1.chgA rfl HK.out.2.1 hC) ha4))
      have hkk : (k : Int) + 1 = ((k + 1 : Nat) : Int) := by omega
      have HKK := Lib.hid hkk
      clear ha1 ha2 ha3 ha4 hC d0 d1 d2 d3 d4 HD hkk
      go_wp2
      go_roundw
      case rel => exact ⟨k + 1, c', by omega, by omega, rfl, rfl, rfl, by go_num, HM.out.1, HM.out.2.1, by have h1 := HM.out.2.2; have h2 := HK.out.2.2; omega⟩
      case measure => simp [intOf]; omega
    · as_aux_lemma =>
      have HS := Lib.hid (And.intro HK.out.1.swap (And.intro HK.out.2.1 (And.intro HS2.out True.intro)))
      clear HK HS2
      go_wp2
      clear hlt hk1 hk2
      go_loopw [9, 12, 13, 15] (fun x p ok i wr => ∃ (k : Nat) (c : Qc), k ≤ S.length ∧ k ≤ 60 ∧ x = .pointer c.px ∧ p = .pointer c.pr ∧ ok = .bool true ∧ i = .int .i64 k ∧ QQ w.heap.size wr c d ∧ Chg [] w wr ∧ c.N ≤ k) (fun _ _ _ i _ => 60 - (intOf i).toNat)
      case atStart => exact ⟨0, z, by omega, by omega, rfl, rfl, rfl, rfl, HS.out.1, HS.out.2.1, HS.out.2.2.1⟩
      case round =>
        have HS2 := Lib.hid HS.out.2.2.2
        clear HS
        obtain ⟨k, c, hk1, hk2, rfl, rfl, rfl, rfl, hS, hG, hN⟩ := hrel
        have HK := Lib.hid (And.intro hS (And.intro hG hN))
        clear hS hG hN
        have hcase : (k < S.length ∧ k < 60 ∧ c.on = true) ∨ (¬ k < S.length) ∨ (k < S.length ∧ ¬ k < 60) ∨ (k < S.length ∧ k < 60 ∧ c.on = false) := by
          cases c.on <;> simp <;> omega
        rcases hcase with ⟨hlt, hlt2, hon⟩ | hlt | ⟨hlt, hlt2⟩ | ⟨hlt, hlt2, hon⟩
        · as_aux_lemma =>
          have hne : S ≠ [] := fun e => by rw [e] at hlt; simp at hlt
          obtain ⟨g, o, cap', hsl, hcells⟩ := HV.out.2.addr hne
          cases hsl
          obtain ⟨x, hx⟩ : ∃ x, S[k]? = some x := ⟨_, List.getElem?_eq_getElem hlt⟩
          have hrow := IsRows.row hcells HK.out.2.1 hx
          have d0 := hrow 0 (by omega)
          have d1 := hrow 1 (by omega)
          have d2 := hrow 2 (by omega)
          have d3 := hrow 3 (by omega)
          have d4 := hrow 4 (by omega)
          rw [Nat.add_zero] at d0
          generalize x 0 = kd at *
          generalize x 1 = t at *
          generalize x 2 = p at *
          generalize x 3 = ma at *
          generalize x 4 = mb at *
          have hd := qcdo c kd t p ma mb wr HK.out.1.A hon (by have := HK.out.2.2; omega)
          obtain ⟨pa, pb, hpx, hpr⟩ : ∃ pa pb, c.px = some pa ∧ c.pr = some pb := by
            rcases HK.out.1.A.some with ⟨h0, _⟩ | ⟨_, pa, pb, h1, h2⟩
            · rw [hon] at h0; cases h0
            · exact ⟨pa, pb, h1, h2⟩
          rw [hpx, hpr] at hd ⊢
          unfold stepV at hd
          have HD := Lib.hid hd
          clear hd hcells hrow hx hne hpx hpr hon
          go_wp2_with fail
          refine HD.out.mono ?_
          rintro e w4 ⟨c', rfl, ha1, ha2, ha3, ha4, hC⟩
          have HM := Lib.hid (And.intro (HK.out.1.stepA HK.out.2.1.size ha2 ha3 hC) (And.intro (HK.out.1.chgA rfl HK.out.2.1 hC) ha4))
          have hkk : (k : Int) + 1 = ((k + 1 : Nat) : Int) := by omega
          have HKK := Lib.hid hkk
          clear ha1 ha2 ha3 ha4 hC d0 d1 d2 d3 d4 HD hkk
          go_wp2
          go_roundw
          case rel => exact ⟨k + 1, c', by omega, by omega, rfl, rfl, rfl, by go_num, HM.out.1, HM.out.2.1, by have h1 := HM.out.2.2; have h2 := HK.out.2.2; omega⟩
          case measure => simp [intOf]; omega
        · as_aux_lemma =>
          have e1 : (qcSame d c == qcSame d c) = true := by simp
          go_wp2_with fail
          refine (qcsameu' d c _ _ (by first | rfl | exact HOFFa.out.1.symm) (by first | rfl | exact HOFFb.out.1.symm) wr HK.out.1.B2 HK.out.1.A).mono ?_
          rintro e w5 ⟨rfl, hC⟩
          have H5 := Lib.hid (And.intro (HK.out.1.calm hC) (HK.out.2.1.trans hC))
          clear hC
          go_wp2_with fail
          refine (qcsamed' d c _ _ (by first | rfl | exact HOFFa.out.2.symm) (by first | rfl | exact HOFFb.out.2.symm) w5 H5.out.1.B2 H5.out.1.A).mono ?_
          rintro e w6 ⟨rfl, hC⟩
          have H6 := Lib.hid (And.intro (H5.out.1.calm hC) (H5.out.2.trans hC))
          clear hC H5
          go_wp2_with fail
          refine (qcsameu' d d _ _ (by first | rfl | exact HOFFa.out.1.symm) (by first | rfl | exact HOFFa.out.1.symm) w6 H6.out.1.B2 H6.out.1.B2).mono ?_
          rintro e w7 ⟨rfl, hC⟩
          rw [qcSame_self d]
          have H7 := Lib.hid (H6.out.2.trans hC)
          clear hC
          go_wp2_with fail
          refine (known18 w7).mono ?_
          rintro e w8 ⟨rfl, hC⟩
          have H8 := Lib.hid (H7.out.trans hC)
          clear hC
          go_wp2
          go_ret
          exact ⟨rfl, H8.out⟩
        · as_aux_lemma =>
          have e1 : (qcSame d c == qcSame d c) = true := by simp
          go_wp2_with fail
          refine (qcsameu' d c _ _ (by first | rfl | exact HOFFa.out.1.symm) (by first | rfl | exact HOFFb.out.1.symm) wr HK.out.1.B2 HK.out.1.A).mono ?_
          rintro e w5 ⟨rfl, hC⟩
          have H5 := Lib.hid (And.intro (HK.out.1.calm hC) (HK.out.2.1.trans hC))
          clear hC
          go_wp2_with fail
          refine (qcsamed' d c _ _ (by first | rfl | exact HOFFa.out.2.symm) (by first | rfl | exact HOFFb.out.2.symm) w5 H5.out.1.B2 H5.out.1.A).mono ?_
          rintro e w6 ⟨rfl, hC⟩
          have H6 := Lib.hid (And.intro (H5.out.1.calm hC) (H5.out.2.trans hC))
          clear hC H5
          go_wp2_with fail
          refine (qcsameu' d d _ _ (by first | rfl | exact HOFFa.out.1.symm) (by first | rfl | exact HOFFa.out.1.symm) w6 H6.out.1.B2 H6.out.1.B2).mono ?_
          rintro e w7 ⟨rfl, hC⟩
          rw [qcSame_self d]
          have H7 := Lib.hid (H6.out.2.trans hC)
          clear hC
          go_wp2_with fail
          refine (known18 w7).mono ?_
          rintro e w8 ⟨rfl, hC⟩
          have H8 := Lib.hid (H7.out.trans hC)
          clear hC
          go_wp2
          go_ret
          exact ⟨rfl, H8.out⟩
        · as_aux_lemma =>
          obtain ⟨hpx, hpr⟩ : c.px = none ∧ c.pr = none := by
            rcases HK.out.1.A.some with ⟨_, h1, h2⟩ | ⟨h0, _⟩
            · exact ⟨h1, h2⟩
            · rw [hon] at h0; cases h0
          have HOFFb := Lib.hid (And.intro hpx hpr)
          rw [hpx, hpr]
          clear hpx hpr hon
          have e1 : (qcSame d c == qcSame d c) = true := by simp
          go_wp2_with fail
          refine (qcsameu' d c _ _ (by first | rfl | exact HOFFa.out.1.symm) (by first | rfl | exact HOFFb.out.1.symm) wr HK.out.1.B2 HK.out.1.A).mono ?_
          rintro e w5 ⟨rfl, hC⟩
          have H5 := Lib.hid (And.intro (HK.out.1.calm hC) (HK.out.2.1.trans hC))
          clear hC
          go_wp2_with fail
          refine (qcsamed' d c _ _ (by first | rfl | exact HOFFa.out.2.symm) (by first | rfl | exact HOFFb.out.2.symm) w5 H5.out.1.B2 H5.out.1.A).mono ?_
          rintro e w6 ⟨rfl, hC⟩
          have H6 := Lib.hid (And.intro (H5.out.1.calm hC) (H5.out.2.trans hC))
          clear hC H5
          go_wp2_with fail
          refine (qcsameu' d d _ _ (by first | rfl | exact HOFFa.out.1.symm) (by first | rfl | exact HOFFa.out.1.symm) w6 H6.out.1.B2 H6.out.1.B2).mono ?_
          rintro e w7 ⟨rfl, hC⟩
          rw [qcSame_self d]
          have H7 := Lib.hid (H6.out.2.trans hC)
          clear hC
          go_wp2_with fail
          refine (known18 w7).mono ?_
          rintro e w8 ⟨rfl, hC⟩
          have H8 := Lib.hid (H7.out.trans hC)
          clear hC
          go_wp2
          go_ret
          exact ⟨rfl, H8.out⟩
    · as_aux_lemma =>
      have HS := Lib.hid (And.intro HK.out.1.swap (And.intro HK.out.2.1 (And.intro HS2.out True.intro)))
      clear HK HS2
      go_wp2
      clear hlt hlt2 hk1 hk2
      go_loopw [9, 12, 13, 15] (fun x p ok i wr => ∃ (k : Nat) (c : Qc), k ≤ S.length ∧ k ≤ 60 ∧ x = .pointer c.px ∧ p = .pointer c.pr ∧ ok = .bool true ∧ i = .int .i64 k ∧ QQ w.heap.size wr c d ∧ Chg [] w wr ∧ c.N ≤ k) (fun _ _ _ i _ => 60 - (intOf i).toNat)
      case atStart => exact ⟨0, z, by omega, by omega, rfl, rfl, rfl, rfl, HS.out.1, HS.out.2.1, HS.out.2.2.1⟩
      case round =>
        have HS2 := Lib.hid HS.out.2.2.2
        clear HS
        obtain ⟨k, c, hk1, hk2, rfl, rfl, rfl, rfl, hS, hG, hN⟩ := hrel
        have HK := Lib.hid (And.intro hS (And.intro hG hN))
        clear hS hG hN
        have hcase : (k < S.length ∧ k < 60 ∧ c.on = true) ∨ (¬ k < S.length) ∨ (k < S.length ∧ ¬ k < 60) ∨ (k < S.length ∧ k < 60 ∧ c.on = false) := by
          cases c.on <;> simp <;> omega
        rcases hcase with ⟨hlt, hlt2, hon⟩ | hlt | ⟨hlt, hlt2⟩ | ⟨hlt, hlt2, hon⟩
        · as_aux_lemma =>
          have hne : S ≠ [] := fun e => by rw [e] at hlt; simp at hlt
          obtain ⟨g, o, cap', hsl, hcells⟩ := HV.out.2.addr hne
          cases hsl
          obtain ⟨x, hx⟩ : ∃ x, S[k]? = some x := ⟨_, List.getElem?_eq_getElem hlt⟩
          have hrow := IsRows.row hcells HK.out.2.1 hx
          have d0 := hrow 0 (by omega)
          have d1 := hrow 1 (by omega)
          have d2 := hrow 2 (by omega)
          have d3 := hrow 3 (by omega)
          have d4 := hrow 4 (by omega)
          rw [Nat.add_zero] at d0
          generalize x 0 = kd at *
          generalize x 1 = t at *
          generalize x 2 = p at *
          generalize x 3 = ma at *
          generalize x 4 = mb at *
          have hd := qcdo c kd t p ma mb wr HK.out.1.A hon (by have := HK.out.2.2; omega)
          obtain ⟨pa, pb, hpx, hpr⟩ : ∃ pa pb, c.px = some pa ∧ c.pr = some pb := by
            rcases HK.out.1.A.some with ⟨h0, _⟩ | ⟨_, pa, pb, h1, h2⟩
            · rw [hon] at h0; cases h0
            · exact ⟨pa, pb, h1, h2⟩
          rw [hpx, hpr] at hd ⊢
          unfold stepV at hd
          have HD := Lib.hid hd
          clear hd hcells hrow hx hne hpx hpr hon
          go_wp2_with fail
          refine HD.out.mono ?_
          rintro e w4 ⟨c', rfl, ha1, ha2, ha3, ha4, hC⟩
          have HM := Lib.hid (And.intro (HK.out.1.stepA HK.out.2.1.size ha2 ha3 hC) (And.intro (HK.out.1.chgA rfl HK.out.2.1 hC) ha4))
          have hkk : (k : Int) + 1 = ((k + 1 : Nat) : Int) := by omega
          have HKK := Lib.hid hkk
          clear ha1 ha2 ha3 ha4 hC d0 d1 d2 d3 d4 HD hkk
          go_wp2
          go_roundw
          case rel => exact ⟨k + 1, c', by omega, by omega, rfl, rfl, rfl, by go_num, HM.out.1, HM.out.2.1, by have h1 := HM.out.2.2; have h2 := HK.out.2.2; omega⟩
          case measure => simp [intOf]; omega
        · as_aux_lemma =>
          have e1 : (qcSame d c == qcSame d c) = true := by simp
          go_wp2_with fail
          refine (qcsameu' d c _ _ (by first | rfl | exact HOFFa.out.1.symm) (by first | rfl | exact HOFFb.out.1.symm) wr HK.out.1.B2 HK.out.1.A).mono ?_
          rintro e w5 ⟨rfl, hC⟩
          have H5 := Lib.hid (And.intro (HK.out.1.calm hC) (HK.out.2.1.trans hC))
          clear hC
          go_wp2_with fail
          refine (qcsamed' d c _ _ (by first | rfl | exact HOFFa.out.2.symm) (by first | rfl | exact HOFFb.out.2.symm) w5 H5.out.1.B2 H5.out.1.A).mono ?_
          rintro e w6 ⟨rfl, hC⟩
          have H6 := Lib.hid (And.intro (H5.out.1.calm hC) (H5.out.2.trans hC))
          clear hC H5
          go_wp2_with fail
          refine (qcsameu' d d _ _ (by first | rfl | exact HOFFa.out.1.symm) (by first | rfl | exact HOFFa.out.1.symm) w6 H6.out.1.B2 H6.out.1.B2).mono ?_
          rintro e w7 ⟨rfl, hC⟩
          rw [qcSame_self d]
          have H7 := Lib.hid (H6.out.2.trans hC)
          clear hC
          go_wp2_with fail
          refine (known18 w7).mono ?_
          rintro e w8 ⟨rfl, hC⟩
          have H8 := Lib.hid (H7.out.trans hC)
          clear hC
          go_wp2
          go_ret
          exact ⟨rfl, H8.out⟩
        · as_aux_lemma =>
          have e1 : (qcSame d c == qcSame d c) = true := by simp
          go_wp2_with fail
          refine (qcsameu' d c _ _ (by first | rfl | exact HOFFa.out.1.symm) (by first | rfl | exact HOFFb.out.1.symm) wr HK.out.1.B2 HK.out.1.A).mono ?_
          rintro e w5 ⟨rfl, hC⟩
          have H5 := Lib.hid (And.intro (HK.out.1.calm hC) (HK.out.2.1.trans hC))
          clear hC
          go_wp2_with fail
          refine (qcsamed' d c _ _ (by first | rfl | exact HOFFa.out.2.symm) (by first | rfl | exact HOFFb.out.2.symm) w5 H5.out.1.B2 H5.out.1.A).mono ?_
          rintro e w6 ⟨rfl, hC⟩
          have H6 := Lib.hid (And.intro (H5.out.1.calm hC) (H5.out.2.trans hC))
          clear hC H5
          go_wp2_with fail
          refine (qcsameu' d d _ _ (by first | rfl | exact HOFFa.out.1.symm) (by first | rfl | exact HOFFa.out.1.symm) w6 H6.out.1.B2 H6.out.1.B2).mono ?_
          rintro e w7 ⟨rfl, hC⟩
          rw [qcSame_self d]
          have H7 := Lib.hid (H6.out.2.trans hC)
          clear hC
          go_wp2_with fail
          refine (known18 w7).mono ?_
          rintro e w8 ⟨rfl, hC⟩
          have H8 := Lib.hid (H7.out.trans hC)
          clear hC
          go_wp2
          go_ret
          exact ⟨rfl, H8.out⟩
        · as_aux_lemma =>
          obtain ⟨hpx, hpr⟩ : c.px = none ∧ c.pr = none := by
            rcases HK.out.1.A.some with ⟨_, h1, h2⟩ | ⟨h0, _⟩
            · exact ⟨h1, h2⟩
            · rw [hon] at h0; cases h0
          have HOFFb := Lib.hid (And.intro hpx hpr)
          rw [hpx, hpr]
          clear hpx hpr hon
          have e1 : (qcSame d c == qcSame d c) = true := by simp
          go_wp2_with fail
          refine (qcsameu' d c _ _ (by first | rfl | exact HOFFa.out.1.symm) (by first | rfl | exact HOFFb.out.1.symm) wr HK.out.1.B2 HK.out.1.A).mono ?_
          rintro e w5 ⟨rfl, hC⟩
          have H5 := Lib.hid (And.intro (HK.out.1.calm hC) (HK.out.2.1.trans hC))
          clear hC
          go_wp2_with fail
          refine (qcsamed' d c _ _ (by first | rfl | exact HOFFa.out.2.symm) (by first | rfl | exact HOFFb.out.2.symm) w5 H5.out.1.B2 H5.out.1.A).mono ?_
          rintro e w6 ⟨rfl, hC⟩
          have H6 := Lib.hid (And.intro (H5.out.1.calm hC) (H5.out.2.trans hC))
          clear hC H5
          go_wp2_with fail
          refine (qcsameu' d d _ _ (by first | rfl | exact HOFFa.out.1.symm) (by first | rfl | exact HOFFa.out.1.symm) w6 H6.out.1.B2 H6.out.1.B2).mono ?_
          rintro e w7 ⟨rfl, hC⟩
          rw [qcSame_self d]
          have H7 := Lib.hid (H6.out.2.trans hC)
          clear hC
          go_wp2_with fail
          refine (known18 w7).mono ?_
          rintro e w8 ⟨rfl, hC⟩
          have H8 := Lib.hid (H7.out.trans hC)
          clear hC
          go_wp2
          go_ret
          exact ⟨rfl, H8.out⟩
    · as_aux_lemma =>
      obtain ⟨hpx, hpr⟩ : d.px = none ∧ d.pr = none := by
        rcases HK.out.1.A.some with ⟨_, h1, h2⟩ | ⟨h0, _⟩
        · exact ⟨h1, h2⟩
        · rw [hon] at h0; cases h0
      have HOFFa := Lib.hid (And.intro hpx hpr)
      rw [hpx, hpr]
      clear hpx hpr hon
      have HS := Lib.hid (And.intro HK.out.1.swap (And.intro HK.out.2.1 (And.intro HS2.out True.intro)))
      clear HK HS2
      go_wp2
      clear hlt hlt2 hk1 hk2
      go_loopw [9, 12, 13, 15] (fun x p ok i wr => ∃ (k : Nat) (c : Qc), k ≤ S.length ∧ k ≤ 60 ∧ x = .pointer c.px ∧ p = .pointer c.pr ∧ ok = .bool true ∧ i = .int .i64 k ∧ QQ w.heap.size wr c d ∧ Chg [] w wr ∧ c.N ≤ k) (fun _ _ _ i _ => 60 - (intOf i).toNat)
      case atStart => exact ⟨0, z, by omega, by omega, rfl, rfl, rfl, rfl, HS.out.1, HS.out.2.1, HS.out.2.2.1⟩
      case round =>
        have HS2 := Lib.hid HS.out.2.2.2
        clear HS
        obtain ⟨k, c, hk1, hk2, rfl, rfl, rfl, rfl, hS, hG, hN⟩ := hrel
        have HK := Lib.hid (And.intro hS (And.intro hG hN))
        clear hS hG hN
        have hcase : (k < S.length ∧ k < 60 ∧ c.on = true) ∨ (¬ k < S.length) ∨ (k < S.length ∧ ¬ k < 60) ∨ (k < S.length ∧ k < 60 ∧ c.on = false) := by
          cases c.on <;> simp <;> omega
        rcases hcase with ⟨hlt, hlt2, hon⟩ | hlt | ⟨hlt, hlt2⟩ | ⟨hlt, hlt2, hon⟩
        · as_aux_lemma =>
          have hne : S ≠ [] := fun e => by rw [e] at hlt; simp at hlt
          obtain ⟨g, o, cap', hsl, hcells⟩ := HV.out.2.addr hne
          cases hsl
          obtain ⟨x, hx⟩ : ∃ x, S[k]? = some x := ⟨_, List.getElem?_eq_getElem hlt⟩
          have hrow := IsRows.row hcells HK.out.2.1 hx
          have d0 := hrow 0 (by omega)
          have d1 := hrow 1 (by omega)
          have d2 := hrow 2 (by omega)
          have d3 := hrow 3 (by omega)
          have d4 := hrow 4 (by omega)
          rw [Nat.add_zero] at d0
          generalize x 0 = kd at *
          generalize x 1 = t at *
          generalize x 2 = p at *
          generalize x 3 = ma at *
          generalize x 4 = mb at *
          have hd := qcdo c kd t p ma mb wr HK.out.1.A hon (by have := HK.out.2.2; omega)
          obtain ⟨pa, pb, hpx, hpr⟩ : ∃ pa pb, c.px = some pa ∧ c.pr = some pb := by
            rcases HK.out.1.A.some with ⟨h0, _⟩ | ⟨_, pa, pb, h1, h2⟩
            · rw [hon] at h0; cases h0
            · exact ⟨pa, pb, h1, h2⟩
          rw [hpx, hpr] at hd ⊢
          unfold stepV at hd
          have HD := Lib.hid hd
          clear hd hcells hrow hx hne hpx hpr hon
          go_wp2_with fail
          refine HD.out.mono ?_
          rintro e w4 ⟨c', rfl, ha1, ha2, ha3, ha4, hC⟩
          have HM := Lib.hid (And.intro (HK.out.1.stepA HK.out.2.1.size ha2 ha3 hC) (And.intro (HK.out.1.chgA rfl HK.out.2.1 hC) ha4))
          have hkk : (k : Int) + 1 = ((k + 1 : Nat) : Int) := by omega
          have HKK := Lib.hid hkk
          clear ha1 ha2 ha3 ha4 hC d0 d1 d2 d3 d4 HD hkk
          go_wp2
          go_roundw
          case rel => exact ⟨k + 1, c', by omega, by omega, rfl, rfl, rfl, by go_num, HM.out.1, HM.out.2.1, by have h1 := HM.out.2.2; have h2 := HK.out.2.2; omega⟩
          case measure => simp [intOf]; omega
        · as_aux_lemma =>
          have e1 : (qcSame d c == qcSame d c) = true := by simp
          go_wp2_with fail
          refine (qcsameu' d c _ _ (by first | rfl | exact HOFFa.out.1.symm) (by first | rfl | exact HOFFb.out.1.symm) wr HK.out.1.B2 HK.out.1.A).mono ?_
          rintro e w5 ⟨rfl, hC⟩
          have H5 := Lib.hid (And.intro (HK.out.1.calm hC) (HK.out.2.1.trans hC))
          clear hC
          go_wp2_with fail
          refine (qcsamed' d c _ _ (by first | rfl | exact HOFFa.out.2.symm) (by first | rfl | exact HOFFb.out.2.symm) w5 H5.out.1.B2 H5.out.1.A).mono ?_
          rintro e w6 ⟨rfl, hC⟩
          have H6 := Lib.hid (And.intro (H5.out.1.calm hC) (H5.out.2.trans hC))
          clear hC H5
          go_wp2_with fail
          refine (qcsameu' d d _ _ (by first | rfl | exact HOFFa.out.1.symm) (by first | rfl | exact HOFFa.out.1.symm) w6 H6.out.1.B2 H6.out.1.B2).mono ?_
          rintro e w7 ⟨rfl, hC⟩
          rw [qcSame_self d]
          have H7 := Lib.hid (H6.out.2.trans hC)
          clear hC
          go_wp2_with fail
          refine (known18 w7).mono ?_
          rintro e w8 ⟨rfl, hC⟩
          have H8 := Lib.hid (H7.out.trans hC)
          clear hC
          go_wp2
          go_ret
          exact ⟨rfl, H8.out⟩
        · as_aux_lemma =>
          have e1 : (qcSame d c == qcSame d c) = true := by simp
          go_wp2_with fail
          refine (qcsameu' d c _ _ (by first | rfl | exact HOFFa.out.1.symm) (by first | rfl | exact HOFFb.out.1.symm) wr HK.out.1.B2 HK.out.1.A).mono ?_
          rintro e w5 ⟨rfl, hC⟩
          have H5 := Lib.hid (And.intro (HK.out.1.calm hC) (HK.out.2.1.trans hC))
          clear hC
          go_wp2_with fail
          refine (qcsamed' d c _ _ (by first | rfl | exact HOFFa.out.2.symm) (by first | rfl | exact HOFFb.out.2.symm) w5 H5.out.1.B2 H5.out.1.A).mono ?_
          rintro e w6 ⟨rfl, hC⟩
          have H6 := Lib.hid (And.intro (H5.out.1.calm hC) (H5.out.2.trans hC))
          clear hC H5
          go_wp2_with fail
          refine (qcsameu' d d _ _ (by first | rfl | exact HOFFa.out.1.symm) (by first | rfl | exact HOFFa.out.1.symm) w6 H6.out.1.B2 H6.out.1.B2).mono ?_
          rintro e w7 ⟨rfl, hC⟩
          rw [qcSame_self d]
          have H7 := Lib.hid (H6.out.2.trans hC)
          clear hC
          go_wp2_with fail
          refine (known18 w7).mono ?_
          rintro e w8 ⟨rfl, hC⟩
          have H8 := Lib.hid (H7.out.trans hC)
          clear hC
          go_wp2
          go_ret
          exact ⟨rfl, H8.out⟩
        · as_aux_lemma =>
          obtain ⟨hpx, hpr⟩ : c.px = none ∧ c.pr = none := by
            rcases HK.out.1.A.some with ⟨_, h1, h2⟩ | ⟨h0, _⟩
            · exact ⟨h1, h2⟩
            · rw [hon] at h0; cases h0
          have HOFFb := Lib.hid (And.intro hpx hpr)
          rw [hpx, hpr]
          clear hpx hpr hon
          have e1 : (qcSame d c == qcSame d c) = true := by simp
          go_wp2_with fail
          refine (qcsameu' d c _ _ (by first | rfl | exact HOFFa.out.1.symm) (by first | rfl | exact HOFFb.out.1.symm) wr HK.out.1.B2 HK.out.1.A).mono ?_
          rintro e w5 ⟨rfl, hC⟩
          have H5 := Lib.hid (And.intro (HK.out.1.calm hC) (HK.out.2.1.trans hC))
          clear hC
          go_wp2_with fail
          refine (qcsamed' d c _ _ (by first | rfl | exact HOFFa.out.2.symm) (by first | rfl | exact HOFFb.out.2.symm) w5 H5.out.1.B2 H5.out.1.A).mono ?_
          rintro e w6 ⟨rfl, hC⟩
          have H6 := Lib.hid (And.intro (H5.out.1.calm hC) (H5.out.2.trans hC))
          clear hC H5
          go_wp2_with fail
          refine (qcsameu' d d _ _ (by first | rfl | exact HOFFa.out.1.symm) (by first | rfl | exact HOFFa.out.1.symm) w6 H6.out.1.B2 H6.out.1.B2).mono ?_
          rintro e w7 ⟨rfl, hC⟩
          rw [qcSame_self d]
          have H7 := Lib.hid (H6.out.2.trans hC)
          clear hC
          go_wp2_with fail
          refine (known18 w7).mono ?_
          rintro e w8 ⟨rfl, hC⟩
          have H8 := Lib.hid (H7.out.trans hC)
          clear hC
          go_wp2
          go_ret
          exact ⟨rfl, H8.out⟩

end Go.Proofs.YtiiafhlckmkcnaaGreat
