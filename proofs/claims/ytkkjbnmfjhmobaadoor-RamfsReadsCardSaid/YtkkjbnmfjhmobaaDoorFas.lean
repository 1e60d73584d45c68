
/- metronomelaw22.RamfsReads answers true (written by wip/reads22.py). -/
import Derived.Test.YtkkjbnmfjhmobaaDoorFar
import Derived.Laws.OwnMore
import Derived.BigQuiet
namespace Go.Proofs.YtkkjbnmfjhmobaaDoor
open Go.RowKit

set_option maxRecDepth 100000 in
set_option maxHeartbeats 16000000 in
theorem reads22 (a0 : Option Addr) (len0 cap0 : Nat) (R : List St22) (a1 : Option Addr) (len1 cap1 : Nat) (D : List Int) (z2 : Int) (W : World)
    (hR : R.length = len0 ∧ IsSteps W (.slice a0 R.length cap0) R) (hD : D.length = len1 ∧ BytesOk W a1 cap1 D) (hl : LibLt W.heap.size) (hL : LibW W) :
    Calls Tryd.prog 3 #[.slice a0 len0 cap0, .slice a1 len1 cap1, .int .i64 z2] W fun e w' => e = .returned (.bool true) ∧ Below W.heap.size W w' := by
  have HL := Lib.hid (And.intro hl hL)
  have HR := Lib.hid hR
  have HD := Lib.hid hD
  clear hl hL hR hD
  go_enter Tryd.func3, Tryd.ntmps3
  go_wp2_with fail
  refine (known22 W.heap.size W (Nat.le_refl _) HL.out.1 HL.out.2).mono ?_
  rintro e w1 ⟨rfl, b⟩
  have H1 := Lib.hid b
  clear b
  go_wp2_with fail
  refine (knew H1.out.size HL.out.1 (HL.out.2.below HL.out.1 H1.out)).mono ?_
  rintro e w2 ⟨fb, rfl, h, b⟩
  have H2 := Lib.hid (And.intro h (H1.out.trans b))
  clear h b
  by_cases hd9 : len1 ≤ 9000
  rotate_left
  · have k1 : decide ((9000 : Int) < (len1 : Int)) = true := decide_eq_true (by omega)
    clear hd9
    go_wp2_with fail
    exact bodyPost_ret (v := .bool true) (by simp [results, Tryd.results3, go_sem]) rfl ⟨rfl, H2.out.2⟩
  have k1 : decide ((9000 : Int) < (len1 : Int)) = false := decide_eq_false (by omega)
  have HD9 := Lib.hid hd9
  clear hd9
  go_wp2_with fail
  go_loopw [8] (fun iv wr => ∃ (i : Nat) (F : FS), i ≤ 60 ∧ iv = .int .i64 i ∧ FW W.heap.size wr fb F ([], []) ∧ F.names ≤ i ∧ Below W.heap.size W wr) (fun iv _ => 60 - (intOf iv).toNat)
  case atStart => exact ⟨0, fsNew, by omega, rfl, H2.out.1, Nat.le_of_eq (by kernel_rfl), H2.out.2⟩
  case round =>
    obtain ⟨i, F, hi, rfl, hF, hN, hBe⟩ := hrel
    have HF := Lib.hid (And.intro hF (And.intro hN hBe))
    clear hF hN hBe k1
    have hex : (i < len0 ∧ i < 60) ∨ (¬ i < len0) ∨ (i < len0 ∧ ¬ i < 60) := by omega
    rcases hex with ⟨hlt, h60⟩ | hex
    · have k2 : decide ((i : Int) < (len0 : Int)) = true := decide_eq_true (by omega)
      have k3 : decide ((i : Int) < 60) = true := decide_eq_true (by omega)
      have hwr : IntKind.i64.wrap ((i : Int) + 1) = (i : Int) + 1 := by rw [IntKind.wrap_i64] <;> omega
      obtain ⟨x, hx⟩ : ∃ x, R[i]? = some x := ⟨_, List.getElem?_eq_getElem (by rw [HR.out.1]; exact hlt)⟩
      obtain ⟨g, o, rfl, hc, hok⟩ := HR.out.2.row HF.out.2.2 hx
      have c0 : wr.cell? ⟨g, o + i * 7, none⟩ = some (.int .i64 x.kind) := hc 0 _ rfl
      have c1 : wr.cell? ⟨g, o + i * 7 + 1, none⟩ = some (.int .i64 x.d) := hc 1 _ rfl
      have c2 : wr.cell? ⟨g, o + i * 7 + 2, none⟩ = some (.int .i64 x.n) := hc 2 _ rfl
      have c3 : wr.cell? ⟨g, o + i * 7 + 3, none⟩ = some (.int .i64 x.fr) := hc 3 _ rfl
      have c4 : wr.cell? ⟨g, o + i * 7 + 4, none⟩ = some (.string x.path) := hc 4 _ rfl
      have c5 : wr.cell? ⟨g, o + i * 7 + 5, none⟩ = some (.string x.other) := hc 5 _ rfl
      have c6 : wr.cell? ⟨g, o + i * 7 + 6, none⟩ = some (.slice x.sa x.data.length x.cap) := hc 6 _ rfl
      have HX := Lib.hid (And.intro hok hc)
      clear hok hc hx
      go_wp2_with fail
      refine (smallc x _).mono ?_
      rintro e w3 ⟨rfl, hC⟩
      have HF3 := Lib.hid (And.intro (HF.out.1.calm hC).1 (HF.out.2.2.trans (HF.out.1.calm hC).2))
      have c0 := cell_chg hC (by simp) c0
      have c1 := cell_chg hC (by simp) c1
      have c2 := cell_chg hC (by simp) c2
      have c3 := cell_chg hC (by simp) c3
      have c4 := cell_chg hC (by simp) c4
      have c5 := cell_chg hC (by simp) c5
      have c6 := cell_chg hC (by simp) c6
      clear hC
      cases hsm : smallB x with
      | false =>
        go_wp2_with fail
        exact bodyPost_ret (v := .bool true) (by simp [results, Tryd.results3, go_sem]) rfl ⟨rfl, HF3.out.2⟩
      | true =>
        obtain ⟨kind, d, n, fr, path, other, data, sa, cap⟩ := x
        have hdl : data.length ≤ 9000 := by
          unfold smallB at hsm
          simp only [Bool.and_eq_true, decide_eq_true_eq] at hsm
          exact hsm.2
        have HDL := Lib.hid hdl
        clear hsm hdl
        have hC : Chg [] w3 (w3.alloc (.cells #[.int .i64 kind, .int .i64 d, .int .i64 n, .int .i64 fr, .string path, .string other, .slice sa data.length cap] 29 (0, 0))) := (Chg.refl _ _).alloc _
        have HF4 := Lib.hid (And.intro (HF3.out.1.calm hC).1 (HF3.out.2.trans (HF3.out.1.calm hC).2))
        clear hC
        obtain ⟨dl, hdl2⟩ : ∃ dl, dl = data.length := ⟨_, rfl⟩
        rw [← hdl2] at c6 HF4
        have HDQ := Lib.hid hdl2.symm
        clear hdl2
        by_cases hk1 : kind = 1
        · subst hk1
          go_wp2_with fail
          have hk := kopen HF4.out.1 path n
          unfold VPost at hk
          refine hk.mono ?_
          clear hk
          rintro e w5 ⟨rfl, h, b⟩
          have HF5 := Lib.hid (And.intro h (And.intro (Nat.le_trans (names_opn F path n) (Nat.add_le_add_right HF.out.2.1 1)) (HF4.out.2.trans b)))
          clear h b
          obtain ⟨FN, hFN⟩ : ∃ FN, FN = (F.opn path n).1 := ⟨_, rfl⟩
          rw [← hFN] at HF5
          clear hFN
          have q1 : decide ((64 : Int) < ((FN).count : Int)) = false := decide_eq_false (by have := count_le HF5.out.1.inv; omega)
          have q2 : decide ((4096 : Int) < ((FN).bytes : Int)) = false := decide_eq_false (by have := HF5.out.1.inv.bytes; omega)
          go_wp2_with fail
          refine (knodes HF5.out.1).mono ?_
          rintro e w' ⟨rfl, rfl⟩
          go_wp2_with fail
          refine (kbytes HF5.out.1).mono ?_
          rintro e w' ⟨rfl, rfl⟩
          go_wp2_with fail
          go_roundw
          case rel => exact ⟨i + 1, FN, by omega, by first | rfl | go_num, HF5.out.1, HF5.out.2.1, HF5.out.2.2⟩
          case measure => simp [intOf]; omega
        have q11 : (kind == 1) = false := by simp [hk1]
        by_cases hk4 : kind = 4
        · subst hk4
          go_wp2_with fail
          have hk := kwriteX HF4.out.1 d sa cap data dl HDQ.out HX.out.1 HF4.out.2 HDL.out
          unfold VPost at hk
          refine hk.mono ?_
          clear hk
          rintro e w5 ⟨rfl, h, b⟩
          have HF5 := Lib.hid (And.intro h (And.intro (Nat.le_trans (names_wr F d data) (Nat.add_le_add_right HF.out.2.1 1)) (HF4.out.2.trans b)))
          clear h b
          obtain ⟨FN, hFN⟩ : ∃ FN, FN = (F.wr d data).1 := ⟨_, rfl⟩
          rw [← hFN] at HF5
          clear hFN
          have q1 : decide ((64 : Int) < ((FN).count : Int)) = false := decide_eq_false (by have := count_le HF5.out.1.inv; omega)
          have q2 : decide ((4096 : Int) < ((FN).bytes : Int)) = false := decide_eq_false (by have := HF5.out.1.inv.bytes; omega)
          go_wp2_with fail
          refine (knodes HF5.out.1).mono ?_
          rintro e w' ⟨rfl, rfl⟩
          go_wp2_with fail
          refine (kbytes HF5.out.1).mono ?_
          rintro e w' ⟨rfl, rfl⟩
          go_wp2_with fail
          go_roundw
          case rel => exact ⟨i + 1, FN, by omega, by first | rfl | go_num, HF5.out.1, HF5.out.2.1, HF5.out.2.2⟩
          case measure => simp [intOf]; omega
        have q14 : (kind == 4) = false := by simp [hk4]
        by_cases hk6 : kind = 6
        · subst hk6
          go_wp2_with fail
          have hk := kmkdir HF4.out.1 path
          unfold FPost at hk
          refine hk.mono ?_
          clear hk
          rintro e w5 ⟨rfl, h, b⟩
          have HF5 := Lib.hid (And.intro h (And.intro (Nat.le_trans (names_mkd F path) (Nat.add_le_add_right HF.out.2.1 1)) (HF4.out.2.trans b)))
          clear h b
          obtain ⟨FN, hFN⟩ : ∃ FN, FN = (F.mkd path).1 := ⟨_, rfl⟩
          rw [← hFN] at HF5
          clear hFN
          have q1 : decide ((64 : Int) < ((FN).count : Int)) = false := decide_eq_false (by have := count_le HF5.out.1.inv; omega)
          have q2 : decide ((4096 : Int) < ((FN).bytes : Int)) = false := decide_eq_false (by have := HF5.out.1.inv.bytes; omega)
          go_wp2_with fail
          refine (knodes HF5.out.1).mono ?_
          rintro e w' ⟨rfl, rfl⟩
          go_wp2_with fail
          refine (kbytes HF5.out.1).mono ?_
          rintro e w' ⟨rfl, rfl⟩
          go_wp2_with fail
          go_roundw
          case rel => exact ⟨i + 1, FN, by omega, by first | rfl | go_num, HF5.out.1, HF5.out.2.1, HF5.out.2.2⟩
          case measure => simp [intOf]; omega
        have q16 : (kind == 6) = false := by simp [hk6]
        by_cases hk9 : kind = 9
        · subst hk9
          go_wp2_with fail
          have hk := klink HF4.out.1 path other
          unfold FPost at hk
          refine hk.mono ?_
          clear hk
          rintro e w5 ⟨rfl, h, b⟩
          have HF5 := Lib.hid (And.intro h (And.intro (Nat.le_trans (names_lnk F path other) (Nat.add_le_add_right HF.out.2.1 1)) (HF4.out.2.trans b)))
          clear h b
          obtain ⟨FN, hFN⟩ : ∃ FN, FN = (F.lnk path other).1 := ⟨_, rfl⟩
          rw [← hFN] at HF5
          clear hFN
          have q1 : decide ((64 : Int) < ((FN).count : Int)) = false := decide_eq_false (by have := count_le HF5.out.1.inv; omega)
          have q2 : decide ((4096 : Int) < ((FN).bytes : Int)) = false := decide_eq_false (by have := HF5.out.1.inv.bytes; omega)
          go_wp2_with fail
          refine (knodes HF5.out.1).mono ?_
          rintro e w' ⟨rfl, rfl⟩
          go_wp2_with fail
          refine (kbytes HF5.out.1).mono ?_
          rintro e w' ⟨rfl, rfl⟩
          go_wp2_with fail
          go_roundw
          case rel => exact ⟨i + 1, FN, by omega, by first | rfl | go_num, HF5.out.1, HF5.out.2.1, HF5.out.2.2⟩
          case measure => simp [intOf]; omega
        have q19 : (kind == 9) = false := by simp [hk9]
        by_cases hk10 : kind = 10
        · subst hk10
          go_wp2_with fail
          have hk := krename HF4.out.1 (by have := HF.out.2.1; omega) path other
          unfold FPost at hk
          refine hk.mono ?_
          clear hk
          rintro e w5 ⟨rfl, h, b⟩
          have HF5 := Lib.hid (And.intro h (And.intro (Nat.le_trans (names_ren F path other) (Nat.add_le_add_right HF.out.2.1 1)) (HF4.out.2.trans b)))
          clear h b
          obtain ⟨FN, hFN⟩ : ∃ FN, FN = (F.ren path other).1 := ⟨_, rfl⟩
          rw [← hFN] at HF5
          clear hFN
          have q1 : decide ((64 : Int) < ((FN).count : Int)) = false := decide_eq_false (by have := count_le HF5.out.1.inv; omega)
          have q2 : decide ((4096 : Int) < ((FN).bytes : Int)) = false := decide_eq_false (by have := HF5.out.1.inv.bytes; omega)
          go_wp2_with fail
          refine (knodes HF5.out.1).mono ?_
          rintro e w' ⟨rfl, rfl⟩
          go_wp2_with fail
          refine (kbytes HF5.out.1).mono ?_
          rintro e w' ⟨rfl, rfl⟩
          go_wp2_with fail
          go_roundw
          case rel => exact ⟨i + 1, FN, by omega, by first | rfl | go_num, HF5.out.1, HF5.out.2.1, HF5.out.2.2⟩
          case measure => simp [intOf]; omega
        have q20 : (kind == 10) = false := by simp [hk10]
        have HF5 := Lib.hid (And.intro HF4.out.1 (And.intro (Nat.le_succ_of_le HF.out.2.1) HF4.out.2))
        obtain ⟨FN, hFN⟩ : ∃ FN, FN = F := ⟨_, rfl⟩
        rw [← hFN] at HF5
        clear hFN
        have q1 : decide ((64 : Int) < ((FN).count : Int)) = false := decide_eq_false (by have := count_le HF5.out.1.inv; omega)
        have q2 : decide ((4096 : Int) < ((FN).bytes : Int)) = false := decide_eq_false (by have := HF5.out.1.inv.bytes; omega)
        go_wp2_with fail
        refine (knodes HF5.out.1).mono ?_
        rintro e w' ⟨rfl, rfl⟩
        go_wp2_with fail
        refine (kbytes HF5.out.1).mono ?_
        rintro e w' ⟨rfl, rfl⟩
        go_wp2_with fail
        go_roundw
        case rel => exact ⟨i + 1, FN, by omega, by first | rfl | go_num, HF5.out.1, HF5.out.2.1, HF5.out.2.2⟩
        case measure => simp [intOf]; omega
    · have HG := Lib.hid (And.intro HF.out.1 (And.intro (Nat.le_trans HF.out.2.1 hi) HF.out.2.2))
      clear hi HF
      rcases hex with h1 | ⟨h1, h2⟩
      · have k2 : decide ((i : Int) < (len0 : Int)) = false := decide_eq_false (by omega)
        go_wp2_with fail
        go_loopw [10] (fun jv wr => ∃ (j : Nat) (G : FS), j ≤ 16 ∧ jv = .int .i64 j ∧ FW W.heap.size wr fb G ([], []) ∧ G.names ≤ 60 ∧ (∀ q, q < j → G.files.getD q fl0 = fl0) ∧ Below W.heap.size W wr) (fun jv _ => 16 - (intOf jv).toNat)
        case atStart => exact ⟨0, F, by omega, rfl, HG.out.1, HG.out.2.1, (fun q h => absurd h (by omega)), HG.out.2.2⟩
        case round =>
          obtain ⟨j, G, hj, rfl, hF, hN, hq, hBe⟩ := hrel
          have HJ := Lib.hid (And.intro hF (And.intro hN (And.intro hq hBe)))
          clear hF hN hq hBe
          by_cases hlj : j < 16
          · have k4 : decide ((j : Int) < 16) = true := decide_eq_true (by omega)
            have hwr : IntKind.i64.wrap ((j : Int) + 1) = (j : Int) + 1 := by rw [IntKind.wrap_i64] <;> omega
            go_wp2_with fail
            have hk := kclose HJ.out.1 (by have := HJ.out.2.1; omega) j
            unfold FPost at hk
            refine hk.mono ?_
            clear hk
            rintro e w6 ⟨rfl, h, b⟩
            have HJ2 := Lib.hid (And.intro h (And.intro (Nat.le_trans (names_cls G j) HJ.out.2.1) (And.intro (cls_shut HJ.out.1.inv hlj HJ.out.2.2.1) (HJ.out.2.2.2.trans b))))
            clear h b
            obtain ⟨FN, hFN⟩ : ∃ FN, FN = (G.cls j).1 := ⟨_, rfl⟩
            obtain ⟨cz, hcz⟩ : ∃ cz, cz = (G.cls j).2 := ⟨_, rfl⟩
            rw [← hFN] at HJ2
            rw [← hcz]
            clear hFN hcz
            go_wp2_with fail
            go_roundw
            case rel => exact ⟨j + 1, FN, by omega, by first | rfl | go_num, HJ2.out.1, HJ2.out.2.1, HJ2.out.2.2.1, HJ2.out.2.2.2⟩
            case measure => simp [intOf]; omega
          · obtain rfl : j = 16 := by omega
            have HJf := Lib.hid (all_shut HJ.out.1.inv HJ.out.2.2.1)
            clear hlj hj
            go_wp2_with fail
            have hk := kopen HJ.out.1 pNew 15
            unfold VPost at hk
            by_cases h0 : (G.opn pNew 15).2.2 = 0
            rotate_left
            · refine hk.mono ?_
              clear hk
              rintro e w7 ⟨rfl, h, b⟩
              have HE := Lib.hid (HJ.out.2.2.2.trans b)
              clear h b
              obtain ⟨cz, hcz⟩ : ∃ cz, cz = (G.opn pNew 15).2.2 := ⟨_, rfl⟩
              obtain ⟨dz, hdz⟩ : ∃ dz, dz = (G.opn pNew 15).2.1 := ⟨_, rfl⟩
              rw [← hcz] at h0
              rw [← hcz, ← hdz]
              have q0 : (cz != 0) = true := by simp [h0]
              clear h0 hcz hdz
              go_wp2_with (go_at_call 16; refine (knumc _ _).mono ?_; rintro e w' ⟨rfl, rfl⟩)
              exact bodyPost_ret (v := .bool true) (by simp [results, Tryd.results3, go_sem]) rfl ⟨rfl, HE.out⟩
            obtain ⟨k, m, hS, hm0, hlk, he⟩ := open_new HJ.out.1.inv HJf.out h0
            rw [he] at hk
            refine hk.mono ?_
            clear hk h0 he
            rintro e w7 ⟨rfl, h, b⟩
            have HK := Lib.hid hS
            have HM := Lib.hid (And.intro hm0 hlk)
            have HMT := Lib.hid (lkT (k := (k : Int)) HJ.out.1.inv hm0)
            have HNB := Lib.hid (show ∀ (m2 : List (ByteArray × Int)) (b2 : List Int) (a c : Fl), m2.length ≤ m.length + 2 → (stR G k m2 b2 a c).names < 4611686018427387000 from fun m2 b2 a c hm2 => by
              have h1 := st_names (F := G) (k := k) (m := m2) (b := b2) (a := a) (c := c)
              have h2 := dir_names hm0
              have h3 := HJ.out.2.1
              omega)
            have HA := Lib.hid (And.intro h (HJ.out.2.2.2.trans b))
            clear h b hS hm0 hlk
            go_wp2_with (go_at_call 16; refine (knumc _ _).mono ?_; rintro e w' ⟨rfl, rfl⟩)
            have hk := kseek HA.out.1 0 z2 0
            unfold VPost at hk
            rw [seek_new HK.out 0 z2] at hk
            by_cases h2 : z2 < 0 ∨ 4096 < z2
            · rw [if_pos h2] at hk
              refine hk.mono ?_
              clear hk
              rintro e w8 ⟨rfl, h, b⟩
              have HE := Lib.hid (HA.out.2.trans b)
              clear h b
              by_cases h3 : z2 < 0
              · have q1 : decide (z2 < 0) = true := decide_eq_true h3
                clear h2 h3
                go_wp2_with (go_at_call 16; refine (knumc _ _).mono ?_; rintro e w' ⟨rfl, rfl⟩)
                exact bodyPost_ret (v := .bool true) (by simp [results, Tryd.results3, go_sem]) rfl ⟨rfl, HE.out⟩
              · have q1 : decide (z2 < 0) = false := decide_eq_false h3
                have q2 : decide (4096 < z2) = true := decide_eq_true (by omega)
                clear h2 h3
                go_wp2_with (go_at_call 16; refine (knumc _ _).mono ?_; rintro e w' ⟨rfl, rfl⟩)
                exact bodyPost_ret (v := .bool true) (by simp [results, Tryd.results3, go_sem]) rfl ⟨rfl, HE.out⟩
            rw [if_neg h2] at hk
            refine hk.mono ?_
            clear hk
            rintro e w8 ⟨rfl, h, b⟩
            have HZ := Lib.hid (show 0 ≤ z2 ∧ z2 ≤ 4096 by omega)
            have HB1 := Lib.hid (And.intro h (HA.out.2.trans b))
            clear h b h2
            go_wp2_with (go_at_call 16; refine (knumc _ _).mono ?_; rintro e w' ⟨rfl, rfl⟩)
            have hk := kwriteX HB1.out.1 0 a1 cap1 D len1 HD.out.1 HD.out.2 HB1.out.2 (by rw [HD.out.1]; exact HD9.out)
            unfold VPost at hk
            rw [write_new HK.out z2 D, HD.out.1] at hk
            by_cases h3 : D ≠ [] ∧ 4096 < (stR G k (m ++ [(sNew, (k : Int))]) [] ⟨true, k, 15, z2⟩ fl0).bytes + (z2.toNat + len1)
            · rw [if_pos h3] at hk
              refine hk.mono ?_
              clear hk
              rintro e w9 ⟨rfl, h, b⟩
              have HE := Lib.hid (And.intro h (HB1.out.2.trans b))
              have hby : (stR G k (m ++ [(sNew, (k : Int))]) [] ⟨true, k, 15, z2⟩ fl0).bytes ≤ 4096 := h.inv.bytes
              obtain ⟨S, hSS⟩ : ∃ S, S = stR G k (m ++ [(sNew, (k : Int))]) [] ⟨true, k, 15, z2⟩ fl0 := ⟨_, rfl⟩
              rw [← hSS] at HE h3 hby
              have hz := HZ.out
              have h9 := HD9.out
              have hw1 : IntKind.i64.wrap ((S.bytes : Int) + z2) = (S.bytes : Int) + z2 := by rw [IntKind.wrap_i64] <;> omega
              have hw2 : IntKind.i64.wrap ((S.bytes : Int) + z2 + (len1 : Int)) = (S.bytes : Int) + z2 + (len1 : Int) := by rw [IntKind.wrap_i64] <;> omega
              have q1 : decide ((4096 : Int) < (S.bytes : Int) + z2 + (len1 : Int)) = true := decide_eq_true (by omega)
              clear h b hby hSS h3 hz h9
              go_wp2_with (go_at_call 16; refine (knumc _ _).mono ?_; rintro e w' ⟨rfl, rfl⟩)
              refine (kbytes HE.out.1).mono ?_
              rintro e w' ⟨rfl, rfl⟩
              go_wp2_with fail
              exact bodyPost_ret (v := .bool true) (by simp [results, Tryd.results3, go_sem]) rfl ⟨rfl, HE.out.2⟩
            rw [if_neg h3] at hk
            obtain ⟨bb, hbb⟩ : ∃ bb, bb = bbOf z2 D := ⟨_, rfl⟩
            obtain ⟨ps, hps⟩ : ∃ ps : Int, ps = ((z2.toNat + len1 : Nat) : Int) := ⟨_, rfl⟩
            rw [← hps, show (if D = [] then ([] : List Int) else List.replicate z2.toNat 0 ++ D) = bb from hbb.symm] at hk
            clear hps
            refine hk.mono ?_
            clear hk
            rintro e w9 ⟨rfl, h, b⟩
            obtain ⟨bl, hbl⟩ : ∃ bl, bl = bb.length := ⟨_, rfl⟩
            have HBN := Lib.hid hbl.symm
            have HBQ := Lib.hid hbb
            have HBL := Lib.hid (show bl = if D = [] then 0 else z2.toNat + len1 by
              rw [hbl, hbb]
              split
              · rename_i hd; unfold bbOf; rw [if_pos hd]; rfl
              · rename_i hd; rw [bbOf_len hd, HD.out.1])
            have HBL9 := Lib.hid (show bl ≤ 9999 by
              have h1 := HBL.out
              have h9 := HD9.out
              have hz := HZ.out
              have hby := h.inv.bytes
              split at h1
              · omega
              · rename_i hd
                have : ¬ 4096 < (stR G k (m ++ [(sNew, (k : Int))]) [] ⟨true, k, 15, z2⟩ fl0).bytes + (z2.toNat + len1) := fun h5 => h3 ⟨hd, h5⟩
                omega)
            have HB2 := Lib.hid (And.intro h (HB1.out.2.trans b))
            clear h b h3 hbb hbl
            go_wp2_with (go_at_call 16; refine (knumc _ _).mono ?_; rintro e w' ⟨rfl, rfl⟩)
            have hk := klink HB2.out.1 pNew pNewer
            unfold FPost at hk
            rcases link_new HK.out (lk1 HM.out.2) HMT.out (b := bb) (a := ⟨true, k, 15, ps⟩) (c := fl0) with h4 | ⟨h5, h4⟩
            · rw [h4] at hk
              refine hk.mono ?_
              clear hk h4
              rintro e w10 ⟨rfl, h, b⟩
              have HE := Lib.hid (HB2.out.2.trans b)
              clear h b
              go_wp2_with (go_at_call 16; refine (knumc _ _).mono ?_; rintro e w' ⟨rfl, rfl⟩)
              exact bodyPost_ret (v := .bool true) (by simp [results, Tryd.results3, go_sem]) rfl ⟨rfl, HE.out⟩
            rw [h4] at hk
            refine hk.mono ?_
            clear hk h4
            rintro e w10 ⟨rfl, h, b⟩
            have HM2 := Lib.hid (lk2 h5)
            have HB3 := Lib.hid (And.intro h (HB2.out.2.trans b))
            clear h b h5
            go_wp2_with (go_at_call 16; refine (knumc _ _).mono ?_; rintro e w' ⟨rfl, rfl⟩)
            have hk := kunlink HB3.out.1 (HNB.out _ _ _ _ (by simp)) pNew
            unfold FPost at hk
            rw [unl_new HK.out split_new (lk3 HM.out.2) rfl rfl, dl1 HM.out.2] at hk
            refine hk.mono ?_
            clear hk
            rintro e w11 ⟨rfl, h, b⟩
            have HB4 := Lib.hid (And.intro h (HB3.out.2.trans b))
            clear h b
            go_wp2_with (go_at_call 16; refine (knumc _ _).mono ?_; rintro e w' ⟨rfl, rfl⟩)
            have hk := kopen HB4.out.1 pNewer 1
            unfold VPost at hk
            rw [open_newer HK.out (lk4 HM2.out) rfl] at hk
            refine hk.mono ?_
            clear hk
            rintro e w15 ⟨rfl, h, b⟩
            have HB5 := Lib.hid (And.intro h (HB4.out.2.trans b))
            have q5 : ((len1 : Int) != (len1 : Int)) = false := by simp
            clear h b
            go_wp2_with (go_at_call 16; refine (knumc _ _).mono ?_; rintro e w' ⟨rfl, rfl⟩)
            have hk := kunlink HB5.out.1 (HNB.out _ _ _ _ (by simp)) pNewer
            unfold FPost at hk
            rw [unl_new HK.out split_newer (lk4 HM2.out) rfl rfl, dl2 HM2.out] at hk
            refine hk.mono ?_
            clear hk
            rintro e w16 ⟨rfl, h, b⟩
            have HB7 := Lib.hid (And.intro h (HB5.out.2.trans b))
            clear h b q5
            go_wp2_with fail
            have hk := kread HB7.out.1 1 9999 (by decide)
            rw [read_new HK.out (by have := HBL9.out; have := HBN.out; omega)] at hk
            refine hk.mono ?_
            clear hk
            rintro e w12 ⟨v, rfl, h, b⟩
            obtain ⟨⟨ba, bc, rfl⟩, -⟩ := (h.row (v := v) (b := bb) (by simp)).toE
            rw [HBN.out] at h
            rw [HBN.out]
            have HT := Lib.hid (And.intro h (HB7.out.2.trans b))
            clear h b
            by_cases hD0 : D = []
            · have e0 : len1 = 0 := by rw [← HD.out.1, hD0]; rfl
              have e1 : bl = 0 := by have := HBL.out; rw [if_pos hD0] at this; exact this
              subst e0
              have HBL0 := Lib.hid e1
              have q1 : decide ((0 : Int) < ((0 : Nat) : Int)) = false := by simp
              have q2 : ((((0 : Nat) : Int)) == 0) = true := by simp
              have q3 : ((bl : Int) != 0) = false := by simp [e1]
              clear e1
              go_wp2_with (go_at_call 16; refine (knumc _ _).mono ?_; rintro e w' ⟨rfl, rfl⟩)
              go_loopw [19] (fun jv wr => ∃ j : Nat, j ≤ bl ∧ jv = .int .i64 j ∧ Chg [] w12 wr) (fun jv _ => bl - (intOf jv).toNat)
              case atStart => exact ⟨0, by omega, rfl, Chg.refl _ _⟩
              case round =>
                obtain ⟨j, hj, rfl, hC⟩ := hrel
                have HC := Lib.hid hC
                have HT := Lib.hid (And.intro (HT.out.1.calm hC).1 (HT.out.2.trans (HT.out.1.calm hC).2))
                clear hC
                by_cases hjb : j < bl
                · exfalso
                  have := HBL0.out
                  omega
                · obtain rfl : bl = j := by omega
                  clear hjb hj
                  go_wp2_with fail
                  refine (knodes HT.out.1).mono ?_
                  rintro e w' ⟨rfl, rfl⟩
                  go_wp2_with fail
                  have hk := kclose HT.out.1 (HNB.out _ _ _ _ (by omega)) 1
                  unfold FPost at hk
                  rw [cls_new rfl rfl] at hk
                  refine hk.mono ?_
                  clear hk
                  rintro e w13 ⟨rfl, h, b⟩
                  have HU := Lib.hid (And.intro h (HT.out.2.trans b))
                  clear h b
                  go_wp2_with fail
                  have hk := kclose HU.out.1 (HNB.out _ _ _ _ (by omega)) 0
                  unfold FPost at hk
                  refine hk.mono ?_
                  clear hk
                  rintro e w14 ⟨rfl, h, b⟩
                  have hce := cls_end (c := ⟨true, k, 1, (bl : Int)⟩) (b := bb) HK.out HM.out.1 15 ps
                  obtain ⟨FZ, hFZ⟩ : ∃ FZ, FZ = ((stR G k m bb ⟨true, k, 15, ps⟩ fl0).cls 0).1 := ⟨_, rfl⟩
                  obtain ⟨cz, hcz⟩ : ∃ cz, cz = ((stR G k m bb ⟨true, k, 15, ps⟩ fl0).cls 0).2 := ⟨_, rfl⟩
                  obtain ⟨cn, hcn⟩ : ∃ cn, cn = (stR G k m bb ⟨true, k, 15, ps⟩ ⟨true, k, 1, (bl : Int)⟩).count := ⟨_, rfl⟩
                  rw [← hFZ] at h hce
                  rw [← hcn] at hce
                  rw [← hcz, ← hcn]
                  clear hFZ hcz hcn
                  have HV := Lib.hid (And.intro h (HU.out.2.trans b))
                  have hle := count_le h.inv
                  have hby := h.inv.bytes
                  clear h b
                  have hw1 : IntKind.i64.wrap ((cn : Int) - 1) = (FZ.count : Int) := by rw [IntKind.wrap_i64] <;> omega
                  have q8 : ((FZ.count : Int) == (FZ.count : Int)) = true := by simp
                  have q9 : decide ((FZ.bytes : Int) ≤ 4096) = true := decide_eq_true (by omega)
                  clear hce hle hby
                  go_wp2_with fail
                  refine (knodes HV.out.1).mono ?_
                  rintro e w' ⟨rfl, rfl⟩
                  go_wp2_with fail
                  refine (kbytes HV.out.1).mono ?_
                  rintro e w' ⟨rfl, rfl⟩
                  go_wp2_with fail
                  exact bodyPost_ret (v := .bool true) (by simp [results, Tryd.results3, go_sem]) rfl ⟨rfl, HV.out.2⟩
            · have hl1 : 0 < len1 := by rw [← HD.out.1]; exact List.length_pos_iff.2 hD0
              have hbq : bl = z2.toNat + len1 := by have := HBL.out; rw [if_neg hD0] at this; exact this
              have hb9 := HBL9.out
              have hz := HZ.out
              have q1 : decide ((0 : Int) < (len1 : Int)) = true := decide_eq_true (by omega)
              have q2 : ((len1 : Int) == 0) = false := by simp; omega
              have hw2 : IntKind.i64.wrap (z2 + (len1 : Int)) = (bl : Int) := by rw [IntKind.wrap_i64] <;> omega
              have q3 : ((bl : Int) != (bl : Int)) = false := by simp
              have HBL := Lib.hid hbq
              clear hbq hb9 hz
              go_wp2_with (go_at_call 16; refine (knumc _ _).mono ?_; rintro e w' ⟨rfl, rfl⟩)
              go_loopw [19] (fun jv wr => ∃ j : Nat, j ≤ bl ∧ jv = .int .i64 j ∧ Chg [] w12 wr) (fun jv _ => bl - (intOf jv).toNat)
              case atStart => exact ⟨0, by omega, rfl, Chg.refl _ _⟩
              case round =>
                obtain ⟨j, hj, rfl, hC⟩ := hrel
                have HC := Lib.hid hC
                have HT := Lib.hid (And.intro (HT.out.1.calm hC).1 (HT.out.2.trans (HT.out.1.calm hC).2))
                clear hC
                by_cases hjb : j < bl
                · have hb9 := HBL9.out
                  have hwr : IntKind.i64.wrap ((j : Int) + 1) = (j : Int) + 1 := by rw [IntKind.wrap_i64] <;> omega
                  have hrow := (HT.out.1.row (v := .slice ba bl bc) (b := bb) (by simp)).cells (show bb ≠ [] from fun e => by have h1 := HBN.out; rw [e] at h1; have h2 : bl = 0 := h1.symm; omega)
                  obtain ⟨g2, o2, rfl, hrow⟩ := hrow
                  have hjn : ¬ bl ≤ j := by omega
                  by_cases hjz : (j : Int) < z2
                  · have cb : wr.cell? ⟨g2, o2 + j, none⟩ = some (.int .u8 0) := hrow j _ (by rw [HBQ.out]; exact bbOf_lo hD0 hjz)
                    have q1 : decide ((j : Int) < z2) = true := decide_eq_true hjz
                    have q2 : decide (z2 ≤ (j : Int)) = false := decide_eq_false (by omega)
                    clear hrow hb9
                    go_upto_region 53 with fail
                    go_quiet (fail)
                    go_wp2_with fail
                    go_roundw
                    case rel => exact ⟨j + 1, by omega, by first | rfl | go_num, HC.out.trans ((Chg.refl _ _).drewN _)⟩
                    case measure => simp [intOf]; omega
                  · obtain ⟨g3, o3, hg3, hrow3⟩ := (((HD.out.2.below HT.out.2).2).resolve_left hD0).cells hD0
                    have hjd : j - z2.toNat < len1 := by have := HBL.out; have := HZ.out; omega
                    obtain ⟨y, hy⟩ : ∃ y, D[j - z2.toNat]? = some y := ⟨_, List.getElem?_eq_getElem (by rw [HD.out.1]; exact hjd)⟩
                    have cb : wr.cell? ⟨g2, o2 + j, none⟩ = some (.int .u8 y) := hrow j _ (by rw [HBQ.out, bbOf_hi hD0 (by omega) HZ.out.1]; exact hy)
                    have cd := hrow3 _ _ hy
                    have hwd : IntKind.i64.wrap ((j : Int) - z2) = ((j - z2.toNat : Nat) : Int) := by have := HZ.out; rw [IntKind.wrap_i64] <;> omega
                    generalize j - z2.toNat = jd at *
                    have q1 : decide ((j : Int) < z2) = false := decide_eq_false hjz
                    have q2 : decide (z2 ≤ (j : Int)) = true := decide_eq_true (by omega)
                    have q3 : (y != y) = false := by simp
                    subst hg3
                    clear hrow hrow3 hy hjz hb9
                    go_upto_region 53 with fail
                    go_quiet (fail)
                    go_wp2_with fail
                    go_roundw
                    case rel => exact ⟨j + 1, by omega, by first | rfl | go_num, HC.out.trans ((Chg.refl _ _).drewN _)⟩
                    case measure => simp [intOf]; omega
                · obtain rfl : bl = j := by omega
                  clear hjb hj
                  go_wp2_with fail
                  refine (knodes HT.out.1).mono ?_
                  rintro e w' ⟨rfl, rfl⟩
                  go_wp2_with fail
                  have hk := kclose HT.out.1 (HNB.out _ _ _ _ (by omega)) 1
                  unfold FPost at hk
                  rw [cls_new rfl rfl] at hk
                  refine hk.mono ?_
                  clear hk
                  rintro e w13 ⟨rfl, h, b⟩
                  have HU := Lib.hid (And.intro h (HT.out.2.trans b))
                  clear h b
                  go_wp2_with fail
                  have hk := kclose HU.out.1 (HNB.out _ _ _ _ (by omega)) 0
                  unfold FPost at hk
                  refine hk.mono ?_
                  clear hk
                  rintro e w14 ⟨rfl, h, b⟩
                  have hce := cls_end (c := ⟨true, k, 1, (bl : Int)⟩) (b := bb) HK.out HM.out.1 15 ps
                  obtain ⟨FZ, hFZ⟩ : ∃ FZ, FZ = ((stR G k m bb ⟨true, k, 15, ps⟩ fl0).cls 0).1 := ⟨_, rfl⟩
                  obtain ⟨cz, hcz⟩ : ∃ cz, cz = ((stR G k m bb ⟨true, k, 15, ps⟩ fl0).cls 0).2 := ⟨_, rfl⟩
                  obtain ⟨cn, hcn⟩ : ∃ cn, cn = (stR G k m bb ⟨true, k, 15, ps⟩ ⟨true, k, 1, (bl : Int)⟩).count := ⟨_, rfl⟩
                  rw [← hFZ] at h hce
                  rw [← hcn] at hce
                  rw [← hcz, ← hcn]
                  clear hFZ hcz hcn
                  have HV := Lib.hid (And.intro h (HU.out.2.trans b))
                  have hle := count_le h.inv
                  have hby := h.inv.bytes
                  clear h b
                  have hw1 : IntKind.i64.wrap ((cn : Int) - 1) = (FZ.count : Int) := by rw [IntKind.wrap_i64] <;> omega
                  have q8 : ((FZ.count : Int) == (FZ.count : Int)) = true := by simp
                  have q9 : decide ((FZ.bytes : Int) ≤ 4096) = true := decide_eq_true (by omega)
                  clear hce hle hby
                  go_wp2_with fail
                  refine (knodes HV.out.1).mono ?_
                  rintro e w' ⟨rfl, rfl⟩
                  go_wp2_with fail
                  refine (kbytes HV.out.1).mono ?_
                  rintro e w' ⟨rfl, rfl⟩
                  go_wp2_with fail
                  exact bodyPost_ret (v := .bool true) (by simp [results, Tryd.results3, go_sem]) rfl ⟨rfl, HV.out.2⟩
      · have k2 : decide ((i : Int) < (len0 : Int)) = true := decide_eq_true (by omega)
        have k3 : decide ((i : Int) < 60) = false := decide_eq_false (by omega)
        clear h2
        go_wp2_with fail
        go_loopw [10] (fun jv wr => ∃ (j : Nat) (G : FS), j ≤ 16 ∧ jv = .int .i64 j ∧ FW W.heap.size wr fb G ([], []) ∧ G.names ≤ 60 ∧ (∀ q, q < j → G.files.getD q fl0 = fl0) ∧ Below W.heap.size W wr) (fun jv _ => 16 - (intOf jv).toNat)
        case atStart => exact ⟨0, F, by omega, rfl, HG.out.1, HG.out.2.1, (fun q h => absurd h (by omega)), HG.out.2.2⟩
        case round =>
          obtain ⟨j, G, hj, rfl, hF, hN, hq, hBe⟩ := hrel
          have HJ := Lib.hid (And.intro hF (And.intro hN (And.intro hq hBe)))
          clear hF hN hq hBe
          by_cases hlj : j < 16
          · have k4 : decide ((j : Int) < 16) = true := decide_eq_true (by omega)
            have hwr : IntKind.i64.wrap ((j : Int) + 1) = (j : Int) + 1 := by rw [IntKind.wrap_i64] <;> omega
            go_wp2_with fail
            have hk := kclose HJ.out.1 (by have := HJ.out.2.1; omega) j
            unfold FPost at hk
            refine hk.mono ?_
            clear hk
            rintro e w6 ⟨rfl, h, b⟩
            have HJ2 := Lib.hid (And.intro h (And.intro (Nat.le_trans (names_cls G j) HJ.out.2.1) (And.intro (cls_shut HJ.out.1.inv hlj HJ.out.2.2.1) (HJ.out.2.2.2.trans b))))
            clear h b
            obtain ⟨FN, hFN⟩ : ∃ FN, FN = (G.cls j).1 := ⟨_, rfl⟩
            obtain ⟨cz, hcz⟩ : ∃ cz, cz = (G.cls j).2 := ⟨_, rfl⟩
            rw [← hFN] at HJ2
            rw [← hcz]
            clear hFN hcz
            go_wp2_with fail
            go_roundw
            case rel => exact ⟨j + 1, FN, by omega, by first | rfl | go_num, HJ2.out.1, HJ2.out.2.1, HJ2.out.2.2.1, HJ2.out.2.2.2⟩
            case measure => simp [intOf]; omega
          · obtain rfl : j = 16 := by omega
            have HJf := Lib.hid (all_shut HJ.out.1.inv HJ.out.2.2.1)
            clear hlj hj
            go_wp2_with fail
            have hk := kopen HJ.out.1 pNew 15
            unfold VPost at hk
            by_cases h0 : (G.opn pNew 15).2.2 = 0
            rotate_left
            · refine hk.mono ?_
              clear hk
              rintro e w7 ⟨rfl, h, b⟩
              have HE := Lib.hid (HJ.out.2.2.2.trans b)
              clear h b
              obtain ⟨cz, hcz⟩ : ∃ cz, cz = (G.opn pNew 15).2.2 := ⟨_, rfl⟩
              obtain ⟨dz, hdz⟩ : ∃ dz, dz = (G.opn pNew 15).2.1 := ⟨_, rfl⟩
              rw [← hcz] at h0
              rw [← hcz, ← hdz]
              have q0 : (cz != 0) = true := by simp [h0]
              clear h0 hcz hdz
              go_wp2_with (go_at_call 16; refine (knumc _ _).mono ?_; rintro e w' ⟨rfl, rfl⟩)
              exact bodyPost_ret (v := .bool true) (by simp [results, Tryd.results3, go_sem]) rfl ⟨rfl, HE.out⟩
            obtain ⟨k, m, hS, hm0, hlk, he⟩ := open_new HJ.out.1.inv HJf.out h0
            rw [he] at hk
            refine hk.mono ?_
            clear hk h0 he
            rintro e w7 ⟨rfl, h, b⟩
            have HK := Lib.hid hS
            have HM := Lib.hid (And.intro hm0 hlk)
            have HMT := Lib.hid (lkT (k := (k : Int)) HJ.out.1.inv hm0)
            have HNB := Lib.hid (show ∀ (m2 : List (ByteArray × Int)) (b2 : List Int) (a c : Fl), m2.length ≤ m.length + 2 → (stR G k m2 b2 a c).names < 4611686018427387000 from fun m2 b2 a c hm2 => by
              have h1 := st_names (F := G) (k := k) (m := m2) (b := b2) (a := a) (c := c)
              have h2 := dir_names hm0
              have h3 := HJ.out.2.1
              omega)
            have HA := Lib.hid (And.intro h (HJ.out.2.2.2.trans b))
            clear h b hS hm0 hlk
            go_wp2_with (go_at_call 16; refine (knumc _ _).mono ?_; rintro e w' ⟨rfl, rfl⟩)
            have hk := kseek HA.out.1 0 z2 0
            unfold VPost at hk
            rw [seek_new HK.out 0 z2] at hk
            by_cases h2 : z2 < 0 ∨ 4096 < z2
            · rw [if_pos h2] at hk
              refine hk.mono ?_
              clear hk
              rintro e w8 ⟨rfl, h, b⟩
              have HE := Lib.hid (HA.out.2.trans b)
              clear h b
              by_cases h3 : z2 < 0
              · have q1 : decide (z2 < 0) = true := decide_eq_true h3
                clear h2 h3
                go_wp2_with (go_at_call 16; refine (knumc _ _).mono ?_; rintro e w' ⟨rfl, rfl⟩)
                exact bodyPost_ret (v := .bool true) (by simp [results, Tryd.results3, go_sem]) rfl ⟨rfl, HE.out⟩
              · have q1 : decide (z2 < 0) = false := decide_eq_false h3
                have q2 : decide (4096 < z2) = true := decide_eq_true (by omega)
                clear h2 h3
                go_wp2_with (go_at_call 16; refine (knumc _ _).mono ?_; rintro e w' ⟨rfl, rfl⟩)
                exact bodyPost_ret (v := .bool true) (by simp [results, Tryd.results3, go_sem]) rfl ⟨rfl, HE.out⟩
            rw [if_neg h2] at hk
            refine hk.mono ?_
            clear hk
            rintro e w8 ⟨rfl, h, b⟩
            have HZ := Lib.hid (show 0 ≤ z2 ∧ z2 ≤ 4096 by omega)
            have HB1 := Lib.hid (And.intro h (HA.out.2.trans b))
            clear h b h2
            go_wp2_with (go_at_call 16; refine (knumc _ _).mono ?_; rintro e w' ⟨rfl, rfl⟩)
            have hk := kwriteX HB1.out.1 0 a1 cap1 D len1 HD.out.1 HD.out.2 HB1.out.2 (by rw [HD.out.1]; exact HD9.out)
            unfold VPost at hk
            rw [write_new HK.out z2 D, HD.out.1] at hk
            by_cases h3 : D ≠ [] ∧ 4096 < (stR G k (m ++ [(sNew, (k : Int))]) [] ⟨true, k, 15, z2⟩ fl0).bytes + (z2.toNat + len1)
            · rw [if_pos h3] at hk
              refine hk.mono ?_
              clear hk
              rintro e w9 ⟨rfl, h, b⟩
              have HE := Lib.hid (And.intro h (HB1.out.2.trans b))
              have hby : (stR G k (m ++ [(sNew, (k : Int))]) [] ⟨true, k, 15, z2⟩ fl0).bytes ≤ 4096 := h.inv.bytes
              obtain ⟨S, hSS⟩ : ∃ S, S = stR G k (m ++ [(sNew, (k : Int))]) [] ⟨true, k, 15, z2⟩ fl0 := ⟨_, rfl⟩
              rw [← hSS] at HE h3 hby
              have hz := HZ.out
              have h9 := HD9.out
              have hw1 : IntKind.i64.wrap ((S.bytes : Int) + z2) = (S.bytes : Int) + z2 := by rw [IntKind.wrap_i64] <;> omega
              have hw2 : IntKind.i64.wrap ((S.bytes : Int) + z2 + (len1 : Int)) = (S.bytes : Int) + z2 + (len1 : Int) := by rw [IntKind.wrap_i64] <;> omega
              have q1 : decide ((4096 : Int) < (S.bytes : Int) + z2 + (len1 : Int)) = true := decide_eq_true (by omega)
              clear h b hby hSS h3 hz h9
              go_wp2_with (go_at_call 16; refine (knumc _ _).mono ?_; rintro e w' ⟨rfl, rfl⟩)
              refine (kbytes HE.out.1).mono ?_
              rintro e w' ⟨rfl, rfl⟩
              go_wp2_with fail
              exact bodyPost_ret (v := .bool true) (by simp [results, Tryd.results3, go_sem]) rfl ⟨rfl, HE.out.2⟩
            rw [if_neg h3] at hk
            obtain ⟨bb, hbb⟩ : ∃ bb, bb = bbOf z2 D := ⟨_, rfl⟩
            obtain ⟨ps, hps⟩ : ∃ ps : Int, ps = ((z2.toNat + len1 : Nat) : Int) := ⟨_, rfl⟩
            rw [← hps, show (if D = [] then ([] : List Int) else List.replicate z2.toNat 0 ++ D) = bb from hbb.symm] at hk
            clear hps
            refine hk.mono ?_
            clear hk
            rintro e w9 ⟨rfl, h, b⟩
            obtain ⟨bl, hbl⟩ : ∃ bl, bl = bb.length := ⟨_, rfl⟩
            have HBN := Lib.hid hbl.symm
            have HBQ := Lib.hid hbb
            have HBL := Lib.hid (show bl = if D = [] then 0 else z2.toNat + len1 by
              rw [hbl, hbb]
              split
              · rename_i hd; unfold bbOf; rw [if_pos hd]; rfl
              · rename_i hd; rw [bbOf_len hd, HD.out.1])
            have HBL9 := Lib.hid (show bl ≤ 9999 by
              have h1 := HBL.out
              have h9 := HD9.out
              have hz := HZ.out
              have hby := h.inv.bytes
              split at h1
              · omega
              · rename_i hd
                have : ¬ 4096 < (stR G k (m ++ [(sNew, (k : Int))]) [] ⟨true, k, 15, z2⟩ fl0).bytes + (z2.toNat + len1) := fun h5 => h3 ⟨hd, h5⟩
                omega)
            have HB2 := Lib.hid (And.intro h (HB1.out.2.trans b))
            clear h b h3 hbb hbl
            go_wp2_with (go_at_call 16; refine (knumc _ _).mono ?_; rintro e w' ⟨rfl, rfl⟩)
            have hk := klink HB2.out.1 pNew pNewer
            unfold FPost at hk
            rcases link_new HK.out (lk1 HM.out.2) HMT.out (b := bb) (a := ⟨true, k, 15, ps⟩) (c := fl0) with h4 | ⟨h5, h4⟩
            · rw [h4] at hk
              refine hk.mono ?_
              clear hk h4
              rintro e w10 ⟨rfl, h, b⟩
              have HE := Lib.hid (HB2.out.2.trans b)
              clear h b
              go_wp2_with (go_at_call 16; refine (knumc _ _).mono ?_; rintro e w' ⟨rfl, rfl⟩)
              exact bodyPost_ret (v := .bool true) (by simp [results, Tryd.results3, go_sem]) rfl ⟨rfl, HE.out⟩
            rw [h4] at hk
            refine hk.mono ?_
            clear hk h4
            rintro e w10 ⟨rfl, h, b⟩
            have HM2 := Lib.hid (lk2 h5)
            have HB3 := Lib.hid (And.intro h (HB2.out.2.trans b))
            clear h b h5
            go_wp2_with (go_at_call 16; refine (knumc _ _).mono ?_; rintro e w' ⟨rfl, rfl⟩)
            have hk := kunlink HB3.out.1 (HNB.out _ _ _ _ (by simp)) pNew
            unfold FPost at hk
            rw [unl_new HK.out split_new (lk3 HM.out.2) rfl rfl, dl1 HM.out.2] at hk
            refine hk.mono ?_
            clear hk
            rintro e w11 ⟨rfl, h, b⟩
            have HB4 := Lib.hid (And.intro h (HB3.out.2.trans b))
            clear h b
            go_wp2_with (go_at_call 16; refine (knumc _ _).mono ?_; rintro e w' ⟨rfl, rfl⟩)
            have hk := kopen HB4.out.1 pNewer 1
            unfold VPost at hk
            rw [open_newer HK.out (lk4 HM2.out) rfl] at hk
            refine hk.mono ?_
            clear hk
            rintro e w15 ⟨rfl, h, b⟩
            have HB5 := Lib.hid (And.intro h (HB4.out.2.trans b))
            have q5 : ((len1 : Int) != (len1 : Int)) = false := by simp
            clear h b
            go_wp2_with (go_at_call 16; refine (knumc _ _).mono ?_; rintro e w' ⟨rfl, rfl⟩)
            have hk := kunlink HB5.out.1 (HNB.out _ _ _ _ (by simp)) pNewer
            unfold FPost at hk
            rw [unl_new HK.out split_newer (lk4 HM2.out) rfl rfl, dl2 HM2.out] at hk
            refine hk.mono ?_
            clear hk
            rintro e w16 ⟨rfl, h, b⟩
            have HB7 := Lib.hid (And.intro h (HB5.out.2.trans b))
            clear h b q5
            go_wp2_with fail
            have hk := kread HB7.out.1 1 9999 (by decide)
            rw [read_new HK.out (by have := HBL9.out; have := HBN.out; omega)] at hk
            refine hk.mono ?_
            clear hk
            rintro e w12 ⟨v, rfl, h, b⟩
            obtain ⟨⟨ba, bc, rfl⟩, -⟩ := (h.row (v := v) (b := bb) (by simp)).toE
            rw [HBN.out] at h
            rw [HBN.out]
            have HT := Lib.hid (And.intro h (HB7.out.2.trans b))
            clear h b
            by_cases hD0 : D = []
            · have e0 : len1 = 0 := by rw [← HD.out.1, hD0]; rfl
              have e1 : bl = 0 := by have := HBL.out; rw [if_pos hD0] at this; exact this
              subst e0
              have HBL0 := Lib.hid e1
              have q1 : decide ((0 : Int) < ((0 : Nat) : Int)) = false := by simp
              have q2 : ((((0 : Nat) : Int)) == 0) = true := by simp
              have q3 : ((bl : Int) != 0) = false := by simp [e1]
              clear e1
              go_wp2_with (go_at_call 16; refine (knumc _ _).mono ?_; rintro e w' ⟨rfl, rfl⟩)
              go_loopw [19] (fun jv wr => ∃ j : Nat, j ≤ bl ∧ jv = .int .i64 j ∧ Chg [] w12 wr) (fun jv _ => bl - (intOf jv).toNat)
              case atStart => exact ⟨0, by omega, rfl, Chg.refl _ _⟩
              case round =>
                obtain ⟨j, hj, rfl, hC⟩ := hrel
                have HC := Lib.hid hC
                have HT := Lib.hid (And.intro (HT.out.1.calm hC).1 (HT.out.2.trans (HT.out.1.calm hC).2))
                clear hC
                by_cases hjb : j < bl
                · exfalso
                  have := HBL0.out
                  omega
                · obtain rfl : bl = j := by omega
                  clear hjb hj
                  go_wp2_with fail
                  refine (knodes HT.out.1).mono ?_
                  rintro e w' ⟨rfl, rfl⟩
                  go_wp2_with fail
                  have hk := kclose HT.out.1 (HNB.out _ _ _ _ (by omega)) 1
                  unfold FPost at hk
                  rw [cls_new rfl rfl] at hk
                  refine hk.mono ?_
                  clear hk
                  rintro e w13 ⟨rfl, h, b⟩
                  have HU := Lib.hid (And.intro h (HT.out.2.trans b))
                  clear h b
                  go_wp2_with fail
                  have hk := kclose HU.out.1 (HNB.out _ _ _ _ (by omega)) 0
                  unfold FPost at hk
                  refine hk.mono ?_
                  clear hk
                  rintro e w14 ⟨rfl, h, b⟩
                  have hce := cls_end (c := ⟨true, k, 1, (bl : Int)⟩) (b := bb) HK.out HM.out.1 15 ps
                  obtain ⟨FZ, hFZ⟩ : ∃ FZ, FZ = ((stR G k m bb ⟨true, k, 15, ps⟩ fl0).cls 0).1 := ⟨_, rfl⟩
                  obtain ⟨cz, hcz⟩ : ∃ cz, cz = ((stR G k m bb ⟨true, k, 15, ps⟩ fl0).cls 0).2 := ⟨_, rfl⟩
                  obtain ⟨cn, hcn⟩ : ∃ cn, cn = (stR G k m bb ⟨true, k, 15, ps⟩ ⟨true, k, 1, (bl : Int)⟩).count := ⟨_, rfl⟩
                  rw [← hFZ] at h hce
                  rw [← hcn] at hce
                  rw [← hcz, ← hcn]
                  clear hFZ hcz hcn
                  have HV := Lib.hid (And.intro h (HU.out.2.trans b))
                  have hle := count_le h.inv
                  have hby := h.inv.bytes
                  clear h b
                  have hw1 : IntKind.i64.wrap ((cn : Int) - 1) = (FZ.count : Int) := by rw [IntKind.wrap_i64] <;> omega
                  have q8 : ((FZ.count : Int) == (FZ.count : Int)) = true := by simp
                  have q9 : decide ((FZ.bytes : Int) ≤ 4096) = true := decide_eq_true (by omega)
                  clear hce hle hby
                  go_wp2_with fail
                  refine (knodes HV.out.1).mono ?_
                  rintro e w' ⟨rfl, rfl⟩
                  go_wp2_with fail
                  refine (kbytes HV.out.1).mono ?_
                  rintro e w' ⟨rfl, rfl⟩
                  go_wp2_with fail
                  exact bodyPost_ret (v := .bool true) (by simp [results, Tryd.results3, go_sem]) rfl ⟨rfl, HV.out.2⟩
            · have hl1 : 0 < len1 := by rw [← HD.out.1]; exact List.length_pos_iff.2 hD0
              have hbq : bl = z2.toNat + len1 := by have := HBL.out; rw [if_neg hD0] at this; exact this
              have hb9 := HBL9.out
              have hz := HZ.out
              have q1 : decide ((0 : Int) < (len1 : Int)) = true := decide_eq_true (by omega)
              have q2 : ((len1 : Int) == 0) = false := by simp; omega
              have hw2 : IntKind.i64.wrap (z2 + (len1 : Int)) = (bl : Int) := by rw [IntKind.wrap_i64] <;> omega
              have q3 : ((bl : Int) != (bl : Int)) = false := by simp
              have HBL := Lib.hid hbq
              clear hbq hb9 hz
              go_wp2_with (go_at_call 16; refine (knumc _ _).mono ?_; rintro e w' ⟨rfl, rfl⟩)
              go_loopw [19] (fun jv wr => ∃ j : Nat, j ≤ bl ∧ jv = .int .i64 j ∧ Chg [] w12 wr) (fun jv _ => bl - (intOf jv).toNat)
              case atStart => exact ⟨0, by omega, rfl, Chg.refl _ _⟩
              case round =>
                obtain ⟨j, hj, rfl, hC⟩ := hrel
                have HC := Lib.hid hC
                have HT := Lib.hid (And.intro (HT.out.1.calm hC).1 (HT.out.2.trans (HT.out.1.calm hC).2))
                clear hC
                by_cases hjb : j < bl
                · have hb9 := HBL9.out
                  have hwr : IntKind.i64.wrap ((j : Int) + 1) = (j : Int) + 1 := by rw [IntKind.wrap_i64] <;> omega
                  have hrow := (HT.out.1.row (v := .slice ba bl bc) (b := bb) (by simp)).cells (show bb ≠ [] from fun e => by have h1 := HBN.out; rw [e] at h1; have h2 : bl = 0 := h1.symm; omega)
                  obtain ⟨g2, o2, rfl, hrow⟩ := hrow
                  have hjn : ¬ bl ≤ j := by omega
                  by_cases hjz : (j : Int) < z2
                  · have cb : wr.cell? ⟨g2, o2 + j, none⟩ = some (.int .u8 0) := hrow j _ (by rw [HBQ.out]; exact bbOf_lo hD0 hjz)
                    have q1 : decide ((j : Int) < z2) = true := decide_eq_true hjz
                    have q2 : decide (z2 ≤ (j : Int)) = false := decide_eq_false (by omega)
                    clear hrow hb9
                    go_upto_region 53 with fail
                    go_quiet (fail)
                    go_wp2_with fail
                    go_roundw
                    case rel => exact ⟨j + 1, by omega, by first | rfl | go_num, HC.out.trans ((Chg.refl _ _).drewN _)⟩
                    case measure => simp [intOf]; omega
                  · obtain ⟨g3, o3, hg3, hrow3⟩ := (((HD.out.2.below HT.out.2).2).resolve_left hD0).cells hD0
                    have hjd : j - z2.toNat < len1 := by have := HBL.out; have := HZ.out; omega
                    obtain ⟨y, hy⟩ : ∃ y, D[j - z2.toNat]? = some y := ⟨_, List.getElem?_eq_getElem (by rw [HD.out.1]; exact hjd)⟩
                    have cb : wr.cell? ⟨g2, o2 + j, none⟩ = some (.int .u8 y) := hrow j _ (by rw [HBQ.out, bbOf_hi hD0 (by omega) HZ.out.1]; exact hy)
                    have cd := hrow3 _ _ hy
                    have hwd : IntKind.i64.wrap ((j : Int) - z2) = ((j - z2.toNat : Nat) : Int) := by have := HZ.out; rw [IntKind.wrap_i64] <;> omega
                    generalize j - z2.toNat = jd at *
                    have q1 : decide ((j : Int) < z2) = false := decide_eq_false hjz
                    have q2 : decide (z2 ≤ (j : Int)) = true := decide_eq_true (by omega)
                    have q3 : (y != y) = false := by simp
                    subst hg3
                    clear hrow hrow3 hy hjz hb9
                    go_upto_region 53 with fail
                    go_quiet (fail)
                    go_wp2_with fail
                    go_roundw
                    case rel => exact ⟨j + 1, by omega, by first | rfl | go_num, HC.out.trans ((Chg.refl _ _).drewN _)⟩
                    case measure => simp [intOf]; omega
                · obtain rfl : bl = j := by omega
                  clear hjb hj
                  go_wp2_with fail
                  refine (knodes HT.out.1).mono ?_
                  rintro e w' ⟨rfl, rfl⟩
                  go_wp2_with fail
                  have hk := kclose HT.out.1 (HNB.out _ _ _ _ (by omega)) 1
                  unfold FPost at hk
                  rw [cls_new rfl rfl] at hk
                  refine hk.mono ?_
                  clear hk
                  rintro e w13 ⟨rfl, h, b⟩
                  have HU := Lib.hid (And.intro h (HT.out.2.trans b))
                  clear h b
                  go_wp2_with fail
                  have hk := kclose HU.out.1 (HNB.out _ _ _ _ (by omega)) 0
                  unfold FPost at hk
                  refine hk.mono ?_
                  clear hk
                  rintro e w14 ⟨rfl, h, b⟩
                  have hce := cls_end (c := ⟨true, k, 1, (bl : Int)⟩) (b := bb) HK.out HM.out.1 15 ps
                  obtain ⟨FZ, hFZ⟩ : ∃ FZ, FZ = ((stR G k m bb ⟨true, k, 15, ps⟩ fl0).cls 0).1 := ⟨_, rfl⟩
                  obtain ⟨cz, hcz⟩ : ∃ cz, cz = ((stR G k m bb ⟨true, k, 15, ps⟩ fl0).cls 0).2 := ⟨_, rfl⟩
                  obtain ⟨cn, hcn⟩ : ∃ cn, cn = (stR G k m bb ⟨true, k, 15, ps⟩ ⟨true, k, 1, (bl : Int)⟩).count := ⟨_, rfl⟩
                  rw [← hFZ] at h hce
                  rw [← hcn] at hce
                  rw [← hcz, ← hcn]
                  clear hFZ hcz hcn
                  have HV := Lib.hid (And.intro h (HU.out.2.trans b))
                  have hle := count_le h.inv
                  have hby := h.inv.bytes
                  clear h b
                  have hw1 : IntKind.i64.wrap ((cn : Int) - 1) = (FZ.count : Int) := by rw [IntKind.wrap_i64] <;> omega
                  have q8 : ((FZ.count : Int) == (FZ.count : Int)) = true := by simp
                  have q9 : decide ((FZ.bytes : Int) ≤ 4096) = true := decide_eq_true (by omega)
                  clear hce hle hby
                  go_wp2_with fail
                  refine (knodes HV.out.1).mono ?_
                  rintro e w' ⟨rfl, rfl⟩
                  go_wp2_with fail
                  refine (kbytes HV.out.1).mono ?_
                  rintro e w' ⟨rfl, rfl⟩
                  go_wp2_with fail
                  exact bodyPost_ret (v := .bool true) (by simp [results, Tryd.results3, go_sem]) rfl ⟨rfl, HV.out.2⟩

end Go.Proofs.YtkkjbnmfjhmobaaDoor
