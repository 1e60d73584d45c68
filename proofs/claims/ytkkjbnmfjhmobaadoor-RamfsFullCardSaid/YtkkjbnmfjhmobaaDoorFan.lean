
/- metronomelaw22.RamfsFull answers true (written by wip/full22.py). -/
import Derived.Test.YtkkjbnmfjhmobaaDoorFal
import Derived.Test.YtkkjbnmfjhmobaaDoorFam
import Derived.Laws.OwnMore
namespace Go.Proofs.YtkkjbnmfjhmobaaDoor
open Go.RowKit

/-- The name's bytes in round i. -/
def nmC (i : Nat) : Array Value := #[.int .u8 47, .int .u8 110, .int .u8 (48 + (i : Int) / 10), .int .u8 (48 + (i : Int) % 10)]
theorem conv_name {W : World} {g : Nat} {i : Nat} (hi : i < 63) {fr : Nat × Nat} (h : W.heap[g]? = some (.cells (nmC i) 5 fr)) : (convert 23 9 (.slice (some ⟨g, 0, none⟩) 4 4)).run Tryd.prog W = .ok (.string (nmF i)) W := by
  refine run_convert_bytes_back W 23 9 5 ⟨g, 0, none⟩ 4 [47, 110, UInt8.ofNat (48 + i / 10), UInt8.ofNat (48 + i % 10)] Tryd.underlying23 (by kernel_rfl) Tryd.underlying9 (fun j hj => ?_)
  rw [addr_add, Nat.zero_add]
  refine cellB h ?_
  have h1 : (UInt8.ofNat (48 + i / 10)).toNat = 48 + i / 10 := by rw [UInt8.toNat_ofNat_of_lt']; show _ < 256; omega
  have h2 : (UInt8.ofNat (48 + i % 10)).toNat = 48 + i % 10 := by rw [UInt8.toNat_ofNat_of_lt']; show _ < 256; omega
  match j, hj with
  | 0, _ => rfl
  | 1, _ => rfl
  | 2, _ => show some (Value.int .u8 (48 + (i : Int) / 10)) = some (Value.int .u8 (((UInt8.ofNat (48 + i / 10)).toNat : Nat) : Int)); rw [h1]; rfl
  | 3, _ => show some (Value.int .u8 (48 + (i : Int) % 10)) = some (Value.int .u8 (((UInt8.ofNat (48 + i % 10)).toNat : Nat) : Int)); rw [h2]; rfl

def badC : Array Value := #[.string ⟨#[]⟩, .string ⟨#[97]⟩, .string ⟨#[47, 47]⟩, .string ⟨#[47, 97, 47]⟩, .string ⟨#[47, 46]⟩, .string ⟨#[47, 46, 46]⟩, .string ⟨#[47, 97, 47, 47, 98]⟩, .string ⟨#[47, 97, 0]⟩, .string ⟨#[47, 255]⟩]
theorem bad_at {x : Nat} (hx : x < 9) : ∃ p, badC[x]? = some (.string p) ∧ ff5.stt p = (st0, 22) ∧ ff5.mkd p = (ff5, 22) ∧ ff5.lnk pMore p = (ff5, 22) ∧ ff5.ren p ⟨#[47, 113]⟩ = (ff5, 22) := by
  have e : badC = (bads.map Value.string).toArray := rfl
  have hl : x < bads.length := hx
  have hs := of_decide_eq_true (List.all_eq_true.1 bad_split _ (List.getElem_mem hl))
  refine ⟨bads[x], by rw [e]; simp [hl], ?_, ?_, ?_, ?_⟩
  · unfold FS.stt onPath
    rw [hs]
    rfl
  · unfold FS.mkd onPath
    rw [hs]
    rfl
  · unfold FS.lnk
    rw [onPaths_none (.inr hs)]
    rfl
  · unfold FS.ren
    rw [onPaths_none (.inl hs)]
    rfl
theorem FW.lib {B : Nat} {w : World} {fb : Nat} {f : FS} {rows : RowsF} (h : FW B w fb f rows) : LibW w := by
  obtain ⟨mb, vs, h⟩ := h
  exact h.lib
theorem zer_len : zer.length = 4096 := List.length_replicate
theorem zer_ok : ∀ z ∈ zer, 0 ≤ z ∧ z < 256 := fun z hz => by rw [List.eq_of_mem_replicate hz]; omega
theorem made_gen (n : Nat) : (madeCells (Value.cells (.int .u8 0)) (n * 1)).toList = bytesV (List.replicate n 0) := by
  rw [Nat.mul_one]
  exact (toList_madeCells_one _ n).trans (by unfold bytesV; rw [List.map_replicate])
theorem made_zer : (madeCells (Value.cells (.int .u8 0)) (4096 * 1)).toList = bytesV zer := made_gen 4096
set_option maxRecDepth 100000 in
set_option maxHeartbeats 8000000 in
theorem full22 (B : Nat) (w : World) (hB : B ≤ w.heap.size) (hl : LibLt B) (hL : LibW w) : Calls Tryd.prog 4 #[] w fun e w' => e = .returned (.bool true) ∧ Below B w w' := by
  have HL := Lib.hid (And.intro hB (And.intro hl hL))
  clear hB hl hL
  go_enter Tryd.func4, Tryd.ntmps4
  go_wp2_with fail
  refine (knew HL.out.1 HL.out.2.1 HL.out.2.2).mono ?_
  rintro e w0 ⟨fb, rfl, h, b⟩
  have HW0 := Lib.hid (And.intro (show FW B w0 fb (fmk 0) ([], []) from h) b)
  clear h b
  have hcv := Lib.run_convert_bytes_const (P := Tryd.prog) w0 23 5 #[.int .u8 47, .int .u8 110, .int .u8 48, .int .u8 48] 4 4 Tryd.underlying23 (by kernel_rfl)
  go_upto_region 5 with fail
  clear hcv
  obtain ⟨nb, hnb⟩ : ∃ nb, nb = w0.heap.size := ⟨_, rfl⟩
  obtain ⟨w1, hw1⟩ : ∃ w1, w1 = w0.alloc (.cells #[.int .u8 47, .int .u8 110, .int .u8 48, .int .u8 48] 5 (4, 5)) := ⟨_, rfl⟩
  have hC1 : Chg [] w0 w1 := by rw [hw1]; exact (Chg.refl _ _).alloc _
  have HW1 := Lib.hid (And.intro (HW0.out.1.addObj hC1 (Nat.le_of_eq hnb.symm) (show w1.heap[nb]? = some (.cells #[.int .u8 47, .int .u8 110, .int .u8 48, .int .u8 48] 5 (4, 5)) by rw [hw1, hnb]; exact heap_alloc_eq _ _)) (HW0.out.2.trans (hC1.belowB HW0.out.1.ge (by simp))))
  have HNB := Lib.hid (show B ≤ nb by rw [hnb]; exact HW0.out.1.ge)
  rw [← hw1, ← hnb]
  clear hw1 hnb hC1
  go_upto_block 0 with fail
  go_wp2
  go_loopw [3] (fun iv wr => ∃ (i : Nat) (a b : Int), i ≤ 63 ∧ iv = .int .i64 i ∧ FW B wr fb (fmk i) ([], [(nb, .cells #[.int .u8 47, .int .u8 110, .int .u8 a, .int .u8 b] 5 (4, 5))]) ∧ Below B w wr) (fun iv _ => 63 - (intOf iv).toNat)
  case atStart => exact ⟨0, 48, 48, by omega, rfl, HW1.out.1, HW1.out.2⟩
  case round =>
    obtain ⟨i, a, b, hi, rfl, hF, hBe⟩ := hrel
    have ho := hF.obj (k := nb) (List.mem_singleton.2 rfl)
    have c2 := cellB ho (i := 2) (v := .int .u8 a) rfl
    have c3 := cellB ho (i := 3) (v := .int .u8 b) rfl
    have z2 : wr.frozen? ⟨nb, 2, none⟩ = false := by simp [World.frozen?, ho]
    have z3 : wr.frozen? ⟨nb, 3, none⟩ = false := by simp [World.frozen?, ho]
    have HF := Lib.hid (And.intro hF hBe)
    clear hF hBe ho
    by_cases hlt : i < 63
    · have k1 : decide ((i : Int) < 63) = true := decide_eq_true (by omega)
      go_upto_region 9 with fail
      obtain ⟨w2, hw2⟩ : ∃ w2, w2 = (wr.setCell ⟨nb, 2, none⟩ (.int .u8 (48 + (i : Int) / 10))).setCell ⟨nb, 3, none⟩ (.int .u8 (48 + (i : Int) % 10)) := ⟨_, rfl⟩
      have hC2 : Chg [nb] wr w2 := by rw [hw2]; exact ((Chg.refl _ _).setCell _ _ (.inl (by simp))).setCell _ _ (.inl (by simp))
      have hb2 : w2.heap[nb]? = some (.cells (nmC i) 5 (4, 5)) := by rw [hw2]; exact blk_setCell (blk_setCell (HF.out.1.obj (k := nb) (List.mem_singleton.2 rfl)) _) _
      obtain ⟨hF2, hB2⟩ := HF.out.1.setObj rfl hC2 HNB.out hb2
      have hcv := conv_name hlt hb2
      rw [← hw2]
      have HF2 := Lib.hid (And.intro hF2 (HF.out.2.trans hB2))
      have HLT := Lib.hid hlt
      clear hw2 hC2 hb2 hF2 hB2 c2 c3 z2 z3 k1
      go_wp2_with fail
      have hk := kmkdir HF2.out.1 (nmF i)
      unfold FPost at hk
      rw [fmk_ok HLT.out] at hk
      refine hk.mono ?_
      clear hk hcv
      rintro e w3 ⟨rfl, hF3, hB3⟩
      have HF3 := Lib.hid (And.intro hF3 (HF2.out.2.trans hB3))
      clear hF3 hB3
      have hwr : IntKind.i64.wrap ((i : Int) + 1) = (i : Int) + 1 := by rw [IntKind.wrap_i64] <;> omega
      go_wp2_with (go_at_call 16; refine (knumc _ _).mono ?_; rintro e w' ⟨rfl, rfl⟩)
      go_roundw
      case rel => exact ⟨i + 1, _, _, by omega, by first | rfl | go_num, HF3.out.1, HF3.out.2⟩
      case measure => simp [intOf]; omega
    · obtain rfl : i = 63 := by omega
      clear c2 c3 z2 z3 hlt hi
      have HG0 := Lib.hid (show ∃ R, FW B wr fb ff0 R ∧ Below B w wr from ⟨_, HF.out.1, HF.out.2⟩)
      clear HF
      obtain ⟨R, hG⟩ := HG0.out
      have HG := Lib.hid hG
      clear hG HG0
      have hnm : ∀ F : FS, F.names = 63 → F.names < 4611686018427387000 := fun F h => by rw [h]; decide
      have HNM := Lib.hid hnm
      clear hnm
      go_wp2_with fail
      have hk := kmkdir HG.out.1 pMore
      unfold FPost at hk
      rw [fe1] at hk
      refine hk.mono ?_
      clear hk
      rintro e w2 ⟨rfl, h, b⟩
      have HG2 := Lib.hid (And.intro h (HG.out.2.trans b))
      clear h b
      go_wp2_with fail
      have hk := kopen HG2.out.1 pMore 6
      unfold VPost at hk
      rw [fe2] at hk
      refine hk.mono ?_
      clear hk
      rintro e w3 ⟨rfl, h, b⟩
      have HG3 := Lib.hid (And.intro h (HG2.out.2.trans b))
      clear h b
      go_wp2_with fail
      have hk := krmdir HG3.out.1 (HNM.out _ names_ff.1) pN00
      unfold FPost at hk
      rw [fe3] at hk
      refine hk.mono ?_
      clear hk
      rintro e w4 ⟨rfl, h, b⟩
      have HG4 := Lib.hid (And.intro (show FW B w4 fb (fop 0) R from h) (HG3.out.2.trans b))
      clear h b
      go_wp2_with fail
      go_loopw [7] (fun iv wr => ∃ (i : Nat), i ≤ 16 ∧ iv = .int .i64 i ∧ FW B wr fb (fop i) R ∧ Below B w wr) (fun iv _ => 16 - (intOf iv).toNat)
      case atStart => exact ⟨0, by omega, rfl, HG4.out.1, HG4.out.2⟩
      case round =>
        obtain ⟨i, hi, rfl, hF, hBe⟩ := hrel
        have HF := Lib.hid (And.intro hF hBe)
        clear hF hBe
        by_cases hlt : i < 16
        · have k1 : decide ((i : Int) < 16) = true := decide_eq_true (by omega)
          have k2 : ((i : Int) != (i : Int)) = false := by simp
          have hwr : IntKind.i64.wrap ((i : Int) + 1) = (i : Int) + 1 := by rw [IntKind.wrap_i64] <;> omega
          go_wp2_with fail
          have hk := kopen HF.out.1 pMore 7
          unfold VPost at hk
          rw [fop_ok hlt] at hk
          refine hk.mono ?_
          clear hk
          rintro e w5 ⟨rfl, h, b⟩
          have HF5 := Lib.hid (And.intro h (HF.out.2.trans b))
          clear h b
          go_wp2_with (go_at_call 16; refine (knumc _ _).mono ?_; rintro e w' ⟨rfl, rfl⟩)
          go_roundw
          case rel => exact ⟨i + 1, by omega, by first | rfl | go_num, HF5.out.1, HF5.out.2⟩
          case measure => simp [intOf]; omega
        · obtain rfl : i = 16 := by omega
          clear hlt hi
          go_wp2_with fail
          have hk := kopen (show FW B wr fb ff2 R from HF.out.1) pMore 1
          unfold VPost at hk
          rw [fe4] at hk
          refine hk.mono ?_
          clear hk
          rintro e w6 ⟨rfl, h, b⟩
          have HG6 := Lib.hid (And.intro h (HF.out.2.trans b))
          clear h b
          obtain ⟨i0, hi0, hi1⟩ := Option.map_eq_some_iff.1 infoByte
          simp only [Prod.mk.injEq] at hi1
          obtain ⟨w7, hmk, hown, hgr⟩ := run_makeSlice_full (P := Tryd.prog) w6 w6.heap.size 23 5 i0 (.int .u8 0) 1 Tryd.underlying23 hi0 hi1.1 hi1.2.1 .i64 .i64 4096 (by decide) (by rw [hi1.2.2]; decide) (by decide) (Nat.le_refl _)
          have hmk2 : (Instr.makeSlice 23 (.int .i64 4096) (.int .i64 4096)).run Tryd.prog w6 = .ok (.slice (some ⟨w6.heap.size, 0, none⟩) 4096 4096) w7 := hmk
          clear hmk
          have hC7 : Chg [] w6 w7 := Chg.of_grown hgr (fun k hk => by cases hk)
          rw [show (madeCells (Value.cells (.int .u8 0)) (4096 * 1)).toList = bytesV zer from made_zer, show (4096 : Nat) = zer.length from zer_len.symm] at hown
          have hlt7 : w6.heap.size < w7.heap.size := by
            obtain ⟨cs, hcs⟩ := own_cells hown w6.heap.size (by simp [Value.ownBlock])
            exact lt_of_blk hcs
          have HG7 := Lib.hid (And.intro (HG6.out.1.addRow hC7 (BytesAt.of_own hown) (fun k hk => by simp [Value.ownBlock] at hk; subst hk; exact ⟨Nat.le_refl _, hlt7⟩)) (HG6.out.2.trans (hC7.belowB HG6.out.1.ge (by simp))))
          clear hi0 hi1 hown hgr hC7 hlt7
          go_wp2_with fail
          clear hmk2
          have hk := kwriteR HG7.out.1 0 (some ⟨w6.heap.size, 0, none⟩) 4096 4096 zer zer_len.symm (by rw [← zer_len]; exact List.mem_cons_self) zer_ok (by rw [zer_len]; decide)
          unfold VPost at hk
          rw [fe5] at hk
          refine hk.mono ?_
          clear hk
          rintro e w8 ⟨rfl, h, b⟩
          have HG8 := Lib.hid (And.intro h (HG7.out.2.trans b))
          clear h b
          go_wp2_with fail
          have hC9 : Chg [] w8 (w8.alloc (.cells #[.int .u8 1] 5 (0, 0))) := (Chg.refl _ _).alloc _
          have HG9 := Lib.hid (And.intro (HG8.out.1.addRow hC9 (v := .slice (some ⟨w8.heap.size, 0, none⟩) 1 1) (b := [1]) (BytesAt.lit (w := w8) (n := 1) (C := #[.int .u8 1]) (b := [1]) (fr := (0, 0)) rfl rfl 5) (fun k hk => by simp [Value.ownBlock] at hk; subst hk; exact ⟨Nat.le_refl _, by simp⟩)) (HG8.out.2.trans (hC9.belowB HG8.out.1.ge (by simp))))
          clear hC9
          have hk := kwriteR HG9.out.1 0 (some ⟨w8.heap.size, 0, none⟩) 1 1 [1] rfl List.mem_cons_self (by decide) (by decide)
          unfold VPost at hk
          rw [fe6] at hk
          refine hk.mono ?_
          clear hk
          rintro e w10 ⟨rfl, h, b⟩
          have HG10 := Lib.hid (And.intro h (HG9.out.2.trans b))
          clear h b
          go_wp2_with fail
          have HG11 := Lib.hid (And.intro (HG10.out.1.addRow (Chg.refl _ _) (v := .slice none 0 0) (b := []) ⟨none, 0, rfl, Nat.le_refl _, .inl ⟨rfl, rfl⟩⟩ (fun k hk => by cases hk)) HG10.out.2)
          have hk := kwriteR HG11.out.1 0 none 0 0 [] rfl List.mem_cons_self (by decide) (by decide)
          unfold VPost at hk
          rw [fe7] at hk
          refine hk.mono ?_
          clear hk
          rintro e w12 ⟨rfl, h, b⟩
          have HG12 := Lib.hid (And.intro h (HG11.out.2.trans b))
          clear h b
          go_wp2_with fail
          have hk := kseek HG12.out.1 0 4097 0
          unfold VPost at hk
          rw [fe8] at hk
          refine hk.mono ?_
          clear hk
          rintro e w13 ⟨rfl, h, b⟩
          have HG13 := Lib.hid (And.intro h (HG12.out.2.trans b))
          clear h b
          go_wp2_with fail
          have hk := kseek HG13.out.1 0 (-1) 0
          unfold VPost at hk
          rw [fe9] at hk
          refine hk.mono ?_
          clear hk
          rintro e w14 ⟨rfl, h, b⟩
          have HG14 := Lib.hid (And.intro h (HG13.out.2.trans b))
          clear h b
          go_wp2_with fail
          have hk := kseek HG14.out.1 0 0 3
          unfold VPost at hk
          rw [fe10] at hk
          refine hk.mono ?_
          clear hk
          rintro e w15 ⟨rfl, h, b⟩
          have HG15 := Lib.hid (And.intro h (HG14.out.2.trans b))
          clear h b
          go_wp2_with fail
          have hk := kseek HG15.out.1 0 4611686018427387904 1
          unfold VPost at hk
          rw [fe11] at hk
          refine hk.mono ?_
          clear hk
          rintro e w16 ⟨rfl, h, b⟩
          have HG16 := Lib.hid (And.intro h (HG15.out.2.trans b))
          clear h b
          go_wp2_with fail
          have hk := kclose HG16.out.1 (HNM.out _ names_ff.2.1) 15
          unfold FPost at hk
          rw [fe12] at hk
          refine hk.mono ?_
          clear hk
          rintro e w17 ⟨rfl, h, b⟩
          have HG17 := Lib.hid (And.intro h (HG16.out.2.trans b))
          clear h b
          go_wp2_with fail
          have hk := kopen HG17.out.1 pNew 6
          unfold VPost at hk
          rw [fe13] at hk
          refine hk.mono ?_
          clear hk
          rintro e w18 ⟨rfl, h, b⟩
          have HG18 := Lib.hid (And.intro h (HG17.out.2.trans b))
          clear h b
          go_wp2_with fail
          have hk := kstat HG18.out.1 (HNM.out _ names_ff.2.2) ⟨#[47, 110, 48, 49, 47, 97, 47, 98, 47, 99, 47, 100, 47, 101, 47, 102, 47, 103, 47, 104]⟩
          rw [fe14, show st0 = #[.int .i64 0, .bool false, .int .i64 0, .int .i64 0] from rfl] at hk
          refine hk.mono ?_
          clear hk
          rintro e w19 ⟨rfl, h, b⟩
          have hC := (Chg.refl [] w19).alloc (.cells #[.int .i64 0, .bool false, .int .i64 0, .int .i64 0] 45 (0, 0))
          have HG19 := Lib.hid (And.intro (h.calm hC).1 ((HG18.out.2.trans b).trans (h.calm hC).2))
          clear h b hC
          go_wp2_with fail
          have hk := kstat HG19.out.1 (HNM.out _ names_ff.2.2) ⟨#[47, 110, 48, 49, 47, 97, 47, 98, 47, 99, 47, 100, 47, 101, 47, 102, 47, 103]⟩
          rw [fe15, show st0 = #[.int .i64 0, .bool false, .int .i64 0, .int .i64 0] from rfl] at hk
          refine hk.mono ?_
          clear hk
          rintro e w20 ⟨rfl, h, b⟩
          have hC := (Chg.refl [] w20).alloc (.cells #[.int .i64 0, .bool false, .int .i64 0, .int .i64 0] 45 (0, 0))
          have HG20 := Lib.hid (And.intro (h.calm hC).1 ((HG19.out.2.trans b).trans (h.calm hC).2))
          clear h b hC
          go_wp2_with fail
          have hk := kstat HG20.out.1 (HNM.out _ names_ff.2.2) ⟨#[47, 49, 50, 51, 52, 53, 54, 55, 56, 57, 48, 49, 50, 51, 52, 53, 54, 55]⟩
          rw [fe16, show st0 = #[.int .i64 0, .bool false, .int .i64 0, .int .i64 0] from rfl] at hk
          refine hk.mono ?_
          clear hk
          rintro e w21 ⟨rfl, h, b⟩
          have hC := (Chg.refl [] w21).alloc (.cells #[.int .i64 0, .bool false, .int .i64 0, .int .i64 0] 45 (0, 0))
          have HG21 := Lib.hid (And.intro (h.calm hC).1 ((HG20.out.2.trans b).trans (h.calm hC).2))
          clear h b hC
          go_wp2_with fail
          have hk := kstat HG21.out.1 (HNM.out _ names_ff.2.2) ⟨#[47, 49, 50, 51, 52, 53, 54, 55, 56, 57, 48, 49, 50, 51, 52, 53, 54]⟩
          rw [fe17, show st0 = #[.int .i64 0, .bool false, .int .i64 0, .int .i64 0] from rfl] at hk
          refine hk.mono ?_
          clear hk
          rintro e w22 ⟨rfl, h, b⟩
          obtain ⟨w23, hw23⟩ : ∃ w23, w23 = w22.alloc (.cells #[.int .i64 0, .bool false, .int .i64 0, .int .i64 0] 45 (0, 0)) := ⟨_, rfl⟩
          have hC : Chg [] w22 w23 := by rw [hw23]; exact (Chg.refl [] w22).alloc _
          have HG23 := Lib.hid (And.intro (h.calm hC).1 ((HG21.out.2.trans b).trans (h.calm hC).2))
          clear h b hC
          go_upto_region 36 with fail
          obtain ⟨sb, hsb⟩ : ∃ sb, sb = w22.heap.size + 1 := ⟨_, rfl⟩
          have hs3 : w23.heap.size = sb := by rw [hw23, hsb]; simp
          rw [← hw23]
          clear hw23
          obtain ⟨w24, hw24⟩ : ∃ w24, w24 = w23.alloc (.cells badC 9 (0, 0)) := ⟨_, rfl⟩
          have hC : Chg [] w23 w24 := by rw [hw24]; exact (Chg.refl [] w23).alloc _
          obtain ⟨R2, hR2⟩ : ∃ R2, FW B w24 fb ff5 R2 ∧ Below B w w24 ∧ (sb, Obj.cells badC 9 (0, 0)) ∈ R2.2 := ⟨_, HG23.out.1.addObj hC (Nat.le_of_eq hs3) (show w24.heap[sb]? = some (.cells badC 9 (0, 0)) by rw [hw24, ← hs3]; exact heap_alloc_eq _ _), HG23.out.2.trans (hC.belowB HG23.out.1.ge (by simp)), List.mem_cons_self⟩
          have HG24 := Lib.hid hR2
          rw [← hsb]
          have hq24 := hw24
          unfold badC at hq24
          rw [← hq24]
          clear hq24
          clear hw24 hsb hs3 hC hR2
          go_wp2_with fail
          go_loopw [38] (fun iv wr => ∃ (x : Nat), x ≤ 9 ∧ iv = .int .i64 x ∧ FW B wr fb ff5 R2 ∧ Below B w wr) (fun iv _ => 9 - (intOf iv).toNat)
          case atStart => exact ⟨0, by omega, rfl, HG24.out.1, HG24.out.2.1⟩
          case round =>
            obtain ⟨x, hx, rfl, hF, hBe⟩ := hrel
            by_cases hlt : x < 9
            · obtain ⟨p, hp, hall⟩ := bad_at hlt
              have HA := Lib.hid hall
              have HP := Lib.hid hp
              have k1 : decide ((x : Int) < 9) = true := decide_eq_true (by omega)
              have hwr : IntKind.i64.wrap ((x : Int) + 1) = (x : Int) + 1 := by rw [IntKind.wrap_i64] <;> omega
              have HF := Lib.hid (And.intro hF hBe)
              have c1 := cellB (hF.obj HG24.out.2.2) (i := x) (v := .string p) hp
              clear hF hBe hall hp
              go_wp2_with fail
              have hk := kstat HF.out.1 (HNM.out _ names_ff.2.2) p
              rw [HA.out.1, show st0 = #[.int .i64 0, .bool false, .int .i64 0, .int .i64 0] from rfl] at hk
              refine hk.mono ?_
              clear hk c1
              rintro e w25 ⟨rfl, h, b⟩
              have hC : Chg [] w25 (w25.alloc (.cells #[.int .i64 0, .bool false, .int .i64 0, .int .i64 0] 45 (0, 0))) := (Chg.refl [] w25).alloc _
              have HF2 := Lib.hid (And.intro (h.calm hC).1 ((HF.out.2.trans b).trans (h.calm hC).2))
              have c1 := cellB (HF2.out.1.obj HG24.out.2.2) (i := x) (v := .string p) HP.out
              clear h b hC
              go_wp2_with (go_at_call 16; refine (knumc _ _).mono ?_; rintro e w' ⟨rfl, rfl⟩)
              have hk := kmkdir HF2.out.1 p
              unfold FPost at hk
              rw [HA.out.2.1] at hk
              refine hk.mono ?_
              clear hk c1
              rintro e w26 ⟨rfl, h, b⟩
              have HF3 := Lib.hid (And.intro h (HF2.out.2.trans b))
              have c1 := cellB (HF3.out.1.obj HG24.out.2.2) (i := x) (v := .string p) HP.out
              clear h b
              go_wp2_with (go_at_call 16; refine (knumc _ _).mono ?_; rintro e w' ⟨rfl, rfl⟩)
              have hk := klink HF3.out.1 pMore p
              unfold FPost at hk
              rw [HA.out.2.2.1] at hk
              refine hk.mono ?_
              clear hk c1
              rintro e w27 ⟨rfl, h, b⟩
              have HF4 := Lib.hid (And.intro h (HF3.out.2.trans b))
              have c1 := cellB (HF4.out.1.obj HG24.out.2.2) (i := x) (v := .string p) HP.out
              clear h b
              go_wp2_with (go_at_call 16; refine (knumc _ _).mono ?_; rintro e w' ⟨rfl, rfl⟩)
              have hk := krename HF4.out.1 (HNM.out _ names_ff.2.2) p ⟨#[47, 113]⟩
              unfold FPost at hk
              rw [HA.out.2.2.2] at hk
              refine hk.mono ?_
              clear hk c1
              rintro e w28 ⟨rfl, h, b⟩
              have HF5 := Lib.hid (And.intro h (HF4.out.2.trans b))
              clear h b
              go_wp2_with (go_at_call 16; refine (knumc _ _).mono ?_; rintro e w' ⟨rfl, rfl⟩)
              go_roundw
              case rel => exact ⟨x + 1, by omega, by first | rfl | go_num, HF5.out.1, HF5.out.2⟩
              case measure => simp [intOf]; omega
            · obtain rfl : x = 9 := by omega
              have HF := Lib.hid (And.intro hF hBe)
              clear hlt hx hF hBe
              go_wp2_with fail
              have hk := krmdir HF.out.1 (HNM.out _ names_ff.2.2) ⟨#[47]⟩
              unfold FPost at hk
              rw [fe18] at hk
              refine hk.mono ?_
              clear hk
              rintro e w29 ⟨rfl, h, b⟩
              have HF2 := Lib.hid (And.intro h (HF.out.2.trans b))
              clear h b
              go_wp2_with fail
              have hk := kunlink HF2.out.1 (HNM.out _ names_ff.2.2) ⟨#[47]⟩
              unfold FPost at hk
              rw [fe19] at hk
              refine hk.mono ?_
              clear hk
              rintro e w30 ⟨rfl, h, b⟩
              have HF3 := Lib.hid (And.intro h (HF2.out.2.trans b))
              clear h b
              go_wp2_with fail
              have hk := krename HF3.out.1 (HNM.out _ names_ff.2.2) ⟨#[47, 110, 48, 49]⟩ ⟨#[47]⟩
              unfold FPost at hk
              rw [fe20] at hk
              refine hk.mono ?_
              clear hk
              rintro e w31 ⟨rfl, h, b⟩
              have HF4 := Lib.hid (And.intro h (HF3.out.2.trans b))
              clear h b
              go_wp2_with (go_at_call 16; refine (knumc _ _).mono ?_; rintro e w' ⟨rfl, rfl⟩)
              have hk := kbytes HF4.out.1
              rw [fe21] at hk
              refine hk.mono ?_
              clear hk
              rintro e w32 ⟨rfl, rfl⟩
              go_wp2_with fail
              have hk := knodes HF4.out.1
              rw [fe22] at hk
              refine hk.mono ?_
              clear hk
              rintro e w33 ⟨rfl, rfl⟩
              go_wp2_with fail
              refine (known22 B _ HF4.out.1.ge HL.out.2.1 HF4.out.1.lib).mono ?_
              rintro e w34 ⟨rfl, b⟩
              have HF5 := Lib.hid (HF4.out.2.trans b)
              clear b
              go_wp2_with fail
              exact bodyPost_ret (v := .bool true) (by simp [results, Tryd.results4, go_sem]) rfl ⟨rfl, HF5.out⟩

end Go.Proofs.YtkkjbnmfjhmobaaDoor
