
/- metronomelaw22.known answers true (written by wip/known22.py). -/
import Derived.Test.YtkkjbnmfjhmobaaDoorFak
import Derived.KernelRfl
import Derived.Laws.IdiomStrings
import Derived.Laws.StructEq
import Derived.Lib.SlBytesConst
namespace Go.Proofs.YtkkjbnmfjhmobaaDoor
open Go.RowKit

set_option maxRecDepth 100000 in
theorem knumc (z : Int) (w : World) : Calls Tryd.prog 16 #[.int .i64 z] w fun e w' => e = .returned (.int .i64 z) ∧ w = w' := by
  go_enter Tryd.func16, Tryd.ntmps16
  go_wp2
  go_ret
  exact ⟨rfl, rfl⟩
theorem conv_bytes {W : World} {v : Value} {b : List Int} (h : BytesAt W v b) (l : List UInt8) (hl : l.map (fun x => (x.toNat : Int)) = b) (hne : b ≠ []) : (convert 23 9 v).run Tryd.prog W = .ok (.string ⟨l.toArray⟩) W := by
  obtain ⟨a, cap, rfl, _, h⟩ := h
  obtain ⟨g, o, rfl, h2⟩ := h.resolve_left (fun x => hne x.2)
  subst hl
  rw [List.length_map]
  refine run_convert_bytes_back W 23 9 5 ⟨g, o, none⟩ cap l Tryd.underlying23 (by kernel_rfl) Tryd.underlying9 (fun j hj => ?_)
  rw [addr_add]
  exact h2 j _ (by rw [List.getElem?_map, List.getElem?_eq_getElem hj]; rfl)
theorem BytesAt.lit {w : World} {n : Nat} {C : Array Value} {b : List Int} {fr : Nat × Nat} (hc : C.toList = bytesV b) (hn : n = b.length) (e : TypeId) : BytesAt (w.alloc (.cells C e fr)) (.slice (some ⟨w.heap.size, 0, none⟩) n n) b := by
  subst hn
  refine ⟨_, _, rfl, Nat.le_refl _, .inr ⟨_, 0, rfl, fun j x hx => ?_⟩⟩
  rw [Nat.zero_add]
  refine cellB (heap_alloc_eq _ _) ?_
  rw [← Array.getElem?_toList, hc]
  simp [bytesV, hx]
theorem fpart0 (x : Int) (b : Bool) (y z : Int) (w : World) : (part ((Tryd.prog.fieldsOf 45)[0]!).type #[.int .i64 x, .bool b, .int .i64 y, .int .i64 z] ((Tryd.prog.fieldsOf 45)[0]!).offset).run Tryd.prog w = .ok (.int .i64 x) w := by kernel_rfl
theorem fname0 : ((Tryd.prog.fieldsOf 45)[0]!).name ≠ "_" := by decide +kernel
theorem fund0 : Tryd.prog.underlying ((Tryd.prog.fieldsOf 45)[0]!).type = some (.int .i64) := by kernel_rfl
theorem fpart1 (x : Int) (b : Bool) (y z : Int) (w : World) : (part ((Tryd.prog.fieldsOf 45)[1]!).type #[.int .i64 x, .bool b, .int .i64 y, .int .i64 z] ((Tryd.prog.fieldsOf 45)[1]!).offset).run Tryd.prog w = .ok (.bool b) w := by kernel_rfl
theorem fname1 : ((Tryd.prog.fieldsOf 45)[1]!).name ≠ "_" := by decide +kernel
theorem fund1 : Tryd.prog.underlying ((Tryd.prog.fieldsOf 45)[1]!).type = some .bool := by kernel_rfl
theorem fpart2 (x : Int) (b : Bool) (y z : Int) (w : World) : (part ((Tryd.prog.fieldsOf 45)[2]!).type #[.int .i64 x, .bool b, .int .i64 y, .int .i64 z] ((Tryd.prog.fieldsOf 45)[2]!).offset).run Tryd.prog w = .ok (.int .i64 y) w := by kernel_rfl
theorem fname2 : ((Tryd.prog.fieldsOf 45)[2]!).name ≠ "_" := by decide +kernel
theorem fund2 : Tryd.prog.underlying ((Tryd.prog.fieldsOf 45)[2]!).type = some (.int .i64) := by kernel_rfl
theorem fpart3 (x : Int) (b : Bool) (y z : Int) (w : World) : (part ((Tryd.prog.fieldsOf 45)[3]!).type #[.int .i64 x, .bool b, .int .i64 y, .int .i64 z] ((Tryd.prog.fieldsOf 45)[3]!).offset).run Tryd.prog w = .ok (.int .i64 z) w := by kernel_rfl
theorem fname3 : ((Tryd.prog.fieldsOf 45)[3]!).name ≠ "_" := by decide +kernel
theorem fund3 : Tryd.prog.underlying ((Tryd.prog.fieldsOf 45)[3]!).type = some (.int .i64) := by kernel_rfl
theorem eql_file (x : Int) (b : Bool) (y z : Int) (w : World) : (binOp .eql 45 (.agg #[.int .i64 x, .bool b, .int .i64 y, .int .i64 z]) (.agg #[.int .i64 x, .bool b, .int .i64 y, .int .i64 z])).run Tryd.prog w = .ok (.bool true) w := by
  rw [run_eql_struct, show (10000 : Nat) = 9998 + 1 + 1 from rfl, run_equalIn_struct w 9999 45 _ _ (by kernel_rfl) (by kernel_rfl)]
  have hf : (Tryd.prog.fieldsOf 45).toList = [(Tryd.prog.fieldsOf 45)[0]!, (Tryd.prog.fieldsOf 45)[1]!, (Tryd.prog.fieldsOf 45)[2]!, (Tryd.prog.fieldsOf 45)[3]!] := by kernel_rfl
  rw [hf]
  have e0 := run_equalIn_int (P := Tryd.prog) w 9998 _ .i64 .i64 x x fund0
  have e1 := run_equalIn_bool' (P := Tryd.prog) w 9998 _ b b fund1
  have e2 := run_equalIn_int (P := Tryd.prog) w 9998 _ .i64 .i64 y y fund2
  have e3 := run_equalIn_int (P := Tryd.prog) w 9998 _ .i64 .i64 z z fund3
  unfold Op.eqFields Op.eqFields Op.eqFields Op.eqFields Op.eqFields
  rw [if_pos fname0, if_pos fname1, if_pos fname2, if_pos fname3]
  simp only [Sem.run_bind, Sem.run_ite, Sem.run_pure, fpart0, e0, fpart1, e1, fpart2, e2, fpart3, e3, Result.andThen_ok]
  simp
def ks0 : FS := fsNew
theorem kn0 : ks0.opn (⟨#[47, 97]⟩ : ByteArray) 2 = (ks0, 0, 2) := by kernel_rfl
def ks1 : FS := (ks0.opn (⟨#[47, 97]⟩ : ByteArray) 6).1
theorem kn1 : ks0.opn (⟨#[47, 97]⟩ : ByteArray) 6 = (ks1, 0, 0) := by kernel_rfl
def ks2 : FS := (ks1.wr 0 [120, 121, 122]).1
theorem kn2 : ks1.wr 0 [120, 121, 122] = (ks2, 3, 0) := by kernel_rfl
theorem kn3 : ks2.rd 0 1 = (ks2, [], 9) := by kernel_rfl
theorem kn4 : ks2.opn (⟨#[47, 97]⟩ : ByteArray) 14 = (ks2, 0, 17) := by kernel_rfl
def ks3 : FS := (ks2.opn (⟨#[47, 97]⟩ : ByteArray) 1).1
theorem kn5 : ks2.opn (⟨#[47, 97]⟩ : ByteArray) 1 = (ks3, 1, 0) := by kernel_rfl
def ks4 : FS := (ks3.rd 1 2).1
theorem kn6 : ks3.rd 1 2 = (ks4, [120, 121], 0) := by kernel_rfl
def ks5 : FS := (ks4.rd 1 9).1
theorem kn7 : ks4.rd 1 9 = (ks5, [122], 0) := by kernel_rfl
def ks6 : FS := (ks5.sk 1 (-1) 2).1
theorem kn8 : ks5.sk 1 (-1) 2 = (ks6, 2, 0) := by kernel_rfl
def ks7 : FS := (ks6.unl (⟨#[47, 97]⟩ : ByteArray)).1
theorem kn9 : ks6.unl (⟨#[47, 97]⟩ : ByteArray) = (ks7, 0) := by kernel_rfl
def ks8 : FS := (ks7.rd 1 9).1
theorem kn10 : ks7.rd 1 9 = (ks8, [122], 0) := by kernel_rfl
def ks9 : FS := (ks8.mkd (⟨#[47, 100]⟩ : ByteArray)).1
theorem kn11 : ks8.mkd (⟨#[47, 100]⟩ : ByteArray) = (ks9, 0) := by kernel_rfl
def ks10 : FS := (ks9.mkd (⟨#[47, 100, 47, 101]⟩ : ByteArray)).1
theorem kn12 : ks9.mkd (⟨#[47, 100, 47, 101]⟩ : ByteArray) = (ks10, 0) := by kernel_rfl
theorem kn13 : ks10.rmd (⟨#[47, 100]⟩ : ByteArray) = (ks10, 39) := by kernel_rfl
theorem kn14 : ks10.ren (⟨#[47, 100]⟩ : ByteArray) (⟨#[47, 100, 47, 101, 47, 102]⟩ : ByteArray) = (ks10, 22) := by kernel_rfl
theorem kn15 : ks10.opn (⟨#[47, 100]⟩ : ByteArray) 2 = (ks10, 0, 21) := by kernel_rfl
theorem kn16 : ks10.opn (⟨#[97]⟩ : ByteArray) 1 = (ks10, 0, 22) := by kernel_rfl
def ks11 : FS := (ks10.cls 1).1
theorem kn17 : ks10.cls 1 = (ks11, 0) := by kernel_rfl
theorem kn18 : ks11.cls 1 = (ks11, 9) := by kernel_rfl
theorem kn19 : ks11.count = 4 := by kernel_rfl
def ks12 : FS := (ks11.cls 0).1
theorem kn20 : ks11.cls 0 = (ks12, 0) := by kernel_rfl
theorem kn21 : ks12.count = 3 := by kernel_rfl
theorem kn22 : ks12.stt (⟨#[47, 100]⟩ : ByteArray) = (#[.int .i64 2, .bool true, .int .i64 1, .int .i64 1], 0) := by kernel_rfl
theorem knn0 : ks0.names < 4611686018427387000 := by rw [show ks0.names = _ from rfl]; decide +kernel
theorem knn1 : ks1.names < 4611686018427387000 := by rw [show ks1.names = _ from rfl]; decide +kernel
theorem knn2 : ks2.names < 4611686018427387000 := by rw [show ks2.names = _ from rfl]; decide +kernel
theorem knn3 : ks3.names < 4611686018427387000 := by rw [show ks3.names = _ from rfl]; decide +kernel
theorem knn4 : ks4.names < 4611686018427387000 := by rw [show ks4.names = _ from rfl]; decide +kernel
theorem knn5 : ks5.names < 4611686018427387000 := by rw [show ks5.names = _ from rfl]; decide +kernel
theorem knn6 : ks6.names < 4611686018427387000 := by rw [show ks6.names = _ from rfl]; decide +kernel
theorem knn7 : ks7.names < 4611686018427387000 := by rw [show ks7.names = _ from rfl]; decide +kernel
theorem knn8 : ks8.names < 4611686018427387000 := by rw [show ks8.names = _ from rfl]; decide +kernel
theorem knn9 : ks9.names < 4611686018427387000 := by rw [show ks9.names = _ from rfl]; decide +kernel
theorem knn10 : ks10.names < 4611686018427387000 := by rw [show ks10.names = _ from rfl]; decide +kernel
theorem knn11 : ks11.names < 4611686018427387000 := by rw [show ks11.names = _ from rfl]; decide +kernel
theorem knn12 : ks12.names < 4611686018427387000 := by rw [show ks12.names = _ from rfl]; decide +kernel

set_option maxRecDepth 100000 in
set_option maxHeartbeats 8000000 in
theorem known22 (B : Nat) (w : World) (hB : B ≤ w.heap.size) (hl : LibLt B) (hL : LibW w) : Calls Tryd.prog 5 #[] w fun e w' => e = .returned (.bool true) ∧ Below B w w' := by
  have HL := Lib.hid (And.intro hB (And.intro hl hL))
  clear hB hl hL
  go_enter Tryd.func5, Tryd.ntmps5
  go_wp2_with fail
  refine (knew HL.out.1 HL.out.2.1 HL.out.2.2).mono ?_
  rintro e w0 ⟨fb, rfl, h, b⟩
  have HW0 := Lib.hid (And.intro (show FW B w0 fb ks0 ([], []) from h) b)
  clear h b
  go_wp2_with fail
  have hk := kopen (HW0.out.1) (⟨#[47, 97]⟩ : ByteArray) 2
  unfold VPost at hk
  rw [kn0] at hk
  refine hk.mono ?_
  clear hk
  rintro e w1 ⟨rfl, h, b⟩
  have HW1 := Lib.hid (And.intro h (HW0.out.2.trans b))
  clear h b
  go_wp2_with fail
  have hk := kopen (HW1.out.1) (⟨#[47, 97]⟩ : ByteArray) 6
  unfold VPost at hk
  rw [kn1] at hk
  refine hk.mono ?_
  clear hk
  rintro e w2 ⟨rfl, h, b⟩
  have HW2 := Lib.hid (And.intro h (HW1.out.2.trans b))
  clear h b
  have hcv := Lib.run_convert_bytes_const (P := Tryd.prog) w2 23 5 #[.int .u8 120, .int .u8 121, .int .u8 122] 3 3 Tryd.underlying23 (by kernel_rfl)
  go_wp2_with fail
  clear hcv
  refine (kwriteR (rows := ([(.slice (some ⟨w2.heap.size, 0, none⟩) 3 3, [120, 121, 122])], [])) (HW2.out.1.addRow ((Chg.refl _ _).alloc _) (BytesAt.lit (b := [120, 121, 122]) rfl rfl _) (fun k hk => by simp [Value.ownBlock] at hk; subst hk; exact ⟨Nat.le_refl _, by simp⟩)) 0 (some ⟨w2.heap.size, 0, none⟩) 3 3 [120, 121, 122] rfl (List.mem_singleton.2 rfl) (by decide) (by decide)).mono ?_
  unfold VPost
  rw [kn2]
  rintro e w3 ⟨rfl, h, b⟩
  have HW3 := Lib.hid (And.intro h (HW2.out.2.trans ((((Chg.refl [] w2).alloc _).belowB (HW2.out.1.ge) (by simp)).trans b)))
  clear h b
  go_wp2_with fail
  have hk := kread (HW3.out.1) 0 1 (by decide)
  rw [kn3] at hk
  refine hk.mono ?_
  clear hk
  rintro e w4 ⟨v3, rfl, h, b⟩
  have HW4 := Lib.hid (And.intro h (HW3.out.2.trans b))
  clear h b
  go_wp2_with fail
  have hk := kopen (HW4.out.1) (⟨#[47, 97]⟩ : ByteArray) 14
  unfold VPost at hk
  rw [kn4] at hk
  refine hk.mono ?_
  clear hk
  rintro e w5 ⟨rfl, h, b⟩
  have HW5 := Lib.hid (And.intro h (HW4.out.2.trans b))
  clear h b
  go_wp2_with fail
  have hk := kopen (HW5.out.1) (⟨#[47, 97]⟩ : ByteArray) 1
  unfold VPost at hk
  rw [kn5] at hk
  refine hk.mono ?_
  clear hk
  rintro e w6 ⟨rfl, h, b⟩
  have HW6 := Lib.hid (And.intro h (HW5.out.2.trans b))
  clear h b
  go_wp2_with fail
  have hk := kread (HW6.out.1) 1 2 (by decide)
  rw [kn6] at hk
  refine hk.mono ?_
  clear hk
  rintro e w7 ⟨v6, rfl, h, b⟩
  have HW7 := Lib.hid (And.intro h (HW6.out.2.trans b))
  clear h b
  go_wp2_with fail
  have hk := kread (HW7.out.1) 1 9 (by decide)
  rw [kn7] at hk
  refine hk.mono ?_
  clear hk
  rintro e w8 ⟨v7, rfl, h, b⟩
  have HW8 := Lib.hid (And.intro h (HW7.out.2.trans b))
  clear h b
  go_wp2_with fail
  have hk := kseek (HW8.out.1) 1 (-1) 2
  unfold VPost at hk
  rw [kn8] at hk
  refine hk.mono ?_
  clear hk
  rintro e w9 ⟨rfl, h, b⟩
  have HW9 := Lib.hid (And.intro h (HW8.out.2.trans b))
  clear h b
  go_wp2_with fail
  have hk := kunlink (HW9.out.1) knn6 (⟨#[47, 97]⟩ : ByteArray)
  unfold FPost at hk
  rw [kn9] at hk
  refine hk.mono ?_
  clear hk
  rintro e w10 ⟨rfl, h, b⟩
  have HW10 := Lib.hid (And.intro h (HW9.out.2.trans b))
  clear h b
  go_wp2_with fail
  have hk := kread (HW10.out.1) 1 9 (by decide)
  rw [kn10] at hk
  refine hk.mono ?_
  clear hk
  rintro e w11 ⟨v10, rfl, h, b⟩
  have HW11 := Lib.hid (And.intro h (HW10.out.2.trans b))
  clear h b
  go_wp2_with fail
  have hk := kmkdir (HW11.out.1) (⟨#[47, 100]⟩ : ByteArray)
  unfold FPost at hk
  rw [kn11] at hk
  refine hk.mono ?_
  clear hk
  rintro e w12 ⟨rfl, h, b⟩
  have HW12 := Lib.hid (And.intro h (HW11.out.2.trans b))
  clear h b
  go_wp2_with fail
  have hk := kmkdir (HW12.out.1) (⟨#[47, 100, 47, 101]⟩ : ByteArray)
  unfold FPost at hk
  rw [kn12] at hk
  refine hk.mono ?_
  clear hk
  rintro e w13 ⟨rfl, h, b⟩
  have HW13 := Lib.hid (And.intro h (HW12.out.2.trans b))
  clear h b
  go_wp2_with fail
  have hk := krmdir (HW13.out.1) knn10 (⟨#[47, 100]⟩ : ByteArray)
  unfold FPost at hk
  rw [kn13] at hk
  refine hk.mono ?_
  clear hk
  rintro e w14 ⟨rfl, h, b⟩
  have HW14 := Lib.hid (And.intro h (HW13.out.2.trans b))
  clear h b
  go_wp2_with fail
  have hk := krename (HW14.out.1) knn10 (⟨#[47, 100]⟩ : ByteArray) (⟨#[47, 100, 47, 101, 47, 102]⟩ : ByteArray)
  unfold FPost at hk
  rw [kn14] at hk
  refine hk.mono ?_
  clear hk
  rintro e w15 ⟨rfl, h, b⟩
  have HW15 := Lib.hid (And.intro h (HW14.out.2.trans b))
  clear h b
  go_wp2_with fail
  have hk := kopen (HW15.out.1) (⟨#[47, 100]⟩ : ByteArray) 2
  unfold VPost at hk
  rw [kn15] at hk
  refine hk.mono ?_
  clear hk
  rintro e w16 ⟨rfl, h, b⟩
  have HW16 := Lib.hid (And.intro h (HW15.out.2.trans b))
  clear h b
  go_wp2_with fail
  have hk := kopen (HW16.out.1) (⟨#[97]⟩ : ByteArray) 1
  unfold VPost at hk
  rw [kn16] at hk
  refine hk.mono ?_
  clear hk
  rintro e w17 ⟨rfl, h, b⟩
  have HW17 := Lib.hid (And.intro h (HW16.out.2.trans b))
  clear h b
  go_wp2_with fail
  have hk := kclose (HW17.out.1) knn10 1
  unfold FPost at hk
  rw [kn17] at hk
  refine hk.mono ?_
  clear hk
  rintro e w18 ⟨rfl, h, b⟩
  have HW18 := Lib.hid (And.intro h (HW17.out.2.trans b))
  clear h b
  go_wp2_with fail
  have hk := kclose (HW18.out.1) knn11 1
  unfold FPost at hk
  rw [kn18] at hk
  refine hk.mono ?_
  clear hk
  rintro e w19 ⟨rfl, h, b⟩
  have HW19 := Lib.hid (And.intro h (HW18.out.2.trans b))
  clear h b
  go_wp2_with fail
  have hk := knodes (HW19.out.1)
  rw [kn19] at hk
  refine hk.mono ?_
  clear hk
  rintro e w20 ⟨rfl, rfl⟩
  go_wp2_with fail
  have hk := kclose (HW19.out.1) knn11 0
  unfold FPost at hk
  rw [kn20] at hk
  refine hk.mono ?_
  clear hk
  rintro e w21 ⟨rfl, h, b⟩
  have HW21 := Lib.hid (And.intro h (HW19.out.2.trans b))
  clear h b
  go_wp2_with fail
  have hk := knodes (HW21.out.1)
  rw [kn21] at hk
  refine hk.mono ?_
  clear hk
  rintro e w22 ⟨rfl, rfl⟩
  go_wp2_with fail
  have hk := kstat (HW21.out.1) knn12 (⟨#[47, 100]⟩ : ByteArray)
  rw [kn22] at hk
  refine hk.mono ?_
  clear hk
  rintro e w23 ⟨rfl, h, b⟩
  have HW23 := Lib.hid (And.intro h (HW21.out.2.trans b))
  clear h b
  have hr := HW23.out.1
  have hA := (Chg.refl [] w23).alloc (.cells #[.int .i64 2, .bool true, .int .i64 1, .int .i64 1] 45 (0, 0))
  have q6 := conv_bytes ((hr.row (v := v6) (b := [120, 121]) (by simp)).calm hA) [120, 121] rfl (by simp)
  have q7 := conv_bytes ((hr.row (v := v7) (b := [122]) (by simp)).calm hA) [122] rfl (by simp)
  have q10 := conv_bytes ((hr.row (v := v10) (b := [122]) (by simp)).calm hA) [122] rfl (by simp)
  have s1 : ((⟨#[120, 121]⟩ : ByteArray) == ⟨#[120, 121]⟩) = true := by kernel_rfl
  have s2 : ((⟨#[122]⟩ : ByteArray) == ⟨#[122]⟩) = true := by kernel_rfl
  have hst := eql_file 2 true 1 1
  clear hr hA
  go_wp2_with (go_at_call 16; refine (knumc _ _).mono ?_; rintro e w' ⟨rfl, rfl⟩)
  exact bodyPost_ret (v := .bool true) (by simp [results, Tryd.results5, go_sem]) rfl ⟨rfl, HW23.out.2.trans (((Chg.refl [] w23).alloc _).belowB (HW23.out.1.ge) (by simp))⟩

end Go.Proofs.YtkkjbnmfjhmobaaDoor
