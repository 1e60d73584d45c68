
/- Package ramfs: Write: contracts. -/
import Derived.Test.YtkkjbnmfjhmobaaDoorFag
import Derived.Deep.RegionLaw
namespace Go.Proofs.YtkkjbnmfjhmobaaDoor
open Go.RowKit

theorem wpStill_skip {P : Program} {ops : Array Oper} {w : World} {Q : Act → Prop} {a : Act} {o : Oper} {rest : List Oper} (hw : Region.wanted o (yielded ops a.tmps) = false) (h : wpStill P ops w Q rest (a.put o.dst undef)) : wpStill P ops w Q (o :: rest) a := by
  refine wpStill_step (fun K hK => ?_)
  rw [hw]
  exact hK _ h
theorem bytesK_mono (f : FS) {a b : Nat} (h : a ≤ b) : f.bytesK a ≤ f.bytesK b := by
  unfold FS.bytesK
  rw [← Nat.sub_add_cancel h, Nat.add_comm, List.take_add, List.map_append, List.sum_append]
  omega
/-- From where Write writes. -/
def fromF (f : FS) (i m : Nat) : Nat := if hasB (f.files.getD i fl0).flags 32 = true then (f.nodes.getD m nd0).b.length else (f.files.getD i fl0).pos.toNat
set_option maxRecDepth 100000 in
set_option maxHeartbeats 4000000 in
/-- Write's closure. -/
theorem fwrite1c (fb : Nat) (mb : Nat → Nat) (vs : Nat → Value) (f : FS) (bf bd bb bx : Nat) (d : Int) (sa : Option Addr) (sc : Nat) (data : List Int) (w0 w : World) (hC0 : Chg [] w0 w) (h0 : FAt w0 fb mb vs f) (cf : w.cell? ⟨bf, 0, none⟩ = some (.pointer (some ⟨fb, 0, none⟩))) (cd : w.cell? ⟨bd, 0, none⟩ = some (.int .i64 d))
    (cb : w.cell? ⟨bb, 0, none⟩ = some (.slice sa data.length sc)) (hdat : BytesE w (.slice sa data.length sc) data) (hdz : ∀ z ∈ data, 0 ≤ z ∧ z < 256) (hdl : data.length ≤ 9000) (hdk : data ≠ [] → ∀ k ∈ (Value.slice sa data.length sc).ownBlock.toList, k ∉ blkF fb mb vs f)
    (hx : w.heap[bx]? = some (.cells #[.int .i64 0] 3 (0, 0))) (hx0 : w0.heap.size ≤ bx) (hbb : bb ∉ blkF fb mb vs f) :
    Calls Tryd.prog 33 #[.pointer (some ⟨bf, 0, none⟩), .pointer (some ⟨bd, 0, none⟩), .pointer (some ⟨bb, 0, none⟩), .pointer (some ⟨bx, 0, none⟩)] w fun e W' => EDo w0 W' fb mb vs f (resF (f.writeE d data)) (fun W' => W'.heap[bx]? = some (.cells #[.int .i64 (resV (f.writeE d data))] 3 (0, 0))) e ∧ Chg ([bx] ++ blkF fb mb vs f) w W' := by
  have h := h0.calm hC0
  have HT := Lib.hid (fatc fb mb vs f d 2 w h)
  have H := Lib.hid (And.intro h (And.intro hC0 (And.intro h0 (And.intro hx (And.intro hx0 hdat)))))
  have HX := Lib.hid (fun (W : World) (k : Int) (hC : Chg [] w W) (hE : f.writeE d data = .error k) => show EDo w0 W fb mb vs f (resF (f.writeE d data)) (fun W' => W'.heap[bx]? = some (.cells #[.int .i64 (resV (f.writeE d data))] 3 (0, 0))) (.panicked (refP k)) ∧ Chg ([bx] ++ blkF fb mb vs f) w W from
    ⟨EDo.err2 hE (hC0.trans hC) (by rw [hE]; exact hC.blk hx (by simp)), hC.mono (by simp)⟩)
  unfold atP at HT
  cases hb : f.bad d 2 with
  | true =>
    rw [hb] at HT
    have HE := Lib.hid (show f.writeE d data = .error 9 by unfold FS.writeE; rw [if_pos hb])
    clear hb h h0 hC0 hx hx0 hdat
    go_enter Tryd.func33, Tryd.ntmps33
    go_wp2_with fail
    refine HT.out.mono ?_
    rintro e w' ⟨rfl, hC⟩
    exact ⟨rfl, HX.out _ _ hC HE.out⟩
  | false =>
    rw [hb] at HT
    obtain ⟨i, m, rfl, hi, hm, ho, hnd, his, g0, g1, p0, p1⟩ := h.inv.ofBad hb
    have hfl : f.fl (i : Int) = f.files.getD i fl0 := rfl
    rw [hfl, hnd] at HT
    obtain ⟨pn, hpn⟩ := Int.eq_ofNat_of_zero_le p0
    have hbl := h.inv.len_le hm
    obtain ⟨fr, hfr⟩ : ∃ fr, fr = fromF f i m := ⟨_, rfl⟩
    have HR := Lib.hid (show f.writeE i data = if data ≠ [] ∧ 4096 < f.bytes + (fr + data.length - (f.nodes.getD m nd0).b.length) then .error 28 else
        if data = [] then .ok (f.setF i { f.files.getD i fl0 with pos := ((fr + data.length : Nat) : Int) }, 0) else .ok ((f.setF i { f.files.getD i fl0 with pos := ((fr + data.length : Nat) : Int) }).setN m { f.nodes.getD m nd0 with b := ((f.nodes.getD m nd0).b ++ List.replicate (fr + data.length - (f.nodes.getD m nd0).b.length) 0).take fr ++ data ++ (f.nodes.getD m nd0).b.drop (fr + data.length) }, (data.length : Int)) from by
      unfold FS.writeE
      rw [if_neg (by rw [hb]; simp), hfl, hnd, hfr]
      rfl)
    have hmz : (m : Int) < 64 := by omega
    have hiz : (i : Int) < 16 := by omega
    have HB := Lib.hid (And.intro hb (And.intro ho (And.intro hnd (And.intro his (And.intro g0 (And.intro g1 (And.intro p1 hpn)))))))
    have hfr' : (hasB (f.files.getD i fl0).flags 32 = true ∧ fr = (f.nodes.getD m nd0).b.length) ∨ (hasB (f.files.getD i fl0).flags 32 = false ∧ fr = pn) := by
      rw [hfr]
      unfold fromF
      split
      · rename_i h; exact .inl ⟨h, rfl⟩
      · rename_i h; exact .inr ⟨by simpa using h, by rw [hpn]; rfl⟩
    clear hb hfl ho his g0 g1 h h0 hC0 hx hx0 hdat hfr
    go_enter Tryd.func33, Tryd.ntmps33
    go_wp2_with fail
    refine HT.out.mono ?_
    rintro e w1 ⟨rfl, hC1⟩
    have hF := H.out.1.calm hC1
    obtain ⟨_, _, c2, c3⟩ := hF.cF hi
    have uz := hF.frz
    obtain ⟨_, _, n2⟩ := hF.cN hm
    obtain ⟨a, cap, ev⟩ := own_slice (hF.row m hm)
    rw [ev] at n2
    rw [hpn] at c3
    have cf1 := cell_chg hC1 (by simp) cf
    have cb1 := cell_chg hC1 (by simp) cb
    have HC1 := Lib.hid (And.intro hC1 ev)
    clear hC1 hF ev cd
    generalize hbq : (f.nodes.getD m nd0).b = b at *
    generalize hln : b.length = ln at *
    generalize hdln : data.length = dl at *
    generalize hfg : (f.files.getD i fl0).flags = fg at *
    have hfl2 : fr ≤ 4096 := by omega
    have hwe : IntKind.i64.wrap ((fr : Int) + (dl : Int)) = (fr : Int) + (dl : Int) := by rw [IntKind.wrap_i64] <;> omega
    go_upto_if 23 with fail
    go_cut [6] from 14 to 28 (fun x wx => x = .int .i64 (fr : Int) ∧ wx = w1)
    case first =>
      rcases hfr' with ⟨h32, rfl⟩ | ⟨h32, rfl⟩
      · have h32b : (bits .and .i64 fg 32 != 0) = true := by have := has_eq h32; simpa [bne] using this
        go_wp2
        go_meet
        case rel => exact ⟨rfl, rfl⟩
      · have h32b : (bits .and .i64 fg 32 != 0) = false := by have := has_eq h32; simpa [bne] using this
        go_wp2
        go_meet
        case rel => exact ⟨rfl, rfl⟩
    case rest =>
      obtain ⟨rfl, rfl⟩ := hcut
      have HFR := Lib.hid hfr'
      clear hfr'
      go_upto_region 5 with fail
      have HBY := (fbytesc fb mb vs f wc.drew ((H.out.1.calm HC1.out.1).calm ((Chg.refl _ _).drewN 1))).mono fun e w' ⟨h1, h2⟩ => (⟨h1, h2.symm⟩ : e = Ending.returned (.int .i64 (f.bytes : Int)) ∧ w' = wc.drew)
      have hby : f.bytes ≤ 4096 := H.out.1.inv.bytes
      have HLB := Lib.hid (show ln ≤ f.bytes by have h1 := FS.bytesK_succ H.out.1.inv hm; have h2 := FS.bytesK_all H.out.1.inv; have h3 := bytesK_mono f (show m + 1 ≤ 64 by omega); rw [hbq, hln] at h1; omega)
      have HBF := Lib.hid (fun (f1 : FS) (h : f1.nodes = f.nodes) => show f1.bytes = f.bytes by unfold FS.bytes; rw [h])
      generalize f.bytes = by_ at *
      by_cases hd0 : dl = 0
      · have k1 : decide ((dl : Int) > 0) = false := decide_eq_false (by omega)
        have k2 : decide (0 < dl) = false := decide_eq_false (by omega)
        have hdn : data = [] := List.eq_nil_of_length_eq_zero (by omega)
        have HE := Lib.hid (show f.writeE i data = .ok (f.setF i { f.files.getD i fl0 with pos := (fr : Int) + (dl : Int) }, 0) by rw [HR.out, if_neg (fun h => h.1 hdn), if_pos hdn, ← hfg, Int.natCast_add])
        have HDN := Lib.hid (And.intro hdn hd0)
        clear hdn hd0 HBY
        go_quiet ((go_at_call 25; exact Calls.quiet_of_same ((nofc 28 _).mono fun _ _ ⟨a, b⟩ => And.intro a b.symm)))
        go_upto_region 6 with fail
        generalize hwd : wc.drewN nq = wd
        have HWD := Lib.hid (show Chg [] w wd from by rw [← hwd]; exact HC1.out.1.drewN _)
        clear hwd
        have hle : fr + dl ≤ 4096 := by have := HDN.out.2; omega
        have hF := H.out.1.calm HWD.out
        obtain ⟨_, _, _, p3⟩ := hF.cF hi
        rw [show (f.files.getD i fl0).pos = (pn : Int) from HB.out.2.2.2.2.2.2.2] at p3
        have pz := hF.frz
        obtain ⟨f1, hf1⟩ : ∃ f1, f1 = f.setF i { f.files.getD i fl0 with pos := (fr : Int) + (dl : Int) } := ⟨_, rfl⟩
        obtain ⟨w6, hw6⟩ : ∃ w6, w6 = wd.setCell ⟨fb, 192 + i * 4 + 3, none⟩ (.int .i64 ((fr : Int) + (dl : Int))) := ⟨_, rfl⟩
        have hC6 : Chg [fb] wd w6 := by rw [hw6]; exact (Chg.refl _ _).setCell _ _ (.inl (by simp))
        have hh : w6.heap[fb]? = some (.cells (fsCells f1 mb vs) 57 (0, 0)) := by
          rw [hw6, hf1, ← fsCells_pos H.out.1.inv.lf hi mb vs ((fr : Int) + (dl : Int))]
          exact blk_setCell hF.head _
        have hI : FInv f1 := by
          rw [hf1]
          exact H.out.1.inv.setF _ (fun _ => ⟨by rw [hnd]; omega, by rw [hnd]; omega, by rw [hnd]; exact HB.out.2.2.2.1, by rw [hfg]; exact HB.out.2.2.2.2.1, by rw [hfg]; exact HB.out.2.2.2.2.2.1, by show 0 ≤ (fr : Int) + (dl : Int); omega, by show (fr : Int) + (dl : Int) ≤ 4096; omega⟩) (fun e => by rw [show (f.files.getD i fl0).op = true from HB.out.2.1] at e; cases e)
        have hS6 := hF.setFile (d := i) (x := { f.files.getD i fl0 with pos := (fr : Int) + (dl : Int) }) hC6 (by rw [← hf1]; exact hh) (by rw [← hf1]; exact hI)
        rw [← hf1] at hS6
        have hF6 := hS6.at_
        have n6 := (hF6.cN hm).2.2
        rw [HC1.out.2] at n6
        have n6z := hF6.frz
        have cb6 := cell_chg hC6 (by have := hbb; intro e; exact this (mem_blkF.2 (.inl (by simpa using e)))) (cell_chg HWD.out (by simp) cb)
        have hx6 := hC6.blk (HWD.out.blk H.out.2.2.2.1 (by simp)) (fun e => cells_ne H.out.2.2.2.1 H.out.1.head (by decide) (by simpa using e))
        have hn1 : f1.nodes = f.nodes := by rw [hf1]; rfl
        have HS6 := Lib.hid (And.intro ((H.out.1.step HWD.out).trans hS6) (And.intro hF6 (And.intro hx6 (And.intro hn1 hf1))))
        clear hF hC6 hh hI hS6 hF6 hx6 hn1 hf1
        go_upto_region 7 with fail
        rw [← hw6]
        clear hw6
        go_upto_region 9 with fail
        obtain ⟨mn, hmn⟩ : ∃ mn, mn = min fr ln := ⟨_, rfl⟩
        have hmin : min (fr : Int) (ln : Int) = (mn : Int) := by omega
        have hsl := sl_l a ln cap mn (by omega)
        have hcp := run_copy_none (P := Tryd.prog) (ty := 3) w6.drew 23 23 5 (if cap = mn then a else a.map (·.add (mn * 1))) sa (ln - mn) (cap - mn) dl sc Tryd.underlying23 (by kernel_rfl) (by rw [HDN.out.2]; exact Nat.zero_min _)
        rw [show Value.slice (if cap = mn then a else a.map (·.add (mn * 1))) (ln - mn) (cap - mn) = sliced a mn ln cap 1 from rfl] at hcp
        have HMN := Lib.hid hmn
        clear hmn
        generalize sliced a mn ln cap 1 = SV at *
        have x6 := cellB HS6.out.2.2.1 (i := 0) (v := .int .i64 0) rfl
        have x6z := frozenB HS6.out.2.2.1
        have hS6 := HS6.out.1
        have HB6 := Lib.hid (HS6.out.2.1.notin HS6.out.2.2.1 (by decide) (by decide))
        clear hS6
        refine region_still_tail 13 (by kernel_rfl) (by kernel_rfl) ?_
        simp only [List.take_succ_cons, List.take_zero, List.drop_succ_cons, List.drop_zero]
        repeat still_step
        refine wpStill_nil ?_
        go_wp2
        have hCf : Chg ([bx] ++ blkF fb mb vs f) w w6.drew := (HS6.out.1.chg.mono (fun k hk => .inl (List.mem_append_right _ hk))).drewN 1
        have hSd := HS6.out.1.trans (HS6.out.2.1.step ((Chg.refl _ _).drewN 1))
        refine ⟨rfl, _, results_none rfl _ _ _, EDo.ok2 (HE.out.trans (congrArg (fun F => (Except.ok (F, (0 : Int)) : Except Int (FS × Int))) HS6.out.2.2.2.2.symm)) (((H.out.2.2.1.step H.out.2.1).trans hSd).calmNew ((Chg.refl [bx] _).setCell _ _ (.inl (by simp))) H.out.2.2.2.2.1 HB6.out) ?_, hCf.setCell _ _ (.inl (List.mem_append_left _ (List.mem_singleton.2 rfl)))⟩
        rw [HE.out]
        exact blk_setCell HS6.out.2.2.1 _
      have k1 : decide ((dl : Int) > 0) = true := decide_eq_true (by omega)
      have k2 : decide (0 < dl) = true := decide_eq_true (by omega)
      obtain ⟨ext, hext⟩ : ∃ ext, ext = fr + dl - ln := ⟨_, rfl⟩
      have hw1 : IntKind.i64.wrap ((fr : Int) + (dl : Int) - (ln : Int)) = (fr : Int) + (dl : Int) - (ln : Int) := by rw [IntKind.wrap_i64] <;> omega
      have hmx : max ((fr : Int) + (dl : Int) - (ln : Int)) 0 = (ext : Int) := by omega
      have hw3 : IntKind.i64.wrap ((by_ : Int) + (ext : Int)) = (by_ : Int) + (ext : Int) := by rw [IntKind.wrap_i64] <;> omega
      have HB5 := Lib.hid HBY
      have HEX := Lib.hid hext
      rw [← hext] at HR
      by_cases hbad : 4096 < by_ + ext
      · have k3 : decide ((by_ : Int) + (ext : Int) > 4096) = true := decide_eq_true (by omega)
        have k4 : decide (4096 < by_ + ext) = true := decide_eq_true hbad
        have HE := Lib.hid (show f.writeE i data = .error 28 by rw [HR.out, if_pos ⟨fun e => hd0 (by rw [← hdln, e]; rfl), hbad⟩])
        clear HBY hext hbad
        refine region_still_tail 17 (by kernel_rfl) (by kernel_rfl) ?_
        simp only [List.take_succ_cons, List.take_zero, List.drop_succ_cons, List.drop_zero]
        iterate 5 still_step
        still_call HB5.out
        repeat still_step
        refine wpStill_nil ?_
        go_wp2_with fail
        refine (notc 28 _).mono ?_
        rintro e w' ⟨rfl, rfl⟩
        exact ⟨rfl, HX.out _ _ (HC1.out.1.drewN 1) HE.out⟩
      · have k3 : decide ((by_ : Int) + (ext : Int) > 4096) = false := decide_eq_false (by omega)
        have k4 : decide (4096 < by_ + ext) = false := decide_eq_false hbad
        have hdn : data ≠ [] := fun e => hd0 (by rw [← hdln, e]; rfl)
        have HE := Lib.hid (show f.writeE i data = .ok ((f.setF i { f.files.getD i fl0 with pos := ((fr + dl : Nat) : Int) }).setN m { f.nodes.getD m nd0 with b := (b ++ List.replicate ext 0).take fr ++ data ++ b.drop (fr + dl) }, (dl : Int)) by rw [HR.out, if_neg (fun h => hbad h.2), if_neg hdn, ← hfg])
        have HBD := Lib.hid hbad
        clear HBY hext hbad
        refine region_still_tail 17 (by kernel_rfl) (by kernel_rfl) ?_
        simp only [List.take_succ_cons, List.take_zero, List.drop_succ_cons, List.drop_zero]
        iterate 5 still_step
        still_call HB5.out
        repeat still_step
        refine wpStill_nil ?_
        go_wp2_with fail
        refine (nofc 28 _).mono ?_
        rintro e w' ⟨rfl, rfl⟩
        generalize hwd : wc.drew = wd
        have HWD := Lib.hid (show Chg [] w wd from by rw [← hwd]; exact HC1.out.1.drewN 1)
        clear hwd
        have hbad := HBD.out
        have hex := HEX.out
        have hle : fr + dl ≤ 4096 := by
          have h1 : ln ≤ by_ := HLB.out
          omega
        have hF := H.out.1.calm HWD.out
        obtain ⟨_, _, _, p3⟩ := hF.cF hi
        rw [show (f.files.getD i fl0).pos = (pn : Int) from HB.out.2.2.2.2.2.2.2] at p3
        have pz := hF.frz
        obtain ⟨f1, hf1⟩ : ∃ f1, f1 = f.setF i { f.files.getD i fl0 with pos := (fr : Int) + (dl : Int) } := ⟨_, rfl⟩
        obtain ⟨w6, hw6⟩ : ∃ w6, w6 = wd.setCell ⟨fb, 192 + i * 4 + 3, none⟩ (.int .i64 ((fr : Int) + (dl : Int))) := ⟨_, rfl⟩
        have hC6 : Chg [fb] wd w6 := by rw [hw6]; exact (Chg.refl _ _).setCell _ _ (.inl (by simp))
        have hh : w6.heap[fb]? = some (.cells (fsCells f1 mb vs) 57 (0, 0)) := by
          rw [hw6, hf1, ← fsCells_pos H.out.1.inv.lf hi mb vs ((fr : Int) + (dl : Int))]
          exact blk_setCell hF.head _
        have hI : FInv f1 := by
          rw [hf1]
          exact H.out.1.inv.setF _ (fun _ => ⟨by rw [hnd]; omega, by rw [hnd]; omega, by rw [hnd]; exact HB.out.2.2.2.1, by rw [hfg]; exact HB.out.2.2.2.2.1, by rw [hfg]; exact HB.out.2.2.2.2.2.1, by show 0 ≤ (fr : Int) + (dl : Int); omega, by show (fr : Int) + (dl : Int) ≤ 4096; omega⟩) (fun e => by rw [show (f.files.getD i fl0).op = true from HB.out.2.1] at e; cases e)
        have hS6 := hF.setFile (d := i) (x := { f.files.getD i fl0 with pos := (fr : Int) + (dl : Int) }) hC6 (by rw [← hf1]; exact hh) (by rw [← hf1]; exact hI)
        rw [← hf1] at hS6
        have hF6 := hS6.at_
        have n6 := (hF6.cN hm).2.2
        rw [HC1.out.2] at n6
        have n6z := hF6.frz
        have cb6 := cell_chg hC6 (by have := hbb; intro e; exact this (mem_blkF.2 (.inl (by simpa using e)))) (cell_chg HWD.out (by simp) cb)
        have hx6 := hC6.blk (HWD.out.blk H.out.2.2.2.1 (by simp)) (fun e => cells_ne H.out.2.2.2.1 H.out.1.head (by decide) (by simpa using e))
        have hn1 : f1.nodes = f.nodes := by rw [hf1]; rfl
        have HS6 := Lib.hid (And.intro ((H.out.1.step HWD.out).trans hS6) (And.intro hF6 (And.intro hx6 (And.intro hn1 hf1))))
        clear hF hC6 hh hI hS6 hF6 hx6 hn1 hf1
        go_upto_region 7 with fail
        rw [← hw6]
        clear hw6
        have his1 : (f1.nodes.getD m nd0).is = true := by rw [HS6.out.2.2.2.1]; exact HB.out.2.2.2.1
        have hb1 : (f1.nodes.getD m nd0).b = b := by rw [HS6.out.2.2.2.1]; exact hbq
        have hE' : f.writeE i data = .ok (f1.setN m { f1.nodes.getD m nd0 with b := (b ++ List.replicate ext 0).take fr ++ data ++ b.drop (fr + dl) }, (dl : Int)) := by rw [HE.out, HS6.out.2.2.2.1, HS6.out.2.2.2.2, Int.natCast_add]
        by_cases hg : ln < fr + dl
        · have g1' : decide ((ln : Int) < (fr : Int) + (dl : Int)) = true := decide_eq_true (by omega)
          have g2' : decide (ln < fr + dl) = true := decide_eq_true hg
          obtain ⟨v7, w7, hap, hc7, ⟨a8, cap8, hv7⟩, hS7⟩ := HS6.out.2.1.growB hm his1 (Wd := w6.drew) ((Chg.refl _ _).drewN 1) ext (by omega) (by rw [show f1.bytes = by_ from HBF.out f1 HS6.out.2.2.2.1]; omega) 23
          rw [HC1.out.2, show (ext : Int) = (fr : Int) + (dl : Int) - (ln : Int) by omega] at hap
          rw [hv7] at hap hS7
          have hln8 : (f1.nodes.getD m nd0).b.length + ext = fr + dl := by rw [hb1, hln]; omega
          rw [hln8] at hap hS7 hv7
          obtain ⟨n8, hn8⟩ : ∃ n8, n8 = fr + dl := ⟨_, rfl⟩
          rw [← hn8] at hap hS7
          have hc7' : Chg (vs m).ownBlock.toList w6 w7 := ((Chg.refl (vs m).ownBlock.toList w6).drewN 1).trans hc7
          have hfo := HS6.out.2.1.sep_row hm
          have n7 := cell_chg hc7' hfo n6
          have n7z := frozenB (hc7'.blk HS6.out.2.1.head hfo)
          obtain ⟨w8, hw8⟩ : ∃ w8, w8 = w7.setCell ⟨fb, m * 3 + 2, none⟩ (.slice a8 n8 cap8) := ⟨_, rfl⟩
          rw [← hw8] at hS7
          have hSw := HS6.out.1.trans hS7
          have hx8 : w8.heap[bx]? = some (.cells #[.int .i64 0] 3 (0, 0)) := hS7.chg.blk HS6.out.2.2.1 (HS6.out.2.1.notin HS6.out.2.2.1 (by decide) (by decide))
          have cb8 := cell_chg hSw.chg hbb cb
          have q8 := (hS7.at_.cN hm).2.2
          rw [updN_same] at q8
          have hE8 := write_eq (f := f1) HS6.out.2.1.inv.ln hm hb1 fr ext (data := data) (by rw [hdln, hln]; exact hex)
          rw [hdln] at hE8
          rw [hb1] at hS7 hSw
          have HS8 := Lib.hid (And.intro hSw (And.intro hx8 (And.intro (updN_same vs m (.slice a8 n8 cap8)) (And.intro (H.out.2.2.2.2.2.kept hSw.chg (fun hd k hk hm => hdk hd k hm hk)) (And.intro (show ((f1.setN m { f1.nodes.getD m nd0 with b := b ++ List.replicate ext 0 }).nodes.getD m nd0).is = true by rw [setN_same HS6.out.2.1.inv.ln hm]; exact his1) (And.intro (show fr + dl ≤ n8 by omega) (hE'.trans (congrArg (fun F => (Except.ok (F, (dl : Int)) : Except Int (FS × Int))) hE8.symm))))))))
          have HAP := Lib.hid hap
          have HN8 := Lib.hid hn8
          clear hap hS7 hSw hx8 hE8 hc7 hc7' hE' hfo hn8 hln8 hv7 hb1 hex hbad
          go_upto_region 8 with fail
          go_region_law (refine step_runZ rfl _ _ 23 3 23 rfl rfl (.slice a ln cap) (.int .i64 ((fr : Int) + (dl : Int) - (ln : Int))) (.slice a8 n8 cap8) (by simp [Act.eval, Act.put]) (by simp [Act.eval, Act.put]) w7 HAP.out ?_)
          all_goals
            go_upto_region 9 with fail
            rw [← hw8]
            clear hw8
            obtain ⟨w9, hcp, hc9, mb9, vs9, hS9⟩ := HS8.out.1.at_.copyB hm HS8.out.2.2.2.2.1 (Wd := w8.drew) ((Chg.refl _ _).drewN 1) HS8.out.2.2.1 fr (HS8.out.2.2.2.1.calm ((Chg.refl _ _).drewN 1)) hdln.symm hdz (by rw [hdln]; exact HS8.out.2.2.2.2.2.1) 3
            have hsl := sl_l a8 n8 cap8 fr (by have := HS8.out.2.2.2.2.2.1; omega)
            have hmin : min (fr : Int) (n8 : Int) = (fr : Int) := by have := HS8.out.2.2.2.2.2.1; omega
            rw [hdln] at hcp hS9
            have hbx9 := hc9.blk (((Chg.refl [] w8).drewN 1).blk HS8.out.2.1 (by simp)) (fun hk => by
              obtain ⟨cs, hcs⟩ := own_cells (HS8.out.1.at_.row m hm) _ hk
              exact cells_ne HS8.out.2.1 hcs (by decide) rfl)
            have hbk9 := hS9.at_.notin hbx9 (by decide) (by decide)
            have x9 := cellB hbx9 (i := 0) (v := .int .i64 0) rfl
            have x9z := frozenB hbx9
            have HS9 := Lib.hid (And.intro (HS8.out.1.trans hS9) (And.intro hbx9 hbk9))
            have HCP := Lib.hid hcp
            clear hcp hc9 hS9 hbx9 hbk9
            generalize sliced a8 fr n8 cap8 1 = SV at *
            refine region_still_tail 13 (by kernel_rfl) (by kernel_rfl) ?_
            simp only [List.take_succ_cons, List.take_zero, List.drop_succ_cons, List.drop_zero]
            repeat still_step
            refine wpStill_nil ?_
            have hcp := HCP.out
            go_wp2
            have hCf : Chg ([bx] ++ blkF fb mb vs f) w w9 := HS9.out.1.chg.mono (fun k hk => .inl (List.mem_append_right _ hk))
            refine ⟨rfl, _, results_none rfl _ _ _, EDo.ok2 HS8.out.2.2.2.2.2.2 (((H.out.2.2.1.step H.out.2.1).trans HS9.out.1).calmNew ((Chg.refl [bx] _).setCell _ _ (.inl (by simp))) H.out.2.2.2.2.1 HS9.out.2.2) ?_, hCf.setCell _ _ (.inl (List.mem_append_left _ (List.mem_singleton.2 rfl)))⟩
            rw [HS8.out.2.2.2.2.2.2]
            exact blk_setCell HS9.out.2.1 _
        · have g1' : decide ((ln : Int) < (fr : Int) + (dl : Int)) = false := decide_eq_false (by omega)
          have g2' : decide (ln < fr + dl) = false := decide_eq_false hg
          have hx0' : ext = 0 := by omega
          rw [hx0', List.replicate_zero, List.append_nil] at hE'
          have HS8 := Lib.hid (And.intro HS6.out.1 (And.intro HS6.out.2.2.1 (And.intro HC1.out.2 (And.intro (H.out.2.2.2.2.2.kept HS6.out.1.chg (fun hd k hk hm => hdk hd k hm hk)) (And.intro his1 (And.intro (show fr + dl ≤ ln by omega) (show f.writeE i data = .ok (f1.setN m { f1.nodes.getD m nd0 with b := (f1.nodes.getD m nd0).b.take fr ++ data ++ (f1.nodes.getD m nd0).b.drop (fr + dl) }, (dl : Int)) by rw [hb1]; exact hE')))))))
          obtain ⟨w8, hw8⟩ : ∃ w8, w8 = w6 := ⟨_, rfl⟩
          obtain ⟨n8, hn8⟩ : ∃ n8, n8 = ln := ⟨_, rfl⟩
          obtain ⟨a8, ha8⟩ : ∃ a8, a8 = a := ⟨_, rfl⟩
          obtain ⟨cap8, hc8⟩ : ∃ cap8, cap8 = cap := ⟨_, rfl⟩
          clear hE' hex hbad hx0'
          go_upto_region 9 with fail
          subst hw8 hn8 ha8 hc8
          obtain ⟨w9, hcp, hc9, mb9, vs9, hS9⟩ := HS8.out.1.at_.copyB hm HS8.out.2.2.2.2.1 (Wd := w8.drew) ((Chg.refl _ _).drewN 1) HS8.out.2.2.1 fr (HS8.out.2.2.2.1.calm ((Chg.refl _ _).drewN 1)) hdln.symm hdz (by rw [hdln]; exact HS8.out.2.2.2.2.2.1) 3
          have hsl := sl_l a8 n8 cap8 fr (by have := HS8.out.2.2.2.2.2.1; omega)
          have hmin : min (fr : Int) (n8 : Int) = (fr : Int) := by have := HS8.out.2.2.2.2.2.1; omega
          rw [hdln] at hcp hS9
          have hbx9 := hc9.blk (((Chg.refl [] w8).drewN 1).blk HS8.out.2.1 (by simp)) (fun hk => by
            obtain ⟨cs, hcs⟩ := own_cells (HS8.out.1.at_.row m hm) _ hk
            exact cells_ne HS8.out.2.1 hcs (by decide) rfl)
          have hbk9 := hS9.at_.notin hbx9 (by decide) (by decide)
          have x9 := cellB hbx9 (i := 0) (v := .int .i64 0) rfl
          have x9z := frozenB hbx9
          have HS9 := Lib.hid (And.intro (HS8.out.1.trans hS9) (And.intro hbx9 hbk9))
          have HCP := Lib.hid hcp
          clear hcp hc9 hS9 hbx9 hbk9
          generalize sliced a8 fr n8 cap8 1 = SV at *
          refine region_still_tail 13 (by kernel_rfl) (by kernel_rfl) ?_
          simp only [List.take_succ_cons, List.take_zero, List.drop_succ_cons, List.drop_zero]
          repeat still_step
          refine wpStill_nil ?_
          have hcp := HCP.out
          go_wp2
          have hCf : Chg ([bx] ++ blkF fb mb vs f) w w9 := HS9.out.1.chg.mono (fun k hk => .inl (List.mem_append_right _ hk))
          refine ⟨rfl, _, results_none rfl _ _ _, EDo.ok2 HS8.out.2.2.2.2.2.2 (((H.out.2.2.1.step H.out.2.1).trans HS9.out.1).calmNew ((Chg.refl [bx] _).setCell _ _ (.inl (by simp))) H.out.2.2.2.2.1 HS9.out.2.2) ?_, hCf.setCell _ _ (.inl (List.mem_append_left _ (List.mem_singleton.2 rfl)))⟩
          rw [HS8.out.2.2.2.2.2.2]
          exact blk_setCell HS9.out.2.1 _

end Go.Proofs.YtkkjbnmfjhmobaaDoor
