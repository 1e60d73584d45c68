
/- Package ramfs: Link: contracts. -/
import Derived.Test.YtkkjbnmfjhmobaaDoorFx
import Derived.Deep.CutBlock
namespace Go.Proofs.YtkkjbnmfjhmobaaDoor
open Go.RowKit

/-- A call on two paths. -/
def onPaths {α : Type} (p q : ByteArray) (g : List ByteArray → List ByteArray → Except Int α) : Except Int α := match splitF p with
  | none => .error 22
  | some l => match splitF q with
    | none => .error 22
    | some m => g l m
theorem onPaths_some {α : Type} {p q : ByteArray} {l m : List ByteArray} {g : List ByteArray → List ByteArray → Except Int α} {r : Except Int α} (hs : splitF p = some l) (ht : splitF q = some m) (h : g l m = r) : onPaths p q g = r := by unfold onPaths; rw [hs]; simp only; rw [ht]; exact h
theorem onPaths_none {α : Type} {p q : ByteArray} {g : List ByteArray → List ByteArray → Except Int α} (hs : splitF p = none ∨ splitF q = none) : onPaths p q g = .error 22 := by
  unfold onPaths
  cases h1 : splitF p with
  | none => rfl
  | some l =>
    rcases hs with h | h
    · rw [h1] at h; cases h
    · simp only; rw [h]

set_option maxRecDepth 100000 in
set_option maxHeartbeats 4000000 in
/-- Link's closure. -/
theorem flink1c (fb : Nat) (mb : Nat → Nat) (vs : Nat → Value) (f : FS) (bp bq bf : Nat) (p q : ByteArray) (w : World) (h : FAt w fb mb vs f) (hL : LibW w) (cp : w.cell? ⟨bp, 0, none⟩ = some (.string p)) (cq : w.cell? ⟨bq, 0, none⟩ = some (.string q)) (cf : w.cell? ⟨bf, 0, none⟩ = some (.pointer (some ⟨fb, 0, none⟩))) :
    Calls Tryd.prog 36 #[.pointer (some ⟨bp, 0, none⟩), .pointer (some ⟨bq, 0, none⟩), .pointer (some ⟨bf, 0, none⟩)] w fun e W' => EDo w W' fb mb vs f (onPaths p q f.linkE) (fun W' => Chg (blkF fb mb vs f) w W') e := by
  have H := Lib.hid (And.intro h hL)
  clear h hL
  go_enter Tryd.func36, Tryd.ntmps36
  go_upto_region 0 with fail
  rcases hs : splitF p with _ | l
  · have HE := Lib.hid (onPaths_none (α := FS) (g := f.linkE) (.inl hs) : onPaths p q f.linkE = .error 22)
    have HS := Lib.hid (fun W (hC : Chg [] w W) => fsplit_none hs W (H.out.2.calm hC))
    clear hs
    rcases ht : splitF q with _ | m
    · have HT := Lib.hid (fun W (hC : Chg [] w W) => fsplit_none ht W (H.out.2.calm hC))
      clear ht
      go_region_with (go_at_call 24; (first | with_reducible refine (HS.out _ ?hc).mono ?_ | with_reducible refine (HT.out _ ?hc).mono ?_); (case hc => exact (Chg.refl _ _).drewN 1); rintro e w' ⟨rfl, hC⟩; refine via (P := Tryd.prog) (md := .any) (w := w) ⟨rfl, EDo.err HE.out (((Chg.refl _ _).drewN _).trans hC) ((((Chg.refl _ _).drewN _).trans hC).mono (by simp))⟩ ?_)
      all_goals trivial
    · have HT := Lib.hid (fun W (hC : Chg [] w W) => fsplit_some ht W (H.out.2.calm hC))
      clear ht
      go_region_with (go_at_call 24; (first | ((with_reducible refine (HT.out _ ?hc).mono ?_); (case hc => exact (Chg.refl _ _).drewN 1); rintro e w' ⟨v, rfl, hv, hC⟩; have cp1 := cell_chg (((Chg.refl _ _).drewN _).trans hC) (by simp) cp; have HC1 := Lib.hid (((Chg.refl _ _).drewN _).trans hC); clear hv hC) | ((with_reducible refine (HS.out _ ?hc).mono ?_); (case hc => first | exact (Chg.refl _ _).drewN 1 | exact HC1.out); rintro e w' ⟨rfl, hC⟩; first | (refine via (P := Tryd.prog) (md := .any) (w := w) ⟨rfl, EDo.err HE.out (((Chg.refl _ _).drewN _).trans hC) ((((Chg.refl _ _).drewN _).trans hC).mono (by simp))⟩ ?_) | (refine via (P := Tryd.prog) (md := .any) (w := w) ⟨rfl, EDo.err HE.out (HC1.out.trans hC) ((HC1.out.trans hC).mono (by simp))⟩ ?_))))
      all_goals trivial
  · rcases ht : splitF q with _ | m
    · have HE := Lib.hid (onPaths_none (α := FS) (g := f.linkE) (.inr ht) : onPaths p q f.linkE = .error 22)
      have HS := Lib.hid (fun W (hC : Chg [] w W) => fsplit_some hs W (H.out.2.calm hC))
      have HT := Lib.hid (fun W (hC : Chg [] w W) => fsplit_none ht W (H.out.2.calm hC))
      clear hs ht
      go_region_with (go_at_call 24; (first | ((with_reducible refine (HS.out _ ?hc).mono ?_); (case hc => exact (Chg.refl _ _).drewN 1); rintro e w' ⟨v, rfl, hv, hC⟩; have cp1 := cell_chg (((Chg.refl _ _).drewN _).trans hC) (by simp) cq; have HC1 := Lib.hid (((Chg.refl _ _).drewN _).trans hC); clear hv hC) | ((with_reducible refine (HT.out _ ?hc).mono ?_); (case hc => first | exact (Chg.refl _ _).drewN 1 | exact HC1.out); rintro e w' ⟨rfl, hC⟩; first | (refine via (P := Tryd.prog) (md := .any) (w := w) ⟨rfl, EDo.err HE.out (((Chg.refl _ _).drewN _).trans hC) ((((Chg.refl _ _).drewN _).trans hC).mono (by simp))⟩ ?_) | (refine via (P := Tryd.prog) (md := .any) (w := w) ⟨rfl, EDo.err HE.out (HC1.out.trans hC) ((HC1.out.trans hC).mono (by simp))⟩ ?_))))
      all_goals trivial
    · have HLL := Lib.hid (show l.length ≤ 600 by have := splitF_len hs; omega)
      have HLM := Lib.hid (show m.length ≤ 600 by have := splitF_len ht; omega)
      have HOP := Lib.hid (fun r (h : f.linkE l m = r) => onPaths_some (p := p) (q := q) hs ht h)
      have HS := Lib.hid (fun W (hC : Chg [] w W) => fsplit_some hs W (H.out.2.calm hC))
      have HT := Lib.hid (fun W (hC : Chg [] w W) => fsplit_some ht W (H.out.2.calm hC))
      clear hs ht
      go_cut [3, 4] from 8 to 32 (fun a b wx => StrsAt wx a l ∧ StrsAt wx b m ∧ Chg [] w wx)
      case first =>
        go_region_with (go_at_call 24; (first | ((with_reducible refine (HS.out _ ?hc).mono ?_); (case hc => first | exact (Chg.refl _ _).drewN 1 | exact HC1.out.2); rintro e w' ⟨v1, rfl, hv, hC⟩; first | (have HC2 := Lib.hid (And.intro hv (And.intro (HC1.out.1.calm hC) (HC1.out.2.trans hC))); clear hv hC) | (have cq1 := cell_chg (((Chg.refl _ _).drewN _).trans hC) (by simp) cq; have HC1 := Lib.hid (And.intro hv (((Chg.refl _ _).drewN _).trans hC)); clear hv hC)) | ((with_reducible refine (HT.out _ ?hc).mono ?_); (case hc => first | exact (Chg.refl _ _).drewN 1 | exact HC1.out.2); rintro e w' ⟨v2, rfl, hv, hC⟩; first | (have HC2 := Lib.hid (And.intro (HC1.out.1.calm hC) (And.intro hv (HC1.out.2.trans hC))); clear hv hC) | (have cp1 := cell_chg (((Chg.refl _ _).drewN _).trans hC) (by simp) cp; have HC1 := Lib.hid (And.intro hv (((Chg.refl _ _).drewN _).trans hC)); clear hv hC))))
        all_goals
          go_wp2_with fail
          go_meet
          exact HC2.out
      case rest =>
        obtain ⟨hv1, hv2, hC⟩ := hcut
        have HC := Lib.hid (And.intro hv1 (And.intro hv2 hC))
        have cf1 := cell_chg hC (by simp) cf
        clear hv1 hv2 hC cf cp cq
        go_wp2_with fail
        refine (fmustc fb mb vs f _ l HLL.out _ (H.out.1.calm HC.out.2.2) HC.out.1).mono ?_
        rcases hm : f.must l with c | n0
        · rintro e w' ⟨rfl, rfl⟩
          exact ⟨rfl, EDo.err (HOP.out _ (by unfold FS.linkE; rw [hm])) HC.out.2.2 (HC.out.2.2.mono (by simp))⟩
        obtain ⟨n, rfl, hn, hni⟩ := must_bound H.out.1.inv hm
        rintro e w' ⟨rfl, rfl⟩
        have HM := Lib.hid hm
        clear hm
        go_wp2_with fail
        refine (fdirc fb mb vs f n hn _ (H.out.1.calm HC.out.2.2)).mono ?_
        rcases hd : f.isDir n with _ | _
        rotate_left
        · rintro e w' ⟨rfl, rfl⟩
          go_wp2_with fail
          refine (notc 1 _).mono ?_
          rintro e w' ⟨rfl, rfl⟩
          exact ⟨rfl, EDo.err (HOP.out _ (by unfold FS.linkE; rw [HM.out]; simp only; rw [if_pos hd])) HC.out.2.2 (HC.out.2.2.mono (by simp))⟩
        rintro e w' ⟨rfl, rfl⟩
        go_wp2_with fail
        refine (nofc 1 _).mono ?_
        rintro e w' ⟨rfl, rfl⟩
        have HD := Lib.hid hd
        clear hd
        go_wp2_with fail
        refine (fplacec fb mb vs f _ m HLM.out _ (H.out.1.calm HC.out.2.2) HC.out.2.1).mono ?_
        rcases hp : f.place m with c | o
        · rintro e w2 ⟨rfl, hC2⟩
          have hC := HC.out.2.2.trans hC2
          exact ⟨rfl, EDo.err (HOP.out _ (by unfold FS.linkE; rw [HM.out]; simp only; rw [if_neg (by rw [HD.out]; simp), hp])) hC (hC.mono (by simp))⟩
        have HP := Lib.hid hp
        rintro e w2 ⟨he, hC2⟩
        have HC2 := Lib.hid (HC.out.2.2.trans hC2)
        have HV2 := Lib.hid (HC.out.2.1.calm hC2)
        have cf2 := cell_chg hC2 (by simp) cf1
        clear hC2 cf1
        rcases o with _ | ⟨d0, s⟩
        · obtain rfl := place_none hp
          clear hp
          have he' : e = .returned (.tuple #[.map none, .string ⟨#[]⟩]) := he
          subst he'
          clear he
          go_wp2_with fail
          refine (fwalkc fb mb vs f _ [] HLM.out _ (H.out.1.calm HC2.out) HV2.out).mono ?_
          rintro e w' ⟨rfl, rfl⟩
          go_wp2_with fail
          refine (notc 17 _).mono ?_
          rintro e w' ⟨rfl, rfl⟩
          exact ⟨rfl, EDo.err (HOP.out _ (by unfold FS.linkE; rw [HM.out]; simp only; rw [if_neg (by rw [HD.out]; simp)]; rfl)) HC2.out (HC2.out.mono (by simp))⟩
        have he' : e = .returned (.tuple #[.map (some (mb d0.toNat)), .string s]) := he
        subst he'
        clear he hp
        go_wp2_with fail
        refine (fwalkc fb mb vs f _ m HLM.out _ (H.out.1.calm HC2.out) HV2.out).mono ?_
        rcases hw : f.walk m with c | k
        · rintro e w' ⟨rfl, rfl⟩
          exact ⟨rfl, EDo.err (HOP.out _ (by unfold FS.linkE; rw [HM.out]; simp only; rw [if_neg (by rw [HD.out]; simp), HP.out]; simp only; rw [hw])) HC2.out (HC2.out.mono (by simp))⟩
        rintro e w' ⟨rfl, rfl⟩
        have HW := Lib.hid hw
        clear hw
        by_cases hk : 0 ≤ k
        · have hdk : decide (k ≥ 0) = true := decide_eq_true hk
          have HN := Lib.hid hk
          clear hk
          go_wp2_with fail
          refine (notc 17 _).mono ?_
          rintro e w' ⟨rfl, rfl⟩
          exact ⟨rfl, EDo.err (HOP.out _ (by unfold FS.linkE; rw [HM.out]; simp only; rw [if_neg (by rw [HD.out]; simp), HP.out]; simp only; rw [HW.out]; simp only; rw [if_pos HN.out])) HC2.out (HC2.out.mono (by simp))⟩
        have hdk : decide (k ≥ 0) = false := decide_eq_false hk
        have HN := Lib.hid hk
        clear hk
        go_wp2_with fail
        refine (nofc 17 _).mono ?_
        rintro e w' ⟨rfl, rfl⟩
        obtain ⟨d, rfl, hd64, hdd⟩ := place_some H.out.1.inv HP.out
        obtain ⟨mm, hmm⟩ := Option.isSome_iff_exists.1 hdd
        have hF := H.out.1.calm HC2.out
        obtain ⟨W5, hu, hm5, hC5⟩ := sRun_update_P (P := Tryd.prog) Tryd.underlying49 Tryd.underlying9 (hF.mp d hd64 mm hmm) s (.int .i64 n)
        rw [sMupd_names] at hm5
        obtain ⟨t1, t2⟩ := hF.inv.dirAt hd64 hmm
        have hS := hF.setDir hd64 hdd (m := nmPut mm s n) (fun p hp => (nmPut_mem p hp).elim (fun e => by rw [e]; exact ⟨by simp, by simp; omega, hni⟩) (t1 p)) (nmPut_keys t2) hC5 hm5
        have hE : f.linkE l m = .ok (f.setN d { f.nodes.getD d nd0 with dir := some (nmPut mm s n) }) := by
          unfold FS.linkE
          rw [HM.out]
          simp only
          rw [if_neg (by rw [HD.out]; simp), HP.out]
          simp only
          rw [HW.out]
          simp only
          rw [if_neg (fun h => by have := HN.out; omega)]
          unfold FS.name
          rw [show f.nd (d : Int) = f.nodes.getD d nd0 from rfl, hmm]
          rfl
        have HE := Lib.hid (And.intro hE ((H.out.1.step HC2.out).trans hS))
        clear hE hS t1 t2 hC5 hm5 hF hmm hdd hni
        go_wp2
        exact ⟨rfl, _, results_none rfl _ _ _, EDo.ok (HOP.out _ HE.out.1) HE.out.2 HE.out.2.chg⟩

set_option maxRecDepth 100000 in
set_option maxHeartbeats 1000000 in
theorem flinkc (fb : Nat) (mb : Nat → Nat) (vs : Nat → Value) (f : FS) (p q : ByteArray) (w : World) (h : FAt w fb mb vs f) (hL : LibW w) :
    Calls Tryd.prog 11 #[.pointer (some ⟨fb, 0, none⟩), .string p, .string q] w fun e w' => ∃ c, e = .returned (.int .i64 c) ∧ ERes w w' fb mb vs f (onPaths p q f.linkE) c := by
  obtain ⟨w0, hw0⟩ : ∃ w0, w0 = ((w.alloc (.cells #[.pointer (some ⟨fb, 0, none⟩)] 25 (0, 0))).alloc (.cells #[.string p] 9 (0, 0))).alloc (.cells #[.string q] 9 (0, 0)) := ⟨_, rfl⟩
  have hA : w0 = allocs w [.cells #[.pointer (some ⟨fb, 0, none⟩)] 25 (0, 0), .cells #[.string p] 9 (0, 0), .cells #[.string q] 9 (0, 0)] := hw0
  have hC0 : Chg [] w w0 := by rw [hA]; exact allocs_chg _ _
  have b0 : w0.heap[w.heap.size]? = some (.cells #[.pointer (some ⟨fb, 0, none⟩)] 25 (0, 0)) := by rw [hA]; exact allocs_get w _ (i := 0) rfl
  have b1 : w0.heap[w.heap.size + 1]? = some (.cells #[.string p] 9 (0, 0)) := by rw [hA]; exact allocs_get w _ (i := 1) rfl
  have b2 : w0.heap[w.heap.size + 2]? = some (.cells #[.string q] 9 (0, 0)) := by rw [hA]; exact allocs_get w _ (i := 2) rfl
  have hc := (Chg.refl [] w0).alloc (.cells #[.int .i64 0] 30 (0, 0))
  have HF := Lib.hid (facer2 fb mb vs f [] 36 #[.pointer (some ⟨w.heap.size + 1, 0, none⟩), .pointer (some ⟨w.heap.size + 2, 0, none⟩), .pointer (some ⟨w.heap.size, 0, none⟩)] w w0 hC0 h (fun args w => by kernel_rfl) (onPaths p q f.linkE) (fun _ => True) (fun k hk => by cases hk)
    ((flink1c fb mb vs f (w.heap.size + 1) (w.heap.size + 2) w.heap.size p q _ (h.calm (hC0.trans hc)) (hL.calm (hC0.trans hc)) (cellB (hc.blk b1 List.not_mem_nil) (i := 0) rfl) (cellB (hc.blk b2 List.not_mem_nil) (i := 0) rfl) (cellB (hc.blk b0 List.not_mem_nil) (i := 0) rfl)).mono fun e W' hE => ⟨EDo.of h (hC0.trans hc) hE (fun _ => trivial), hE.x⟩))
  clear h hL hC0 b0 b1 b2 hc hA
  go_enter Tryd.func11, Tryd.ntmps11
  go_wp2_with (go_at_call 22; rw [← hw0]; refine HF.out.mono ?_; rintro e w' ⟨c, W', rfl, hr, _, _⟩; have HR := Lib.hid hr; clear hr)
  go_ret
  exact ⟨c, rfl, HR.out⟩

end Go.Proofs.YtkkjbnmfjhmobaaDoor
