
/- Package ramfs: Mkdir: contracts. -/
import Derived.Test.YtkkjbnmfjhmobaaDoorFw
namespace Go.Proofs.YtkkjbnmfjhmobaaDoor
open Go.RowKit

theorem EDo.err {w W' : World} {fb : Nat} {mb : Nat → Nat} {vs : Nat → Value} {f : FS} {r : Except Int FS} {X : World → Prop} {k : Int} (hr : r = .error k) (hC : Chg [] w W') (hX : X W') : EDo w W' fb mb vs f r X (.panicked (refP k)) := by
  subst hr
  exact ⟨rfl, hC, hX⟩
theorem EDo.ok {w W' : World} {fb : Nat} {mb mb' : Nat → Nat} {vs vs' : Nat → Value} {f f' : FS} {r : Except Int FS} {X : World → Prop} {v : Value} (hr : r = .ok f') (hS : FStep w W' fb mb vs f mb' vs' f') (hX : X W') : EDo w W' fb mb vs f r X (.returned v) := by
  subst hr
  exact ⟨⟨_, rfl⟩, ⟨_, _, hS⟩, hX⟩
theorem onPath_some {α : Type} {p : ByteArray} {l : List ByteArray} {g : List ByteArray → Except Int α} {r : Except Int α} (hs : splitF p = some l) (h : g l = r) : onPath p g = r := by unfold onPath; rw [hs]; exact h
theorem onPath_none {α : Type} {p : ByteArray} {g : List ByteArray → Except Int α} (hs : splitF p = none) : onPath p g = .error 22 := by unfold onPath; rw [hs]
theorem place_none {f : FS} {l : List ByteArray} (hp : f.place l = .ok none) : l = [] := by
  unfold FS.place at hp
  split at hp
  · assumption
  · split at hp
    · cases hp
    · split at hp
      · cases hp
      · injection hp with hp; cases hp
theorem freeF_some {f : FS} (h : FInv f) {k : Int} (hf : f.free = some k) : ∃ n : Nat, k = n ∧ n < 64 ∧ (f.nodes.getD n nd0).is = false := by
  unfold FS.free at hf
  cases h1 : f.nodes.findIdx? (fun x => !x.is) with
  | none => rw [h1] at hf; cases hf
  | some n =>
    rw [h1] at hf
    have hk : (n : Int) = k := by injection hf
    subst hk
    have hb := findIdx_bound h1
    rw [List.findIdx?_eq_some_iff_getElem] at h1
    obtain ⟨_, h2, _⟩ := h1
    refine ⟨n, rfl, by rw [h.ln] at hb; exact hb, ?_⟩
    rw [List.getD_eq_getElem?_getD, List.getElem?_eq_getElem hb]
    simpa using h2
theorem nd_of {f : FS} (n : Nat) : f.nd (n : Int) = f.nodes.getD n nd0 := rfl

/-- A free node is taken for x, and a name leads to it. -/
theorem FAt.put (fb : Nat) (mb : Nat → Nat) (vs : Nat → Value) (f : FS) {w w1 w2 : World} (h : FAt w fb mb vs f) {k d b : Nat} (hk : k < 64) (hd : d < 64) (hf : (f.nodes.getD k nd0).is = false) {m : List (ByteArray × Int)} (hm : (f.nodes.getD d nd0).dir = some m) {x : Nd} (hx : x = ⟨true, none, []⟩ ∨ x = ⟨true, some [], []⟩) (s : ByteArray)
    (hC1 : Chg [fb] w w1) (hh : w1.heap[fb]? = some (.cells (fsCells (f.setN k x) (updN mb k b) (updN vs k (.slice none 0 0))) 57 (0, 0))) (hb : x.dir = some [] → w.heap.size ≤ b ∧ SMapP w1 b [])
    (hC2 : Chg [mb d] w1 w2) (hm2 : SMapP w2 (mb d) (sMupd (namesV m) s (.int .i64 k))) : ∃ mb' vs', FStep w w2 fb mb vs f mb' vs' ((f.setN k x).name d s k) := by
  have hne : d ≠ k := by
    rintro rfl
    rw [h.inv.free _ (h.inv.ndAt hk) hf] at hm
    cases hm
  have hxi : x.is = true := by rcases hx with rfl | rfl <;> rfl
  have hxb : x.b = [] := by rcases hx with rfl | rfl <;> rfl
  have hxd : x.dir = none ∨ x.dir = some [] := by rcases hx with rfl | rfl <;> simp
  have hI : FInv (f.setN k x) := by
    have := h.inv.fresh hk hf hxd
    rcases hx with rfl | rfl <;> exact this
  have s1 := h.setNode hk (x := x) (b := b) (v := .slice none 0 0) hC1 (fun k hk => .inl (by simpa using hk)) hh (by rw [hxb]; exact own_nil) (by
    intro m' hm'
    rcases hxd with e | e
    · rw [e] at hm'; cases hm'
    · rw [e] at hm'; injection hm' with hm'; subst hm'; exact (hb e).2) (fun k hk => by cases hk) (by
    intro hs
    rcases hxd with e | e
    · rw [e] at hs; cases hs
    · exact .inr (hb e).1) hI
  have hd1 : ((f.setN k x).nodes.getD d nd0).dir = some m := by rw [setN_ne f x hne]; exact hm
  obtain ⟨t1, t2⟩ := hI.dirAt hd hd1
  rw [sMupd_names] at hm2
  have hkx : (f.setN k x).nd (k : Int) = x := getD_set_same _ _ _ _ (by show ((k : Int)).toNat < _; rw [h.inv.ln]; omega)
  have hmb : updN mb k b d = mb d := updN_ne mb b hne
  have s2 := s1.at_.setDir hd (by rw [hd1]; rfl) (m := nmPut m s k) (fun p hp => (nmPut_mem p hp).elim (fun e => by rw [e]; exact ⟨by simp, by simp; omega, by rw [hkx]; exact hxi⟩) (t1 p)) (nmPut_keys t2) (w' := w2) (by rw [hmb]; exact hC2) (by rw [hmb]; exact hm2)
  have e : (f.setN k x).name d s k = (f.setN k x).setN d { (f.setN k x).nodes.getD d nd0 with dir := some (nmPut m s k) } := by
    unfold FS.name
    rw [show (f.setN k x).nd (d : Int) = (f.setN k x).nodes.getD d nd0 from rfl, hd1]
    rfl
  rw [e]
  exact ⟨_, _, s1.trans s2⟩

set_option maxRecDepth 100000 in
set_option maxHeartbeats 4000000 in
/-- Mkdir's closure. -/
theorem fmkdir1c (fb : Nat) (mb : Nat → Nat) (vs : Nat → Value) (f : FS) (bp bf : Nat) (p : ByteArray) (w : World) (h : FAt w fb mb vs f) (hL : LibW w) (cp : w.cell? ⟨bp, 0, none⟩ = some (.string p)) (cf : w.cell? ⟨bf, 0, none⟩ = some (.pointer (some ⟨fb, 0, none⟩))) :
    Calls Tryd.prog 35 #[.pointer (some ⟨bp, 0, none⟩), .pointer (some ⟨bf, 0, none⟩)] w fun e W' => EDo w W' fb mb vs f (onPath p f.mkdirE) (fun W' => Chg (blkF fb mb vs f) w W') e := by
  have hmk : ∀ W : World, (Instr.makeMap 49 none).run Tryd.prog W = .ok (.map (some W.heap.size)) (W.alloc (.map #[] 0)) := fun W => by kernel_rfl
  have H := Lib.hid (And.intro h hL)
  clear h hL
  go_enter Tryd.func35, Tryd.ntmps35
  go_wp2_with fail
  rcases hs : splitF p with _ | l
  · refine (fsplit_none hs _ H.out.2).mono ?_
    rintro e w' ⟨rfl, hC⟩
    exact ⟨rfl, EDo.err (onPath_none hs) hC (hC.mono (by simp))⟩
  have HLN := Lib.hid (show l.length ≤ 600 by have := splitF_len hs; omega)
  have HS := Lib.hid hs
  refine (fsplit_some hs _ H.out.2).mono ?_
  rintro e w1 ⟨v, rfl, hv, hC1⟩
  have HC1 := Lib.hid (And.intro hv hC1)
  have cf1 := cell_chg hC1 (by simp) cf
  clear hv hC1 cf cp hs
  go_wp2_with fail
  refine (fplacec fb mb vs f _ l HLN.out _ (H.out.1.calm HC1.out.2) HC1.out.1).mono ?_
  rcases hp : f.place l with c | o
  · rintro e w2 ⟨rfl, hC2⟩
    have hC := HC1.out.2.trans hC2
    exact ⟨rfl, EDo.err (onPath_some HS.out (by unfold FS.mkdirE; rw [hp])) hC (hC.mono (by simp))⟩
  have HP := Lib.hid hp
  rintro e w2 ⟨he, hC2⟩
  have HC2 := Lib.hid (HC1.out.2.trans hC2)
  have HV2 := Lib.hid (HC1.out.1.calm hC2)
  have cf2 := cell_chg hC2 (by simp) cf1
  clear hC2 cf1
  rcases o with _ | ⟨d0, s⟩
  · obtain rfl := place_none hp
    clear hp
    have he' : e = .returned (.tuple #[.map none, .string ⟨#[]⟩]) := he
    subst he'
    clear he
    go_wp2_with fail
    refine (fwalkc fb mb vs f _ [] HLN.out _ (H.out.1.calm HC2.out) HV2.out).mono ?_
    rintro e w' ⟨rfl, rfl⟩
    go_wp2_with fail
    refine (notc 17 _).mono ?_
    rintro e w' ⟨rfl, rfl⟩
    exact ⟨rfl, EDo.err (onPath_some HS.out rfl) HC2.out (HC2.out.mono (by simp))⟩
  · have he' : e = .returned (.tuple #[.map (some (mb d0.toNat)), .string s]) := he
    subst he'
    clear he hp
    go_wp2_with fail
    refine (fwalkc fb mb vs f _ l HLN.out _ (H.out.1.calm HC2.out) HV2.out).mono ?_
    rcases hw : f.walk l with c | n
    · rintro e w' ⟨rfl, rfl⟩
      exact ⟨rfl, EDo.err (onPath_some HS.out (by unfold FS.mkdirE; rw [HP.out]; simp only; rw [hw])) HC2.out (HC2.out.mono (by simp))⟩
    rintro e w' ⟨rfl, rfl⟩
    have HW := Lib.hid hw
    clear hw
    by_cases hn : 0 ≤ n
    · have hd : decide (n ≥ 0) = true := decide_eq_true hn
      have HN := Lib.hid hn
      clear hn
      go_wp2_with fail
      refine (notc 17 _).mono ?_
      rintro e w' ⟨rfl, rfl⟩
      exact ⟨rfl, EDo.err (onPath_some HS.out (by unfold FS.mkdirE; rw [HP.out]; simp only; rw [HW.out]; simp only; rw [if_pos HN.out])) HC2.out (HC2.out.mono (by simp))⟩
    have hd : decide (n ≥ 0) = false := decide_eq_false hn
    have HN := Lib.hid hn
    clear hn
    go_wp2_with fail
    refine (nofc 17 _).mono ?_
    rintro e w' ⟨rfl, rfl⟩
    go_wp2_with fail
    refine (ffreec fb mb vs f _ (H.out.1.calm HC2.out)).mono ?_
    rcases hf : f.free with _ | k0
    · rintro e w3 ⟨rfl, hC3⟩
      have hC := HC2.out.trans hC3
      exact ⟨rfl, EDo.err (onPath_some HS.out (by unfold FS.mkdirE; rw [HP.out]; simp only; rw [HW.out]; simp only; rw [if_neg (fun h => by have := HN.out; omega), hf])) hC (hC.mono (by simp))⟩
    obtain ⟨k, rfl, hk, hki⟩ := freeF_some H.out.1.inv hf
    rintro e w3 ⟨rfl, hC3⟩
    have HC3 := Lib.hid (HC2.out.trans hC3)
    have cf3 := cell_chg hC3 (by simp) cf2
    obtain ⟨d, rfl, hd64, hdd⟩ := place_some H.out.1.inv HP.out
    obtain ⟨m, hm⟩ := Option.isSome_iff_exists.1 hdd
    have hF := H.out.1.calm HC3.out
    obtain ⟨W4, hW4⟩ : ∃ W4, W4 = (((w3.alloc (.map #[] 0)).setCell ⟨fb, k * 3, none⟩ (.bool true)).setCell ⟨fb, k * 3 + 1, none⟩ (.map (some w3.heap.size))).setCell ⟨fb, k * 3 + 2, none⟩ (.slice none 0 0) := ⟨_, rfl⟩
    have hCa : Chg [fb] w3 W4 := by rw [hW4]; exact ((((Chg.refl _ _).alloc _).setCell _ _ (.inl (by simp))).setCell _ _ (.inl (by simp))).setCell _ _ (.inl (by simp))
    have hM4 := (hF.mp d hd64 m hm).kept hCa (by simpa using hF.sep_map hd64 hdd)
    obtain ⟨W5, hu, hm5, hC5⟩ := sRun_update_P (P := Tryd.prog) Tryd.underlying49 Tryd.underlying9 hM4 s (.int .i64 k)
    have hh4 : W4.heap[fb]? = some (.cells (fsCells (f.setN k ⟨true, some [], []⟩) (updN mb k w3.heap.size) (updN vs k (.slice none 0 0))) 57 (0, 0)) := by
      rw [hW4, ← fsCells_node H.out.1.inv.ln hk]
      exact blk_setCell (blk_setCell (blk_setCell (blk_alloc hF.head _) _) _) _
    have hb4 : SMapP W4 w3.heap.size [] := by
      rw [hW4]
      have hlt := lt_of_blk hF.head
      exact (SMapP.made w3).kept (((Chg.refl [fb] (w3.alloc (.map #[] 0))).setCell _ _ (.inl (by simp))).setCell _ _ (.inl (by simp))|>.setCell _ _ (.inl (by simp))) (by simp; omega)
    obtain ⟨mb', vs', hS⟩ := hF.put fb mb vs f hk hd64 hki hm (.inr rfl) s hCa hh4 (fun _ => ⟨Nat.le_refl _, hb4⟩) hC5 hm5
    have hE : f.mkdirE l = .ok ((f.setN k ⟨true, some [], []⟩).name d s k) := by unfold FS.mkdirE; rw [HP.out]; simp only; rw [HW.out]; simp only; rw [if_neg (fun h => by have := HN.out; omega), hf]
    have HE := Lib.hid (And.intro hE ((H.out.1.step HC3.out).trans hS))
    obtain ⟨z0, z1, z2⟩ := (hF.calm ((Chg.refl _ _).alloc (.map #[] 0))).cN hk
    have zf := fun i => (hF.calm ((Chg.refl _ _).alloc (.map #[] 0))).frz i
    generalize (f.nodes.getD k nd0).is = q0 at z0
    generalize (if (f.nodes.getD k nd0).dir.isSome = true then some (mb k) else none) = q1 at z1
    generalize vs k = q2 at z2
    rw [hW4] at hu
    have hkz : (k : Int) < 64 := by omega
    clear hE hS hb4 hh4 hC5 hm5 hM4 hCa hW4 hF hm hdd hC3 cf2 hki hf hmk
    have hmk := fun (_ : Unit) => (show (Instr.makeMap 49 none).run Tryd.prog w3 = .ok (.map (some w3.heap.size)) (w3.alloc (.map #[] 0)) by kernel_rfl)
    have hmk := hmk ()
    go_wp2
    exact ⟨rfl, _, results_none rfl _ _ _, EDo.ok (onPath_some HS.out HE.out.1) HE.out.2 HE.out.2.chg⟩

set_option maxRecDepth 100000 in
set_option maxHeartbeats 1000000 in
theorem fmkdirc (fb : Nat) (mb : Nat → Nat) (vs : Nat → Value) (f : FS) (p : ByteArray) (w : World) (h : FAt w fb mb vs f) (hL : LibW w) :
    Calls Tryd.prog 10 #[.pointer (some ⟨fb, 0, none⟩), .string p] w fun e w' => ∃ c, e = .returned (.int .i64 c) ∧ ERes w w' fb mb vs f (onPath p f.mkdirE) c := by
  obtain ⟨w0, hw0⟩ : ∃ w0, w0 = (w.alloc (.cells #[.pointer (some ⟨fb, 0, none⟩)] 25 (0, 0))).alloc (.cells #[.string p] 9 (0, 0)) := ⟨_, rfl⟩
  have hA : w0 = allocs w [.cells #[.pointer (some ⟨fb, 0, none⟩)] 25 (0, 0), .cells #[.string p] 9 (0, 0)] := hw0
  have hC0 : Chg [] w w0 := by rw [hA]; exact allocs_chg _ _
  have b0 : w0.heap[w.heap.size]? = some (.cells #[.pointer (some ⟨fb, 0, none⟩)] 25 (0, 0)) := by rw [hA]; exact allocs_get w _ (i := 0) rfl
  have b1 : w0.heap[w.heap.size + 1]? = some (.cells #[.string p] 9 (0, 0)) := by rw [hA]; exact allocs_get w _ (i := 1) rfl
  have hc := (Chg.refl [] w0).alloc (.cells #[.int .i64 0] 30 (0, 0))
  have HF := Lib.hid (facer2 fb mb vs f [] 35 #[.pointer (some ⟨w.heap.size + 1, 0, none⟩), .pointer (some ⟨w.heap.size, 0, none⟩)] w w0 hC0 h (fun args w => by kernel_rfl) (onPath p f.mkdirE) (fun _ => True) (fun k hk => by cases hk)
    ((fmkdir1c fb mb vs f (w.heap.size + 1) w.heap.size p _ (h.calm (hC0.trans hc)) (hL.calm (hC0.trans hc)) (cellB (hc.blk b1 List.not_mem_nil) (i := 0) rfl) (cellB (hc.blk b0 List.not_mem_nil) (i := 0) rfl)).mono fun e W' hE => ⟨EDo.of h (hC0.trans hc) hE (fun _ => trivial), hE.x⟩))
  clear h hL hC0 b0 b1 hc hA
  go_enter Tryd.func10, Tryd.ntmps10
  go_wp2_with (go_at_call 22; rw [← hw0]; refine HF.out.mono ?_; rintro e w' ⟨c, W', rfl, hr, _, _⟩; have HR := Lib.hid hr; clear hr)
  go_ret
  exact ⟨c, rfl, HR.out⟩


end Go.Proofs.YtkkjbnmfjhmobaaDoor
