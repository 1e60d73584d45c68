
/- Package ramfs: Seek: contracts. -/
import Derived.Test.YtkkjbnmfjhmobaaDoorFn
namespace Go.Proofs.YtkkjbnmfjhmobaaDoor
open Go.RowKit

/-- Blocks one behind the other. -/
def allocs (w : World) (os : List Obj) : World := os.foldl World.alloc w
theorem allocs_heap (os : List Obj) : ∀ w : World, (allocs w os).heap = w.heap ++ os.toArray := by
  induction os with
  | nil => intro w; simp [allocs]
  | cons o os ih =>
    intro w
    have h : (allocs w (o :: os)).heap = (w.alloc o).heap ++ os.toArray := ih _
    rw [h, show (w.alloc o).heap = w.heap.push o from rfl]
    apply Array.ext'
    simp
theorem allocs_get (w : World) (os : List Obj) {i : Nat} {o : Obj} (h : os[i]? = some o) : (allocs w os).heap[w.heap.size + i]? = some o := by
  rw [allocs_heap, Array.getElem?_append_right (by omega), Nat.add_sub_cancel_left, List.getElem?_toArray]
  exact h
theorem allocs_chg (os : List Obj) : ∀ w : World, Chg [] w (allocs w os) := by
  induction os with
  | nil => intro w; exact Chg.refl _ _
  | cons o os ih => intro w; exact ((Chg.refl [] w).alloc o).trans (ih _)
theorem allocs_size (w : World) (os : List Obj) : (allocs w os).heap.size = w.heap.size + os.length := by rw [allocs_heap]; simp

/-- What an open descriptor is. -/
theorem FInv.ofBad {f : FS} (h : FInv f) {d flag : Int} (hb : f.bad d flag = false) : ∃ n m : Nat, d = n ∧ n < 16 ∧ m < 64 ∧ (f.files.getD n fl0).op = true ∧ (f.files.getD n fl0).node = m ∧ (f.nd (m : Int)).is = true ∧ 0 ≤ (f.files.getD n fl0).flags ∧ (f.files.getD n fl0).flags ≤ 63 ∧ 0 ≤ (f.files.getD n fl0).pos ∧ (f.files.getD n fl0).pos ≤ 4096 := by
  unfold FS.bad at hb
  simp only [Bool.or_eq_false_iff, decide_eq_false_iff_not] at hb
  have ho : (f.files.getD d.toNat fl0).op = true := by have h3 := hb.1.2; cases hq : (f.fl d).op with | true => exact hq | false => rw [hq] at h3; cases h3
  obtain ⟨a0, a1, a2, a3, a4, a5, a6⟩ := h.file _ (h.flAt (show d.toNat < 16 by omega)) ho
  exact ⟨d.toNat, (f.files.getD d.toNat fl0).node.toNat, by omega, by omega, by omega, ho, by omega, by rw [show (((f.files.getD d.toNat fl0).node.toNat : Nat) : Int) = (f.files.getD d.toNat fl0).node by omega]; exact a2, a3, a4, a5, a6⟩
def resF {α : Type} (r : Except Int (FS × α)) : Except Int FS := match r with
  | .ok p => .ok p.1
  | .error k => .error k
def resV (r : Except Int (FS × Int)) : Int := match r with
  | .ok p => p.2
  | .error _ => 0

theorem idx3a (a b c : Value) (W : World) : (Instr.index 73 (.agg #[a, b, c]) (.int .i64 0)).run Tryd.prog W = .ok a W := by kernel_rfl
theorem idx3b (a b c : Value) (W : World) : (Instr.index 73 (.agg #[a, b, c]) (.int .i64 1)).run Tryd.prog W = .ok b W := by kernel_rfl
theorem idx3c (a b c : Value) (W : World) : (Instr.index 73 (.agg #[a, b, c]) (.int .i64 2)).run Tryd.prog W = .ok c W := by kernel_rfl
set_option maxRecDepth 100000 in
set_option maxHeartbeats 4000000 in
/-- Seek's closure. -/
theorem fseek1c (fb : Nat) (mb : Nat → Nat) (vs : Nat → Value) (f : FS) (bf bd br bb bp : Nat) (d by_ fr : Int) (w0 w : World) (hC : Chg [] w0 w) (h : FAt w0 fb mb vs f) (cf : w.cell? ⟨bf, 0, none⟩ = some (.pointer (some ⟨fb, 0, none⟩))) (cd : w.cell? ⟨bd, 0, none⟩ = some (.int .i64 d))
    (cr : w.cell? ⟨br, 0, none⟩ = some (.int .i64 fr)) (cb : w.cell? ⟨bb, 0, none⟩ = some (.int .i64 by_)) (hp : w.heap[bp]? = some (.cells #[.int .i64 0] 2 (0, 0))) (hp0 : w0.heap.size ≤ bp) :
    Calls Tryd.prog 42 #[.pointer (some ⟨bf, 0, none⟩), .pointer (some ⟨bd, 0, none⟩), .pointer (some ⟨br, 0, none⟩), .pointer (some ⟨bb, 0, none⟩), .pointer (some ⟨bp, 0, none⟩)] w fun e W' =>
      EDo w0 W' fb mb vs f (resF (f.seekE d by_ fr)) (fun W' => W'.heap[bp]? = some (.cells #[.int .i64 (resV (f.seekE d by_ fr))] 2 (0, 0))) e ∧ Chg ([bp] ++ blkF fb mb vs f) w W' := by
  have HT := Lib.hid (fatc fb mb vs f d 0 w (h.calm hC))
  have H := Lib.hid (And.intro h (And.intro hC (And.intro hp hp0)))
  unfold atP at HT
  clear hp hp0
  have hq := neq_names
  have i3a := idx3a
  have i3b := idx3b
  have i3c := idx3c
  cases hb : f.bad d 0 with
  | true =>
    rw [hb] at HT
    have hr : f.seekE d by_ fr = .error 9 := by unfold FS.seekE; rw [if_pos hb]
    rw [hr]
    clear hb h hr hC
    go_enter Tryd.func42, Tryd.ntmps42
    go_wp2_with (go_at_call 34; refine HT.out.mono ?_; rintro e w' ⟨rfl, hC⟩)
    exact ⟨rfl, ⟨rfl, H.out.2.1.trans hC, hC.blk H.out.2.2.1 (by simp)⟩, hC.mono (by simp)⟩
  | false =>
    rw [hb] at HT
    obtain ⟨n, m, rfl, hn, hm, ho, hnd, his, g0, g1, p0, p1⟩ := h.inv.ofBad hb
    have hfl : f.fl (n : Int) = f.files.getD n fl0 := rfl
    rw [hfl, hnd] at HT
    have hsk : f.seekE n by_ fr = (if f.isDir m = true then .error 21
      else if fr < 0 ∨ 2 < fr ∨ by_ < -4096 ∨ 4096 < by_ then .error 22
      else if (if fr = 0 then 0 else if fr = 1 then (f.files.getD n fl0).pos else ((f.nodes.getD m nd0).b.length : Int)) + by_ < 0 ∨ 4096 < (if fr = 0 then 0 else if fr = 1 then (f.files.getD n fl0).pos else ((f.nodes.getD m nd0).b.length : Int)) + by_ then .error 22
      else .ok (f.setF n { f.files.getD n fl0 with pos := (if fr = 0 then 0 else if fr = 1 then (f.files.getD n fl0).pos else ((f.nodes.getD m nd0).b.length : Int)) + by_ }, (if fr = 0 then 0 else if fr = 1 then (f.files.getD n fl0).pos else ((f.nodes.getD m nd0).b.length : Int)) + by_)) := by
      unfold FS.seekE
      rw [if_neg (by rw [hb]; simp), hfl, hnd]
      rfl
    rw [hsk]
    have hdir : f.isDir (m : Int) = (f.nodes.getD m nd0).dir.isSome := rfl
    rw [hdir]
    obtain ⟨va, vc, hv⟩ := own_slice (h.row m hm)
    have HV := Lib.hid hv
    have hlen : (f.nodes.getD m nd0).b.length ≤ 4096 := by
      have h1 := FS.bytesK_succ h.inv hm
      have h2 := FS.bytesK_le h.inv (m + 1)
      omega
    have hnz : (n : Int) < 16 := by omega
    have hFI : ∀ t : Int, 0 ≤ t → t ≤ 4096 → FInv (f.setF n { f.files.getD n fl0 with pos := t }) := fun t t0 t1 => h.inv.setF _ (fun _ => ⟨by rw [hnd]; omega, by rw [hnd]; omega, by rw [hnd]; exact his, g0, g1, t0, t1⟩) (fun e => by rw [ho] at e; cases e)
    have HFI := Lib.hid (And.intro hFI h.inv.lf)
    have hbpf : bp ≠ fb := by have := lt_of_blk h.head; have := H.out.2.2.2; omega
    have hbpn : bp ∉ blkF fb mb vs f := fun hm => by have := h.lt _ hm; have := H.out.2.2.2; omega
    have HBN := Lib.hid hbpn
    clear hsk hdir hfl hnd his ho g0 g1 hFI hbpn hb hC hv
    generalize (f.nodes.getD m nd0).b.length = ln at *
    generalize hX : f.files.getD n fl0 = x at *
    obtain ⟨op, nd, fg, ps⟩ := x
    have HX := Lib.hid hX
    clear hX
    simp only at p0 p1 ⊢
    cases hd : (f.nodes.getD m nd0).dir.isSome with
    | true =>
      rw [if_pos rfl]
      clear h
      go_enter Tryd.func42, Tryd.ntmps42
      go_wp2_with (first | (go_at_call 34; refine HT.out.mono ?_; rintro e w1 ⟨rfl, hC1⟩; have HC1 := Lib.hid hC1; obtain ⟨_, _, _, c3⟩ := ((H.out.1.calm H.out.2.1).calm hC1).cF hn; obtain ⟨_, n1, n2⟩ := ((H.out.1.calm H.out.2.1).calm hC1).cN hm; rw [hd, if_pos rfl] at n1; rw [HV.out] at n2; rw [HX.out] at c3; have cf1 := cell_chg hC1 (by simp) cf; have cr1 := cell_chg hC1 (by simp) cr; have cb1 := cell_chg hC1 (by simp) cb; have z := fun i => ((H.out.1.calm H.out.2.1).calm hC1).frz i; have bp1 := hC1.blk H.out.2.2.1 (by simp); have cp1 := cellB bp1 (i := 0) (v := .int .i64 0) rfl; have zp1 := frozenB bp1 0; clear bp1 hC1) | (go_at_call 25; refine (notc 21 _).mono ?_; rintro e w' ⟨rfl, rfl⟩))
      exact ⟨rfl, ⟨rfl, H.out.2.1.trans HC1.out, HC1.out.blk H.out.2.2.1 (by simp)⟩, HC1.out.mono (by simp)⟩
    | false =>
      rw [if_neg (by simp)]
      by_cases hbad : fr < 0 ∨ 2 < fr ∨ by_ < -4096 ∨ 4096 < by_
      · rw [if_pos hbad]
        clear h
        by_cases k1 : fr < 0
        · have k1d : decide (fr < 0) = true := decide_eq_true k1
          clear hbad
          go_enter Tryd.func42, Tryd.ntmps42
          go_wp2_with (first | (go_at_call 34; refine HT.out.mono ?_; rintro e w1 ⟨rfl, hC1⟩; have HC1 := Lib.hid hC1; obtain ⟨_, _, _, c3⟩ := ((H.out.1.calm H.out.2.1).calm hC1).cF hn; obtain ⟨_, n1, n2⟩ := ((H.out.1.calm H.out.2.1).calm hC1).cN hm; rw [hd, if_neg (by simp)] at n1; rw [HV.out] at n2; rw [HX.out] at c3; have cf1 := cell_chg hC1 (by simp) cf; have cr1 := cell_chg hC1 (by simp) cr; have cb1 := cell_chg hC1 (by simp) cb; have z := fun i => ((H.out.1.calm H.out.2.1).calm hC1).frz i; have bp1 := hC1.blk H.out.2.2.1 (by simp); have cp1 := cellB bp1 (i := 0) (v := .int .i64 0) rfl; have zp1 := frozenB bp1 0; clear bp1 hC1) | (go_at_call 25; refine (nofc 21 _).mono ?_; rintro e w' ⟨rfl, rfl⟩) | (go_at_call 25; refine (notc 22 _).mono ?_; rintro e w' ⟨rfl, rfl⟩))
          exact ⟨rfl, ⟨rfl, H.out.2.1.trans HC1.out, HC1.out.blk H.out.2.2.1 (by simp)⟩, HC1.out.mono (by simp)⟩
        · have k1d : decide (fr < 0) = false := decide_eq_false k1
          by_cases k2 : 2 < fr
          · have k2d : decide (fr > 2) = true := decide_eq_true k2
            clear hbad
            go_enter Tryd.func42, Tryd.ntmps42
            go_wp2_with (first | (go_at_call 34; refine HT.out.mono ?_; rintro e w1 ⟨rfl, hC1⟩; have HC1 := Lib.hid hC1; obtain ⟨_, _, _, c3⟩ := ((H.out.1.calm H.out.2.1).calm hC1).cF hn; obtain ⟨_, n1, n2⟩ := ((H.out.1.calm H.out.2.1).calm hC1).cN hm; rw [hd, if_neg (by simp)] at n1; rw [HV.out] at n2; rw [HX.out] at c3; have cf1 := cell_chg hC1 (by simp) cf; have cr1 := cell_chg hC1 (by simp) cr; have cb1 := cell_chg hC1 (by simp) cb; have z := fun i => ((H.out.1.calm H.out.2.1).calm hC1).frz i; have bp1 := hC1.blk H.out.2.2.1 (by simp); have cp1 := cellB bp1 (i := 0) (v := .int .i64 0) rfl; have zp1 := frozenB bp1 0; clear bp1 hC1) | (go_at_call 25; refine (nofc 21 _).mono ?_; rintro e w' ⟨rfl, rfl⟩) | (go_at_call 25; refine (notc 22 _).mono ?_; rintro e w' ⟨rfl, rfl⟩))
            exact ⟨rfl, ⟨rfl, H.out.2.1.trans HC1.out, HC1.out.blk H.out.2.2.1 (by simp)⟩, HC1.out.mono (by simp)⟩
          · have k2d : decide (fr > 2) = false := decide_eq_false k2
            by_cases k3 : by_ < -4096
            · have k3d : decide (by_ < -4096) = true := decide_eq_true k3
              clear hbad
              go_enter Tryd.func42, Tryd.ntmps42
              go_wp2_with (first | (go_at_call 34; refine HT.out.mono ?_; rintro e w1 ⟨rfl, hC1⟩; have HC1 := Lib.hid hC1; obtain ⟨_, _, _, c3⟩ := ((H.out.1.calm H.out.2.1).calm hC1).cF hn; obtain ⟨_, n1, n2⟩ := ((H.out.1.calm H.out.2.1).calm hC1).cN hm; rw [hd, if_neg (by simp)] at n1; rw [HV.out] at n2; rw [HX.out] at c3; have cf1 := cell_chg hC1 (by simp) cf; have cr1 := cell_chg hC1 (by simp) cr; have cb1 := cell_chg hC1 (by simp) cb; have z := fun i => ((H.out.1.calm H.out.2.1).calm hC1).frz i; have bp1 := hC1.blk H.out.2.2.1 (by simp); have cp1 := cellB bp1 (i := 0) (v := .int .i64 0) rfl; have zp1 := frozenB bp1 0; clear bp1 hC1) | (go_at_call 25; refine (nofc 21 _).mono ?_; rintro e w' ⟨rfl, rfl⟩) | (go_at_call 25; refine (notc 22 _).mono ?_; rintro e w' ⟨rfl, rfl⟩))
              exact ⟨rfl, ⟨rfl, H.out.2.1.trans HC1.out, HC1.out.blk H.out.2.2.1 (by simp)⟩, HC1.out.mono (by simp)⟩
            · have k3d : decide (by_ < -4096) = false := decide_eq_false k3
              have k4d : decide (by_ > 4096) = true := decide_eq_true (by omega)
              clear hbad
              go_enter Tryd.func42, Tryd.ntmps42
              go_wp2_with (first | (go_at_call 34; refine HT.out.mono ?_; rintro e w1 ⟨rfl, hC1⟩; have HC1 := Lib.hid hC1; obtain ⟨_, _, _, c3⟩ := ((H.out.1.calm H.out.2.1).calm hC1).cF hn; obtain ⟨_, n1, n2⟩ := ((H.out.1.calm H.out.2.1).calm hC1).cN hm; rw [hd, if_neg (by simp)] at n1; rw [HV.out] at n2; rw [HX.out] at c3; have cf1 := cell_chg hC1 (by simp) cf; have cr1 := cell_chg hC1 (by simp) cr; have cb1 := cell_chg hC1 (by simp) cb; have z := fun i => ((H.out.1.calm H.out.2.1).calm hC1).frz i; have bp1 := hC1.blk H.out.2.2.1 (by simp); have cp1 := cellB bp1 (i := 0) (v := .int .i64 0) rfl; have zp1 := frozenB bp1 0; clear bp1 hC1) | (go_at_call 25; refine (nofc 21 _).mono ?_; rintro e w' ⟨rfl, rfl⟩) | (go_at_call 25; refine (notc 22 _).mono ?_; rintro e w' ⟨rfl, rfl⟩))
              exact ⟨rfl, ⟨rfl, H.out.2.1.trans HC1.out, HC1.out.blk H.out.2.2.1 (by simp)⟩, HC1.out.mono (by simp)⟩
      · rw [if_neg hbad]
        have k3d : decide (by_ < -4096) = false := decide_eq_false (by omega)
        have k4d : decide (by_ > 4096) = false := decide_eq_false (by omega)
        rcases (show fr = 0 ∨ fr = 1 ∨ fr = 2 by omega) with rfl | rfl | rfl
        · simp only [if_true, Int.zero_add]
          have hwr : IntKind.i64.wrap (by_) = by_ := by rw [IntKind.wrap_i64]; omega
          have hto : True := trivial
          by_cases ht : by_ < 0 ∨ 4096 < by_
          · rw [if_pos ht]
            clear h hbad
            by_cases t1 : by_ < 0
            · have t1d : decide (by_ < 0) = true := decide_eq_true t1
              clear ht
              go_enter Tryd.func42, Tryd.ntmps42
              go_wp2_with (first | (go_at_call 34; refine HT.out.mono ?_; rintro e w1 ⟨rfl, hC1⟩; have HC1 := Lib.hid hC1; obtain ⟨_, _, _, c3⟩ := ((H.out.1.calm H.out.2.1).calm hC1).cF hn; obtain ⟨_, n1, n2⟩ := ((H.out.1.calm H.out.2.1).calm hC1).cN hm; rw [hd, if_neg (by simp)] at n1; rw [HV.out] at n2; rw [HX.out] at c3; have cf1 := cell_chg hC1 (by simp) cf; have cr1 := cell_chg hC1 (by simp) cr; have cb1 := cell_chg hC1 (by simp) cb; have z := fun i => ((H.out.1.calm H.out.2.1).calm hC1).frz i; have bp1 := hC1.blk H.out.2.2.1 (by simp); have cp1 := cellB bp1 (i := 0) (v := .int .i64 0) rfl; have zp1 := frozenB bp1 0; clear bp1 hC1) | (go_at_call 25; refine (nofc 21 _).mono ?_; rintro e w' ⟨rfl, rfl⟩) | (go_at_call 25; refine (nofc 22 _).mono ?_; rintro e w' ⟨rfl, rfl⟩) | (go_at_call 25; refine (notc 22 _).mono ?_; rintro e w' ⟨rfl, rfl⟩))
              go_quiet (fail)
              go_wp2_with (first | (go_at_call 34; refine HT.out.mono ?_; rintro e w1 ⟨rfl, hC1⟩; have HC1 := Lib.hid hC1; obtain ⟨_, _, _, c3⟩ := ((H.out.1.calm H.out.2.1).calm hC1).cF hn; obtain ⟨_, n1, n2⟩ := ((H.out.1.calm H.out.2.1).calm hC1).cN hm; rw [hd, if_neg (by simp)] at n1; rw [HV.out] at n2; rw [HX.out] at c3; have cf1 := cell_chg hC1 (by simp) cf; have cr1 := cell_chg hC1 (by simp) cr; have cb1 := cell_chg hC1 (by simp) cb; have z := fun i => ((H.out.1.calm H.out.2.1).calm hC1).frz i; have bp1 := hC1.blk H.out.2.2.1 (by simp); have cp1 := cellB bp1 (i := 0) (v := .int .i64 0) rfl; have zp1 := frozenB bp1 0; clear bp1 hC1) | (go_at_call 25; refine (nofc 21 _).mono ?_; rintro e w' ⟨rfl, rfl⟩) | (go_at_call 25; refine (nofc 22 _).mono ?_; rintro e w' ⟨rfl, rfl⟩) | (go_at_call 25; refine (notc 22 _).mono ?_; rintro e w' ⟨rfl, rfl⟩))
              exact ⟨rfl, ⟨rfl, (H.out.2.1.trans HC1.out).drewN _, (HC1.out.drewN _).blk H.out.2.2.1 (by simp)⟩, (HC1.out.drewN _).mono (by simp)⟩
            · have t1d : decide (by_ < 0) = false := decide_eq_false t1
              have t2d : decide (by_ > 4096) = true := decide_eq_true (by omega)
              clear ht
              rw [k4d] at t2d
              cases t2d
          · rw [if_neg ht]
            have t1d : decide (by_ < 0) = false := decide_eq_false (by omega)
            have t2d : decide (by_ > 4096) = false := decide_eq_false (by omega)
            have HTO := Lib.hid (show 0 ≤ by_ ∧ by_ ≤ 4096 by omega)
            clear h hbad ht
            go_enter Tryd.func42, Tryd.ntmps42
            go_wp2_with (first | (go_at_call 34; refine HT.out.mono ?_; rintro e w1 ⟨rfl, hC1⟩; have HC1 := Lib.hid hC1; obtain ⟨_, _, _, c3⟩ := ((H.out.1.calm H.out.2.1).calm hC1).cF hn; obtain ⟨_, n1, n2⟩ := ((H.out.1.calm H.out.2.1).calm hC1).cN hm; rw [hd, if_neg (by simp)] at n1; rw [HV.out] at n2; rw [HX.out] at c3; have cf1 := cell_chg hC1 (by simp) cf; have cr1 := cell_chg hC1 (by simp) cr; have cb1 := cell_chg hC1 (by simp) cb; have z := fun i => ((H.out.1.calm H.out.2.1).calm hC1).frz i; have bp1 := hC1.blk H.out.2.2.1 (by simp); have cp1 := cellB bp1 (i := 0) (v := .int .i64 0) rfl; have zp1 := frozenB bp1 0; clear bp1 hC1) | (go_at_call 25; refine (nofc 21 _).mono ?_; rintro e w' ⟨rfl, rfl⟩) | (go_at_call 25; refine (nofc 22 _).mono ?_; rintro e w' ⟨rfl, rfl⟩))
            go_quiet (fail)
            go_wp2_with (first | (go_at_call 25; refine (nofc 21 _).mono ?_; rintro e w' ⟨rfl, rfl⟩) | (go_at_call 25; refine (nofc 22 _).mono ?_; rintro e w' ⟨rfl, rfl⟩))
            have hs0 : ∀ q : Nat, FStep w0 ((w1.drewN q).setCell ⟨bp, 0, none⟩ (.int .i64 by_)) fb mb vs f mb vs f := fun q => H.out.1.step (((H.out.2.1.trans HC1.out).drewN q).setCell _ _ (.inr H.out.2.2.2))
            have hh : ∀ q : Nat, (((w1.drewN q).setCell ⟨bp, 0, none⟩ (.int .i64 by_)).setCell ⟨fb, 192 + n * 4 + 3, none⟩ (.int .i64 by_)).heap[fb]? = some (.cells (fsCells (f.setF n ⟨op, nd, fg, by_⟩) mb vs) 57 (0, 0)) := fun q => by
              have e := fsCells_pos HFI.out.2 hn mb vs by_
              rw [HX.out] at e
              rw [← e]
              exact blk_setCell (hs0 q).at_.head _
            have hs := fun q => (hs0 q).trans ((hs0 q).at_.setFile (d := n) (x := ⟨op, nd, fg, by_⟩) ((Chg.refl _ _).setCell _ _ (.inl (by simp))) (hh q) (HFI.out.1 by_ HTO.out.1 HTO.out.2))
            exact ⟨rfl, _, results_none rfl _ _ _, ⟨⟨_, rfl⟩, ⟨mb, vs, hs _⟩, blk_setCell_ne (blk_setCell ((HC1.out.drewN _).blk H.out.2.2.1 (by simp)) _) hbpf _⟩, (((HC1.out.mono (by simp)).drewN _).setCell _ _ (.inl (by simp))).setCell _ _ (.inl (by simp [blkF]))⟩
        · simp only [if_neg (show ¬ (1 : Int) = 0 by decide), if_true]
          have hwr : IntKind.i64.wrap (ps + by_) = ps + by_ := by rw [IntKind.wrap_i64]; omega
          generalize hto : ps + by_ = tp at *
          by_cases ht : tp < 0 ∨ 4096 < tp
          · rw [if_pos ht]
            clear h hbad
            by_cases t1 : tp < 0
            · have t1d : decide (tp < 0) = true := decide_eq_true t1
              clear ht
              go_enter Tryd.func42, Tryd.ntmps42
              go_wp2_with (first | (go_at_call 34; refine HT.out.mono ?_; rintro e w1 ⟨rfl, hC1⟩; have HC1 := Lib.hid hC1; obtain ⟨_, _, _, c3⟩ := ((H.out.1.calm H.out.2.1).calm hC1).cF hn; obtain ⟨_, n1, n2⟩ := ((H.out.1.calm H.out.2.1).calm hC1).cN hm; rw [hd, if_neg (by simp)] at n1; rw [HV.out] at n2; rw [HX.out] at c3; have cf1 := cell_chg hC1 (by simp) cf; have cr1 := cell_chg hC1 (by simp) cr; have cb1 := cell_chg hC1 (by simp) cb; have z := fun i => ((H.out.1.calm H.out.2.1).calm hC1).frz i; have bp1 := hC1.blk H.out.2.2.1 (by simp); have cp1 := cellB bp1 (i := 0) (v := .int .i64 0) rfl; have zp1 := frozenB bp1 0; clear bp1 hC1) | (go_at_call 25; refine (nofc 21 _).mono ?_; rintro e w' ⟨rfl, rfl⟩) | (go_at_call 25; refine (nofc 22 _).mono ?_; rintro e w' ⟨rfl, rfl⟩) | (go_at_call 25; refine (notc 22 _).mono ?_; rintro e w' ⟨rfl, rfl⟩))
              go_quiet (fail)
              go_wp2_with (first | (go_at_call 34; refine HT.out.mono ?_; rintro e w1 ⟨rfl, hC1⟩; have HC1 := Lib.hid hC1; obtain ⟨_, _, _, c3⟩ := ((H.out.1.calm H.out.2.1).calm hC1).cF hn; obtain ⟨_, n1, n2⟩ := ((H.out.1.calm H.out.2.1).calm hC1).cN hm; rw [hd, if_neg (by simp)] at n1; rw [HV.out] at n2; rw [HX.out] at c3; have cf1 := cell_chg hC1 (by simp) cf; have cr1 := cell_chg hC1 (by simp) cr; have cb1 := cell_chg hC1 (by simp) cb; have z := fun i => ((H.out.1.calm H.out.2.1).calm hC1).frz i; have bp1 := hC1.blk H.out.2.2.1 (by simp); have cp1 := cellB bp1 (i := 0) (v := .int .i64 0) rfl; have zp1 := frozenB bp1 0; clear bp1 hC1) | (go_at_call 25; refine (nofc 21 _).mono ?_; rintro e w' ⟨rfl, rfl⟩) | (go_at_call 25; refine (nofc 22 _).mono ?_; rintro e w' ⟨rfl, rfl⟩) | (go_at_call 25; refine (notc 22 _).mono ?_; rintro e w' ⟨rfl, rfl⟩))
              exact ⟨rfl, ⟨rfl, (H.out.2.1.trans HC1.out).drewN _, (HC1.out.drewN _).blk H.out.2.2.1 (by simp)⟩, (HC1.out.drewN _).mono (by simp)⟩
            · have t1d : decide (tp < 0) = false := decide_eq_false t1
              have t2d : decide (tp > 4096) = true := decide_eq_true (by omega)
              clear ht
              go_enter Tryd.func42, Tryd.ntmps42
              go_wp2_with (first | (go_at_call 34; refine HT.out.mono ?_; rintro e w1 ⟨rfl, hC1⟩; have HC1 := Lib.hid hC1; obtain ⟨_, _, _, c3⟩ := ((H.out.1.calm H.out.2.1).calm hC1).cF hn; obtain ⟨_, n1, n2⟩ := ((H.out.1.calm H.out.2.1).calm hC1).cN hm; rw [hd, if_neg (by simp)] at n1; rw [HV.out] at n2; rw [HX.out] at c3; have cf1 := cell_chg hC1 (by simp) cf; have cr1 := cell_chg hC1 (by simp) cr; have cb1 := cell_chg hC1 (by simp) cb; have z := fun i => ((H.out.1.calm H.out.2.1).calm hC1).frz i; have bp1 := hC1.blk H.out.2.2.1 (by simp); have cp1 := cellB bp1 (i := 0) (v := .int .i64 0) rfl; have zp1 := frozenB bp1 0; clear bp1 hC1) | (go_at_call 25; refine (nofc 21 _).mono ?_; rintro e w' ⟨rfl, rfl⟩) | (go_at_call 25; refine (nofc 22 _).mono ?_; rintro e w' ⟨rfl, rfl⟩) | (go_at_call 25; refine (notc 22 _).mono ?_; rintro e w' ⟨rfl, rfl⟩))
              go_quiet (fail)
              go_wp2_with (first | (go_at_call 34; refine HT.out.mono ?_; rintro e w1 ⟨rfl, hC1⟩; have HC1 := Lib.hid hC1; obtain ⟨_, _, _, c3⟩ := ((H.out.1.calm H.out.2.1).calm hC1).cF hn; obtain ⟨_, n1, n2⟩ := ((H.out.1.calm H.out.2.1).calm hC1).cN hm; rw [hd, if_neg (by simp)] at n1; rw [HV.out] at n2; rw [HX.out] at c3; have cf1 := cell_chg hC1 (by simp) cf; have cr1 := cell_chg hC1 (by simp) cr; have cb1 := cell_chg hC1 (by simp) cb; have z := fun i => ((H.out.1.calm H.out.2.1).calm hC1).frz i; have bp1 := hC1.blk H.out.2.2.1 (by simp); have cp1 := cellB bp1 (i := 0) (v := .int .i64 0) rfl; have zp1 := frozenB bp1 0; clear bp1 hC1) | (go_at_call 25; refine (nofc 21 _).mono ?_; rintro e w' ⟨rfl, rfl⟩) | (go_at_call 25; refine (nofc 22 _).mono ?_; rintro e w' ⟨rfl, rfl⟩) | (go_at_call 25; refine (notc 22 _).mono ?_; rintro e w' ⟨rfl, rfl⟩))
              exact ⟨rfl, ⟨rfl, (H.out.2.1.trans HC1.out).drewN _, (HC1.out.drewN _).blk H.out.2.2.1 (by simp)⟩, (HC1.out.drewN _).mono (by simp)⟩
          · rw [if_neg ht]
            have t1d : decide (tp < 0) = false := decide_eq_false (by omega)
            have t2d : decide (tp > 4096) = false := decide_eq_false (by omega)
            have HTO := Lib.hid (show 0 ≤ tp ∧ tp ≤ 4096 by omega)
            clear h hbad ht
            go_enter Tryd.func42, Tryd.ntmps42
            go_wp2_with (first | (go_at_call 34; refine HT.out.mono ?_; rintro e w1 ⟨rfl, hC1⟩; have HC1 := Lib.hid hC1; obtain ⟨_, _, _, c3⟩ := ((H.out.1.calm H.out.2.1).calm hC1).cF hn; obtain ⟨_, n1, n2⟩ := ((H.out.1.calm H.out.2.1).calm hC1).cN hm; rw [hd, if_neg (by simp)] at n1; rw [HV.out] at n2; rw [HX.out] at c3; have cf1 := cell_chg hC1 (by simp) cf; have cr1 := cell_chg hC1 (by simp) cr; have cb1 := cell_chg hC1 (by simp) cb; have z := fun i => ((H.out.1.calm H.out.2.1).calm hC1).frz i; have bp1 := hC1.blk H.out.2.2.1 (by simp); have cp1 := cellB bp1 (i := 0) (v := .int .i64 0) rfl; have zp1 := frozenB bp1 0; clear bp1 hC1) | (go_at_call 25; refine (nofc 21 _).mono ?_; rintro e w' ⟨rfl, rfl⟩) | (go_at_call 25; refine (nofc 22 _).mono ?_; rintro e w' ⟨rfl, rfl⟩))
            go_quiet (fail)
            go_wp2_with (first | (go_at_call 25; refine (nofc 21 _).mono ?_; rintro e w' ⟨rfl, rfl⟩) | (go_at_call 25; refine (nofc 22 _).mono ?_; rintro e w' ⟨rfl, rfl⟩))
            have hs0 : ∀ q : Nat, FStep w0 ((w1.drewN q).setCell ⟨bp, 0, none⟩ (.int .i64 tp)) fb mb vs f mb vs f := fun q => H.out.1.step (((H.out.2.1.trans HC1.out).drewN q).setCell _ _ (.inr H.out.2.2.2))
            have hh : ∀ q : Nat, (((w1.drewN q).setCell ⟨bp, 0, none⟩ (.int .i64 tp)).setCell ⟨fb, 192 + n * 4 + 3, none⟩ (.int .i64 tp)).heap[fb]? = some (.cells (fsCells (f.setF n ⟨op, nd, fg, tp⟩) mb vs) 57 (0, 0)) := fun q => by
              have e := fsCells_pos HFI.out.2 hn mb vs tp
              rw [HX.out] at e
              rw [← e]
              exact blk_setCell (hs0 q).at_.head _
            have hs := fun q => (hs0 q).trans ((hs0 q).at_.setFile (d := n) (x := ⟨op, nd, fg, tp⟩) ((Chg.refl _ _).setCell _ _ (.inl (by simp))) (hh q) (HFI.out.1 tp HTO.out.1 HTO.out.2))
            exact ⟨rfl, _, results_none rfl _ _ _, ⟨⟨_, rfl⟩, ⟨mb, vs, hs _⟩, blk_setCell_ne (blk_setCell ((HC1.out.drewN _).blk H.out.2.2.1 (by simp)) _) hbpf _⟩, (((HC1.out.mono (by simp)).drewN _).setCell _ _ (.inl (by simp))).setCell _ _ (.inl (by simp [blkF]))⟩
        · simp only [if_neg (show ¬ (2 : Int) = 0 by decide), if_neg (show ¬ (2 : Int) = 1 by decide)]
          have hwr : IntKind.i64.wrap ((ln : Int) + by_) = (ln : Int) + by_ := by rw [IntKind.wrap_i64]; omega
          generalize hto : (ln : Int) + by_ = tp at *
          by_cases ht : tp < 0 ∨ 4096 < tp
          · rw [if_pos ht]
            clear h hbad
            by_cases t1 : tp < 0
            · have t1d : decide (tp < 0) = true := decide_eq_true t1
              clear ht
              go_enter Tryd.func42, Tryd.ntmps42
              go_wp2_with (first | (go_at_call 34; refine HT.out.mono ?_; rintro e w1 ⟨rfl, hC1⟩; have HC1 := Lib.hid hC1; obtain ⟨_, _, _, c3⟩ := ((H.out.1.calm H.out.2.1).calm hC1).cF hn; obtain ⟨_, n1, n2⟩ := ((H.out.1.calm H.out.2.1).calm hC1).cN hm; rw [hd, if_neg (by simp)] at n1; rw [HV.out] at n2; rw [HX.out] at c3; have cf1 := cell_chg hC1 (by simp) cf; have cr1 := cell_chg hC1 (by simp) cr; have cb1 := cell_chg hC1 (by simp) cb; have z := fun i => ((H.out.1.calm H.out.2.1).calm hC1).frz i; have bp1 := hC1.blk H.out.2.2.1 (by simp); have cp1 := cellB bp1 (i := 0) (v := .int .i64 0) rfl; have zp1 := frozenB bp1 0; clear bp1 hC1) | (go_at_call 25; refine (nofc 21 _).mono ?_; rintro e w' ⟨rfl, rfl⟩) | (go_at_call 25; refine (nofc 22 _).mono ?_; rintro e w' ⟨rfl, rfl⟩) | (go_at_call 25; refine (notc 22 _).mono ?_; rintro e w' ⟨rfl, rfl⟩))
              go_quiet (fail)
              go_wp2_with (first | (go_at_call 34; refine HT.out.mono ?_; rintro e w1 ⟨rfl, hC1⟩; have HC1 := Lib.hid hC1; obtain ⟨_, _, _, c3⟩ := ((H.out.1.calm H.out.2.1).calm hC1).cF hn; obtain ⟨_, n1, n2⟩ := ((H.out.1.calm H.out.2.1).calm hC1).cN hm; rw [hd, if_neg (by simp)] at n1; rw [HV.out] at n2; rw [HX.out] at c3; have cf1 := cell_chg hC1 (by simp) cf; have cr1 := cell_chg hC1 (by simp) cr; have cb1 := cell_chg hC1 (by simp) cb; have z := fun i => ((H.out.1.calm H.out.2.1).calm hC1).frz i; have bp1 := hC1.blk H.out.2.2.1 (by simp); have cp1 := cellB bp1 (i := 0) (v := .int .i64 0) rfl; have zp1 := frozenB bp1 0; clear bp1 hC1) | (go_at_call 25; refine (nofc 21 _).mono ?_; rintro e w' ⟨rfl, rfl⟩) | (go_at_call 25; refine (nofc 22 _).mono ?_; rintro e w' ⟨rfl, rfl⟩) | (go_at_call 25; refine (notc 22 _).mono ?_; rintro e w' ⟨rfl, rfl⟩))
              exact ⟨rfl, ⟨rfl, (H.out.2.1.trans HC1.out).drewN _, (HC1.out.drewN _).blk H.out.2.2.1 (by simp)⟩, (HC1.out.drewN _).mono (by simp)⟩
            · have t1d : decide (tp < 0) = false := decide_eq_false t1
              have t2d : decide (tp > 4096) = true := decide_eq_true (by omega)
              clear ht
              go_enter Tryd.func42, Tryd.ntmps42
              go_wp2_with (first | (go_at_call 34; refine HT.out.mono ?_; rintro e w1 ⟨rfl, hC1⟩; have HC1 := Lib.hid hC1; obtain ⟨_, _, _, c3⟩ := ((H.out.1.calm H.out.2.1).calm hC1).cF hn; obtain ⟨_, n1, n2⟩ := ((H.out.1.calm H.out.2.1).calm hC1).cN hm; rw [hd, if_neg (by simp)] at n1; rw [HV.out] at n2; rw [HX.out] at c3; have cf1 := cell_chg hC1 (by simp) cf; have cr1 := cell_chg hC1 (by simp) cr; have cb1 := cell_chg hC1 (by simp) cb; have z := fun i => ((H.out.1.calm H.out.2.1).calm hC1).frz i; have bp1 := hC1.blk H.out.2.2.1 (by simp); have cp1 := cellB bp1 (i := 0) (v := .int .i64 0) rfl; have zp1 := frozenB bp1 0; clear bp1 hC1) | (go_at_call 25; refine (nofc 21 _).mono ?_; rintro e w' ⟨rfl, rfl⟩) | (go_at_call 25; refine (nofc 22 _).mono ?_; rintro e w' ⟨rfl, rfl⟩) | (go_at_call 25; refine (notc 22 _).mono ?_; rintro e w' ⟨rfl, rfl⟩))
              go_quiet (fail)
              go_wp2_with (first | (go_at_call 34; refine HT.out.mono ?_; rintro e w1 ⟨rfl, hC1⟩; have HC1 := Lib.hid hC1; obtain ⟨_, _, _, c3⟩ := ((H.out.1.calm H.out.2.1).calm hC1).cF hn; obtain ⟨_, n1, n2⟩ := ((H.out.1.calm H.out.2.1).calm hC1).cN hm; rw [hd, if_neg (by simp)] at n1; rw [HV.out] at n2; rw [HX.out] at c3; have cf1 := cell_chg hC1 (by simp) cf; have cr1 := cell_chg hC1 (by simp) cr; have cb1 := cell_chg hC1 (by simp) cb; have z := fun i => ((H.out.1.calm H.out.2.1).calm hC1).frz i; have bp1 := hC1.blk H.out.2.2.1 (by simp); have cp1 := cellB bp1 (i := 0) (v := .int .i64 0) rfl; have zp1 := frozenB bp1 0; clear bp1 hC1) | (go_at_call 25; refine (nofc 21 _).mono ?_; rintro e w' ⟨rfl, rfl⟩) | (go_at_call 25; refine (nofc 22 _).mono ?_; rintro e w' ⟨rfl, rfl⟩) | (go_at_call 25; refine (notc 22 _).mono ?_; rintro e w' ⟨rfl, rfl⟩))
              exact ⟨rfl, ⟨rfl, (H.out.2.1.trans HC1.out).drewN _, (HC1.out.drewN _).blk H.out.2.2.1 (by simp)⟩, (HC1.out.drewN _).mono (by simp)⟩
          · rw [if_neg ht]
            have t1d : decide (tp < 0) = false := decide_eq_false (by omega)
            have t2d : decide (tp > 4096) = false := decide_eq_false (by omega)
            have HTO := Lib.hid (show 0 ≤ tp ∧ tp ≤ 4096 by omega)
            clear h hbad ht
            go_enter Tryd.func42, Tryd.ntmps42
            go_wp2_with (first | (go_at_call 34; refine HT.out.mono ?_; rintro e w1 ⟨rfl, hC1⟩; have HC1 := Lib.hid hC1; obtain ⟨_, _, _, c3⟩ := ((H.out.1.calm H.out.2.1).calm hC1).cF hn; obtain ⟨_, n1, n2⟩ := ((H.out.1.calm H.out.2.1).calm hC1).cN hm; rw [hd, if_neg (by simp)] at n1; rw [HV.out] at n2; rw [HX.out] at c3; have cf1 := cell_chg hC1 (by simp) cf; have cr1 := cell_chg hC1 (by simp) cr; have cb1 := cell_chg hC1 (by simp) cb; have z := fun i => ((H.out.1.calm H.out.2.1).calm hC1).frz i; have bp1 := hC1.blk H.out.2.2.1 (by simp); have cp1 := cellB bp1 (i := 0) (v := .int .i64 0) rfl; have zp1 := frozenB bp1 0; clear bp1 hC1) | (go_at_call 25; refine (nofc 21 _).mono ?_; rintro e w' ⟨rfl, rfl⟩) | (go_at_call 25; refine (nofc 22 _).mono ?_; rintro e w' ⟨rfl, rfl⟩))
            go_quiet (fail)
            go_wp2_with (first | (go_at_call 25; refine (nofc 21 _).mono ?_; rintro e w' ⟨rfl, rfl⟩) | (go_at_call 25; refine (nofc 22 _).mono ?_; rintro e w' ⟨rfl, rfl⟩))
            have hs0 : ∀ q : Nat, FStep w0 ((w1.drewN q).setCell ⟨bp, 0, none⟩ (.int .i64 tp)) fb mb vs f mb vs f := fun q => H.out.1.step (((H.out.2.1.trans HC1.out).drewN q).setCell _ _ (.inr H.out.2.2.2))
            have hh : ∀ q : Nat, (((w1.drewN q).setCell ⟨bp, 0, none⟩ (.int .i64 tp)).setCell ⟨fb, 192 + n * 4 + 3, none⟩ (.int .i64 tp)).heap[fb]? = some (.cells (fsCells (f.setF n ⟨op, nd, fg, tp⟩) mb vs) 57 (0, 0)) := fun q => by
              have e := fsCells_pos HFI.out.2 hn mb vs tp
              rw [HX.out] at e
              rw [← e]
              exact blk_setCell (hs0 q).at_.head _
            have hs := fun q => (hs0 q).trans ((hs0 q).at_.setFile (d := n) (x := ⟨op, nd, fg, tp⟩) ((Chg.refl _ _).setCell _ _ (.inl (by simp))) (hh q) (HFI.out.1 tp HTO.out.1 HTO.out.2))
            exact ⟨rfl, _, results_none rfl _ _ _, ⟨⟨_, rfl⟩, ⟨mb, vs, hs _⟩, blk_setCell_ne (blk_setCell ((HC1.out.drewN _).blk H.out.2.2.1 (by simp)) _) hbpf _⟩, (((HC1.out.mono (by simp)).drewN _).setCell _ _ (.inl (by simp))).setCell _ _ (.inl (by simp [blkF]))⟩

end Go.Proofs.YtkkjbnmfjhmobaaDoor
