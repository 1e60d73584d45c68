
/- Package sem: barriers: what they tell, Leave, Change, Copy, Same (written by wip/bar14.py). -/
import Derived.Test.YtknngbnkcbcanaaGreatSc
namespace Go.Proofs.YtknngbnkcbcanaaGreat
open Go.RowKit


abbrev BAt := PAt 60

theorem okBar : okTy 60 := by unfold okTy; decide

@[go_sem] theorem field_bar0 (x y : Value) (w : World) : (Instr.field 60 (.agg #[x, y]) 0).run Tryz.prog w = .ok (.agg #[x]) w := by kernel_rfl

@[go_sem] theorem field_bar1 (x y : Value) (w : World) : (Instr.field 60 (.agg #[x, y]) 1).run Tryz.prog w = .ok y w := by kernel_rfl

set_option maxRecDepth 100000 in
theorem bofc (cb ab mb : Nat) (N : Int) (L : WL) (M : Int) (w : World) (h : BAt w cb ab mb N L M) :
    Calls Tryz.prog 37 #[.pointer (some ⟨cb, 0, none⟩)] w fun e w' => e = .returned (.agg #[.pointer (some ⟨ab, 0, none⟩), .int .i64 M]) ∧ Chg [] w w' := by
  have c0 := cellB h.head (i := 0) rfl
  have c1 := cellB h.head (i := 1) rfl
  have hlt := h.lt.1
  clear h
  go_enter Tryz.func37, Tryz.ntmps37
  go_wp2
  refine bodyPost_ret (v := .agg #[.pointer (some ⟨ab, 0, none⟩), .int .i64 M]) (by simp [results, Tryz.results37, go_sem]) rfl ⟨rfl, ?_⟩
  exact (Chg.refl [] w).alloc _


def BNewP (V : Int) (w : World) (e : Ending) (w' : World) : Prop :=
  ∃ cb ab mb, e = .returned (.tuple #[.pointer (some ⟨cb, 0, none⟩), .int .i64 0]) ∧ w.heap.size ≤ cb ∧ w.heap.size ≤ ab ∧ w.heap.size ≤ mb ∧ BAt w' cb ab mb 0 [] V ∧ Chg [] w w'

set_option maxRecDepth 100000 in
theorem blenc (cb ab mb : Nat) (N : Int) (L : WL) (V : Int) (w : World) (h : BAt w cb ab mb N L V) :
    Calls Tryz.prog 40 #[.pointer (some ⟨cb, 0, none⟩)] w fun e w' => e = .returned (.int .i64 (L.length : Int)) ∧ Chg [] w w' := by
  have H := Lib.hid h
  clear h
  go_enter Tryz.func40, Tryz.ntmps40
  go_wp2_with fail
  refine (bofc cb ab mb N L V w H.out).mono ?_
  rintro e w1 ⟨rfl, hC⟩
  have HC := Lib.hid hC
  clear hC
  go_wp2_with fail
  refine (lnlenc ab mb N L w1 (H.out.calm HC.out).list).mono ?_
  rintro e w2 ⟨rfl, hC⟩
  go_wp2
  go_ret
  exact ⟨rfl, HC.out.trans hC⟩

set_option maxRecDepth 100000 in
theorem bleavec (cb ab mb : Nat) (N : Int) (L : WL) (V t : Int) (w : World) (h : BAt w cb ab mb N L V) :
    Calls Tryz.prog 31 #[.pointer (some ⟨cb, 0, none⟩), .int .i64 t] w fun e w' => e = .returned (.int .i64 (askR L t 1 true)) ∧ BAt w' cb ab mb N (lvL L t) V ∧ Chg [ab, mb] w w' := by
  have H := Lib.hid h
  clear h
  go_enter Tryz.func31, Tryz.ntmps31
  go_wp2_with fail
  refine (bofc cb ab mb N L V w H.out).mono ?_
  rintro e w1 ⟨rfl, hC⟩
  have HC := Lib.hid hC
  clear hC
  go_wp2_with fail
  refine (lnleavec ab mb N L t w1 (H.out.calm HC.out).list).mono ?_
  rintro e w2 ⟨rfl, hW, hC2⟩
  have H2 := Lib.hid (And.intro hW hC2)
  clear hW hC2
  go_wp2
  go_ret
  exact ⟨rfl, (H.out.calm HC.out).step H2.out.1 H2.out.2, (HC.out.mono (by simp)).trans H2.out.2⟩

set_option maxRecDepth 100000 in
theorem bchangec (cb ab mb : Nat) (N : Int) (L : WL) (V t p : Int) (w : World) (h : BAt w cb ab mb N L V) :
    Calls Tryz.prog 32 #[.pointer (some ⟨cb, 0, none⟩), .int .i64 t, .int .i64 p] w fun e w' => e = .returned (.int .i64 (askR L t p true)) ∧ BAt w' cb ab mb N (chgL L t p) V ∧ Chg [ab, mb] w w' := by
  have H := Lib.hid h
  clear h
  go_enter Tryz.func32, Tryz.ntmps32
  go_wp2_with fail
  refine (bofc cb ab mb N L V w H.out).mono ?_
  rintro e w1 ⟨rfl, hC⟩
  have HC := Lib.hid hC
  clear hC
  go_wp2_with fail
  refine (lnchangec ab mb N L t p w1 (H.out.calm HC.out).list).mono ?_
  rintro e w2 ⟨rfl, hW, hC2⟩
  have H2 := Lib.hid (And.intro hW hC2)
  clear hW hC2
  go_wp2
  go_ret
  exact ⟨rfl, (H.out.calm HC.out).step H2.out.1 H2.out.2, (HC.out.mono (by simp)).trans H2.out.2⟩

set_option maxRecDepth 100000 in
set_option maxHeartbeats 1000000 in
theorem bcopyc (cb ab mb : Nat) (N : Int) (L : WL) (M : Int) (w : World) (h : BAt w cb ab mb N L M) :
    Calls Tryz.prog 33 #[.pointer (some ⟨cb, 0, none⟩)] w (PCopyP 60 N L M w) := by
  have H := Lib.hid h
  clear h
  go_enter Tryz.func33, Tryz.ntmps33
  go_wp2_with fail
  refine (bofc cb ab mb N L M w H.out).mono ?_
  rintro e w1 ⟨rfl, hC⟩
  have hh := (H.out.calm hC).head
  have c0 := cellB hh (i := 0) rfl
  have c1 := cellB hh (i := 1) rfl
  have H1 := Lib.hid (And.intro hC (And.intro hh (H.out.calm hC).list))
  clear hC hh
  go_wp2
  have HP := Lib.hid (H1.out.2.2.kept ((Chg.refl [] w1).drew) (by simp) (by simp))
  go_region_held3 (fun w' => w'.cell? ⟨cb, 0, none⟩ = some (.pointer (some ⟨ab, 0, none⟩)) ∧ w'.cell? ⟨cb, 1, none⟩ = some (.int .i64 M)) (first | exact ⟨c0, c1⟩ | exact ⟨x0, x1⟩ | exact ⟨cellB (blk_alloc hb2 _) rfl, cellB (blk_alloc hb2 _) rfl⟩)
    (first
    | (go_at_call 51; refine (copyc ab mb N L _ HP.out).mono ?_; rintro e w2 ⟨a1, m1, rfl, ha1, hm1, hW2, hC2⟩; have hb2 := (((Chg.refl [] w1).drew).trans hC2).blk H1.out.2.1 (by simp); have x0 := cellB hb2 (i := 0) rfl; have x1 := cellB hb2 (i := 1) rfl))
  have hC3 : Chg [] w2 (w2.alloc (.cells #[.pointer (some ⟨a1, 0, none⟩), .int .i64 M] 60)) := (Chg.refl _ _).alloc _
  have H2 := Lib.hid (And.intro (hW2.kept hC3 (by simp) (by simp)) (And.intro ((H1.out.1.drew.trans hC2).trans hC3) (And.intro (Nat.le_trans H1.out.1.size ha1) (And.intro (Nat.le_trans H1.out.1.size hm1) (H1.out.1.drew.trans hC2).size))))
  clear hW2 hC2 ha1 hm1 hC3 hb2
  go_wp2
  go_ret
  exact ⟨w2.heap.size, a1, m1, rfl, H2.out.2.2.2.2, H2.out.2.2.1, H2.out.2.2.2.1, ⟨heap_alloc_eq w2 _, H2.out.1, okBar⟩, H2.out.2.1⟩

set_option maxRecDepth 100000 in
set_option maxHeartbeats 1000000 in
theorem bsamec (c1 a1 m1 c2 a2 m2 : Nat) (N1 N2 : Int) (L1 L2 : WL) (V1 V2 : Int) (w : World) (h1 : BAt w c1 a1 m1 N1 L1 V1) (h2 : BAt w c2 a2 m2 N2 L2 V2) :
    Calls Tryz.prog 12 #[.pointer (some ⟨c1, 0, none⟩), .pointer (some ⟨c2, 0, none⟩)] w fun e w' => e = .returned (.bool (decide (V1 = V2) && decide (L1 = L2))) ∧ Chg [] w w' := by
  have H := Lib.hid (And.intro h1 h2)
  clear h1 h2
  by_cases hm : V1 = V2
  · subst hm
    rw [decide_eq_true rfl, Bool.true_and]
    obtain ⟨d, hd⟩ : ∃ d, d = decide (L1 = L2) := ⟨_, rfl⟩
    have HS := Lib.hid (fun (W : World) (hA : WAt W a1 m1 N1 L1) (hB : WAt W a2 m2 N2 L2) => samec a1 m1 a2 m2 N1 N2 L1 L2 W hA hB)
    rw [← hd] at HS ⊢
    have HD := Lib.hid hd
    clear hd
    have hx : (V1 == V1) = true := by simp
    go_enter Tryz.func12, Tryz.ntmps12
    go_wp2_with fail
    refine (bofc c1 a1 m1 N1 L1 V1 w H.out.1).mono ?_
    rintro e w1 ⟨rfl, hC⟩
    have HA := Lib.hid hC
    clear hC
    go_wp2_with fail
    refine (bofc c2 a2 m2 N2 L2 V1 w1 (H.out.2.calm HA.out)).mono ?_
    rintro e w2 ⟨rfl, hC⟩
    have hB := HA.out.trans hC
    have HB := Lib.hid (And.intro ((hB.alloc (.cells #[.pointer (some ⟨a1, 0, none⟩), .int .i64 V1] 60)).alloc (.cells #[.pointer (some ⟨a2, 0, none⟩), .int .i64 V1] 60)) True.intro)
    clear hC HA hB
    go_wp2_with fail
    refine (HS.out _ (H.out.1.calm HB.out.1).list (H.out.2.calm HB.out.1).list).mono ?_
    rintro e w5 ⟨rfl, hC⟩
    have HA := Lib.hid (HB.out.1.trans hC)
    clear hC HB
    go_wp2
    go_ret
    exact ⟨rfl, HA.out⟩
  · rw [decide_eq_false hm, Bool.false_and]
    have hx : (V1 == V2) = false := by simpa using hm
    clear hm
    go_enter Tryz.func12, Tryz.ntmps12
    go_wp2_with fail
    refine (bofc c1 a1 m1 N1 L1 V1 w H.out.1).mono ?_
    rintro e w1 ⟨rfl, hC⟩
    have HA := Lib.hid hC
    clear hC
    go_wp2_with fail
    refine (bofc c2 a2 m2 N2 L2 V2 w1 (H.out.2.calm HA.out)).mono ?_
    rintro e w2 ⟨rfl, hC⟩
    have hB := HA.out.trans hC
    have HB := Lib.hid (And.intro ((hB.alloc (.cells #[.pointer (some ⟨a1, 0, none⟩), .int .i64 V1] 60)).alloc (.cells #[.pointer (some ⟨a2, 0, none⟩), .int .i64 V2] 60)) True.intro)
    clear hC HA hB
    go_wp2
    go_ret
    exact ⟨rfl, HB.out.1⟩

end Go.Proofs.YtknngbnkcbcanaaGreat
