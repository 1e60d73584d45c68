
/- Same, of what is there or not: package sem, metronomeref14 (written by wip/sop14.py). -/
import Derived.Test.YtknngbnkcbcanaaGreatWz
import Derived.Test.YtknngbnkcbcanaaGreatSKnown
namespace Go.Proofs.YtknngbnkcbcanaaGreat
open Go.RowKit

set_option maxRecDepth 100000 in
theorem nil_same1' (ab mb : Nat) (N : Int) (L : WL) (w : World) (h : WAt w ab mb N L) : Calls Tryz.prog 35 #[.pointer none, .pointer (some ⟨ab, 0, none⟩)] w fun e w' => e = .returned (.bool false) ∧ w = w' := by
  have hT : ∀ a : Option Addr, a = some ⟨ab, 0, none⟩ ∨ a = none → Calls Tryz.prog 56 #[.pointer a] w fun e w' => e = .returned (.bool a.isSome) ∧ w = w' := by
    rintro a (rfl | rfl)
    · exact h.yes
    · exact nil_there w
  have HT := Lib.hid hT
  clear h hT
  go_enter Tryz.func35, Tryz.ntmps35
  go_wp2_with (go_at_call 56; refine (HT.out _ (by first | exact .inl rfl | exact .inr rfl)).mono ?_; rintro e w' ⟨rfl, rfl⟩; simp only [Option.isSome_some, Option.isSome_none])
  go_ret
  exact ⟨rfl, rfl⟩

/-- One object, there or not. -/
structure Pc where
  on : Bool
  px : Option Addr
  pr : Option Addr
  bs : List Nat
  N : Int
  L : WL
  V : Int
/-- It is so in a world. -/
def Pc.at (T U : TypeId) (c : Pc) (W : World) : Prop :=
  (c.on = false ∧ c.px = none ∧ c.pr = none ∧ c.bs = []) ∨ (c.on = true ∧ ∃ cb ab mb rc rb, c.px = some ⟨cb, 0, none⟩ ∧ c.pr = some ⟨rc, 0, none⟩ ∧ c.bs = [cb, ab, mb, rc, rb] ∧ PB T U W cb ab mb rc rb c.N c.L c.V)

theorem Pc.at.kept {T U : TypeId} {c : Pc} {S : List Nat} {W W' : World} (h : c.at T U W) (hC : Chg S W W') (hS : ∀ k ∈ S, NotW W k ∧ k ∉ c.bs) : c.at T U W' := by
  rcases h with h | ⟨h0, cb, ab, mb, rc, rb, h1, h2, h3, h4⟩
  · exact .inl h
  · exact .inr ⟨h0, cb, ab, mb, rc, rb, h1, h2, h3, h4.kept hC (fun k hk => ⟨(hS k hk).1, fun j hj e => (hS k hk).2 (by rw [h3, e]; exact hj)⟩)⟩
theorem Pc.at.calm {T U : TypeId} {c : Pc} {W W' : World} (h : c.at T U W) (hC : Chg [] W W') : c.at T U W' := h.kept hC (by simp)
theorem Pc.at.notW {T U : TypeId} {c : Pc} {W : World} (h : c.at T U W) : ∀ k ∈ c.bs, NotW W k := by
  rcases h with ⟨_, _, _, h⟩ | ⟨h0, cb, ab, mb, rc, rb, h1, h2, h3, h4⟩
  · rw [h]; simp
  · rw [h3]; exact h4.notW
theorem Pc.at.lt {T U : TypeId} {c : Pc} {W : World} (h : c.at T U W) : ∀ k ∈ c.bs, k < W.heap.size := by
  rcases h with ⟨_, _, _, h⟩ | ⟨h0, cb, ab, mb, rc, rb, h1, h2, h3, h4⟩
  · rw [h]; simp
  · rw [h3]; exact h4.lt

/-- What Same answers of two. -/
def oSame (c d : Pc) : Bool := if c.on then (if d.on then (decide (c.V = d.V) && decide (c.L = d.L)) else false) else !d.on

set_option maxRecDepth 100000 in
theorem nsof0 (w : World) : Calls Tryz.prog 34 #[.pointer none] w fun e w' => e = .returned (.agg #[.pointer none, .int .i64 0]) ∧ Chg [] w w' := by
  go_enter Tryz.func34, Tryz.ntmps34
  go_wp2
  refine bodyPost_ret (v := .agg #[.pointer none, .int .i64 0]) (by simp [results, Tryz.results34, go_sem]) rfl ⟨rfl, ?_⟩
  exact (Chg.refl [] w).alloc _

set_option maxRecDepth 100000 in
theorem osNN (w : World) : Calls Tryz.prog 10 #[.pointer none, .pointer none] w fun e w' => e = .returned (.bool true) ∧ Chg [] w w' := by
  go_enter Tryz.func10, Tryz.ntmps10
  go_wp2_with fail
  refine (nsof0 w).mono ?_
  rintro e w1 ⟨rfl, hC⟩
  have HA := Lib.hid hC
  clear hC
  go_wp2_with fail
  refine (nsof0 w1).mono ?_
  rintro e w2 ⟨rfl, hC⟩
  have HB := Lib.hid (((HA.out.trans hC).alloc (.cells #[.pointer none, .int .i64 0] 52)).alloc (.cells #[.pointer none, .int .i64 0] 52))
  clear hC HA
  go_wp2_with fail
  refine (nil_same2 _).mono ?_
  rintro e w5 ⟨rfl, rfl⟩
  go_wp2
  go_ret
  exact ⟨rfl, HB.out⟩

set_option maxRecDepth 100000 in
theorem osSN (cb ab mb : Nat) (N : Int) (L : WL) (V : Int) (w : World) (h : PAt 52 w cb ab mb N L V) : Calls Tryz.prog 10 #[.pointer (some ⟨cb, 0, none⟩), .pointer none] w fun e w' => e = .returned (.bool false) ∧ Chg [] w w' := by
  have H := Lib.hid h
  clear h
  by_cases hV : V = 0
  · subst hV
    go_enter Tryz.func10, Tryz.ntmps10
    go_wp2_with fail
    refine (sofc cb ab mb N L _ w H.out).mono ?_
    rintro e w1 ⟨rfl, hC⟩
    have HA := Lib.hid hC
    clear hC
    go_wp2_with fail
    refine (nsof0 w1).mono ?_
    rintro e w2 ⟨rfl, hC⟩
    have HB := Lib.hid (((HA.out.trans hC).alloc (.cells #[.pointer (some ⟨ab, 0, none⟩), .int .i64 0] 52)).alloc (.cells #[.pointer none, .int .i64 0] 52))
    clear hC HA
    go_wp2_with fail
    refine (nil_same1 ab mb N L _ (H.out.calm HB.out).list).mono ?_
    rintro e w5 ⟨rfl, rfl⟩
    go_wp2
    go_ret
    exact ⟨rfl, HB.out⟩
  · have hx : (V == 0) = false := by simpa using hV
    clear hV
    go_enter Tryz.func10, Tryz.ntmps10
    go_wp2_with fail
    refine (sofc cb ab mb N L _ w H.out).mono ?_
    rintro e w1 ⟨rfl, hC⟩
    have HA := Lib.hid hC
    clear hC
    go_wp2_with fail
    refine (nsof0 w1).mono ?_
    rintro e w2 ⟨rfl, hC⟩
    have HB := Lib.hid (((HA.out.trans hC).alloc (.cells #[.pointer (some ⟨ab, 0, none⟩), .int .i64 V] 52)).alloc (.cells #[.pointer none, .int .i64 0] 52))
    clear hC HA
    go_wp2
    go_ret
    exact ⟨rfl, HB.out⟩

set_option maxRecDepth 100000 in
theorem osNS (cb ab mb : Nat) (N : Int) (L : WL) (V : Int) (w : World) (h : PAt 52 w cb ab mb N L V) : Calls Tryz.prog 10 #[.pointer none, .pointer (some ⟨cb, 0, none⟩)] w fun e w' => e = .returned (.bool false) ∧ Chg [] w w' := by
  have H := Lib.hid h
  clear h
  by_cases hV : V = 0
  · subst hV
    go_enter Tryz.func10, Tryz.ntmps10
    go_wp2_with fail
    refine (nsof0 w).mono ?_
    rintro e w1 ⟨rfl, hC⟩
    have HA := Lib.hid hC
    clear hC
    go_wp2_with fail
    refine (sofc cb ab mb N L _ w1 (H.out.calm HA.out)).mono ?_
    rintro e w2 ⟨rfl, hC⟩
    have HB := Lib.hid (((HA.out.trans hC).alloc (.cells #[.pointer none, .int .i64 0] 52)).alloc (.cells #[.pointer (some ⟨ab, 0, none⟩), .int .i64 0] 52))
    clear hC HA
    go_wp2_with fail
    refine (nil_same1' ab mb N L _ (H.out.calm HB.out).list).mono ?_
    rintro e w5 ⟨rfl, rfl⟩
    go_wp2
    go_ret
    exact ⟨rfl, HB.out⟩
  · have hx : ((0 : Int) == V) = false := by simpa using (fun e => hV e.symm : ¬ (0 : Int) = V)
    clear hV
    go_enter Tryz.func10, Tryz.ntmps10
    go_wp2_with fail
    refine (nsof0 w).mono ?_
    rintro e w1 ⟨rfl, hC⟩
    have HA := Lib.hid hC
    clear hC
    go_wp2_with fail
    refine (sofc cb ab mb N L _ w1 (H.out.calm HA.out)).mono ?_
    rintro e w2 ⟨rfl, hC⟩
    have HB := Lib.hid (((HA.out.trans hC).alloc (.cells #[.pointer none, .int .i64 0] 52)).alloc (.cells #[.pointer (some ⟨ab, 0, none⟩), .int .i64 V] 52))
    clear hC HA
    go_wp2
    go_ret
    exact ⟨rfl, HB.out⟩

theorem ossame (c d : Pc) (w : World) (hc : c.at 52 58 w) (hd : d.at 52 58 w) :
    Calls Tryz.prog 10 #[.pointer c.px, .pointer d.px] w fun e w' => e = .returned (.bool (oSame c d)) ∧ Chg [] w w' := by
  unfold oSame
  rcases hc with ⟨c0, c1, c2, c3⟩ | ⟨c0, cb, ab, mb, rc, rb, c1, c2, c3, c4⟩
  · rcases hd with ⟨d0, d1, d2, d3⟩ | ⟨d0, cb2, ab2, mb2, rc2, rb2, d1, d2, d3, d4⟩
    · rw [c0, d0, c1, d1]; exact osNN w
    · rw [c0, d0, c1, d1]; exact osNS cb2 ab2 mb2 d.N d.L d.V w d4.c
  · rcases hd with ⟨d0, d1, d2, d3⟩ | ⟨d0, cb2, ab2, mb2, rc2, rb2, d1, d2, d3, d4⟩
    · rw [c0, d0, c1, d1]; exact osSN cb ab mb c.N c.L c.V w c4.c
    · rw [c0, d0, c1, d1]; exact ssamec cb ab mb cb2 ab2 mb2 c.N d.N c.L d.L c.V d.V w c4.c d4.c

set_option maxRecDepth 100000 in
theorem rsNN (w : World) : Calls Tryz.prog 11 #[.pointer none, .pointer none] w fun e w' => e = .returned (.bool true) ∧ Chg [] w w' := by
  go_enter Tryz.func11, Tryz.ntmps11
  go_wp2
  go_ret
  exact ⟨rfl, Chg.refl _ _⟩
set_option maxRecDepth 100000 in
theorem rsSN (a : Addr) (w : World) : Calls Tryz.prog 11 #[.pointer (some a), .pointer none] w fun e w' => e = .returned (.bool false) ∧ Chg [] w w' := by
  go_enter Tryz.func11, Tryz.ntmps11
  go_wp2
  go_ret
  exact ⟨rfl, Chg.refl _ _⟩
set_option maxRecDepth 100000 in
theorem rsNS (a : Addr) (w : World) : Calls Tryz.prog 11 #[.pointer none, .pointer (some a)] w fun e w' => e = .returned (.bool false) ∧ Chg [] w w' := by
  go_enter Tryz.func11, Tryz.ntmps11
  go_wp2
  go_ret
  exact ⟨rfl, Chg.refl _ _⟩

set_option maxRecDepth 100000 in
set_option maxHeartbeats 1000000 in
theorem rssamec (c1 r1 c2 r2 : Nat) (L1 L2 : WL) (V1 V2 : Int) (w : World) (h1 : QAt 58 w c1 r1 L1 V1) (h2 : QAt 58 w c2 r2 L2 V2) (hl1 : L1.length ≤ 999999) (hl2 : L2.length ≤ 999999) :
    Calls Tryz.prog 11 #[.pointer (some ⟨c1, 0, none⟩), .pointer (some ⟨c2, 0, none⟩)] w fun e w' => e = .returned (.bool (decide (V1 = V2) && decide (L1 = L2))) ∧ Chg [] w w' := by
  have H := Lib.hid (And.intro h1 (And.intro h2 (And.intro hl1 hl2)))
  have x0 := cellB h1.head (i := 0) rfl
  have y0 := cellB h2.head (i := 0) rfl
  have x1 := cellB h1.head (i := 1) rfl
  have y1 := cellB h2.head (i := 1) rfl
  clear h1 h2 hl1 hl2
  by_cases hm : V1 = V2
  · subst hm
    rw [decide_eq_true rfl, Bool.true_and]
    have hx : (V1 == V1) = true := by simp
    have HS := Lib.hid (rsame r1 r2 L1 L2 w.drew (H.out.1.list.calm (Chg.refl [] w).drew) (H.out.2.1.list.calm (Chg.refl [] w).drew) (by have := H.out.2.2.1; omega) (by have := H.out.2.2.2; omega))
    obtain ⟨d, hd⟩ : ∃ d, d = decide (L1 = L2) := ⟨_, rfl⟩
    rw [← hd] at HS ⊢
    clear hd
    go_enter Tryz.func11, Tryz.ntmps11
    go_wp2
    go_region_held3 (fun w' => w'.cell? ⟨c1, 0, none⟩ = some (.int .i64 V1) ∧ w'.cell? ⟨c2, 0, none⟩ = some (.int .i64 V1) ∧ w'.cell? ⟨c1, 1, none⟩ = some (.pointer (some ⟨r1, 0, none⟩)) ∧ w'.cell? ⟨c2, 1, none⟩ = some (.pointer (some ⟨r2, 0, none⟩))) (first | exact ⟨x0, y0, x1, y1⟩ | exact ⟨u0, u1, u2, u3⟩)
      (first | (go_at_call 36; refine HS.out.mono ?_; rintro e w5 ⟨rfl, hC⟩; have HA := Lib.hid ((Chg.refl [] w).drew.trans hC); clear hC; have u0 := cellB (H.out.1.calm HA.out).head (i := 0) rfl; have u1 := cellB (H.out.2.1.calm HA.out).head (i := 0) rfl; have u2 := cellB (H.out.1.calm HA.out).head (i := 1) rfl; have u3 := cellB (H.out.2.1.calm HA.out).head (i := 1) rfl))
    go_wp2
    go_ret
    exact ⟨rfl, HA.out⟩
  · rw [decide_eq_false hm, Bool.false_and]
    have hx : (V1 == V2) = false := by simpa using hm
    clear hm
    go_enter Tryz.func11, Tryz.ntmps11
    go_wp2
    go_quiet (fail)
    go_wp2
    go_ret
    exact ⟨rfl, (Chg.refl [] w).drewN nq⟩

theorem osrsame (c d : Pc) (w : World) (hc : c.at 52 58 w) (hd : d.at 52 58 w) :
    Calls Tryz.prog 11 #[.pointer c.pr, .pointer d.pr] w fun e w' => e = .returned (.bool (oSame c d)) ∧ Chg [] w w' := by
  unfold oSame
  rcases hc with ⟨c0, c1, c2, c3⟩ | ⟨c0, cb, ab, mb, rc, rb, c1, c2, c3, c4⟩
  · rcases hd with ⟨d0, d1, d2, d3⟩ | ⟨d0, cb2, ab2, mb2, rc2, rb2, d1, d2, d3, d4⟩
    · rw [c0, d0, c2, d2]; exact rsNN w
    · rw [c0, d0, c2, d2]; exact rsNS _ w
  · rcases hd with ⟨d0, d1, d2, d3⟩ | ⟨d0, cb2, ab2, mb2, rc2, rb2, d1, d2, d3, d4⟩
    · rw [c0, d0, c2, d2]; exact rsSN _ w
    · rw [c0, d0, c2, d2]; exact rssamec rc rb rc2 rb2 c.L d.L c.V d.V w c4.r d4.r (by have := c4.c.list.facts.2.2; omega) (by have := d4.c.list.facts.2.2; omega)

set_option maxRecDepth 100000 in
theorem nbof0 (w : World) : Calls Tryz.prog 37 #[.pointer none] w fun e w' => e = .returned (.agg #[.pointer none, .int .i64 0]) ∧ Chg [] w w' := by
  go_enter Tryz.func37, Tryz.ntmps37
  go_wp2
  refine bodyPost_ret (v := .agg #[.pointer none, .int .i64 0]) (by simp [results, Tryz.results37, go_sem]) rfl ⟨rfl, ?_⟩
  exact (Chg.refl [] w).alloc _

set_option maxRecDepth 100000 in
theorem obNN (w : World) : Calls Tryz.prog 12 #[.pointer none, .pointer none] w fun e w' => e = .returned (.bool true) ∧ Chg [] w w' := by
  go_enter Tryz.func12, Tryz.ntmps12
  go_wp2_with fail
  refine (nbof0 w).mono ?_
  rintro e w1 ⟨rfl, hC⟩
  have HA := Lib.hid hC
  clear hC
  go_wp2_with fail
  refine (nbof0 w1).mono ?_
  rintro e w2 ⟨rfl, hC⟩
  have HB := Lib.hid (((HA.out.trans hC).alloc (.cells #[.pointer none, .int .i64 0] 60)).alloc (.cells #[.pointer none, .int .i64 0] 60))
  clear hC HA
  go_wp2_with fail
  refine (nil_same2 _).mono ?_
  rintro e w5 ⟨rfl, rfl⟩
  go_wp2
  go_ret
  exact ⟨rfl, HB.out⟩

set_option maxRecDepth 100000 in
theorem obSN (cb ab mb : Nat) (N : Int) (L : WL) (V : Int) (w : World) (h : PAt 60 w cb ab mb N L V) : Calls Tryz.prog 12 #[.pointer (some ⟨cb, 0, none⟩), .pointer none] w fun e w' => e = .returned (.bool false) ∧ Chg [] w w' := by
  have H := Lib.hid h
  clear h
  by_cases hV : V = 0
  · subst hV
    go_enter Tryz.func12, Tryz.ntmps12
    go_wp2_with fail
    refine (bofc cb ab mb N L _ w H.out).mono ?_
    rintro e w1 ⟨rfl, hC⟩
    have HA := Lib.hid hC
    clear hC
    go_wp2_with fail
    refine (nbof0 w1).mono ?_
    rintro e w2 ⟨rfl, hC⟩
    have HB := Lib.hid (((HA.out.trans hC).alloc (.cells #[.pointer (some ⟨ab, 0, none⟩), .int .i64 0] 60)).alloc (.cells #[.pointer none, .int .i64 0] 60))
    clear hC HA
    go_wp2_with fail
    refine (nil_same1 ab mb N L _ (H.out.calm HB.out).list).mono ?_
    rintro e w5 ⟨rfl, rfl⟩
    go_wp2
    go_ret
    exact ⟨rfl, HB.out⟩
  · have hx : (V == 0) = false := by simpa using hV
    clear hV
    go_enter Tryz.func12, Tryz.ntmps12
    go_wp2_with fail
    refine (bofc cb ab mb N L _ w H.out).mono ?_
    rintro e w1 ⟨rfl, hC⟩
    have HA := Lib.hid hC
    clear hC
    go_wp2_with fail
    refine (nbof0 w1).mono ?_
    rintro e w2 ⟨rfl, hC⟩
    have HB := Lib.hid (((HA.out.trans hC).alloc (.cells #[.pointer (some ⟨ab, 0, none⟩), .int .i64 V] 60)).alloc (.cells #[.pointer none, .int .i64 0] 60))
    clear hC HA
    go_wp2
    go_ret
    exact ⟨rfl, HB.out⟩

set_option maxRecDepth 100000 in
theorem obNS (cb ab mb : Nat) (N : Int) (L : WL) (V : Int) (w : World) (h : PAt 60 w cb ab mb N L V) : Calls Tryz.prog 12 #[.pointer none, .pointer (some ⟨cb, 0, none⟩)] w fun e w' => e = .returned (.bool false) ∧ Chg [] w w' := by
  have H := Lib.hid h
  clear h
  by_cases hV : V = 0
  · subst hV
    go_enter Tryz.func12, Tryz.ntmps12
    go_wp2_with fail
    refine (nbof0 w).mono ?_
    rintro e w1 ⟨rfl, hC⟩
    have HA := Lib.hid hC
    clear hC
    go_wp2_with fail
    refine (bofc cb ab mb N L _ w1 (H.out.calm HA.out)).mono ?_
    rintro e w2 ⟨rfl, hC⟩
    have HB := Lib.hid (((HA.out.trans hC).alloc (.cells #[.pointer none, .int .i64 0] 60)).alloc (.cells #[.pointer (some ⟨ab, 0, none⟩), .int .i64 0] 60))
    clear hC HA
    go_wp2_with fail
    refine (nil_same1' ab mb N L _ (H.out.calm HB.out).list).mono ?_
    rintro e w5 ⟨rfl, rfl⟩
    go_wp2
    go_ret
    exact ⟨rfl, HB.out⟩
  · have hx : ((0 : Int) == V) = false := by simpa using (fun e => hV e.symm : ¬ (0 : Int) = V)
    clear hV
    go_enter Tryz.func12, Tryz.ntmps12
    go_wp2_with fail
    refine (nbof0 w).mono ?_
    rintro e w1 ⟨rfl, hC⟩
    have HA := Lib.hid hC
    clear hC
    go_wp2_with fail
    refine (bofc cb ab mb N L _ w1 (H.out.calm HA.out)).mono ?_
    rintro e w2 ⟨rfl, hC⟩
    have HB := Lib.hid (((HA.out.trans hC).alloc (.cells #[.pointer none, .int .i64 0] 60)).alloc (.cells #[.pointer (some ⟨ab, 0, none⟩), .int .i64 V] 60))
    clear hC HA
    go_wp2
    go_ret
    exact ⟨rfl, HB.out⟩

theorem obsame (c d : Pc) (w : World) (hc : c.at 60 62 w) (hd : d.at 60 62 w) :
    Calls Tryz.prog 12 #[.pointer c.px, .pointer d.px] w fun e w' => e = .returned (.bool (oSame c d)) ∧ Chg [] w w' := by
  unfold oSame
  rcases hc with ⟨c0, c1, c2, c3⟩ | ⟨c0, cb, ab, mb, rc, rb, c1, c2, c3, c4⟩
  · rcases hd with ⟨d0, d1, d2, d3⟩ | ⟨d0, cb2, ab2, mb2, rc2, rb2, d1, d2, d3, d4⟩
    · rw [c0, d0, c1, d1]; exact obNN w
    · rw [c0, d0, c1, d1]; exact obNS cb2 ab2 mb2 d.N d.L d.V w d4.c
  · rcases hd with ⟨d0, d1, d2, d3⟩ | ⟨d0, cb2, ab2, mb2, rc2, rb2, d1, d2, d3, d4⟩
    · rw [c0, d0, c1, d1]; exact obSN cb ab mb c.N c.L c.V w c4.c
    · rw [c0, d0, c1, d1]; exact bsamec cb ab mb cb2 ab2 mb2 c.N d.N c.L d.L c.V d.V w c4.c d4.c

set_option maxRecDepth 100000 in
theorem rbNN (w : World) : Calls Tryz.prog 13 #[.pointer none, .pointer none] w fun e w' => e = .returned (.bool true) ∧ Chg [] w w' := by
  go_enter Tryz.func13, Tryz.ntmps13
  go_wp2
  go_ret
  exact ⟨rfl, Chg.refl _ _⟩
set_option maxRecDepth 100000 in
theorem rbSN (a : Addr) (w : World) : Calls Tryz.prog 13 #[.pointer (some a), .pointer none] w fun e w' => e = .returned (.bool false) ∧ Chg [] w w' := by
  go_enter Tryz.func13, Tryz.ntmps13
  go_wp2
  go_ret
  exact ⟨rfl, Chg.refl _ _⟩
set_option maxRecDepth 100000 in
theorem rbNS (a : Addr) (w : World) : Calls Tryz.prog 13 #[.pointer none, .pointer (some a)] w fun e w' => e = .returned (.bool false) ∧ Chg [] w w' := by
  go_enter Tryz.func13, Tryz.ntmps13
  go_wp2
  go_ret
  exact ⟨rfl, Chg.refl _ _⟩

set_option maxRecDepth 100000 in
set_option maxHeartbeats 1000000 in
theorem rbsamec (c1 r1 c2 r2 : Nat) (L1 L2 : WL) (V1 V2 : Int) (w : World) (h1 : QAt 62 w c1 r1 L1 V1) (h2 : QAt 62 w c2 r2 L2 V2) (hl1 : L1.length ≤ 999999) (hl2 : L2.length ≤ 999999) :
    Calls Tryz.prog 13 #[.pointer (some ⟨c1, 0, none⟩), .pointer (some ⟨c2, 0, none⟩)] w fun e w' => e = .returned (.bool (decide (V1 = V2) && decide (L1 = L2))) ∧ Chg [] w w' := by
  have H := Lib.hid (And.intro h1 (And.intro h2 (And.intro hl1 hl2)))
  have x0 := cellB h1.head (i := 0) rfl
  have y0 := cellB h2.head (i := 0) rfl
  have x1 := cellB h1.head (i := 1) rfl
  have y1 := cellB h2.head (i := 1) rfl
  clear h1 h2 hl1 hl2
  by_cases hm : V1 = V2
  · subst hm
    rw [decide_eq_true rfl, Bool.true_and]
    have hx : (V1 == V1) = true := by simp
    have HS := Lib.hid (rsame r1 r2 L1 L2 w.drew (H.out.1.list.calm (Chg.refl [] w).drew) (H.out.2.1.list.calm (Chg.refl [] w).drew) (by have := H.out.2.2.1; omega) (by have := H.out.2.2.2; omega))
    obtain ⟨d, hd⟩ : ∃ d, d = decide (L1 = L2) := ⟨_, rfl⟩
    rw [← hd] at HS ⊢
    clear hd
    go_enter Tryz.func13, Tryz.ntmps13
    go_wp2
    go_region_held3 (fun w' => w'.cell? ⟨c1, 0, none⟩ = some (.int .i64 V1) ∧ w'.cell? ⟨c2, 0, none⟩ = some (.int .i64 V1) ∧ w'.cell? ⟨c1, 1, none⟩ = some (.pointer (some ⟨r1, 0, none⟩)) ∧ w'.cell? ⟨c2, 1, none⟩ = some (.pointer (some ⟨r2, 0, none⟩))) (first | exact ⟨x0, y0, x1, y1⟩ | exact ⟨u0, u1, u2, u3⟩)
      (first | (go_at_call 36; refine HS.out.mono ?_; rintro e w5 ⟨rfl, hC⟩; have HA := Lib.hid ((Chg.refl [] w).drew.trans hC); clear hC; have u0 := cellB (H.out.1.calm HA.out).head (i := 0) rfl; have u1 := cellB (H.out.2.1.calm HA.out).head (i := 0) rfl; have u2 := cellB (H.out.1.calm HA.out).head (i := 1) rfl; have u3 := cellB (H.out.2.1.calm HA.out).head (i := 1) rfl))
    go_wp2
    go_ret
    exact ⟨rfl, HA.out⟩
  · rw [decide_eq_false hm, Bool.false_and]
    have hx : (V1 == V2) = false := by simpa using hm
    clear hm
    go_enter Tryz.func13, Tryz.ntmps13
    go_wp2
    go_quiet (fail)
    go_wp2
    go_ret
    exact ⟨rfl, (Chg.refl [] w).drewN nq⟩

theorem obrsame (c d : Pc) (w : World) (hc : c.at 60 62 w) (hd : d.at 60 62 w) :
    Calls Tryz.prog 13 #[.pointer c.pr, .pointer d.pr] w fun e w' => e = .returned (.bool (oSame c d)) ∧ Chg [] w w' := by
  unfold oSame
  rcases hc with ⟨c0, c1, c2, c3⟩ | ⟨c0, cb, ab, mb, rc, rb, c1, c2, c3, c4⟩
  · rcases hd with ⟨d0, d1, d2, d3⟩ | ⟨d0, cb2, ab2, mb2, rc2, rb2, d1, d2, d3, d4⟩
    · rw [c0, d0, c2, d2]; exact rbNN w
    · rw [c0, d0, c2, d2]; exact rbNS _ w
  · rcases hd with ⟨d0, d1, d2, d3⟩ | ⟨d0, cb2, ab2, mb2, rc2, rb2, d1, d2, d3, d4⟩
    · rw [c0, d0, c2, d2]; exact rbSN _ w
    · rw [c0, d0, c2, d2]; exact rbsamec rc rb rc2 rb2 c.L d.L c.V d.V w c4.r d4.r (by have := c4.c.list.facts.2.2; omega) (by have := d4.c.list.facts.2.2; omega)

end Go.Proofs.YtknngbnkcbcanaaGreat
