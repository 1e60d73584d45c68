
/- metronomelaw14.SemSame answers true, whatever the values and the steps (written by wip/same14.py). -/
import Derived.Test.YtknngbnkcbcanaaGreatSOp
import Derived.Test.YtknngbnkcbcanaaGreatRow
namespace Go.Proofs.YtknngbnkcbcanaaGreat
open Go.RowKit

/-- Four objects, apart from each other: two semaphores (a, b), two barriers (c, d). -/
structure SS (B : Nat) (W : World) (a b c d : Pc) : Prop where
  A : a.at 52 58 W
  B2 : b.at 52 58 W
  C : c.at 60 62 W
  D : d.at 60 62 W
  ab : ∀ x ∈ a.bs, x ∉ b.bs
  ac : ∀ x ∈ a.bs, x ∉ c.bs
  ad : ∀ x ∈ a.bs, x ∉ d.bs
  bc : ∀ x ∈ b.bs, x ∉ c.bs
  bd : ∀ x ∈ b.bs, x ∉ d.bs
  cd : ∀ x ∈ c.bs, x ∉ d.bs
  ga : ∀ x ∈ a.bs, B ≤ x
  gb : ∀ x ∈ b.bs, B ≤ x
  gc : ∀ x ∈ c.bs, B ≤ x
  gd : ∀ x ∈ d.bs, B ≤ x

theorem SS.swap {B : Nat} {W : World} {a b c d : Pc} (h : SS B W a b c d) : SS B W b a d c :=
  ⟨h.B2, h.A, h.D, h.C, fun x hx hy => h.ab x hy hx, h.bd, h.bc, h.ad, h.ac, fun x hx hy => h.cd x hy hx, h.gb, h.ga, h.gd, h.gc⟩
theorem SS.calm {B : Nat} {W W' : World} {a b c d : Pc} (h : SS B W a b c d) (hC : Chg [] W W') : SS B W' a b c d :=
  ⟨h.A.calm hC, h.B2.calm hC, h.C.calm hC, h.D.calm hC, h.ab, h.ac, h.ad, h.bc, h.bd, h.cd, h.ga, h.gb, h.gc, h.gd⟩
/-- The first semaphore takes a step. -/
theorem SS.stepA {B : Nat} {W W' : World} {a b c d a' : Pc} (h : SS B W a b c d) (hB : B ≤ W.heap.size) (ha : a'.at 52 58 W') (hn : ∀ x ∈ a'.bs, x ∈ a.bs ∨ W.heap.size ≤ x) (hC : Chg a.bs W W') : SS B W' a' b c d :=
  ⟨ha, h.B2.kept hC (fun k hk => ⟨h.A.notW k hk, h.ab k hk⟩), h.C.kept hC (fun k hk => ⟨h.A.notW k hk, h.ac k hk⟩), h.D.kept hC (fun k hk => ⟨h.A.notW k hk, h.ad k hk⟩),
    fun x hx hy => by rcases hn x hx with h1 | h1; exact h.ab x h1 hy; have := h.B2.lt x hy; omega,
    fun x hx hy => by rcases hn x hx with h1 | h1; exact h.ac x h1 hy; have := h.C.lt x hy; omega,
    fun x hx hy => by rcases hn x hx with h1 | h1; exact h.ad x h1 hy; have := h.D.lt x hy; omega,
    h.bc, h.bd, h.cd, fun x hx => by rcases hn x hx with h1 | h1; exact h.ga x h1; omega, h.gb, h.gc, h.gd⟩
/-- The first barrier takes a step. -/
theorem SS.stepC {B : Nat} {W W' : World} {a b c d c' : Pc} (h : SS B W a b c d) (hB : B ≤ W.heap.size) (hc : c'.at 60 62 W') (hn : ∀ x ∈ c'.bs, x ∈ c.bs ∨ W.heap.size ≤ x) (hC : Chg c.bs W W') : SS B W' a b c' d :=
  ⟨h.A.kept hC (fun k hk => ⟨h.C.notW k hk, fun e => h.ac k e hk⟩), h.B2.kept hC (fun k hk => ⟨h.C.notW k hk, fun e => h.bc k e hk⟩), hc, h.D.kept hC (fun k hk => ⟨h.C.notW k hk, h.cd k hk⟩),
    h.ab, fun x hx hy => by rcases hn x hy with h1 | h1; exact h.ac x hx h1; have := h.A.lt x hx; omega,
    h.ad, fun x hx hy => by rcases hn x hy with h1 | h1; exact h.bc x hx h1; have := h.B2.lt x hx; omega,
    h.bd, fun x hx hy => by rcases hn x hx with h1 | h1; exact h.cd x h1 hy; have := h.D.lt x hy; omega,
    h.ga, h.gb, fun x hx => by rcases hn x hx with h1 | h1; exact h.gc x h1; omega, h.gd⟩
theorem SS.chgA {B : Nat} {w W W' : World} {a b c d : Pc} (h : SS B W a b c d) (hB : B = w.heap.size) (hG : Chg [] w W) (hC : Chg a.bs W W') : Chg [] w W' := hG.trans' hC (fun k hk => .inr (by have := h.ga k hk; omega))
theorem SS.chgC {B : Nat} {w W W' : World} {a b c d : Pc} (h : SS B W a b c d) (hB : B = w.heap.size) (hG : Chg [] w W) (hC : Chg c.bs W W') : Chg [] w W' := hG.trans' hC (fun k hk => .inr (by have := h.gc k hk; omega))

def semIn (c : Pc) (m : Int) : Prop := c.on = true → 0 ≤ c.V ∧ c.V ≤ 32767 ∧ c.N ≤ m
def barIn (c : Pc) (m : Int) : Prop := c.on = true → (c.L.length : Int) < c.V ∧ c.V ≤ 16 ∧ c.N ≤ m

def PcDo (T U : TypeId) (c : Pc) (Q : Pc → Prop) (w : World) (e : Ending) (w' : World) : Prop :=
  ∃ c' : Pc, e = .returned (.tuple #[.pointer c'.px, .pointer c'.pr, .bool true]) ∧ c'.on = true ∧ c'.at T U w' ∧ (∀ x ∈ c'.bs, x ∈ c.bs ∨ w.heap.size ≤ x) ∧ Q c' ∧ Chg c.bs w w'

theorem pc_of {T U : TypeId} {c : Pc} {cb ab mb rc rb : Nat} {N : Int} {L : WL} {V : Int} {Q : Pc → Prop} {w : World} (h3 : c.bs = [cb, ab, mb, rc, rb]) {e : Ending} {w' : World} (hd : PDoP T U cb ab mb rc rb N L V w e w')
    (hQ : ∀ cx px bs, Q ⟨true, cx, px, bs, N, L, V⟩) : PcDo T U c Q w e w' := by
  obtain ⟨cb', ab', mb', rb', rfl, ha, hr, hW, hC⟩ := hd
  refine ⟨⟨true, some ⟨cb', 0, none⟩, some ⟨rc, 0, none⟩, [cb', ab', mb', rc, rb'], N, L, V⟩, rfl, rfl, .inr ⟨rfl, cb', ab', mb', rc, rb', rfl, rfl, rfl, hW⟩, fun x hx => ?_, hQ _ _ _, by rw [h3]; exact hC⟩
  rw [h3]
  simp at hx ⊢
  omega

theorem pdo_sem (c : Pc) (k t p m : Int) (w : World) (h : c.at 52 58 w) (hon : c.on = true) (hi : semIn c m) (hm : m < 4611686018427380000) :
    Calls Tryz.prog 8 #[.pointer c.px, .pointer c.pr, .agg #[.int .i64 k, .int .i64 t, .int .i64 p]] w (PcDo 52 58 c (fun c' => semIn c' (m + 2)) w) := by
  obtain ⟨i1, i2, i3⟩ := hi hon
  rcases h with ⟨h0, _⟩ | ⟨h0, cb, ab, mb, rc, rb, h1, h2, h3, h4⟩
  · rw [hon] at h0; cases h0
  · rw [h1, h2]
    refine (sdoc cb ab mb rc rb c.N c.L c.V k t p w h4 (by omega) i1 i2).mono fun e w' hd => pc_of h3 hd (fun _ _ _ _ => ⟨(sstV_in i1 i2).1, (sstV_in i1 i2).2, ?_⟩)
    show c.N + 2 ≤ m + 2
    omega
theorem pdo_bar (c : Pc) (k t p m : Int) (w : World) (h : c.at 60 62 w) (hon : c.on = true) (hi : barIn c m) (hm : m < 4611686018427380000) :
    Calls Tryz.prog 9 #[.pointer c.px, .pointer c.pr, .agg #[.int .i64 k, .int .i64 t, .int .i64 p]] w (PcDo 60 62 c (fun c' => barIn c' (m + 4)) w) := by
  obtain ⟨i1, i2, i3⟩ := hi hon
  rcases h with ⟨h0, _⟩ | ⟨h0, cb, ab, mb, rc, rb, h1, h2, h3, h4⟩
  · rw [hon] at h0; cases h0
  · rw [h1, h2]
    refine (bdoc cb ab mb rc rb c.N c.L c.V k t p w h4 (by omega) i1 i2).mono fun e w' hd => pc_of h3 hd (fun _ _ _ _ => ⟨bstL_in i1, i2, ?_⟩)
    show c.N + 4 ≤ m + 4
    omega
theorem Pc.at.some {T U : TypeId} {c : Pc} {W : World} (h : c.at T U W) : (c.on = false ∧ c.px = none ∧ c.pr = none) ∨ (c.on = true ∧ ∃ a b, c.px = some a ∧ c.pr = some b) := by
  rcases h with ⟨a, b, c, _⟩ | ⟨h0, cb, ab, mb, rc, rb, h1, h2, _⟩
  · exact .inl ⟨a, b, c⟩
  · exact .inr ⟨h0, _, _, h1, h2⟩

theorem onew_sem (V : Int) (w : World) : Calls Tryz.prog 4 #[.int .i64 V] w fun e w' => ∃ (px : Option Addr) (r : Int), e = .returned (.tuple #[.pointer px, .int .i64 r]) ∧ Chg [] w w' ∧ ((px = none ∧ (V < 0 ∨ 32767 < V)) ∨ (0 ≤ V ∧ V ≤ 32767 ∧ ∃ cb ab mb, px = some ⟨cb, 0, none⟩ ∧ w.heap.size ≤ cb ∧ w.heap.size ≤ ab ∧ w.heap.size ≤ mb ∧ SAt w' cb ab mb 0 [] V)) := by
  by_cases h : 0 ≤ V ∧ V ≤ 32767
  · refine (snewc V w h.1 h.2).mono ?_
    rintro e w' ⟨cb, ab, mb, rfl, h1, h2, h3, h4, h5⟩
    exact ⟨_, 0, rfl, h5, .inr ⟨h.1, h.2, cb, ab, mb, rfl, h1, h2, h3, h4⟩⟩
  · refine (snew_no V w (by omega)).mono ?_
    rintro e w' ⟨rfl, rfl⟩
    exact ⟨none, 2, rfl, Chg.refl _ _, .inl ⟨rfl, by omega⟩⟩
theorem onew_bar (V : Int) (w : World) : Calls Tryz.prog 6 #[.int .i64 V] w fun e w' => ∃ (px : Option Addr) (r : Int), e = .returned (.tuple #[.pointer px, .int .i64 r]) ∧ Chg [] w w' ∧ ((px = none ∧ (V < 1 ∨ 16 < V)) ∨ (1 ≤ V ∧ V ≤ 16 ∧ ∃ cb ab mb, px = some ⟨cb, 0, none⟩ ∧ w.heap.size ≤ cb ∧ w.heap.size ≤ ab ∧ w.heap.size ≤ mb ∧ BAt w' cb ab mb 0 [] V)) := by
  by_cases h : 1 ≤ V ∧ V ≤ 16
  · refine (bnewc V w h.1 h.2).mono ?_
    rintro e w' ⟨cb, ab, mb, rfl, h1, h2, h3, h4, h5⟩
    exact ⟨_, 0, rfl, h5, .inr ⟨h.1, h.2, cb, ab, mb, rfl, h1, h2, h3, h4⟩⟩
  · refine (bnew_no V w (by omega)).mono ?_
    rintro e w' ⟨rfl, rfl⟩
    exact ⟨none, 2, rfl, Chg.refl _ _, .inl ⟨rfl, by omega⟩⟩
theorem onew_rsem (V : Int) (w : World) : Calls Tryz.prog 5 #[.int .i64 V] w fun e w' => ∃ (pr : Option Addr), e = .returned (.pointer pr) ∧ Chg [] w w' ∧ ((pr = none ∧ (V < 0 ∨ 32767 < V)) ∨ (0 ≤ V ∧ V ≤ 32767 ∧ ∃ rc rb, pr = some ⟨rc, 0, none⟩ ∧ w.heap.size ≤ rc ∧ w.heap.size ≤ rb ∧ RSAt w' rc rb [] V)) := by
  by_cases h : 0 ≤ V ∧ V ≤ 32767
  · refine (rsnewc V w h.1 h.2).mono ?_
    rintro e w' ⟨rc, rb, rfl, h1, h2, h3, h4⟩
    exact ⟨_, rfl, h4, .inr ⟨h.1, h.2, rc, rb, rfl, h1, h2, h3⟩⟩
  · refine (rsnew_no V w (by omega)).mono ?_
    rintro e w' ⟨rfl, rfl⟩
    exact ⟨none, rfl, Chg.refl _ _, .inl ⟨rfl, by omega⟩⟩
theorem onew_rbar (V : Int) (w : World) : Calls Tryz.prog 7 #[.int .i64 V] w fun e w' => ∃ (pr : Option Addr), e = .returned (.pointer pr) ∧ Chg [] w w' ∧ ((pr = none ∧ (V < 1 ∨ 16 < V)) ∨ (1 ≤ V ∧ V ≤ 16 ∧ ∃ rc rb, pr = some ⟨rc, 0, none⟩ ∧ w.heap.size ≤ rc ∧ w.heap.size ≤ rb ∧ QAt 62 w' rc rb [] V)) := by
  by_cases h : 1 ≤ V ∧ V ≤ 16
  · refine (rbnewc V w h.1 h.2).mono ?_
    rintro e w' ⟨rc, rb, rfl, h1, h2, h3, h4⟩
    exact ⟨_, rfl, h4, .inr ⟨h.1, h.2, rc, rb, rfl, h1, h2, h3⟩⟩
  · refine (rbnew_no V w (by omega)).mono ?_
    rintro e w' ⟨rfl, rfl⟩
    exact ⟨none, rfl, Chg.refl _ _, .inl ⟨rfl, by omega⟩⟩

/-- A pair as it is made: the program's object at world W1 (made from W0 on), the document's at world W3 (made from W2 on). -/
theorem pc_made {T U : TypeId} (hTU : T ≠ U) {V lo hi : Int} {px pr : Option Addr} {W0 W1 W2 W3 W4 : World}
    (h1 : (px = none ∧ (V < lo ∨ hi < V)) ∨ (lo ≤ V ∧ V ≤ hi ∧ ∃ cb ab mb, px = some ⟨cb, 0, none⟩ ∧ W0.heap.size ≤ cb ∧ W0.heap.size ≤ ab ∧ W0.heap.size ≤ mb ∧ PAt T W1 cb ab mb 0 [] V)) (hC1 : Chg [] W1 W2)
    (h2 : (pr = none ∧ (V < lo ∨ hi < V)) ∨ (lo ≤ V ∧ V ≤ hi ∧ ∃ rc rb, pr = some ⟨rc, 0, none⟩ ∧ W2.heap.size ≤ rc ∧ W2.heap.size ≤ rb ∧ QAt U W3 rc rb [] V)) (hC2 : Chg [] W2 W3) (hC3 : Chg [] W3 W4) :
    ∃ c : Pc, c.px = px ∧ c.pr = pr ∧ c.at T U W4 ∧ c.N = 0 ∧ c.L = [] ∧ c.V = V ∧ (c.on = true → lo ≤ V ∧ V ≤ hi) ∧ (∀ x ∈ c.bs, (W0.heap.size ≤ x ∧ x < W1.heap.size) ∨ (W2.heap.size ≤ x ∧ x < W3.heap.size)) := by
  rcases h1 with ⟨rfl, h⟩ | ⟨v0, v1, cb, ab, mb, rfl, g1, g2, g3, g4⟩
  · rcases h2 with ⟨rfl, _⟩ | ⟨v0, v1, _⟩
    · exact ⟨⟨false, none, none, [], 0, [], V⟩, rfl, rfl, .inl ⟨rfl, rfl, rfl, rfl⟩, rfl, rfl, rfl, fun h => by (cases h), fun x hx => by (cases hx)⟩
    · omega
  · rcases h2 with ⟨rfl, _⟩ | ⟨_, _, rc, rb, rfl, k1, k2, k3⟩
    · omega
    · refine ⟨⟨true, _, _, [cb, ab, mb, rc, rb], 0, [], V⟩, rfl, rfl, .inr ⟨rfl, cb, ab, mb, rc, rb, rfl, rfl, rfl, ⟨g4.calm (hC1.trans (hC2.trans hC3)), k3.calm hC3, hTU⟩⟩, rfl, rfl, rfl, fun _ => ⟨v0, v1⟩, fun x hx => ?_⟩
      have l1 := g4.lt
      have l2 := k3.lt
      simp at hx
      omega

theorem oSame_self (c : Pc) : oSame c c = true := by
  unfold oSame
  cases c.on
  · rfl
  · simp

set_option maxRecDepth 100000 in
set_option maxHeartbeats 8000000 in
theorem semSame_any (n0 n1 : Int) (v u : Value) (R S : List (Nat → Int)) (w : World) (hv : IsRows 3 w v R) (hu : IsRows 3 w u S) :
    Calls Tryz.prog 3 #[.agg #[.int .i64 n0, .int .i64 n1], v, u] w fun e w' => e = .returned (.bool true) ∧ Chg [] w w' := by
  obtain ⟨a, cap, rfl⟩ := hv.slice
  obtain ⟨b, cap2, rfl⟩ := hu.slice
  have HV := Lib.hid (And.intro hv hu)
  clear hv hu
  have hCX : Chg [] w (w.alloc (.cells #[.int .i64 n0, .int .i64 n1] 22)) := (Chg.refl [] w).alloc _
  have hbX := heap_alloc_eq w (.cells #[.int .i64 n0, .int .i64 n1] 22)
  have c0 := cellB hbX (i := 0) rfl
  have HX := Lib.hid (And.intro hbX hCX)
  clear hbX hCX
  go_enter Tryz.func3, Tryz.ntmps3
  go_wp2_with fail
  refine (onew_sem n0 (w.alloc (.cells #[.int .i64 n0, .int .i64 n1] 22))).mono ?_
  rintro e w1 ⟨x1, r1, rfl, hC1, h1⟩
  have hb1 := hC1.blk HX.out.1 (by simp)
  have c1 := cellB hb1 (i := 1) rfl
  have H1 := Lib.hid (And.intro h1 (And.intro hC1 hb1))
  clear h1 hC1 hb1 c0
  go_wp2_with fail
  refine (onew_sem n1 w1).mono ?_
  rintro e w2 ⟨x2, r2, rfl, hC2, h2⟩
  have hb2 := hC2.blk H1.out.2.2 (by simp)
  have a0 := cellB hb2 (i := 0) rfl
  have a1 := cellB hb2 (i := 1) rfl
  have H2 := Lib.hid (And.intro h2 (And.intro hC2 hb2))
  clear h2 hC2 hb2 c1
  go_wp2
  go_region_held3 (fun w' => w'.cell? ⟨w.heap.size, 0, none⟩ = some (.int .i64 n0) ∧ w'.cell? ⟨w.heap.size, 1, none⟩ = some (.int .i64 n1)) (first | exact ⟨a0, a1⟩ | exact ⟨b0, b1⟩ | exact ⟨e0, e1⟩)
    (first
    | (have tk := a0; go_at_call 5; refine (onew_rsem n0 w2.drew).mono ?_; rintro e w3 ⟨p1, rfl, hC3, h3⟩; have hb3 := (show Chg [] w2 w3 from ⟨hC3.os, hC3.tape, hC3.output, hC3.size, hC3.block⟩).blk H2.out.2.2 (by simp); have b0 := cellB hb3 (i := 0) rfl; have b1 := cellB hb3 (i := 1) rfl; clear a0 a1 tk)
    | (have tk := b0; go_at_call 5; refine (onew_rsem n1 w3).mono ?_; rintro e w4 ⟨p2, rfl, hC4, h4⟩; have hb4 := hC4.blk hb3 (by simp); have e0 := cellB hb4 (i := 0) rfl; have e1 := cellB hb4 (i := 1) rfl; clear b0 b1 tk))
  have H3 := Lib.hid (And.intro h3 (And.intro (show Chg [] w2 w3 from ⟨hC3.os, hC3.tape, hC3.output, hC3.size, hC3.block⟩) hb3))
  have H4 := Lib.hid (And.intro h4 (And.intro hC4 hb4))
  clear h3 hC3 hb3 h4 hC4 hb4 e1
  go_wp2_with fail
  refine (onew_bar n0 w4).mono ?_
  rintro e w5 ⟨x3, r3, rfl, hC5, h5⟩
  have hb5 := hC5.blk H4.out.2.2 (by simp)
  have c1 := cellB hb5 (i := 1) rfl
  have H5 := Lib.hid (And.intro h5 (And.intro hC5 hb5))
  clear h5 hC5 hb5 e0
  go_wp2_with fail
  refine (onew_bar n1 w5).mono ?_
  rintro e w6 ⟨x4, r4, rfl, hC6, h6⟩
  have hb6 := hC6.blk H5.out.2.2 (by simp)
  have a0 := cellB hb6 (i := 0) rfl
  have a1 := cellB hb6 (i := 1) rfl
  have H6 := Lib.hid (And.intro h6 (And.intro hC6 hb6))
  clear h6 hC6 hb6 c1
  go_wp2
  go_region_held3 (fun w' => w'.cell? ⟨w.heap.size, 0, none⟩ = some (.int .i64 n0) ∧ w'.cell? ⟨w.heap.size, 1, none⟩ = some (.int .i64 n1)) (first | exact ⟨a0, a1⟩ | exact ⟨b0, b1⟩ | exact ⟨e0, e1⟩)
    (first
    | (have tk := a0; go_at_call 7; refine (onew_rbar n0 w6.drew).mono ?_; rintro e w7 ⟨p3, rfl, hC7, h7⟩; have hb7 := (show Chg [] w6 w7 from ⟨hC7.os, hC7.tape, hC7.output, hC7.size, hC7.block⟩).blk H6.out.2.2 (by simp); have b0 := cellB hb7 (i := 0) rfl; have b1 := cellB hb7 (i := 1) rfl; clear a0 a1 tk)
    | (have tk := b0; go_at_call 7; refine (onew_rbar n1 w7).mono ?_; rintro e w8 ⟨p4, rfl, hC8, h8⟩; have hb8 := hC8.blk hb7 (by simp); have e0 := cellB hb8 (i := 0) rfl; have e1 := cellB hb8 (i := 1) rfl; clear b0 b1 tk))
  have H7 := Lib.hid (And.intro h7 (show Chg [] w6 w7 from ⟨hC7.os, hC7.tape, hC7.output, hC7.size, hC7.block⟩))
  have H8 := Lib.hid (And.intro h8 hC8)
  clear h7 hC7 hb7 h8 hC8 hb8 e1 e0
  have k48 := (H5.out.2.1.trans H6.out.2.1).trans (H7.out.2.trans H8.out.2)
  obtain ⟨a, ea1, ea2, ea3, ea4, ea5, ea6, ea7, ea8⟩ := pc_made semNe H1.out.1 H2.out.2.1 H3.out.1 H3.out.2.1 (H4.out.2.1.trans k48)
  obtain ⟨b, eb1, eb2, eb3, eb4, eb5, eb6, eb7, eb8⟩ := pc_made semNe H2.out.1 H3.out.2.1 H4.out.1 H4.out.2.1 k48
  obtain ⟨c, ec1, ec2, ec3, ec4, ec5, ec6, ec7, ec8⟩ := pc_made barNe H5.out.1 H6.out.2.1 H7.out.1 H7.out.2 H8.out.2
  obtain ⟨d, ed1, ed2, ed3, ed4, ed5, ed6, ed7, ed8⟩ := pc_made barNe H6.out.1 H7.out.2 H8.out.1 H8.out.2 (Chg.refl [] w8)
  have s0 : w.heap.size ≤ (w.alloc (.cells #[.int .i64 n0, .int .i64 n1] 22)).heap.size := HX.out.2.size
  have s1 := H1.out.2.1.size
  have s2 := H2.out.2.1.size
  have s3 := H3.out.2.1.size
  have s4 := H4.out.2.1.size
  have s5 := H5.out.2.1.size
  have s6 := H6.out.2.1.size
  have s7 := H7.out.2.size
  have s8 := H8.out.2.size
  have s2d : w2.drew.heap.size = w2.heap.size := rfl
  have s6d : w6.drew.heap.size = w6.heap.size := rfl
  have HS := Lib.hid (And.intro (show SS w.heap.size w8 a b c d from ⟨ea3, eb3, ec3, ed3,
    fun x hx hy => by have := ea8 x hx; have := eb8 x hy; omega, fun x hx hy => by have := ea8 x hx; have := ec8 x hy; omega, fun x hx hy => by have := ea8 x hx; have := ed8 x hy; omega,
    fun x hx hy => by have := eb8 x hx; have := ec8 x hy; omega, fun x hx hy => by have := eb8 x hx; have := ed8 x hy; omega, fun x hx hy => by have := ec8 x hx; have := ed8 x hy; omega,
    fun x hx => by have := ea8 x hx; omega, fun x hx => by have := eb8 x hx; omega, fun x hx => by have := ec8 x hx; omega, fun x hx => by have := ed8 x hx; omega⟩)
    (And.intro (((HX.out.2.trans H1.out.2.1).trans H2.out.2.1).trans ((H3.out.2.1.trans H4.out.2.1).trans k48))
    (And.intro (show semIn a 0 from fun h => by have := ea7 h; omega) (And.intro (show semIn b 0 from fun h => by have := eb7 h; omega) (And.intro (show barIn c 0 from fun h => by have := ec7 h; rw [ec5, ec4, ec6]; simp; omega) (show barIn d 0 from fun h => by have := ed7 h; rw [ed5, ed4, ed6]; simp; omega))))))
  obtain rfl := ea1
  obtain rfl := ea2
  obtain rfl := eb1
  obtain rfl := eb2
  obtain rfl := ec1
  obtain rfl := ec2
  obtain rfl := ed1
  obtain rfl := ed2
  clear H1 H2 H3 H4 H5 H6 H7 H8 HX k48 ea3 eb3 ec3 ed3 ea4 eb4 ec4 ed4 ea5 eb5 ec5 ed5 ea6 eb6 ec6 ed6 ea7 eb7 ec7 ed7 ea8 eb8 ec8 ed8 s0 s1 s2 s3 s4 s5 s6 s7 s8 s2d s6d
  go_wp2
  go_loopw [7, 11, 13, 17, 19, 20, 21] (fun x p u q ok is i wr => ∃ (k : Nat) (a c : Pc), k ≤ R.length ∧ k ≤ 60 ∧ x = .pointer a.px ∧ p = .pointer a.pr ∧ u = .pointer c.px ∧ q = .pointer c.pr ∧ ok = .bool true ∧ is = .bool true ∧ i = .int .i64 k ∧ SS w.heap.size wr a b c d ∧ Chg [] w wr ∧ semIn a (2 * k) ∧ barIn c (4 * k)) (fun _ _ _ _ _ _ i _ => 60 - (intOf i).toNat)
  case atStart => exact ⟨0, a, c, by omega, by omega, rfl, rfl, rfl, rfl, rfl, rfl, rfl, HS.out.1, HS.out.2.1, HS.out.2.2.1, HS.out.2.2.2.2.1⟩
  case round =>
    have HB := Lib.hid (And.intro HS.out.2.2.2.1 HS.out.2.2.2.2.2)
    clear HS
    obtain ⟨k, a, c, hk1, hk2, rfl, rfl, rfl, rfl, rfl, rfl, rfl, hS, hG, hi1, hi2⟩ := hrel
    have HK := Lib.hid (And.intro hS (And.intro hG (And.intro hi1 hi2)))
    clear hS hG hi1 hi2
    have hcase : (k < R.length ∧ k < 60) ∨ (¬ k < R.length) ∨ (k < R.length ∧ ¬ k < 60) := by omega
    rcases hcase with ⟨hlt, hlt2⟩ | hlt | ⟨hlt, hlt2⟩
    · have hne : R ≠ [] := fun e => by rw [e] at hlt; simp at hlt
      obtain ⟨g, o, cap', hsl, hcells⟩ := HV.out.1.addr hne
      cases hsl
      obtain ⟨x, hx⟩ : ∃ x, R[k]? = some x := ⟨_, List.getElem?_eq_getElem hlt⟩
      have hrow := fun (W : World) (hC : Chg [] w W) => IsRows.row hcells hC hx
      have e0 : ∀ W : World, Chg [] w W → W.cell? ⟨g, o + k * 3, none⟩ = some (.int .i64 (x 0)) := fun W hC => hrow W hC 0 (by omega)
      have e1 : ∀ W : World, Chg [] w W → W.cell? ⟨g, o + k * 3 + 1, none⟩ = some (.int .i64 (x 1)) := fun W hC => hrow W hC 1 (by omega)
      have e2 : ∀ W : World, Chg [] w W → W.cell? ⟨g, o + k * 3 + 2, none⟩ = some (.int .i64 (x 2)) := fun W hC => hrow W hC 2 (by omega)
      generalize x 0 = kd at *
      generalize x 1 = t at *
      generalize x 2 = p at *
      have HE := Lib.hid (And.intro e0 (And.intro e1 e2))
      clear hcells hrow hx hne e0 e1 e2
      have d0 := HE.out.1 _ HK.out.2.1
      have d1 := HE.out.2.1 _ HK.out.2.1
      have d2 := HE.out.2.2 _ HK.out.2.1
      rcases HK.out.1.A.some with ⟨hon, hpx, hpr⟩ | ⟨hon, pa, pb, hpx, hpr⟩
      all_goals
        rcases HK.out.1.C.some with ⟨hon2, hpx2, hpr2⟩ | ⟨hon2, pc, pd, hpx2, hpr2⟩
      · have HP := Lib.hid (And.intro (And.intro hon (And.intro hpx hpr)) (And.intro hon2 (And.intro hpx2 hpr2)))
        rw [hpx, hpr, hpx2, hpr2]
        clear hpx hpr hpx2 hpr2 hon hon2
        clear d0 d1 d2
        go_wp2
        go_roundw
        case rel => exact ⟨k + 1, a, c, by omega, by omega, by rw [HP.out.1.2.1], by rw [HP.out.1.2.2], by rw [HP.out.2.2.1], by rw [HP.out.2.2.2], rfl, rfl, by go_num, HK.out.1, HK.out.2.1, (fun h => by have := HK.out.2.2.1 h; exact ⟨this.1, this.2.1, by have := this.2.2; omega⟩), (fun h => by have := HK.out.2.2.2 h; exact ⟨this.1, this.2.1, by have := this.2.2; omega⟩)⟩
        case measure => simp [intOf]; omega
      · have HP := Lib.hid (And.intro (And.intro hon (And.intro hpx hpr)) (And.intro hon2 (And.intro hpx2 hpr2)))
        rw [hpx, hpr, hpx2, hpr2]
        clear hpx hpr hpx2 hpr2 hon hon2
        have hd := pdo_bar c kd t p (4 * k) wr HK.out.1.C HP.out.2.1 HK.out.2.2.2 (by omega)
        rw [HP.out.2.2.1, HP.out.2.2.2] at hd
        have HD := Lib.hid hd
        clear hd
        go_wp2_with fail
        refine HD.out.mono ?_
        rintro e w5 ⟨c', rfl, ha1, ha2, ha3, ha4, hC⟩
        have HM := Lib.hid (And.intro (HK.out.1.stepC HK.out.2.1.size ha2 ha3 hC) (And.intro (HK.out.1.chgC rfl HK.out.2.1 hC) ha4))
        clear ha1 ha2 ha3 ha4 hC d0 d1 d2 HD
        go_wp2
        go_roundw
        case rel => exact ⟨k + 1, a, c', by omega, by omega, by rw [HP.out.1.2.1], by rw [HP.out.1.2.2], rfl, rfl, rfl, rfl, by go_num, HM.out.1, HM.out.2.1, (fun h => by have := HK.out.2.2.1 h; exact ⟨this.1, this.2.1, by have := this.2.2; omega⟩), (fun h => by have := HM.out.2.2 h; exact ⟨this.1, this.2.1, by have := this.2.2; omega⟩)⟩
        case measure => simp [intOf]; omega
      · have HP := Lib.hid (And.intro (And.intro hon (And.intro hpx hpr)) (And.intro hon2 (And.intro hpx2 hpr2)))
        rw [hpx, hpr, hpx2, hpr2]
        have hd := pdo_sem a kd t p (2 * k) wr HK.out.1.A hon HK.out.2.2.1 (by omega)
        rw [hpx, hpr] at hd
        have HD := Lib.hid hd
        clear hd hpx hpr hpx2 hpr2 hon hon2
        go_wp2_with fail
        refine HD.out.mono ?_
        rintro e w4 ⟨a', rfl, ha1, ha2, ha3, ha4, hC⟩
        have HN := Lib.hid (And.intro (HK.out.1.stepA HK.out.2.1.size ha2 ha3 hC) (And.intro (HK.out.1.chgA rfl HK.out.2.1 hC) ha4))
        clear ha1 ha2 ha3 ha4 hC d0 d1 d2 HD
        have d0 := HE.out.1 _ HN.out.2.1
        have d1 := HE.out.2.1 _ HN.out.2.1
        have d2 := HE.out.2.2 _ HN.out.2.1
        clear d0 d1 d2
        go_wp2
        go_roundw
        case rel => exact ⟨k + 1, a', c, by omega, by omega, rfl, rfl, by rw [HP.out.2.2.1], by rw [HP.out.2.2.2], rfl, rfl, by go_num, HN.out.1, HN.out.2.1, (fun h => by have := HN.out.2.2 h; exact ⟨this.1, this.2.1, by have := this.2.2; omega⟩), (fun h => by have := HK.out.2.2.2 h; exact ⟨this.1, this.2.1, by have := this.2.2; omega⟩)⟩
        case measure => simp [intOf]; omega
      · have HP := Lib.hid (And.intro (And.intro hon (And.intro hpx hpr)) (And.intro hon2 (And.intro hpx2 hpr2)))
        rw [hpx, hpr, hpx2, hpr2]
        have hd := pdo_sem a kd t p (2 * k) wr HK.out.1.A hon HK.out.2.2.1 (by omega)
        rw [hpx, hpr] at hd
        have HD := Lib.hid hd
        clear hd hpx hpr hpx2 hpr2 hon hon2
        go_wp2_with fail
        refine HD.out.mono ?_
        rintro e w4 ⟨a', rfl, ha1, ha2, ha3, ha4, hC⟩
        have HN := Lib.hid (And.intro (HK.out.1.stepA HK.out.2.1.size ha2 ha3 hC) (And.intro (HK.out.1.chgA rfl HK.out.2.1 hC) ha4))
        clear ha1 ha2 ha3 ha4 hC d0 d1 d2 HD
        have d0 := HE.out.1 _ HN.out.2.1
        have d1 := HE.out.2.1 _ HN.out.2.1
        have d2 := HE.out.2.2 _ HN.out.2.1
        have hd := pdo_bar c kd t p (4 * k) w4 HN.out.1.C HP.out.2.1 HK.out.2.2.2 (by omega)
        rw [HP.out.2.2.1, HP.out.2.2.2] at hd
        have HD := Lib.hid hd
        clear hd
        go_wp2_with fail
        refine HD.out.mono ?_
        rintro e w5 ⟨c', rfl, ha1, ha2, ha3, ha4, hC⟩
        have HM := Lib.hid (And.intro (HN.out.1.stepC HN.out.2.1.size ha2 ha3 hC) (And.intro (HN.out.1.chgC rfl HN.out.2.1 hC) ha4))
        clear ha1 ha2 ha3 ha4 hC d0 d1 d2 HD
        go_wp2
        go_roundw
        case rel => exact ⟨k + 1, a', c', by omega, by omega, rfl, rfl, rfl, rfl, rfl, rfl, by go_num, HM.out.1, HM.out.2.1, (fun h => by have := HN.out.2.2 h; exact ⟨this.1, this.2.1, by have := this.2.2; omega⟩), (fun h => by have := HM.out.2.2 h; exact ⟨this.1, this.2.1, by have := this.2.2; omega⟩)⟩
        case measure => simp [intOf]; omega
    all_goals
      obtain ⟨ma, hma⟩ : ∃ ma, ma = a.px := ⟨_, rfl⟩
      clear ma hma
      go_wp2
      go_loopw [9, 12, 15, 18, 19, 20, 22] (fun x p u q ok is i wr => ∃ (k : Nat) (b d : Pc), k ≤ S.length ∧ k ≤ 60 ∧ x = .pointer b.px ∧ p = .pointer b.pr ∧ u = .pointer d.px ∧ q = .pointer d.pr ∧ ok = .bool true ∧ is = .bool true ∧ i = .int .i64 k ∧ SS w.heap.size wr b a d c ∧ Chg [] w wr ∧ semIn b (2 * k) ∧ barIn d (4 * k)) (fun _ _ _ _ _ _ i _ => 60 - (intOf i).toNat)
      case atStart => exact ⟨0, b, d, by omega, by omega, rfl, rfl, rfl, rfl, rfl, rfl, rfl, HK.out.1.swap, HK.out.2.1, HB.out.1, HB.out.2⟩
      case round =>
        clear HK HB hlt
        try clear hlt2
        clear hk1 hk2
        obtain ⟨k, b, d, hk1, hk2, rfl, rfl, rfl, rfl, rfl, rfl, rfl, hS, hG, hi1, hi2⟩ := hrel
        have HK := Lib.hid (And.intro hS (And.intro hG (And.intro hi1 hi2)))
        clear hS hG hi1 hi2
        have hcase : (k < S.length ∧ k < 60) ∨ (¬ k < S.length) ∨ (k < S.length ∧ ¬ k < 60) := by omega
        rcases hcase with ⟨hlt, hlt2⟩ | hlt | ⟨hlt, hlt2⟩
        · have hne : S ≠ [] := fun e => by rw [e] at hlt; simp at hlt
          obtain ⟨g, o, cap', hsl, hcells⟩ := HV.out.2.addr hne
          cases hsl
          obtain ⟨x, hx⟩ : ∃ x, S[k]? = some x := ⟨_, List.getElem?_eq_getElem hlt⟩
          have hrow := fun (W : World) (hC : Chg [] w W) => IsRows.row hcells hC hx
          have e0 : ∀ W : World, Chg [] w W → W.cell? ⟨g, o + k * 3, none⟩ = some (.int .i64 (x 0)) := fun W hC => hrow W hC 0 (by omega)
          have e1 : ∀ W : World, Chg [] w W → W.cell? ⟨g, o + k * 3 + 1, none⟩ = some (.int .i64 (x 1)) := fun W hC => hrow W hC 1 (by omega)
          have e2 : ∀ W : World, Chg [] w W → W.cell? ⟨g, o + k * 3 + 2, none⟩ = some (.int .i64 (x 2)) := fun W hC => hrow W hC 2 (by omega)
          generalize x 0 = kd at *
          generalize x 1 = t at *
          generalize x 2 = p at *
          have HE := Lib.hid (And.intro e0 (And.intro e1 e2))
          clear hcells hrow hx hne e0 e1 e2
          have d0 := HE.out.1 _ HK.out.2.1
          have d1 := HE.out.2.1 _ HK.out.2.1
          have d2 := HE.out.2.2 _ HK.out.2.1
          rcases HK.out.1.A.some with ⟨hon, hpx, hpr⟩ | ⟨hon, pa, pb, hpx, hpr⟩
          all_goals
            rcases HK.out.1.C.some with ⟨hon2, hpx2, hpr2⟩ | ⟨hon2, pc, pd, hpx2, hpr2⟩
          · have HP := Lib.hid (And.intro (And.intro hon (And.intro hpx hpr)) (And.intro hon2 (And.intro hpx2 hpr2)))
            rw [hpx, hpr, hpx2, hpr2]
            clear hpx hpr hpx2 hpr2 hon hon2
            clear d0 d1 d2
            go_wp2
            go_roundw
            case rel => exact ⟨k + 1, b, d, by omega, by omega, by rw [HP.out.1.2.1], by rw [HP.out.1.2.2], by rw [HP.out.2.2.1], by rw [HP.out.2.2.2], rfl, rfl, by go_num, HK.out.1, HK.out.2.1, (fun h => by have := HK.out.2.2.1 h; exact ⟨this.1, this.2.1, by have := this.2.2; omega⟩), (fun h => by have := HK.out.2.2.2 h; exact ⟨this.1, this.2.1, by have := this.2.2; omega⟩)⟩
            case measure => simp [intOf]; omega
          · have HP := Lib.hid (And.intro (And.intro hon (And.intro hpx hpr)) (And.intro hon2 (And.intro hpx2 hpr2)))
            rw [hpx, hpr, hpx2, hpr2]
            clear hpx hpr hpx2 hpr2 hon hon2
            have hd := pdo_bar d kd t p (4 * k) wr HK.out.1.C HP.out.2.1 HK.out.2.2.2 (by omega)
            rw [HP.out.2.2.1, HP.out.2.2.2] at hd
            have HD := Lib.hid hd
            clear hd
            go_wp2_with fail
            refine HD.out.mono ?_
            rintro e w5 ⟨c', rfl, ha1, ha2, ha3, ha4, hC⟩
            have HM := Lib.hid (And.intro (HK.out.1.stepC HK.out.2.1.size ha2 ha3 hC) (And.intro (HK.out.1.chgC rfl HK.out.2.1 hC) ha4))
            clear ha1 ha2 ha3 ha4 hC d0 d1 d2 HD
            go_wp2
            go_roundw
            case rel => exact ⟨k + 1, b, c', by omega, by omega, by rw [HP.out.1.2.1], by rw [HP.out.1.2.2], rfl, rfl, rfl, rfl, by go_num, HM.out.1, HM.out.2.1, (fun h => by have := HK.out.2.2.1 h; exact ⟨this.1, this.2.1, by have := this.2.2; omega⟩), (fun h => by have := HM.out.2.2 h; exact ⟨this.1, this.2.1, by have := this.2.2; omega⟩)⟩
            case measure => simp [intOf]; omega
          · have HP := Lib.hid (And.intro (And.intro hon (And.intro hpx hpr)) (And.intro hon2 (And.intro hpx2 hpr2)))
            rw [hpx, hpr, hpx2, hpr2]
            have hd := pdo_sem b kd t p (2 * k) wr HK.out.1.A hon HK.out.2.2.1 (by omega)
            rw [hpx, hpr] at hd
            have HD := Lib.hid hd
            clear hd hpx hpr hpx2 hpr2 hon hon2
            go_wp2_with fail
            refine HD.out.mono ?_
            rintro e w4 ⟨a', rfl, ha1, ha2, ha3, ha4, hC⟩
            have HN := Lib.hid (And.intro (HK.out.1.stepA HK.out.2.1.size ha2 ha3 hC) (And.intro (HK.out.1.chgA rfl HK.out.2.1 hC) ha4))
            clear ha1 ha2 ha3 ha4 hC d0 d1 d2 HD
            have d0 := HE.out.1 _ HN.out.2.1
            have d1 := HE.out.2.1 _ HN.out.2.1
            have d2 := HE.out.2.2 _ HN.out.2.1
            clear d0 d1 d2
            go_wp2
            go_roundw
            case rel => exact ⟨k + 1, a', d, by omega, by omega, rfl, rfl, by rw [HP.out.2.2.1], by rw [HP.out.2.2.2], rfl, rfl, by go_num, HN.out.1, HN.out.2.1, (fun h => by have := HN.out.2.2 h; exact ⟨this.1, this.2.1, by have := this.2.2; omega⟩), (fun h => by have := HK.out.2.2.2 h; exact ⟨this.1, this.2.1, by have := this.2.2; omega⟩)⟩
            case measure => simp [intOf]; omega
          · have HP := Lib.hid (And.intro (And.intro hon (And.intro hpx hpr)) (And.intro hon2 (And.intro hpx2 hpr2)))
            rw [hpx, hpr, hpx2, hpr2]
            have hd := pdo_sem b kd t p (2 * k) wr HK.out.1.A hon HK.out.2.2.1 (by omega)
            rw [hpx, hpr] at hd
            have HD := Lib.hid hd
            clear hd hpx hpr hpx2 hpr2 hon hon2
            go_wp2_with fail
            refine HD.out.mono ?_
            rintro e w4 ⟨a', rfl, ha1, ha2, ha3, ha4, hC⟩
            have HN := Lib.hid (And.intro (HK.out.1.stepA HK.out.2.1.size ha2 ha3 hC) (And.intro (HK.out.1.chgA rfl HK.out.2.1 hC) ha4))
            clear ha1 ha2 ha3 ha4 hC d0 d1 d2 HD
            have d0 := HE.out.1 _ HN.out.2.1
            have d1 := HE.out.2.1 _ HN.out.2.1
            have d2 := HE.out.2.2 _ HN.out.2.1
            have hd := pdo_bar d kd t p (4 * k) w4 HN.out.1.C HP.out.2.1 HK.out.2.2.2 (by omega)
            rw [HP.out.2.2.1, HP.out.2.2.2] at hd
            have HD := Lib.hid hd
            clear hd
            go_wp2_with fail
            refine HD.out.mono ?_
            rintro e w5 ⟨c', rfl, ha1, ha2, ha3, ha4, hC⟩
            have HM := Lib.hid (And.intro (HN.out.1.stepC HN.out.2.1.size ha2 ha3 hC) (And.intro (HN.out.1.chgC rfl HN.out.2.1 hC) ha4))
            clear ha1 ha2 ha3 ha4 hC d0 d1 d2 HD
            go_wp2
            go_roundw
            case rel => exact ⟨k + 1, a', c', by omega, by omega, rfl, rfl, rfl, rfl, rfl, rfl, by go_num, HM.out.1, HM.out.2.1, (fun h => by have := HN.out.2.2 h; exact ⟨this.1, this.2.1, by have := this.2.2; omega⟩), (fun h => by have := HM.out.2.2 h; exact ⟨this.1, this.2.1, by have := this.2.2; omega⟩)⟩
            case measure => simp [intOf]; omega
        all_goals
          have e1 : (oSame a b == oSame a b) = true := by simp
          have e2 : (oSame c d == oSame c d) = true := by simp
          go_wp2_with fail
          refine (ossame a b wr HK.out.1.B2 HK.out.1.A).mono ?_
          rintro e w5 ⟨rfl, hC⟩
          have H5 := Lib.hid (And.intro (HK.out.1.calm hC) (HK.out.2.1.trans hC))
          clear hC
          go_wp2_with fail
          refine (osrsame a b w5 H5.out.1.B2 H5.out.1.A).mono ?_
          rintro e w6 ⟨rfl, hC⟩
          have H6 := Lib.hid (And.intro (H5.out.1.calm hC) (H5.out.2.trans hC))
          clear hC H5
          go_wp2_with fail
          refine (obsame c d w6 H6.out.1.D H6.out.1.C).mono ?_
          rintro e w7 ⟨rfl, hC⟩
          have H7 := Lib.hid (And.intro (H6.out.1.calm hC) (H6.out.2.trans hC))
          clear hC H6
          go_wp2_with fail
          refine (obrsame c d w7 H7.out.1.D H7.out.1.C).mono ?_
          rintro e w8 ⟨rfl, hC⟩
          have H8 := Lib.hid (And.intro (H7.out.1.calm hC) (H7.out.2.trans hC))
          clear hC H7
          go_wp2_with fail
          refine (ossame a a w8 H8.out.1.B2 H8.out.1.B2).mono ?_
          rintro e w9 ⟨rfl, hC⟩
          rw [oSame_self a]
          have H9 := Lib.hid (H8.out.2.trans hC)
          clear hC
          go_wp2_with fail
          refine (known14 w9).mono ?_
          rintro e w10 ⟨rfl, hC⟩
          have H10 := Lib.hid (H9.out.trans hC)
          clear hC
          go_wp2
          go_ret
          exact ⟨rfl, H10.out⟩

end Go.Proofs.YtknngbnkcbcanaaGreat
