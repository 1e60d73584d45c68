
/- Package ramfs: stat, Stat: contracts. -/
import Derived.Test.YtkkjbnmfjhmobaaDoorFy
import Derived.Deep.RegionHeld3
namespace Go.Proofs.YtkkjbnmfjhmobaaDoor
open Go.RowKit

/-- What Stat says of a node. -/
def FS.statC (f : FS) (n : Nat) : Array Value := match (f.nodes.getD n nd0).dir with
  | some m => #[.int .i64 n, .bool true, .int .i64 m.length, .int .i64 1]
  | none => #[.int .i64 n, .bool false, .int .i64 (f.nodes.getD n nd0).b.length, .int .i64 (f.links n)]
set_option maxRecDepth 100000 in
set_option maxHeartbeats 4000000 in
theorem fstatnc (fb : Nat) (mb : Nat → Nat) (vs : Nat → Value) (f : FS) (n : Nat) (hn : n < 64) (w : World) (h : FAt w fb mb vs f) (hN : f.names < 4611686018427387904) : Calls Tryd.prog 49 #[.pointer (some ⟨fb, 0, none⟩), .int .i64 n] w fun e w' => e = .returned (.agg (f.statC n)) ∧ Chg [] w w' := by
  obtain ⟨w0, hw0⟩ : ∃ w0, w0 = w.alloc (.cells #[.int .i64 0, .bool false, .int .i64 0, .int .i64 0] 45 (0, 0)) := ⟨_, rfl⟩
  have hC0 : Chg [] w w0 := by rw [hw0]; exact (Chg.refl _ _).alloc _
  have hb0 : w0.heap[w.heap.size]? = some (.cells #[.int .i64 0, .bool false, .int .i64 0, .int .i64 0] 45 (0, 0)) := by rw [hw0]; exact heap_alloc_eq _ _
  have hD := fdirc fb mb vs f n hn w0 (h.calm hC0)
  have hLk := Lib.hid (fun W (hC : Chg [] w0 W) => (flinksc fb mb vs f n W (h.calm (hC0.trans hC)) hN).mono fun e w' ⟨h1, h2⟩ => (⟨h1, hC.trans h2⟩ : _ ∧ Chg [] w0 w'))
  have hnz : (n : Int) < 64 := by omega
  have H := Lib.hid (And.intro h (And.intro hC0 hb0))
  unfold FS.statC
  cases hd : (f.nodes.getD n nd0).dir with
  | some m =>
    have hid : f.isDir n = true := by unfold FS.isDir; rw [nd_of, hd]; rfl
    rw [hid] at hD
    have HD := Lib.hid hD
    have c1 := ((h.calm hC0).cN hn).2.1
    rw [hd] at c1
    simp only [Option.isSome_some, if_true] at c1
    have hln := sRun_len_P (P := Tryd.prog) Tryd.underlying49 ((h.calm hC0).mp n hn m hd) 3
    rw [show (namesV m).length = m.length from List.length_map _] at hln
    have HC := Lib.hid hC0
    clear hd hid hD h hN
    go_enter Tryd.func49, Tryd.ntmps49
    go_upto_region 1 with fail
    rw [← hw0]
    clear hw0
    have c2 := cellB hb0 (i := 0) rfl
    have c3 := cellB hb0 (i := 1) rfl
    have c4 := cellB hb0 (i := 2) rfl
    have c5 := cellB hb0 (i := 3) rfl
    have z2 := frozenB hb0
    go_wp2_with (go_at_call 29; refine HD.out.mono ?_; rintro e w' ⟨rfl, rfl⟩)
    have hb4 := blk_setCell (blk_setCell (blk_setCell (blk_setCell hb0 (i := 0) (.int .i64 n)) (i := 1) (.bool true)) (i := 2) (.int .i64 m.length)) (i := 3) (.int .i64 1)
    have d0 := cellB hb4 (i := 0) (v := .int .i64 n) rfl
    have d1 := cellB hb4 (i := 1) (v := .bool true) rfl
    have d2 := cellB hb4 (i := 2) (v := .int .i64 m.length) rfl
    have d3 := cellB hb4 (i := 3) (v := .int .i64 1) rfl
    refine bodyPost_ret (v := .agg #[.int .i64 n, .bool true, .int .i64 m.length, .int .i64 1]) ?_ rfl ⟨rfl, ?_⟩
    · simp [results, Tryd.results49, go_sem, d0, d1, d2, d3]
    · exact (((HC.out.setCell _ _ (.inr (Nat.le_refl _))).setCell _ _ (.inr (Nat.le_refl _))).setCell _ _ (.inr (Nat.le_refl _))).setCell _ _ (.inr (Nat.le_refl _))
  | none =>
    have hid : f.isDir n = false := by unfold FS.isDir; rw [nd_of, hd]; rfl
    rw [hid] at hD
    have HD := Lib.hid hD
    obtain ⟨a, cap, ev⟩ := own_slice (h.row n hn)
    have hne : fb ∉ [w.heap.size] := by have := lt_of_blk h.head; simp; omega
    have c1 := ((h.calm hC0).cN hn).2.2
    rw [ev] at c1
    have HC := Lib.hid hC0
    generalize (f.nodes.getD n nd0).b.length = bl at *
    generalize f.links n = lk at *
    clear hd hid hD h hN ev
    go_enter Tryd.func49, Tryd.ntmps49
    go_upto_region 1 with fail
    rw [← hw0]
    clear hw0
    go_wp2_with (go_at_call 29; refine HD.out.mono ?_; rintro e w' ⟨rfl, rfl⟩)
    go_region_held3 (fun w' => w'.cell? ⟨fb, n * 3 + 2, none⟩ = some (.slice a bl cap)) (first | exact c1 | exact cell_chg (((((Chg.refl [w.heap.size] _).setCell _ _ (.inl (List.mem_singleton.2 rfl))).setCell _ _ (.inl (List.mem_singleton.2 rfl))).setCell _ _ (.inl (List.mem_singleton.2 rfl))).setCell _ _ (.inl (List.mem_singleton.2 rfl))) hne c1) (first | (go_at_call 58; refine (hLk.out _ ?hc).mono ?_; (case hc => exact (Chg.refl _ _).drewN 1); rintro e w3 ⟨rfl, hC3⟩; have c1 := cell_chg hC3 (by simp) c1; have hb3 := hC3.blk hb0 (by simp); have z3 := frozenB hb3; have y0 := cellB hb3 (i := 0) rfl; have y1 := cellB hb3 (i := 1) rfl; have y2 := cellB hb3 (i := 2) rfl; have y3 := cellB hb3 (i := 3) rfl; have H3 := Lib.hid (And.intro hb3 hC3); clear hC3 hb3))
    have hb4 := blk_setCell (blk_setCell (blk_setCell (blk_setCell H3.out.1 (i := 0) (.int .i64 n)) (i := 1) (.bool false)) (i := 2) (.int .i64 bl)) (i := 3) (.int .i64 lk)
    have d0 := cellB hb4 (i := 0) (v := .int .i64 n) rfl
    have d1 := cellB hb4 (i := 1) (v := .bool false) rfl
    have d2 := cellB hb4 (i := 2) (v := .int .i64 bl) rfl
    have d3 := cellB hb4 (i := 3) (v := .int .i64 lk) rfl
    go_wp2
    refine bodyPost_ret (v := .agg #[.int .i64 n, .bool false, .int .i64 bl, .int .i64 lk]) ?_ rfl ⟨rfl, ?_⟩
    · simp [results, Tryd.results49, go_sem, d0, d1, d2, d3]
    · exact ((((HC.out.trans H3.out.2).setCell _ _ (.inr (Nat.le_refl _))).setCell _ _ (.inr (Nat.le_refl _))).setCell _ _ (.inr (Nat.le_refl _))).setCell _ _ (.inr (Nat.le_refl _))

def FS.statE (f : FS) (l : List ByteArray) : Except Int (FS × Int) := match f.must l with
  | .error e => .error e
  | .ok n => .ok (f, n)
/-- What Stat answers. -/
def statR (r : Except Int (FS × Int)) : Array Value := match r with
  | .ok p => p.1.statC p.2.toNat
  | .error _ => #[.int .i64 0, .bool false, .int .i64 0, .int .i64 0]
theorem EDo.err2 {α : Type} {w W' : World} {fb : Nat} {mb : Nat → Nat} {vs : Nat → Value} {f : FS} {r : Except Int (FS × α)} {X : World → Prop} {k : Int} (hr : r = .error k) (hC : Chg [] w W') (hX : X W') : EDo w W' fb mb vs f (resF r) X (.panicked (refP k)) := by
  subst hr
  exact ⟨rfl, hC, hX⟩
theorem EDo.ok2 {α : Type} {w W' : World} {fb : Nat} {mb mb' : Nat → Nat} {vs vs' : Nat → Value} {f f' : FS} {x : α} {r : Except Int (FS × α)} {X : World → Prop} {v : Value} (hr : r = .ok (f', x)) (hS : FStep w W' fb mb vs f mb' vs' f') (hX : X W') : EDo w W' fb mb vs f (resF r) X (.returned v) := by
  subst hr
  exact ⟨⟨_, rfl⟩, ⟨_, _, hS⟩, hX⟩
theorem FS.statC_four (f : FS) (n : Nat) : ∃ b c d, f.statC n = #[.int .i64 n, .bool b, .int .i64 c, .int .i64 d] := by
  unfold FS.statC
  split
  · exact ⟨_, _, _, rfl⟩
  · exact ⟨_, _, _, rfl⟩
set_option maxRecDepth 100000 in
set_option maxHeartbeats 4000000 in
/-- Stat's closure. -/
theorem fstat1c (fb : Nat) (mb : Nat → Nat) (vs : Nat → Value) (f : FS) (bf bp bx : Nat) (p : ByteArray) (w0 w : World) (hC0 : Chg [] w0 w) (h0 : FAt w0 fb mb vs f) (hL : LibW w) (hN : f.names < 4611686018427387904) (cf : w.cell? ⟨bf, 0, none⟩ = some (.pointer (some ⟨fb, 0, none⟩))) (cp : w.cell? ⟨bp, 0, none⟩ = some (.string p))
    (hx : w.heap[bx]? = some (.cells #[.int .i64 0, .bool false, .int .i64 0, .int .i64 0] 45 (0, 0))) (hx0 : w0.heap.size ≤ bx) (hfx : bf ≠ bx) (hpx : bp ≠ bx) :
    Calls Tryd.prog 48 #[.pointer (some ⟨bf, 0, none⟩), .pointer (some ⟨bp, 0, none⟩), .pointer (some ⟨bx, 0, none⟩)] w fun e W' => EDo w0 W' fb mb vs f (resF (onPath p f.statE)) (fun W' => W'.heap[bx]? = some (.cells (statR (onPath p f.statE)) 45 (0, 0))) e ∧ Chg ([bx] ++ blkF fb mb vs f) w W' := by
  have h := h0.calm hC0
  have H := Lib.hid (And.intro h (And.intro hL (And.intro hC0 (And.intro h0 hx0))))
  clear h0 hL hC0 hx0
  rcases hs : splitF p with _ | l
  · have HS := Lib.hid (fun W (hC : Chg [] w W) => fsplit_none hs W (H.out.2.1.calm hC))
    have HE := Lib.hid (onPath_none (g := f.statE) hs)
    have HX := Lib.hid hx
    clear hs h hx
    go_enter Tryd.func48, Tryd.ntmps48
    go_region_with (go_at_call 24; (with_reducible refine (HS.out _ ?hc).mono ?_); (case hc => exact (Chg.refl _ _).drewN 1); rintro e w' ⟨rfl, hC⟩; refine via (P := Tryd.prog) (md := .any) (w := w) ⟨rfl, EDo.err2 HE.out (H.out.2.2.1.trans (((Chg.refl _ _).drewN _).trans hC)) (by rw [HE.out]; exact (((Chg.refl _ _).drewN _).trans hC).blk HX.out (by simp)), (((Chg.refl _ _).drewN _).trans hC).mono (by simp)⟩ ?_)
    all_goals trivial
  have HS := Lib.hid (fun W (hC : Chg [] w W) => (fsplit_some hs W (H.out.2.1.calm hC)).mono fun e w' ⟨v, h1, h2, h3⟩ => (⟨v, h1, h2, hC.trans h3⟩ : ∃ v, e = Ending.returned v ∧ StrsAt w' v l ∧ Chg [] w w'))
  have HLL := Lib.hid (show l.length ≤ 600 by have := splitF_len hs; omega)
  have HOP := Lib.hid (fun r (h : f.statE l = r) => onPath_some (p := p) hs h)
  clear hs
  rcases hm : f.must l with c | n0
  · have HE := Lib.hid (HOP.out (.error c) (by unfold FS.statE; rw [hm]))
    have HM := Lib.hid (fun W v (hC : Chg [] w W) (hv : StrsAt W v l) => show Calls Tryd.prog 37 #[.pointer (some ⟨fb, 0, none⟩), v] W (fun e w' => e = .panicked (refP c) ∧ W = w') from by
      have := fmustc fb mb vs f v l HLL.out W (H.out.1.calm hC) hv
      rw [hm] at this
      exact this)
    have HX := Lib.hid hx
    clear hm h hx
    go_enter Tryd.func48, Tryd.ntmps48
    go_region_with (first | (go_at_call 24; (with_reducible refine (HS.out _ ?hc).mono ?_); (case hc => exact (Chg.refl _ _).drewN 1); rintro e w' ⟨v, rfl, hv, hC⟩; have cf1 := cell_chg hC (by simp) cf; have HC1 := Lib.hid (And.intro hv hC); clear hv hC) | (go_at_call 37; (with_reducible refine (HM.out _ _ ?hc ?hv).mono ?_); (case hc => exact HC1.out.2); (case hv => exact HC1.out.1); rintro e w' ⟨rfl, rfl⟩; refine via (P := Tryd.prog) (md := .any) (w := w) ⟨rfl, EDo.err2 HE.out (H.out.2.2.1.trans HC1.out.2) (by rw [HE.out]; exact HC1.out.2.blk HX.out (by simp)), HC1.out.2.mono (by simp)⟩ ?_))
    all_goals trivial
  obtain ⟨n, rfl, hn, hni⟩ := must_bound H.out.1.inv hm
  have hE := HOP.out (.ok (f, n)) (by unfold FS.statE; rw [hm])
  have HM := Lib.hid (fun W v (hC : Chg [] w W) (hv : StrsAt W v l) => show Calls Tryd.prog 37 #[.pointer (some ⟨fb, 0, none⟩), v] W (fun e w' => e = .returned (.int .i64 n) ∧ W = w') from by
    have := fmustc fb mb vs f v l HLL.out W (H.out.1.calm hC) hv
    rw [hm] at this
    exact this)
  obtain ⟨q1, q2, q3, hq⟩ := f.statC_four n
  have HT := Lib.hid (fun W (hC : Chg [] w W) => show Calls Tryd.prog 49 #[.pointer (some ⟨fb, 0, none⟩), .int .i64 n] W (fun e w' => e = .returned (.agg #[.int .i64 n, .bool q1, .int .i64 q2, .int .i64 q3]) ∧ Chg [] w w') from by
    refine (fstatnc fb mb vs f n hn W (H.out.1.calm hC) hN).mono ?_
    rw [hq]
    rintro e w' ⟨h1, h2⟩
    exact ⟨h1, hC.trans h2⟩)
  have HE := Lib.hid (And.intro hE (show statR (.ok (f, (n : Int))) = #[.int .i64 n, .bool q1, .int .i64 q2, .int .i64 q3] from hq))
  have HX := Lib.hid hx
  have hne : bf ∉ [bx] := by simpa using hfx
  have hnp : bp ∉ [bx] := by simpa using hpx
  have HZ := Lib.hid (And.intro cf cp)
  have x0 := cellB hx (i := 0) rfl
  have x1 := cellB hx (i := 1) rfl
  have x2 := cellB hx (i := 2) rfl
  have x3 := cellB hx (i := 3) rfl
  have xz := frozenB hx
  clear hm hE hq hni h hx hN
  go_enter Tryd.func48, Tryd.ntmps48
  go_region_held3 (fun w' => w'.cell? ⟨bf, 0, none⟩ = some (.pointer (some ⟨fb, 0, none⟩)) ∧ w'.cell? ⟨bp, 0, none⟩ = some (.string p)) (first | exact ⟨cf, cp⟩ | exact ⟨cell_chg (((((Chg.refl [bx] _).setCell _ _ (.inl (List.mem_singleton.2 rfl))).setCell _ _ (.inl (List.mem_singleton.2 rfl))).setCell _ _ (.inl (List.mem_singleton.2 rfl))).setCell _ _ (.inl (List.mem_singleton.2 rfl))) hne cf, cell_chg (((((Chg.refl [bx] _).setCell _ _ (.inl (List.mem_singleton.2 rfl))).setCell _ _ (.inl (List.mem_singleton.2 rfl))).setCell _ _ (.inl (List.mem_singleton.2 rfl))).setCell _ _ (.inl (List.mem_singleton.2 rfl))) hnp cp⟩) (first | (go_at_call 24; (with_reducible refine (HS.out _ ?hc).mono ?_); (case hc => exact (Chg.refl _ _).drewN 1); rintro e w1 ⟨v, rfl, hv, hC⟩; have cf := cell_chg hC (by simp) cf; have cp := cell_chg hC (by simp) cp; have HC1 := Lib.hid (And.intro hv hC); clear hv hC) | (go_at_call 37; (with_reducible refine (HM.out _ _ ?hc ?hv).mono ?_); (case hc => exact HC1.out.2); (case hv => exact HC1.out.1); rintro e w' ⟨rfl, rfl⟩) | (go_at_call 49; (with_reducible refine (HT.out _ ?hc).mono ?_); (case hc => exact HC1.out.2); rintro e w3 ⟨rfl, hC3⟩; have cf := cell_chg hC3 (by simp) HZ.out.1; have cp := cell_chg hC3 (by simp) HZ.out.2; have hb3 := hC3.blk HX.out (by simp); have z3 := frozenB hb3; have y0 := cellB hb3 (i := 0) rfl; have y1 := cellB hb3 (i := 1) rfl; have y2 := cellB hb3 (i := 2) rfl; have y3 := cellB hb3 (i := 3) rfl; have H3 := Lib.hid (And.intro hb3 hC3); clear hC3 hb3))
  have hb4 := blk_setCell (blk_setCell (blk_setCell (blk_setCell H3.out.1 (i := 0) (.int .i64 n)) (i := 1) (.bool q1)) (i := 2) (.int .i64 q2)) (i := 3) (.int .i64 q3)
  have hC4 := (((H3.out.2.mono (S2 := [bx]) (fun _ h => nomatch h)).setCell ⟨bx, 0, none⟩ (.int .i64 n) (.inl (List.mem_singleton.2 rfl))).setCell ⟨bx, 1, none⟩ (.bool q1) (.inl (List.mem_singleton.2 rfl))).setCell ⟨bx, 2, none⟩ (.int .i64 q2) (.inl (List.mem_singleton.2 rfl))|>.setCell ⟨bx, 3, none⟩ (.int .i64 q3) (.inl (List.mem_singleton.2 rfl))
  refine ⟨rfl, _, results_none rfl _ _ _, EDo.ok2 HE.out.1 (H.out.2.2.2.1.step (H.out.2.2.1.trans' hC4 (fun j hj => .inr (by simp at hj; subst hj; exact H.out.2.2.2.2)))) ?_, hC4.mono (by simp)⟩
  rw [HE.out.1, HE.out.2]
  exact hb4

def statA (r : Except Int (FS × Int)) : Value := .agg (statR r)
set_option maxRecDepth 100000 in
set_option maxHeartbeats 1000000 in
theorem fstatc (fb : Nat) (mb : Nat → Nat) (vs : Nat → Value) (f : FS) (p : ByteArray) (w : World) (h : FAt w fb mb vs f) (hL : LibW w) (hN : f.names < 4611686018427387904) :
    Calls Tryd.prog 21 #[.pointer (some ⟨fb, 0, none⟩), .string p] w fun e w' => ∃ c, e = .returned (.tuple #[statA (onPath p f.statE), .int .i64 c]) ∧ ERes w w' fb mb vs f (resF (onPath p f.statE)) c := by
  obtain ⟨w0, hw0⟩ : ∃ w0, w0 = ((w.alloc (.cells #[.pointer (some ⟨fb, 0, none⟩)] 25 (0, 0))).alloc (.cells #[.string p] 9 (0, 0))).alloc (.cells #[.int .i64 0, .bool false, .int .i64 0, .int .i64 0] 45 (0, 0)) := ⟨_, rfl⟩
  have hA : w0 = allocs w [.cells #[.pointer (some ⟨fb, 0, none⟩)] 25 (0, 0), .cells #[.string p] 9 (0, 0), .cells #[.int .i64 0, .bool false, .int .i64 0, .int .i64 0] 45 (0, 0)] := hw0
  have hC0 : Chg [] w w0 := by rw [hA]; exact allocs_chg _ _
  have b0 : w0.heap[w.heap.size]? = some (.cells #[.pointer (some ⟨fb, 0, none⟩)] 25 (0, 0)) := by rw [hA]; exact allocs_get w _ (i := 0) rfl
  have b1 : w0.heap[w.heap.size + 1]? = some (.cells #[.string p] 9 (0, 0)) := by rw [hA]; exact allocs_get w _ (i := 1) rfl
  have b2 : w0.heap[w.heap.size + 2]? = some (.cells #[.int .i64 0, .bool false, .int .i64 0, .int .i64 0] 45 (0, 0)) := by rw [hA]; exact allocs_get w _ (i := 2) rfl
  have hsz := lt_of_blk b2
  have hc := (Chg.refl [] w0).alloc (.cells #[.int .i64 0] 30 (0, 0))
  have HF := Lib.hid (facer2 fb mb vs f [w.heap.size + 2] 48 #[.pointer (some ⟨w.heap.size, 0, none⟩), .pointer (some ⟨w.heap.size + 1, 0, none⟩), .pointer (some ⟨w.heap.size + 2, 0, none⟩)] w w0 hC0 h (fun args w => by kernel_rfl) _ _ (fun k hk => by rw [List.mem_singleton] at hk; omega)
    (fstat1c fb mb vs f w.heap.size (w.heap.size + 1) (w.heap.size + 2) p w _ (hC0.trans hc) h (hL.calm (hC0.trans hc)) hN (cellB (hc.blk b0 List.not_mem_nil) (i := 0) rfl) (cellB (hc.blk b1 List.not_mem_nil) (i := 0) rfl) (hc.blk b2 List.not_mem_nil) (by omega) (by omega) (by omega)))
  have HZ := Lib.hid hsz
  have hr : ∃ x b y z, statR (onPath p f.statE) = #[.int .i64 x, .bool b, .int .i64 y, .int .i64 z] := by
    cases onPath p f.statE with
    | error k => exact ⟨_, _, _, _, rfl⟩
    | ok q =>
      obtain ⟨b, y, z, e⟩ := q.1.statC_four q.2.toNat
      exact ⟨_, _, _, _, e⟩
  obtain ⟨x, b, y, z, hq⟩ := hr
  unfold statA
  rw [hq] at HF ⊢
  clear h hL hN hC0 b0 b1 b2 hc hA hsz hq
  go_enter Tryd.func21, Tryd.ntmps21
  go_wp2_with (go_at_call 22; rw [← hw0]; refine HF.out.mono ?_; rintro e w' ⟨c, W', rfl, hr, hx, hk⟩; have hb := hk.blk hx (by have := HZ.out; simp; omega); have HR := Lib.hid (And.intro hr hb); have c0 := cellB hb (i := 0) rfl; have c1 := cellB hb (i := 1) rfl; have c2 := cellB hb (i := 2) rfl; have c3 := cellB hb (i := 3) rfl; have z4 := frozenB hb; clear hr hx hk hb hw0)
  have hb4 := blk_setCell (blk_setCell (blk_setCell (blk_setCell HR.out.2 (i := 0) (.int .i64 x)) (i := 1) (.bool b)) (i := 2) (.int .i64 y)) (i := 3) (.int .i64 z)
  have d0 := cellB hb4 (i := 0) (v := .int .i64 x) rfl
  have d1 := cellB hb4 (i := 1) (v := .bool b) rfl
  have d2 := cellB hb4 (i := 2) (v := .int .i64 y) rfl
  have d3 := cellB hb4 (i := 3) (v := .int .i64 z) rfl
  have e1 := blk_setCell HR.out.2 (i := 0) (.int .i64 x)
  have e2 := blk_setCell e1 (i := 1) (.bool b)
  have e3 := blk_setCell e2 (i := 2) (.int .i64 y)
  refine bodyPost_ret (v := .tuple #[.agg #[.int .i64 x, .bool b, .int .i64 y, .int .i64 z], .int .i64 c]) ?_ rfl ⟨c, rfl, (((HR.out.1.box HR.out.2 (by omega) (by decide) (by decide) 0 _).box e1 (by omega) (by decide) (by decide) 1 _).box e2 (by omega) (by decide) (by decide) 2 _).box e3 (by omega) (by decide) (by decide) 3 _⟩
  simp [results, Tryd.results21, go_sem, d0, d1, d2, d3]

end Go.Proofs.YtkkjbnmfjhmobaaDoor
