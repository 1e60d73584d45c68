
/- metronomelaw15.do: one step of both locks (written by wip/do15.py). -/
import Derived.Test.YtpdfeinbbjfcaaaGreatKf
import Derived.Test.YtpdfeinbbjfcaaaGreatKQc
import Derived.Test.YtpdfeinbbjfcaaaGreatPa
import Derived.Test.YtpdfeinbbjfcaaaGreatKknown
namespace Go.Proofs.YtpdfeinbbjfcaaaGreat
open Go.RowKit


theorem LAt.notW {w : World} {cb rb a0 m0 a1 m1 : Nat} {N : Int} {s : LS} (h : LAt w cb rb a0 m0 a1 m1 N s) : ∀ k ∈ [cb, rb, a0, m0, a1, m1], NotW w k := by
  intro k hk
  simp only [List.mem_cons, List.not_mem_nil, or_false] at hk
  rcases hk with rfl | rfl | rfl | rfl | rfl | rfl
  · exact NotW.of h.head (fun cs fr e => by cases e)
  · obtain ⟨M, ⟨es, cl, hb, _⟩, _⟩ := h.reads
    exact NotW.of hb (fun cs fr e => by cases e)
  · exact h.lr.notW.1
  · exact h.lr.notW.2
  · exact h.lw.notW.1
  · exact h.lw.notW.2
theorem LAt.sep {w : World} {cb rb a0 m0 a1 m1 rc rr rw : Nat} {N : Int} {s t : LS} (h : LAt w cb rb a0 m0 a1 m1 N s) (d : DAt w rc rr rw t) : ∀ k ∈ [cb, rb, a0, m0, a1, m1], k ∉ [rc, rr, rw] := by
  obtain ⟨v1, e1, _⟩ := d.rd
  obtain ⟨v2, e2, _⟩ := d.wt
  have key : ∀ (j : Nat) (cs : Array Value) (T : TypeId), w.heap[j]? = some (.cells cs T (0, 0)) → T ≠ 42 → T ≠ 75 → ∀ k ∈ [cb, rb, a0, m0, a1, m1], k ≠ j := by
    intro j cs T hj t1 t2 k hk
    have n1 := h.lr.ne_of hj t2
    have n2 := h.lw.ne_of hj t2
    have n3 := h.reads.ne hj
    have n4 := blk_ne15 h.head hj (Ne.symm t1)
    simp only [List.mem_cons, List.not_mem_nil, or_false] at hk
    rcases hk with rfl | rfl | rfl | rfl | rfl | rfl
    · exact n4
    · exact n3
    · exact n1.1
    · exact n1.2
    · exact n2.1
    · exact n2.2
  intro k hk hm
  simp only [List.mem_cons, List.not_mem_nil, or_false] at hm
  rcases hm with e | e | e
  · exact key rc _ _ d.head (by decide) (by decide) k hk e
  · exact key rr _ _ e1 (by decide) (by decide) k hk e
  · exact key rw _ _ e2 (by decide) (by decide) k hk e
theorem DAt.cstep {w w' : World} {cb rb a0 m0 a1 m1 rc rr rw : Nat} {N : Int} {s t : LS} (d : DAt w rc rr rw t) (h : LAt w cb rb a0 m0 a1 m1 N s) (hC : Chg [cb, rb, a0, m0, a1, m1] w w') : DAt w' rc rr rw t :=
  d.kept hC (fun k hk => ⟨h.sep d k hk, h.notW k hk⟩)
theorem LAt.rstep {w w' : World} {cb rb a0 m0 a1 m1 rc rr rw : Nat} {N : Int} {s t : LS} (h : LAt w cb rb a0 m0 a1 m1 N s) (d : DAt w rc rr rw t) (hC : Chg [rc, rr, rw] w w') : LAt w' cb rb a0 m0 a1 m1 N s :=
  h.kept hC (fun k hk hm => h.sep d k hm hk)

/-- What a step of both leaves: the same lock, or a copy of it; the document's where it was. -/
def DoK (cb rb a0 m0 a1 m1 rc rr rw : Nat) (N : Int) (s' : LS) (w : World) (e : Ending) (w' : World) : Prop :=
  ∃ cb' rb' a0' m0' a1' m1', e = .returned (.tuple #[.pointer (some ⟨cb', 0, none⟩), .pointer (some ⟨rc, 0, none⟩), .bool true]) ∧ LAt w' cb' rb' a0' m0' a1' m1' N s' ∧ DAt w' rc rr rw s' ∧ Chg [cb, rb, a0, m0, a1, m1, rc, rr, rw] w w' ∧
    ((cb' = cb ∧ rb' = rb ∧ a0' = a0 ∧ m0' = m0 ∧ a1' = a1 ∧ m1' = m1) ∨ ∀ k ∈ [cb', rb', a0', m0', a1', m1'], w.heap.size ≤ k)
theorem DoK.same {cb rb a0 m0 a1 m1 rc rr rw : Nat} {N N' : Int} {s' : LS} {w w1 w2 : World} (hL : LAt w2 cb rb a0 m0 a1 m1 N s') (hD : DAt w2 rc rr rw s') (h0 : Chg [cb, rb, a0, m0, a1, m1] w w1) (h2 : Chg [rc, rr, rw] w1 w2) (hN : N ≤ N') :
    DoK cb rb a0 m0 a1 m1 rc rr rw N' s' w (.returned (.tuple #[.pointer (some ⟨cb, 0, none⟩), .pointer (some ⟨rc, 0, none⟩), .bool true])) w2 :=
  ⟨cb, rb, a0, m0, a1, m1, rfl, hL.mono hN, hD, (h0.mono (S2 := [cb, rb, a0, m0, a1, m1, rc, rr, rw]) (fun k hk => .inl (by simp at hk ⊢; omega))).trans (h2.mono (S2 := [cb, rb, a0, m0, a1, m1, rc, rr, rw]) (fun k hk => .inl (by simp at hk ⊢; omega))), .inl ⟨rfl, rfl, rfl, rfl, rfl, rfl⟩⟩

set_option maxRecDepth 100000 in
theorem lnum15 (e : Int) (w : World) : Calls Tryz.prog 15 #[.int .i64 e] w fun r w' => r = .returned (.int .i64 e) ∧ w = w' := by
  go_enter Tryz.func15, Tryz.ntmps15
  go_wp2
  go_ret
  exact ⟨rfl, rfl⟩
theorem let_len (s : LS) (h : LInv s) : s.let_.1.length < 4611686018427387904 := by
  have := letN_len (s.R.length + s.W.length) s
  have := h.r.few
  have := h.w.few
  unfold LS.let_
  omega
theorem unL_len {s : LS} (h : LInv s) (t : Int) : (s.unL t).length < 4611686018427387904 := by
  unfold LS.unL
  split
  · rename_i he; exact let_len _ (h.un1 he)
  · simp
theorem lvT_len {s : LS} (h : LInv s) (t : Int) : (s.lvT t).length < 4611686018427387904 := by
  unfold LS.lvT
  split
  · exact let_len _ (h.lv1 t)
  · simp
theorem chT_len {s : LS} (h : LInv s) (t p : Int) : (s.chT t p).length < 4611686018427387904 := by
  unfold LS.chT
  split
  · exact let_len _ (h.ch1 t p)
  · simp


set_option maxRecDepth 100000 in
set_option maxHeartbeats 4000000 in
theorem kdo1 (cb rb a0 m0 a1 m1 rc rr rw : Nat) (N : Int) (s : LS) (t p : Int) (w : World) (h : LAt w cb rb a0 m0 a1 m1 N s) (d : DAt w rc rr rw s) (_hN : N < 4611686018427380000) :
    Calls Tryz.prog 7 #[.pointer (some ⟨cb, 0, none⟩), .pointer (some ⟨rc, 0, none⟩), .agg #[.int .i64 1, .int .i64 t, .int .i64 p]] w (DoK cb rb a0 m0 a1 m1 rc rr rw (N + 4) (s.wantS false t p true) w) := by
  have hC0 : Chg [] w (w.alloc (.cells #[.int .i64 1, .int .i64 t, .int .i64 p] 30)) := (Chg.refl [] w).alloc _
  have hb := heap_alloc_eq w (.cells #[.int .i64 1, .int .i64 t, .int .i64 p] 30)
  have x1 := cellB hb (i := 1) rfl
  have x2 := cellB hb (i := 2) rfl
  have hxn : w.heap.size ∉ [cb, rb, a0, m0, a1, m1] := fun hm => by have := h.lt _ hm; omega
  have H0 := Lib.hid (And.intro (h.calm hC0) (And.intro (d.calm hC0) (And.intro hC0 (And.intro hb (And.intro hxn (And.intro d.lt h.inv))))))
  have hL := lreadc cb rb a0 m0 a1 m1 N s t p _ (h.calm hC0) (by omega)
  have hD := fun (W : World) (hW : DAt W rc rr rw s) => dreadc false rc rr rw s t p W hW
  generalize s.wantB false t p = u at hL hD
  generalize s.wantE false t p = r at hL hD
  have hu : (u == u) = true := by simp
  have hr : (r == r) = true := by simp
  have HL := Lib.hid hL
  have HD := Lib.hid hD
  clear hL hD h d hC0 hb hxn
  go_enter Tryz.func7, Tryz.ntmps7
  go_wp2_with fail
  refine HL.out.mono ?_
  rintro e w1 ⟨rfl, hL1, hC1⟩
  have hb1 := hC1.blk H0.out.2.2.2.1 H0.out.2.2.2.2.1
  have y1 := cellB hb1 (i := 1) rfl
  have y2 := cellB hb1 (i := 2) rfl
  have H1 := Lib.hid (And.intro hL1 (And.intro (H0.out.2.1.cstep H0.out.1 hC1) ((H0.out.2.2.1.mono (S2 := [cb, rb, a0, m0, a1, m1]) (by simp)).trans hC1)))
  clear hL1 hC1 hb1
  go_wp2_with fail
  refine (HD.out w1 H1.out.2.1).mono ?_
  rintro e w2 ⟨rfl, hD2, hC2⟩
  have H2 := Lib.hid (DoK.same (H1.out.1.rstep H1.out.2.1 hC2) hD2 H1.out.2.2 hC2 (show N + 1 ≤ N + 4 by omega))
  clear hD2 hC2
  go_wp2_with (go_at_call 15; refine (lnum15 _ _).mono ?_; rintro e w' ⟨rfl, rfl⟩)
  go_ret3
  exact H2.out

set_option maxRecDepth 100000 in
set_option maxHeartbeats 4000000 in
theorem kdo2 (cb rb a0 m0 a1 m1 rc rr rw : Nat) (N : Int) (s : LS) (t p : Int) (w : World) (h : LAt w cb rb a0 m0 a1 m1 N s) (d : DAt w rc rr rw s) (_hN : N < 4611686018427380000) :
    Calls Tryz.prog 7 #[.pointer (some ⟨cb, 0, none⟩), .pointer (some ⟨rc, 0, none⟩), .agg #[.int .i64 2, .int .i64 t, .int .i64 p]] w (DoK cb rb a0 m0 a1 m1 rc rr rw (N + 4) (s.wantS true t p true) w) := by
  have hC0 : Chg [] w (w.alloc (.cells #[.int .i64 2, .int .i64 t, .int .i64 p] 30)) := (Chg.refl [] w).alloc _
  have hb := heap_alloc_eq w (.cells #[.int .i64 2, .int .i64 t, .int .i64 p] 30)
  have x1 := cellB hb (i := 1) rfl
  have x2 := cellB hb (i := 2) rfl
  have hxn : w.heap.size ∉ [cb, rb, a0, m0, a1, m1] := fun hm => by have := h.lt _ hm; omega
  have H0 := Lib.hid (And.intro (h.calm hC0) (And.intro (d.calm hC0) (And.intro hC0 (And.intro hb (And.intro hxn (And.intro d.lt h.inv))))))
  have hL := lwritec cb rb a0 m0 a1 m1 N s t p _ (h.calm hC0) (by omega)
  have hD := fun (W : World) (hW : DAt W rc rr rw s) => dwritec false rc rr rw s t p W hW
  generalize s.wantB true t p = u at hL hD
  generalize s.wantE true t p = r at hL hD
  have hu : (u == u) = true := by simp
  have hr : (r == r) = true := by simp
  have HL := Lib.hid hL
  have HD := Lib.hid hD
  clear hL hD h d hC0 hb hxn
  go_enter Tryz.func7, Tryz.ntmps7
  go_wp2_with fail
  refine HL.out.mono ?_
  rintro e w1 ⟨rfl, hL1, hC1⟩
  have hb1 := hC1.blk H0.out.2.2.2.1 H0.out.2.2.2.2.1
  have y1 := cellB hb1 (i := 1) rfl
  have y2 := cellB hb1 (i := 2) rfl
  have H1 := Lib.hid (And.intro hL1 (And.intro (H0.out.2.1.cstep H0.out.1 hC1) ((H0.out.2.2.1.mono (S2 := [cb, rb, a0, m0, a1, m1]) (by simp)).trans hC1)))
  clear hL1 hC1 hb1
  go_wp2_with fail
  refine (HD.out w1 H1.out.2.1).mono ?_
  rintro e w2 ⟨rfl, hD2, hC2⟩
  have H2 := Lib.hid (DoK.same (H1.out.1.rstep H1.out.2.1 hC2) hD2 H1.out.2.2 hC2 (show N + 1 ≤ N + 4 by omega))
  clear hD2 hC2
  go_wp2_with (go_at_call 15; refine (lnum15 _ _).mono ?_; rintro e w' ⟨rfl, rfl⟩)
  go_ret3
  exact H2.out

set_option maxRecDepth 100000 in
set_option maxHeartbeats 4000000 in
theorem kdo3 (cb rb a0 m0 a1 m1 rc rr rw : Nat) (N : Int) (s : LS) (t p : Int) (w : World) (h : LAt w cb rb a0 m0 a1 m1 N s) (d : DAt w rc rr rw s) (_hN : N < 4611686018427380000) :
    Calls Tryz.prog 7 #[.pointer (some ⟨cb, 0, none⟩), .pointer (some ⟨rc, 0, none⟩), .agg #[.int .i64 3, .int .i64 t, .int .i64 p]] w (DoK cb rb a0 m0 a1 m1 rc rr rw (N + 4) (s.wantS false t p false) w) := by
  have hC0 : Chg [] w (w.alloc (.cells #[.int .i64 3, .int .i64 t, .int .i64 p] 30)) := (Chg.refl [] w).alloc _
  have hb := heap_alloc_eq w (.cells #[.int .i64 3, .int .i64 t, .int .i64 p] 30)
  have x1 := cellB hb (i := 1) rfl
  have x2 := cellB hb (i := 2) rfl
  have hxn : w.heap.size ∉ [cb, rb, a0, m0, a1, m1] := fun hm => by have := h.lt _ hm; omega
  have H0 := Lib.hid (And.intro (h.calm hC0) (And.intro (d.calm hC0) (And.intro hC0 (And.intro hb (And.intro hxn (And.intro d.lt h.inv))))))
  have hL := ltryreadc cb rb a0 m0 a1 m1 N s t p _ (h.calm hC0) (by omega)
  have hD := fun (W : World) (hW : DAt W rc rr rw s) => dreadc true rc rr rw s t p W hW
  generalize s.wantB false t p = u at hL hD
  generalize s.wantE false t p = r at hL hD
  have hu : (u == u) = true := by simp
  have hr : (r == r) = true := by simp
  have HL := Lib.hid hL
  have HD := Lib.hid hD
  clear hL hD h d hC0 hb hxn
  go_enter Tryz.func7, Tryz.ntmps7
  go_wp2_with fail
  refine HL.out.mono ?_
  rintro e w1 ⟨rfl, hL1, hC1⟩
  have hb1 := hC1.blk H0.out.2.2.2.1 H0.out.2.2.2.2.1
  have y1 := cellB hb1 (i := 1) rfl
  have y2 := cellB hb1 (i := 2) rfl
  have H1 := Lib.hid (And.intro hL1 (And.intro (H0.out.2.1.cstep H0.out.1 hC1) ((H0.out.2.2.1.mono (S2 := [cb, rb, a0, m0, a1, m1]) (by simp)).trans hC1)))
  clear hL1 hC1 hb1
  go_wp2_with fail
  refine (HD.out w1 H1.out.2.1).mono ?_
  rintro e w2 ⟨rfl, hD2, hC2⟩
  have H2 := Lib.hid (DoK.same (H1.out.1.rstep H1.out.2.1 hC2) hD2 H1.out.2.2 hC2 (show N + 1 ≤ N + 4 by omega))
  clear hD2 hC2
  go_wp2_with (go_at_call 15; refine (lnum15 _ _).mono ?_; rintro e w' ⟨rfl, rfl⟩)
  go_ret3
  exact H2.out

set_option maxRecDepth 100000 in
set_option maxHeartbeats 4000000 in
theorem kdo4 (cb rb a0 m0 a1 m1 rc rr rw : Nat) (N : Int) (s : LS) (t p : Int) (w : World) (h : LAt w cb rb a0 m0 a1 m1 N s) (d : DAt w rc rr rw s) (_hN : N < 4611686018427380000) :
    Calls Tryz.prog 7 #[.pointer (some ⟨cb, 0, none⟩), .pointer (some ⟨rc, 0, none⟩), .agg #[.int .i64 4, .int .i64 t, .int .i64 p]] w (DoK cb rb a0 m0 a1 m1 rc rr rw (N + 4) (s.wantS true t p false) w) := by
  have hC0 : Chg [] w (w.alloc (.cells #[.int .i64 4, .int .i64 t, .int .i64 p] 30)) := (Chg.refl [] w).alloc _
  have hb := heap_alloc_eq w (.cells #[.int .i64 4, .int .i64 t, .int .i64 p] 30)
  have x1 := cellB hb (i := 1) rfl
  have x2 := cellB hb (i := 2) rfl
  have hxn : w.heap.size ∉ [cb, rb, a0, m0, a1, m1] := fun hm => by have := h.lt _ hm; omega
  have H0 := Lib.hid (And.intro (h.calm hC0) (And.intro (d.calm hC0) (And.intro hC0 (And.intro hb (And.intro hxn (And.intro d.lt h.inv))))))
  have hL := ltrywritec cb rb a0 m0 a1 m1 N s t p _ (h.calm hC0) (by omega)
  have hD := fun (W : World) (hW : DAt W rc rr rw s) => dwritec true rc rr rw s t p W hW
  generalize s.wantB true t p = u at hL hD
  generalize s.wantE true t p = r at hL hD
  have hu : (u == u) = true := by simp
  have hr : (r == r) = true := by simp
  have HL := Lib.hid hL
  have HD := Lib.hid hD
  clear hL hD h d hC0 hb hxn
  go_enter Tryz.func7, Tryz.ntmps7
  go_wp2_with fail
  refine HL.out.mono ?_
  rintro e w1 ⟨rfl, hL1, hC1⟩
  have hb1 := hC1.blk H0.out.2.2.2.1 H0.out.2.2.2.2.1
  have y1 := cellB hb1 (i := 1) rfl
  have y2 := cellB hb1 (i := 2) rfl
  have H1 := Lib.hid (And.intro hL1 (And.intro (H0.out.2.1.cstep H0.out.1 hC1) ((H0.out.2.2.1.mono (S2 := [cb, rb, a0, m0, a1, m1]) (by simp)).trans hC1)))
  clear hL1 hC1 hb1
  go_wp2_with fail
  refine (HD.out w1 H1.out.2.1).mono ?_
  rintro e w2 ⟨rfl, hD2, hC2⟩
  have H2 := Lib.hid (DoK.same (H1.out.1.rstep H1.out.2.1 hC2) hD2 H1.out.2.2 hC2 (show N + 1 ≤ N + 4 by omega))
  clear hD2 hC2
  go_wp2_with (go_at_call 15; refine (lnum15 _ _).mono ?_; rintro e w' ⟨rfl, rfl⟩)
  go_ret3
  exact H2.out

set_option maxRecDepth 100000 in
set_option maxHeartbeats 4000000 in
theorem kdo5 (cb rb a0 m0 a1 m1 rc rr rw : Nat) (N : Int) (s : LS) (t p : Int) (w : World) (h : LAt w cb rb a0 m0 a1 m1 N s) (d : DAt w rc rr rw s) (_hN : N < 4611686018427380000) :
    Calls Tryz.prog 7 #[.pointer (some ⟨cb, 0, none⟩), .pointer (some ⟨rc, 0, none⟩), .agg #[.int .i64 5, .int .i64 t, .int .i64 p]] w (DoK cb rb a0 m0 a1 m1 rc rr rw (N + 4) (s.unS t) w) := by
  have hC0 : Chg [] w (w.alloc (.cells #[.int .i64 5, .int .i64 t, .int .i64 p] 30)) := (Chg.refl [] w).alloc _
  have hb := heap_alloc_eq w (.cells #[.int .i64 5, .int .i64 t, .int .i64 p] 30)
  have x1 := cellB hb (i := 1) rfl
  have x2 := cellB hb (i := 2) rfl
  have hxn : w.heap.size ∉ [cb, rb, a0, m0, a1, m1] := fun hm => by have := h.lt _ hm; omega
  have H0 := Lib.hid (And.intro (h.calm hC0) (And.intro (d.calm hC0) (And.intro hC0 (And.intro hb (And.intro hxn (And.intro d.lt h.inv))))))
  have hL := lunlockc cb rb a0 m0 a1 m1 N s t _ (h.calm hC0)
  have hD := fun (W : World) (hW : DAt W rc rr rw s) => dunlockc rc rr rw s t W hW
  have hlen := unL_len h.inv t
  generalize s.unL t = l at hL hD hlen
  generalize s.unE t = r at hL hD
  have hr : (r == r) = true := by simp
  have HL := Lib.hid hL
  have HD := Lib.hid hD
  have HLen := Lib.hid hlen
  clear hL hD h d hC0 hb hxn hlen
  go_enter Tryz.func7, Tryz.ntmps7
  go_wp2_with fail
  refine HL.out.mono ?_
  rintro e w1 ⟨v1, rfl, ho, hL1, hC1⟩
  have hb1 := hC1.blk H0.out.2.2.2.1 H0.out.2.2.2.2.1
  have y1 := cellB hb1 (i := 1) rfl
  have y2 := cellB hb1 (i := 2) rfl
  have H1 := Lib.hid (And.intro hL1 (And.intro (H0.out.2.1.cstep H0.out.1 hC1) (And.intro ((H0.out.2.2.1.mono (S2 := [cb, rb, a0, m0, a1, m1]) (by simp)).trans hC1) ho)))
  clear hL1 hC1 hb1 ho
  go_wp2_with fail
  refine (HD.out w1 H1.out.2.1).mono ?_
  rintro e w2 ⟨v2, rfl, ho2, hD2, hC2⟩
  have hI1 := IsInts.of_own (own_kept H1.out.2.2.2 hC2 (fun k hk => own_notin H1.out.2.2.2 (by have := H0.out.2.2.2.2.2.1 k hk; have := H0.out.2.2.1.size; omega)))
  have H2 := Lib.hid (And.intro (DoK.same (H1.out.1.rstep H1.out.2.1 hC2) hD2 H1.out.2.2.1 hC2 (show N ≤ N + 4 by omega)) (And.intro hI1 (And.intro (IsInts.of_own ho2) (And.intro (H1.out.1.rstep H1.out.2.1 hC2) (And.intro hD2 (And.intro H1.out.2.2.1 hC2))))))
  clear hD2 hC2 ho2 hI1
  go_wp2_with fail
  refine (sameInts_any v1 v2 l l w2 H2.out.2.1 H2.out.2.2.1 HLen.out HLen.out).mono ?_
  rintro e w3 ⟨rfl, hC3⟩
  rw [show decide (l = l) = true from decide_eq_true rfl]
  have H3 := Lib.hid (DoK.same (H2.out.2.2.2.1.calm hC3) (H2.out.2.2.2.2.1.calm hC3) H2.out.2.2.2.2.2.1 (H2.out.2.2.2.2.2.2.trans (hC3.mono (by simp))) (show N ≤ N + 4 by omega))
  clear hC3
  go_wp2_with (go_at_call 15; refine (lnum15 _ _).mono ?_; rintro e w' ⟨rfl, rfl⟩)
  go_ret3
  exact H3.out

set_option maxRecDepth 100000 in
set_option maxHeartbeats 4000000 in
theorem kdo6 (cb rb a0 m0 a1 m1 rc rr rw : Nat) (N : Int) (s : LS) (t p : Int) (w : World) (h : LAt w cb rb a0 m0 a1 m1 N s) (d : DAt w rc rr rw s) (_hN : N < 4611686018427380000) :
    Calls Tryz.prog 7 #[.pointer (some ⟨cb, 0, none⟩), .pointer (some ⟨rc, 0, none⟩), .agg #[.int .i64 6, .int .i64 t, .int .i64 p]] w (DoK cb rb a0 m0 a1 m1 rc rr rw (N + 4) (s.lvS t) w) := by
  have hC0 : Chg [] w (w.alloc (.cells #[.int .i64 6, .int .i64 t, .int .i64 p] 30)) := (Chg.refl [] w).alloc _
  have hb := heap_alloc_eq w (.cells #[.int .i64 6, .int .i64 t, .int .i64 p] 30)
  have x1 := cellB hb (i := 1) rfl
  have x2 := cellB hb (i := 2) rfl
  have hxn : w.heap.size ∉ [cb, rb, a0, m0, a1, m1] := fun hm => by have := h.lt _ hm; omega
  have H0 := Lib.hid (And.intro (h.calm hC0) (And.intro (d.calm hC0) (And.intro hC0 (And.intro hb (And.intro hxn (And.intro d.lt h.inv))))))
  have hL := lleavec cb rb a0 m0 a1 m1 N s t _ (h.calm hC0)
  have hD := fun (W : World) (hW : DAt W rc rr rw s) => dleavec rc rr rw s t W hW
  have hlen := lvT_len h.inv t
  generalize s.lvT t = l at hL hD hlen
  generalize s.chE t 1 = r at hL hD
  have hr : (r == r) = true := by simp
  have HL := Lib.hid hL
  have HD := Lib.hid hD
  have HLen := Lib.hid hlen
  clear hL hD h d hC0 hb hxn hlen
  go_enter Tryz.func7, Tryz.ntmps7
  go_wp2_with fail
  refine HL.out.mono ?_
  rintro e w1 ⟨v1, rfl, ho, hL1, hC1⟩
  have hb1 := hC1.blk H0.out.2.2.2.1 H0.out.2.2.2.2.1
  have y1 := cellB hb1 (i := 1) rfl
  have y2 := cellB hb1 (i := 2) rfl
  have H1 := Lib.hid (And.intro hL1 (And.intro (H0.out.2.1.cstep H0.out.1 hC1) (And.intro ((H0.out.2.2.1.mono (S2 := [cb, rb, a0, m0, a1, m1]) (by simp)).trans hC1) ho)))
  clear hL1 hC1 hb1 ho
  go_wp2_with fail
  refine (HD.out w1 H1.out.2.1).mono ?_
  rintro e w2 ⟨v2, rfl, ho2, hD2, hC2⟩
  have hI1 := IsInts.of_own (own_kept H1.out.2.2.2 hC2 (fun k hk => own_notin H1.out.2.2.2 (by have := H0.out.2.2.2.2.2.1 k hk; have := H0.out.2.2.1.size; omega)))
  have H2 := Lib.hid (And.intro (DoK.same (H1.out.1.rstep H1.out.2.1 hC2) hD2 H1.out.2.2.1 hC2 (show N ≤ N + 4 by omega)) (And.intro hI1 (And.intro (IsInts.of_own ho2) (And.intro (H1.out.1.rstep H1.out.2.1 hC2) (And.intro hD2 (And.intro H1.out.2.2.1 hC2))))))
  clear hD2 hC2 ho2 hI1
  go_wp2_with fail
  refine (sameInts_any v1 v2 l l w2 H2.out.2.1 H2.out.2.2.1 HLen.out HLen.out).mono ?_
  rintro e w3 ⟨rfl, hC3⟩
  rw [show decide (l = l) = true from decide_eq_true rfl]
  have H3 := Lib.hid (DoK.same (H2.out.2.2.2.1.calm hC3) (H2.out.2.2.2.2.1.calm hC3) H2.out.2.2.2.2.2.1 (H2.out.2.2.2.2.2.2.trans (hC3.mono (by simp))) (show N ≤ N + 4 by omega))
  clear hC3
  go_wp2_with (go_at_call 15; refine (lnum15 _ _).mono ?_; rintro e w' ⟨rfl, rfl⟩)
  go_ret3
  exact H3.out

set_option maxRecDepth 100000 in
set_option maxHeartbeats 4000000 in
theorem kdo7 (cb rb a0 m0 a1 m1 rc rr rw : Nat) (N : Int) (s : LS) (t p : Int) (w : World) (h : LAt w cb rb a0 m0 a1 m1 N s) (d : DAt w rc rr rw s) (_hN : N < 4611686018427380000) :
    Calls Tryz.prog 7 #[.pointer (some ⟨cb, 0, none⟩), .pointer (some ⟨rc, 0, none⟩), .agg #[.int .i64 7, .int .i64 t, .int .i64 p]] w (DoK cb rb a0 m0 a1 m1 rc rr rw (N + 4) (s.chS t p) w) := by
  have hC0 : Chg [] w (w.alloc (.cells #[.int .i64 7, .int .i64 t, .int .i64 p] 30)) := (Chg.refl [] w).alloc _
  have hb := heap_alloc_eq w (.cells #[.int .i64 7, .int .i64 t, .int .i64 p] 30)
  have x1 := cellB hb (i := 1) rfl
  have x2 := cellB hb (i := 2) rfl
  have hxn : w.heap.size ∉ [cb, rb, a0, m0, a1, m1] := fun hm => by have := h.lt _ hm; omega
  have H0 := Lib.hid (And.intro (h.calm hC0) (And.intro (d.calm hC0) (And.intro hC0 (And.intro hb (And.intro hxn (And.intro d.lt h.inv))))))
  have hL := lchangec cb rb a0 m0 a1 m1 N s t p _ (h.calm hC0)
  have hD := fun (W : World) (hW : DAt W rc rr rw s) => dchangec rc rr rw s t p W hW
  have hlen := chT_len h.inv t p
  generalize s.chT t p = l at hL hD hlen
  generalize s.chE t p = r at hL hD
  have hr : (r == r) = true := by simp
  have HL := Lib.hid hL
  have HD := Lib.hid hD
  have HLen := Lib.hid hlen
  clear hL hD h d hC0 hb hxn hlen
  go_enter Tryz.func7, Tryz.ntmps7
  go_wp2_with fail
  refine HL.out.mono ?_
  rintro e w1 ⟨v1, rfl, ho, hL1, hC1⟩
  have hb1 := hC1.blk H0.out.2.2.2.1 H0.out.2.2.2.2.1
  have y1 := cellB hb1 (i := 1) rfl
  have y2 := cellB hb1 (i := 2) rfl
  have H1 := Lib.hid (And.intro hL1 (And.intro (H0.out.2.1.cstep H0.out.1 hC1) (And.intro ((H0.out.2.2.1.mono (S2 := [cb, rb, a0, m0, a1, m1]) (by simp)).trans hC1) ho)))
  clear hL1 hC1 hb1 ho
  go_wp2_with fail
  refine (HD.out w1 H1.out.2.1).mono ?_
  rintro e w2 ⟨v2, rfl, ho2, hD2, hC2⟩
  have hI1 := IsInts.of_own (own_kept H1.out.2.2.2 hC2 (fun k hk => own_notin H1.out.2.2.2 (by have := H0.out.2.2.2.2.2.1 k hk; have := H0.out.2.2.1.size; omega)))
  have H2 := Lib.hid (And.intro (DoK.same (H1.out.1.rstep H1.out.2.1 hC2) hD2 H1.out.2.2.1 hC2 (show N ≤ N + 4 by omega)) (And.intro hI1 (And.intro (IsInts.of_own ho2) (And.intro (H1.out.1.rstep H1.out.2.1 hC2) (And.intro hD2 (And.intro H1.out.2.2.1 hC2))))))
  clear hD2 hC2 ho2 hI1
  go_wp2_with fail
  refine (sameInts_any v1 v2 l l w2 H2.out.2.1 H2.out.2.2.1 HLen.out HLen.out).mono ?_
  rintro e w3 ⟨rfl, hC3⟩
  rw [show decide (l = l) = true from decide_eq_true rfl]
  have H3 := Lib.hid (DoK.same (H2.out.2.2.2.1.calm hC3) (H2.out.2.2.2.2.1.calm hC3) H2.out.2.2.2.2.2.1 (H2.out.2.2.2.2.2.2.trans (hC3.mono (by simp))) (show N ≤ N + 4 by omega))
  clear hC3
  go_wp2_with (go_at_call 15; refine (lnum15 _ _).mono ?_; rintro e w' ⟨rfl, rfl⟩)
  go_ret3
  exact H3.out

set_option maxRecDepth 100000 in
set_option maxHeartbeats 4000000 in
theorem kdo8 (cb rb a0 m0 a1 m1 rc rr rw : Nat) (N : Int) (s : LS) (t p : Int) (w : World) (h : LAt w cb rb a0 m0 a1 m1 N s) (d : DAt w rc rr rw s) (_hN : N < 4611686018427380000) :
    Calls Tryz.prog 7 #[.pointer (some ⟨cb, 0, none⟩), .pointer (some ⟨rc, 0, none⟩), .agg #[.int .i64 8, .int .i64 t, .int .i64 p]] w (DoK cb rb a0 m0 a1 m1 rc rr rw (N + 4) (s) w) := by
  have hC0 : Chg [] w (w.alloc (.cells #[.int .i64 8, .int .i64 t, .int .i64 p] 30)) := (Chg.refl [] w).alloc _
  have hb := heap_alloc_eq w (.cells #[.int .i64 8, .int .i64 t, .int .i64 p] 30)
  have x1 := cellB hb (i := 1) rfl
  have x2 := cellB hb (i := 2) rfl
  have hxn : w.heap.size ∉ [cb, rb, a0, m0, a1, m1] := fun hm => by have := h.lt _ hm; omega
  have H0 := Lib.hid (And.intro (h.calm hC0) (And.intro (d.calm hC0) (And.intro hC0 (And.intro hb (And.intro hxn (And.intro d.lt h.inv))))))
  have HC := Lib.hid (lcopyc cb rb a0 m0 a1 m1 N s _ (h.calm hC0))
  have hE := s.eqv_refl
  have HE := Lib.hid hE
  clear h d hC0 hb hxn x1 x2 hE
  go_enter Tryz.func7, Tryz.ntmps7
  go_wp2_with fail
  refine HC.out.mono ?_
  rintro e w1 ⟨c2, r2, p0, q0, p1, q1, rfl, hg, hL1, hC1⟩
  have H1 := Lib.hid (And.intro hL1 (And.intro (H0.out.1.calm hC1) (And.intro (H0.out.2.1.calm hC1) (And.intro (H0.out.2.2.1.trans hC1) (show (∀ k ∈ [c2, r2, p0, q0, p1, q1], w.heap.size ≤ k) ∧ ∀ k ∈ [cb, rb, a0, m0, a1, m1], k ∉ [c2, r2, p0, q0, p1, q1] from ⟨fun k hk => Nat.le_trans H0.out.2.2.1.size (hg k hk), fun k hk hm => by have h5 := hg k hm; have h6 := H0.out.1.lt k hk; omega⟩)))))
  clear hL1 hC1 hg
  go_wp2_with fail
  refine (lsameW c2 r2 p0 q0 p1 q1 cb rb a0 m0 a1 m1 N N s s w1 H1.out.1 H1.out.2.1 (by simp) (by simp) (by simp) (by unfold LS.eqv; simp)).mono ?_
  rintro e w2 ⟨rfl, hC2⟩
  rw [HE.out]
  have H2 := Lib.hid (And.intro (H1.out.1.calm hC2) (And.intro (H1.out.2.1.calm hC2) (And.intro (H1.out.2.2.1.calm hC2) (H1.out.2.2.2.1.trans hC2))))
  clear hC2
  go_wp2_with fail
  refine (lunlockc cb rb a0 m0 a1 m1 N s 1 w2 H2.out.2.1).mono ?_
  rintro e w3 ⟨v3, rfl, ho, hL, hC⟩
  have H3 := Lib.hid (And.intro (H2.out.1.kept hC H1.out.2.2.2.2.2) (And.intro hL (And.intro (H2.out.2.2.1.cstep H2.out.2.1 hC) ((H2.out.2.2.2.mono (S2 := [cb, rb, a0, m0, a1, m1]) (by simp)).trans hC))))
  clear hL hC ho
  generalize s.unE 1 = e1
  go_wp2_with fail
  refine (lreadc cb rb a0 m0 a1 m1 N (s.unS 1) 15 31 w3 H3.out.2.1 (by omega)).mono ?_
  rintro e w4 ⟨rfl, hL, hC⟩
  have H4 := Lib.hid (And.intro (H3.out.1.kept hC H1.out.2.2.2.2.2) (And.intro hL (And.intro (H3.out.2.2.1.cstep H3.out.2.1 hC) (H3.out.2.2.2.trans hC))))
  clear hL hC
  generalize LS.wantE (s.unS 1) false 15 31 = e2
  generalize LS.wantB (s.unS 1) false 15 31 = e3
  go_wp2_with fail
  refine (lleavec cb rb a0 m0 a1 m1 (N + 1) _ 2 w4 H4.out.2.1).mono ?_
  rintro e w5 ⟨v5, rfl, ho, hL, hC⟩
  have H5 := Lib.hid (And.intro (H4.out.1.kept hC H1.out.2.2.2.2.2) (And.intro (H4.out.2.2.1.cstep H4.out.2.1 hC) (H4.out.2.2.2.trans hC)))
  clear hL hC ho
  generalize LS.chE _ 2 1 = e4
  go_wp2
  go_ret3
  exact ⟨c2, r2, p0, q0, p1, q1, rfl, H5.out.1.mono (by omega), H5.out.2.1, H5.out.2.2.mono (fun k hk => .inl (by simp at hk ⊢; omega)), .inr H1.out.2.2.2.2.1⟩

set_option maxRecDepth 100000 in
set_option maxHeartbeats 2000000 in
theorem kdo0 (k : Int) (cb rb a0 m0 a1 m1 rc rr rw : Nat) (N : Int) (s : LS) (t p : Int) (w : World) (h : LAt w cb rb a0 m0 a1 m1 N s) (d : DAt w rc rr rw s) (_hN : N < 4611686018427380000) (h1 : (k == 1) = false) (h2 : (k == 2) = false) (h3 : (k == 3) = false) (h4 : (k == 4) = false) (h5 : (k == 5) = false) (h6 : (k == 6) = false) (h7 : (k == 7) = false) (h8 : (k == 8) = false) :
    Calls Tryz.prog 7 #[.pointer (some ⟨cb, 0, none⟩), .pointer (some ⟨rc, 0, none⟩), .agg #[.int .i64 k, .int .i64 t, .int .i64 p]] w (DoK cb rb a0 m0 a1 m1 rc rr rw (N + 4) s w) := by
  have hC0 : Chg [] w (w.alloc (.cells #[.int .i64 k, .int .i64 t, .int .i64 p] 30)) := (Chg.refl [] w).alloc _
  have H0 := Lib.hid (DoK.same (h.calm hC0) (d.calm hC0) (hC0.mono (S2 := [cb, rb, a0, m0, a1, m1]) (by simp)) (Chg.refl [rc, rr, rw] _) (show N ≤ N + 4 by omega))
  clear h d hC0 _hN
  go_enter Tryz.func7, Tryz.ntmps7
  go_wp2
  go_ret3
  exact H0.out

/-- A lock behind a step. -/
def LS.stepS (s : LS) (k t p : Int) : LS := if k = 1 then s.wantS false t p true else if k = 2 then s.wantS true t p true else if k = 3 then s.wantS false t p false else if k = 4 then s.wantS true t p false else if k = 5 then s.unS t else if k = 6 then s.lvS t else if k = 7 then s.chS t p else s

theorem kdoc (k : Int) (cb rb a0 m0 a1 m1 rc rr rw : Nat) (N : Int) (s : LS) (t p : Int) (w : World) (h : LAt w cb rb a0 m0 a1 m1 N s) (d : DAt w rc rr rw s) (_hN : N < 4611686018427380000) :
    Calls Tryz.prog 7 #[.pointer (some ⟨cb, 0, none⟩), .pointer (some ⟨rc, 0, none⟩), .agg #[.int .i64 k, .int .i64 t, .int .i64 p]] w (DoK cb rb a0 m0 a1 m1 rc rr rw (N + 4) (s.stepS k t p) w) := by
  unfold LS.stepS
  by_cases h1 : k = 1
  · subst h1; rw [if_pos rfl]; exact kdo1 cb rb a0 m0 a1 m1 rc rr rw N s t p w h d _hN
  rw [if_neg h1]
  by_cases h2 : k = 2
  · subst h2; rw [if_pos rfl]; exact kdo2 cb rb a0 m0 a1 m1 rc rr rw N s t p w h d _hN
  rw [if_neg h2]
  by_cases h3 : k = 3
  · subst h3; rw [if_pos rfl]; exact kdo3 cb rb a0 m0 a1 m1 rc rr rw N s t p w h d _hN
  rw [if_neg h3]
  by_cases h4 : k = 4
  · subst h4; rw [if_pos rfl]; exact kdo4 cb rb a0 m0 a1 m1 rc rr rw N s t p w h d _hN
  rw [if_neg h4]
  by_cases h5 : k = 5
  · subst h5; rw [if_pos rfl]; exact kdo5 cb rb a0 m0 a1 m1 rc rr rw N s t p w h d _hN
  rw [if_neg h5]
  by_cases h6 : k = 6
  · subst h6; rw [if_pos rfl]; exact kdo6 cb rb a0 m0 a1 m1 rc rr rw N s t p w h d _hN
  rw [if_neg h6]
  by_cases h7 : k = 7
  · subst h7; rw [if_pos rfl]; exact kdo7 cb rb a0 m0 a1 m1 rc rr rw N s t p w h d _hN
  rw [if_neg h7]
  by_cases h8 : k = 8
  · subst h8; exact kdo8 cb rb a0 m0 a1 m1 rc rr rw N s t p w h d _hN
  exact kdo0 k cb rb a0 m0 a1 m1 rc rr rw N s t p w h d _hN (by simpa using h1) (by simpa using h2) (by simpa using h3) (by simpa using h4) (by simpa using h5) (by simpa using h6) (by simpa using h7) (by simpa using h8)

end Go.Proofs.YtpdfeinbbjfcaaaGreat
