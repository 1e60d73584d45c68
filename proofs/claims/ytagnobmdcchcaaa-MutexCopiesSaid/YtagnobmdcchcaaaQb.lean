
/- metronomeref13: has, remove, next, Waiting: contracts. -/
import Derived.Test.YtagnobmdcchcaaaQa
import Derived.Test.YtagnobmdcchcaaaOrd
import Derived.Deep.RegionLaw
namespace Go.Proofs.Ytagnobmdcchcaaa
open Go.RowKit

set_option maxRecDepth 100000 in
theorem qhasc (rc : Nat) (gs : List Nat) (s : MS) (t : Int) (w : World) (h : QM w rc gs s) :
    Calls Try.prog 67 #[.pointer (some ⟨rc, 0, none⟩), .int .i64 t] w fun e w' => e = .returned (.int .i64 s.told) ∧ QM w' rc gs (s.took t) ∧ Chg [rc] w w' := by
  have hP := (h.putOwn t).1.putCnt 1
  have hC := (h.putOwn t).2.trans hP.2
  obtain ⟨v, hb, -⟩ := h
  have c4 := cellB hb (i := 4) (v := .int .i64 s.own) rfl
  have c5 := cellB hb (i := 5) (v := .int .i64 s.cnt) rfl
  have c6 := cellB hb (i := 6) (v := .int .i64 s.st) rfl
  have f4 := frozenB hb 4
  have f5 := frozenB hb 5
  have HP := Lib.hid (And.intro hP.1 hC)
  clear hP hC hb
  unfold MS.told
  by_cases h1 : s.st = 1
  · rw [h1] at c6
    rw [if_pos h1]
    go_enter Try.func67, Try.ntmps67
    go_wp2
    go_ret
    exact ⟨rfl, HP.out.1, HP.out.2⟩
  · rw [if_neg h1]
    have hb : (s.st == 1) = false := by simpa using h1
    clear h1
    go_enter Try.func67, Try.ntmps67
    go_wp2
    go_ret
    exact ⟨rfl, HP.out.1, HP.out.2⟩

set_option maxRecDepth 100000 in
set_option maxHeartbeats 2000000 in
theorem qremovec (rc : Nat) (gs : List Nat) (s : MS) (i : Nat) (w : World) (h : QM w rc gs s) (hl : s.L.length ≤ 999999) (hi2 : i < s.L.length) :
    Calls Try.prog 69 #[.pointer (some ⟨rc, 0, none⟩), .int .i64 i] w fun e w' => e = .returned (.tuple #[]) ∧ QP rc gs { s with L := s.L.take i ++ s.L.drop (i + 1) } w w' := by
  have HR := Lib.hid h
  obtain ⟨v, hb, hv, -⟩ := h
  generalize hll : s.L = l at *
  obtain ⟨g, cap, cur, rfl, _, hgb, hnc, hcm, _, hcur⟩ := own_blk hv (by omega)
  have c0 : w.cell? ⟨rc, 7, none⟩ = some (.slice (some ⟨g, 0, none⟩) l.length cap) := cellB hb (i := 7) rfl
  have hcell : ∀ j u, (flatW l)[j]? = some u → w.cell? ⟨g, j, none⟩ = some u := fun j u hj => cellB (w := w) hgb (own_take hcur j u hj)
  have hadd : ∀ o j : Nat, ((⟨g, o, none⟩ : Addr).add j) = ⟨g, o + j, none⟩ := fun o j => by unfold Addr.add; split <;> simp_all
  have hs1 : SrcAt w (.slice (some ⟨g, 0, none⟩) i cap) (l.take i).length (flatW (l.take i)) := .inr ⟨⟨g, 0, none⟩, cap, by rw [List.length_take, Nat.min_eq_left (by omega)], fun j u hj => by
    rw [hadd, Nat.zero_add]
    refine hcell j u ?_
    have e : flatW l = flatW (l.take i) ++ flatW (l.drop i) := by rw [← flatW_append, List.take_append_drop]
    rw [e, List.getElem?_append_left (List.getElem?_eq_some_iff.1 hj).1]
    exact hj⟩
  obtain ⟨v1, w1, hr1, ho1, hC1⟩ := run_fresh13 hs1 (by rw [List.length_take]; omega)
  obtain ⟨A, hA, hs2⟩ : ∃ A, (if cap = i + 1 then (⟨g, 0, none⟩ : Addr) else ⟨g, (i + 1) * 2, none⟩) = A ∧ SrcAt w1 (.slice (some A) (l.length - (i + 1)) (cap - (i + 1))) (l.drop (i + 1)).length (flatW (l.drop (i + 1))) := by
    refine ⟨_, rfl, .inr ⟨_, cap - (i + 1), by rw [List.length_drop], fun j u hj => ?_⟩⟩
    have hjl := (List.getElem?_eq_some_iff.1 hj).1
    rw [flatW_len, List.length_drop] at hjl
    rw [if_neg (by omega), hadd]
    have e : flatW l = flatW (l.take (i + 1)) ++ flatW (l.drop (i + 1)) := by rw [← flatW_append, List.take_append_drop]
    have hlen : (flatW (l.take (i + 1))).length = (i + 1) * 2 := by rw [flatW_len, List.length_take, Nat.min_eq_left (by omega)]
    have := hcell ((i + 1) * 2 + j) u (by rw [e, ← hlen, List.getElem?_append_right (by omega), Nat.add_sub_cancel_left]; exact hj)
    exact SrcAt.calm.cell_calm this hC1
  obtain ⟨i0, hi, hz0, hz1, hz2⟩ := info_parts infoW13
  have hlt : w.heap.size ≤ w1.heap.size := hC1.size
  have hd1 : (l.take i).length + (l.drop (i + 1)).length ≤ 999999 := by rw [List.length_take, List.length_drop]; omega
  obtain ⟨v2, w2, hr2, ho2, hC2, _⟩ := run_more (P := Try.prog) (w := w1) w.heap.size 63 63 67 i0 (.agg #[.int .i64 0, .int .i64 0]) 2 16 Try.underlying63 hi hz0 hz1 hz2 rfl (by decide)
    v1 _ _ ho1 _ _ _ hs2 (flatW_len _) (flatW_one _) (by unfold maxLen; omega) (by omega) hlt
  have hC3 : Chg [] w w2 := hC1.trans' hC2 (fun k hk => .inr (own_ge ho1 k hk))
  rw [← flatW_append, ← List.length_append] at ho2
  have hfin := QM.made (l' := l.take i ++ l.drop (i + 1)) HR.out ho2 hC3
  obtain ⟨va1, vc1, e1⟩ := own_slice ho1
  obtain ⟨va2, vc2, e2⟩ := own_slice ho2
  have c1 : w1.cell? ⟨rc, 7, none⟩ = some (.slice (some ⟨g, 0, none⟩) l.length cap) := cellB (hC1.blk hb (by simp)) (i := 7) rfl
  have c2 : w2.cell? ⟨rc, 7, none⟩ = some (.slice (some ⟨g, 0, none⟩) l.length cap) := cellB (hC3.blk hb (by simp)) (i := 7) rfl
  have f2 := frozenB (hC3.blk hb (by simp)) 7
  subst e1
  subst e2
  generalize (l.take i).length = n1 at *
  generalize (l.take i ++ l.drop (i + 1)).length = n2 at *
  have H1 := Lib.hid (And.intro hr1 (And.intro hr2 hfin))
  have hA' : (if cap = i + 1 then (some ⟨g, 0, none⟩ : Option Addr) else some ⟨g, (i + 1) * 2, none⟩) = some A := by rw [← hA]; split <;> rfl
  clear hb hs1 hs2 hr1 hr2 ho1 ho2 hC1 hC2 hC3 hgb hfin hcell hadd hcur hv hi hd1 hA hlt hl hll
  generalize hn : l.length = n at *
  have HN := Lib.hid hn
  clear hn
  have hic : i ≤ cap := by omega
  have hin : i + 1 ≤ n := by omega
  have hwr : IntKind.i64.wrap ((i : Int) + 1) = (i : Int) + 1 := by unfold maxLen at hcm; simp [IntKind.wrap, IntKind.signed, IntKind.bits]; omega
  have hw1 : (0 : Int) ≤ (i : Int) + 1 := by omega
  have hw2 : (i : Int) + 1 ≤ (n : Int) := by omega
  go_enter Try.func69, Try.ntmps69
  go_wp2_with (first
    | (at_builtin; refine wpList_run rfl _ _ 63 63 rfl rfl (.slice none 0 0) (.slice (some ⟨g, 0, none⟩) i cap) (.slice va1 n1 vc1) rfl rfl w1 H1.out.1 ?_)
    | (at_builtin; refine wpList_run rfl _ _ 63 63 rfl rfl (.slice va1 n1 vc1) (.slice (some A) (n - (i + 1)) (cap - (i + 1))) (.slice va2 n2 vc2) rfl rfl w2 H1.out.2.1 ?_))
  go_end0
  exact ⟨rfl, H1.out.2.2⟩

theorem QP.calm {w w1 w2 : World} {rc : Nat} {gs : List Nat} {s : MS} (h : QP rc gs s w w1) (hC : Chg [] w1 w2) : QP rc gs s w w2 := by
  obtain ⟨gs1, h1, h2, h3⟩ := h
  exact ⟨gs1, h1.calm hC, h2, h3.trans (hC.mono (by simp))⟩
theorem QP.pre {w w1 w2 : World} {rc : Nat} {gs : List Nat} {s : MS} (hC : Chg (rc :: gs) w w1) (h : QP rc gs s w1 w2) : QP rc gs s w w2 := by
  obtain ⟨gs1, h1, h2, h3⟩ := h
  refine ⟨gs1, h1, ?_, hC.trans h3⟩
  rcases h2 with h2 | h2
  · exact .inl h2
  · exact .inr (fun k hk => Nat.le_trans hC.size (h2 k hk))

theorem QP.thn {w w1 w2 : World} {rc : Nat} {gs gs1 : List Nat} {s2 : MS} (h2 : Nxt w gs gs1) (h3 : Chg (rc :: gs) w w1) (g : QP rc gs1 s2 w1 w2) : QP rc gs s2 w w2 := by
  obtain ⟨gs2, g1, g2, g3⟩ := g
  have hs := h3.size
  have hC : Chg (rc :: gs) w w2 := h3.trans' g3 (fun k hk => by
    rcases List.mem_cons.1 hk with rfl | hk
    · exact .inl (by simp)
    · rcases h2 with rfl | h2
      · exact .inl (List.mem_cons_of_mem _ hk)
      · exact .inr (h2 k hk))
  refine ⟨gs2, g1, ?_, hC⟩
  rcases g2 with rfl | g2
  · exact h2
  · exact .inr (fun k hk => Nat.le_trans hs (g2 k hk))
def QWok (rc : Nat) (gs : List Nat) (s' : MS) (l : WL) (w : World) (e : Ending) (w' : World) : Prop := ∃ v, e = .returned v ∧ OwnK w' w.heap.size v l ∧ QP rc gs s' w w'

set_option maxRecDepth 100000 in
set_option maxHeartbeats 2000000 in
theorem qnextc (rc : Nat) (gs : List Nat) (s : MS) (w : World) (h : QM w rc gs s) (hL : ListOk s.L) (hl : s.L.length ≤ 16) :
    Calls Try.prog 68 #[.pointer (some ⟨rc, 0, none⟩)] w (QWok rc gs s.nextS s.nextW w) := by
  have hP := (h.putOwn (-1)).1.putCnt 0
  have hC := ((h.putOwn (-1)).2.trans hP.2).mono (show ∀ k ∈ [rc], k ∈ rc :: gs ∨ _ by simp)
  have hF := qfirstc rc gs _ _ hP.1 (show s.L.length ≤ 999999 by omega)
  obtain ⟨v, hb, -⟩ := h
  have c4 := cellB hb (i := 4) (v := .int .i64 s.own) rfl
  have c5 := cellB hb (i := 5) (v := .int .i64 s.cnt) rfl
  have f4 := frozenB hb 4
  have f5 := frozenB hb 5
  have HP := Lib.hid (And.intro hP.1 (And.intro hC hF))
  have HL := Lib.hid (And.intro hL hl)
  clear hP hC hF hb hL hl
  go_enter Try.func68, Try.ntmps68
  go_wp2_with fail
  refine HP.out.2.2.mono ?_
  rintro e w1 ⟨hC1, ⟨hnil, rfl⟩ | ⟨k, hk, rfl⟩⟩
  · have hn : s.L = [] := hnil
    have ho : ordL s.L = [] := by rw [hn]; rfl
    have hS : s.nextS = { s with own := -1, cnt := 0 } := by unfold MS.nextS; rw [ho]
    have hW : s.nextW = [] := by unfold MS.nextW; rw [ho]
    have H1 := Lib.hid (And.intro (HP.out.1.calm hC1) (And.intro (HP.out.2.1.trans (hC1.mono (by simp))) (And.intro hS hW)))
    clear hC1 hnil hn ho hS hW
    go_wp2
    go_ret
    refine ⟨_, rfl, by rw [H1.out.2.2.2]; exact World.ownsRow_nil .., ?_⟩
    rw [H1.out.2.2.1]
    exact .same H1.out.1 H1.out.2.1
  · obtain ⟨y, hy⟩ : ∃ y, s.L[k]? = some y := ⟨_, List.getElem?_eq_getElem hk.1⟩
    obtain ⟨⟨r, ho⟩, htk⟩ := first_ord HL.out.1 hk hy
    have hS : s.nextS = ({ s with own := -1, cnt := 0, L := s.L.take k ++ s.L.drop (k + 1) } : MS).took y.1 := by unfold MS.nextS; rw [ho, htk]; rfl
    have hW : s.nextW = [(y.1, s.told)] := by unfold MS.nextW; rw [ho]
    have hQ1 := HP.out.1.calm hC1
    obtain ⟨a, cap, hb1, hd⟩ := hQ1.open
    have c7 := cellB hb1 (i := 7) (v := .slice a s.L.length cap) rfl
    obtain ⟨g, rfl, hd2⟩ := hd.resolve_left (fun e => by have h9 : s.L = [] := e; rw [h9] at hy; simp at hy)
    have d1 := (hd2 k y hy).1
    have hkl : k < s.L.length := hk.1
    have hk16 : s.L.length ≤ 16 := HL.out.2
    have HR := Lib.hid (qremovec rc gs _ k w1 hQ1 (show s.L.length ≤ 999999 by omega) hk.1)
    have H1 := Lib.hid (And.intro (HP.out.2.1.trans (hC1.mono (show ∀ k ∈ ([] : List Nat), k ∈ rc :: gs ∨ _ by simp))) (And.intro hS hW))
    obtain ⟨y1, y2⟩ := y
    clear hC1 hk hy ho htk hS hW hQ1 hb1 hd hd2
    generalize hn : s.L.length = n at *
    go_wp2_with fail
    refine HR.out.mono ?_
    rintro e w2 ⟨rfl, gs2, hQ2, hN2, hC2⟩
    have H2 := Lib.hid (And.intro hQ2 (And.intro hN2 hC2))
    clear hQ2 hN2 hC2
    go_wp2_with fail
    refine (qhasc rc gs2 _ y1 w2 H2.out.1).mono ?_
    rintro e w3 ⟨rfl, hQ3, hC3⟩
    have hA : Chg [] w3 (w3.alloc (.cells #[.int .i64 y1, .int .i64 s.told] 38)) := (Chg.refl _ _).alloc _
    have hQP := QP.thn H2.out.2.1 H2.out.2.2 (QP.same hQ3 (hC3.mono (show ∀ k ∈ [rc], k ∈ rc :: gs2 ∨ _ by simp)))
    have H3 := Lib.hid (And.intro (QP.pre H1.out.1 (hQP.calm hA)) (own_mono (own_one w3 (y1, s.told)) (Nat.le_trans H1.out.1.size (Nat.le_trans H2.out.2.2.size hC3.size))))
    clear hQ3 hC3 hA hQP
    go_wp2
    go_ret
    refine ⟨_, rfl, by rw [H1.out.2.2]; exact H3.out.2, ?_⟩
    rw [H1.out.2.1]
    exact H3.out.1

theorem ListOk.sub {L L' : WL} (h : ListOk L) (hs : L'.Sublist L) : ListOk L' := ⟨(List.Sublist.map _ hs).nodup h.nodup, fun x hx => h.ok x (hs.mem hx)⟩
theorem cut_sub (l : WL) (k : Nat) : (l.take k ++ l.drop (k + 1)).Sublist l := by
  rw [← List.eraseIdx_eq_take_drop_succ]
  exact List.eraseIdx_sublist l k
theorem cut_len {l : WL} {k : Nat} (h : k < l.length) : (l.take k ++ l.drop (k + 1)).length + 1 = l.length := by
  rw [List.length_append, List.length_take, List.length_drop]; omega
def zms (L : WL) : MS := ⟨0, 0, 0, false, 0, 0, 0, L⟩

set_option maxRecDepth 100000 in
set_option maxHeartbeats 4000000 in
theorem qwaitingc (rc : Nat) (gs : List Nat) (s : MS) (w : World) (h : QM w rc gs s) (hL : ListOk s.L) (hl : s.L.length ≤ 16) :
    Calls Try.prog 51 #[.pointer (some ⟨rc, 0, none⟩)] w (IntsPost (ordT s.L) w) := by
  obtain ⟨a, cap, hb, hs⟩ := h.src
  have c0 := cellB hb (i := 7) (v := .slice a s.L.length cap) rfl
  obtain ⟨v1, w1, hr, ho, hC1⟩ := run_fresh13 hs (by omega)
  obtain ⟨i0, hi, hz0, hz1, hz2⟩ := info_parts infoInt
  obtain ⟨va, vc, rfl⟩ := own_slice ho
  have hA : Chg [] w1 (w1.alloc (.cells (qcells (.slice va s.L.length vc) (zms s.L)) 65)) := (Chg.refl _ _).alloc _
  have hQ : QM (w1.alloc (.cells (qcells (.slice va s.L.length vc) (zms s.L)) 65)) w1.heap.size ((Value.slice va s.L.length vc).ownBlock.toList) (zms s.L) := ⟨_, heap_alloc_eq w1 _, own_mono (own_kept ho hA (by simp)) (Nat.zero_le _), rfl⟩
  obtain ⟨n, hn⟩ : ∃ n, n = s.L.length := ⟨_, rfl⟩
  have HNn := Lib.hid hn
  rw [← hn] at c0 hl hr hQ
  have H1 := Lib.hid (And.intro hr (And.intro hQ (And.intro (hC1.trans hA) (And.intro (own_ge ho) hC1.size))))
  rw [← hn] at H1
  have HL := Lib.hid hL
  clear h hb hs hr ho hC1 hA hQ hL hn
  go_enter Try.func51, Try.ntmps51
  go_wp2_with (at_builtin; refine wpList_run rfl _ _ 63 63 rfl rfl (.slice none 0 0) (.slice a n cap) (.slice va n vc) rfl rfl w1 H1.out.1 ?_)
  go_loopw [4] (fun lv wr => ∃ (m : Nat) (L' : WL) (gs' : List Nat), (∃ a c, lv = .slice a m c) ∧ wr.ownsRow w.heap.size 3 1 lv m (((ordT s.L).take m).map (Value.int .i64)) ∧ QM wr w1.heap.size gs' (zms L') ∧ ListOk L' ∧ ordT L' = (ordT s.L).drop m ∧ L'.length + m = n ∧ Chg [] w wr ∧ ∀ k ∈ gs', w.heap.size ≤ k) (fun lv _ => n - slen lv)
  case atStart => exact ⟨0, s.L, _, ⟨none, 0, rfl⟩, World.ownsRow_nil .., H1.out.2.1, HL.out, rfl, by have := HNn.out; omega, H1.out.2.2.1, H1.out.2.2.2.1⟩
  case round =>
    obtain ⟨m, L', gs', ⟨la, lc, rfl⟩, ho, hQ, hL', hd, hlen, hC, hge⟩ := hrel
    obtain ⟨b, bc, hb, hcell⟩ := hQ.open
    have c7 := cellB hb (i := 7) (v := .slice b L'.length bc) rfl
    have hF := qfirstc w1.heap.size gs' (zms L') wr hQ (show L'.length ≤ 999999 by omega)
    by_cases hz : L' = []
    · have hall : (ordT s.L).take m = ordT s.L := by
        have h0 : (ordT s.L).drop m = [] := by rw [← hd, hz]; rfl
        exact List.take_of_length_le (List.drop_eq_nil_iff.1 h0)
      rw [hall] at ho
      have hm : (ordT s.L).length = m := by have := ho.1; rw [List.length_map] at this; omega
      have HO := Lib.hid (And.intro ho (And.intro hC hm))
      subst hz
      rw [show ([] : WL).length = 0 from rfl] at c7
      clear ho hQ hL' hd hC hge hb hcell hF hall hm
      go_wp2
      go_ret
      exact ⟨_, rfl, by rw [HO.out.2.2]; exact HO.out.1, HO.out.2.1⟩
    · have hpos : 0 < L'.length := List.length_pos_iff.2 hz
      obtain ⟨g, rfl, hcell2⟩ := hcell.resolve_left hz
      have HK := Lib.hid (And.intro ho (And.intro hQ (And.intro hL' (And.intro hd (And.intro hC (And.intro hge (And.intro hcell2 hb)))))))
      have HF := Lib.hid hF
      obtain ⟨n', hn'⟩ : ∃ n', n' = L'.length := ⟨_, rfl⟩
      rw [← hn'] at c7 hpos hlen
      have HN' := Lib.hid hn'
      clear ho hQ hL' hd hC hge hb hcell hcell2 hF hz hn'
      go_wp2_with fail
      refine HF.out.mono ?_
      rintro e w2 ⟨hC2, ⟨hnil, rfl⟩ | ⟨k, hk, rfl⟩⟩
      · exfalso
        have h9 : L' = [] := hnil
        have := HN'.out
        rw [h9] at this
        simp at this
        omega
      · have hkl : k < n' := by rw [HN'.out]; exact hk.1
        obtain ⟨y, hy⟩ : ∃ y, L'[k]? = some y := ⟨_, List.getElem?_eq_getElem hk.1⟩
        obtain ⟨⟨r, hoL⟩, htk⟩ := first_ord HK.out.2.2.1 hk hy
        have d1 := SrcAt.calm.cell_calm (HK.out.2.2.2.2.2.2.1 k y hy).1 hC2
        have c8 := SrcAt.calm.cell_calm c7 hC2
        have hordT : ordT (L'.take k ++ L'.drop (k + 1)) = (ordT s.L).drop (m + 1) := by
          have h5 := HK.out.2.2.2.1
          unfold ordT at h5 ⊢
          rw [← htk, ord_take HK.out.2.2.1, hoL, List.tail_cons]
          rw [hoL, List.map_cons] at h5
          rw [← List.drop_drop, ← h5]
          rfl
        have hx : (ordT s.L)[m]? = some y.1 := by
          have h0 : (ordT s.L).drop m = y.1 :: r.map (·.1) := by rw [← HK.out.2.2.2.1]; unfold ordT; rw [hoL]; rfl
          have h1 : ((ordT s.L).drop m)[0]? = some y.1 := by rw [h0]; rfl
          simpa using h1
        have HX := Lib.hid (And.intro hordT (And.intro (show (((ordT s.L).take (m + 1)).map (Value.int .i64)) = (((ordT s.L).take m).map (Value.int .i64)) ++ [.int .i64 y.1] by simp [List.take_add_one, hx]) (And.intro (cut_sub L' k) (cut_len (show k < L'.length from hk.1)))))
        have ho2 := own_kept HK.out.1 hC2 (by simp)
        have hd1 : m + 1 ≤ maxLen := by unfold maxLen; omega
        have hd2 : (m + 1) * 8 ≤ 140737488355328 := by omega
        have hB1 : w.heap.size ≤ w2.heap.size := Nat.le_trans HK.out.2.2.2.2.1.size hC2.size
        have HO2 := Lib.hid (And.intro ho2 (And.intro (HK.out.2.1.calm hC2) (HK.out.2.2.2.2.1.trans hC2)))
        obtain ⟨y1, y2⟩ := y
        clear hy hoL htk hordT hx ho2 hk hC2
        go_wp2_with (first | fail | (at_builtin; refine wpList_push rfl _ _ 24 rfl w.heap.size 3 i0 (.int .i64 0) 1 8 Try.underlying24 hi hz0 hz1 hz2 rfl (by decide) (.slice la m lc) m _ rfl HO2.out.1 [.int .i64 y1] rfl rfl (by simp [Value.oneCell']) hd1 hd2 hB1 ?_; intro v3 w3 ho3 hC3 hloc hnn; obtain ⟨va3, vc3, rfl⟩ := own_slice ho3))
        have hQ3 := HO2.out.2.1.kept hC3 (fun j hj => by
          obtain ⟨cs, hcs⟩ := own_cells HO2.out.1 j hj
          obtain ⟨ds, hds⟩ := HO2.out.2.1.head
          refine ⟨blk_ne hcs hds (by decide), fun hm => ?_⟩
          obtain ⟨es, hes⟩ := HO2.out.2.1.gcells j hm
          exact blk_ne hcs hes (by decide) rfl)
        have hCw3 := HO2.out.2.2.trans' hC3 (fun j hj => .inr (own_ge HO2.out.1 j hj))
        have HR := Lib.hid (qremovec w1.heap.size gs' (zms L') k w3 hQ3 (show L'.length ≤ 999999 by have := HN'.out; omega) (by have := HN'.out; show k < L'.length; omega))
        have H3 := Lib.hid (And.intro ho3 (And.intro hQ3 hCw3))
        clear ho3 hC3 hloc hnn hQ3 hCw3
        go_wp2_with fail
        refine HR.out.mono ?_
        rintro e w4 ⟨rfl, gs4, hQ4, hN4, hC4⟩
        have H4 := Lib.hid (And.intro hQ4 (And.intro hN4 hC4))
        clear hQ4 hN4 hC4
        go_wp2
        go_roundw
        case rel =>
          refine ⟨m + 1, L'.take k ++ L'.drop (k + 1), gs4, ⟨_, _, rfl⟩, ?_, H4.out.1, HK.out.2.2.1.sub HX.out.2.2.1, HX.out.1, ?_, ?_, ?_⟩
          · rw [HX.out.2.1]
            refine own_kept H3.out.1 H4.out.2.2 (fun j hj hm => ?_)
            obtain ⟨cs, hcs⟩ := own_cells H3.out.1 j hm
            rcases List.mem_cons.1 hj with rfl | hj
            · obtain ⟨ds, hds⟩ := H3.out.2.1.head
              exact blk_ne hcs hds (by decide) rfl
            · obtain ⟨es, hes⟩ := H3.out.2.1.gcells j hj
              exact blk_ne hcs hes (by decide) rfl
          · have h5 := HX.out.2.2.2
            have h6 := HN'.out
            omega
          · refine H3.out.2.2.trans' H4.out.2.2 (fun j hj => .inr ?_)
            rcases List.mem_cons.1 hj with rfl | hj
            · exact H1.out.2.2.2.2
            · exact HK.out.2.2.2.2.2.1 j hj
          · intro j hj
            rcases H4.out.2.1 with e | h
            · rw [e] at hj; exact HK.out.2.2.2.2.2.1 j hj
            · exact Nat.le_trans H3.out.2.2.size (h j hj)
        case measure => simp [slen]; omega

end Go.Proofs.Ytagnobmdcchcaaa
