
/- metronomeref09: Leave. -/
import Derived.Test.YtohkjiibjljmmaaRb
import Derived.BigRegion
namespace Go.Proofs.Ytohkjiibjljmmaa
open Go.RowKit

theorem flatW_append (l m : WL) : flatW (l ++ m) = flatW l ++ flatW m := by simp [flatW]

set_option maxRecDepth 100000 in
set_option maxHeartbeats 2000000 in
theorem rleavec (rb : Nat) (l : WL) (t : Int) (w : World) (h : RAt w rb l) (hl : l.length ≤ 999999) :
    Calls Try.prog 29 #[.pointer (some ⟨rb, 0, none⟩), .int .i64 t] w fun e w' => e = .returned (.int .i64 (askR l t 1 true)) ∧ RAt w' rb (lvL l t) ∧ Chg [rb] w w' := by
  have hM := mayc t 1 w
  have hF := findc rb l t w h (by omega)
  have HR := Lib.hid h
  rcases ask_may (l := l) (t := t) (p := 1) true with ⟨h1, h2⟩ | ⟨h1, h2⟩
  · have hp : lvL l t = l := by unfold lvL; rw [if_neg (by rw [h2]; decide)]
    rw [h2, hp]
    rw [h1] at hM
    have HM := Lib.hid hM
    clear h hM hF hl h1 h2 hp
    go_enter Try.func29, Try.ntmps29
    go_wp2_with (go_at_call 47; refine HM.out.mono ?_; rintro e w' ⟨rfl, rfl⟩)
    go_ret
    exact ⟨rfl, HR.out, Chg.refl _ _⟩
  · rw [h1] at hM
    cases hh : hasR l t with
    | false =>
      rw [hh] at h2
      simp only [if_true, Bool.false_eq_true, if_false] at h2
      have hp : lvL l t = l := by unfold lvL; rw [if_neg (by rw [h2]; decide)]
      rw [h2, hp]
      rw [findL_none hh] at hF
      have HM := Lib.hid (And.intro hM hF)
      clear h hM hF hl h1 h2 hp hh
      go_enter Try.func29, Try.ntmps29
      go_wp2_with (first | (go_at_call 47; refine HM.out.1.mono ?_; rintro e w' ⟨rfl, rfl⟩) | (go_at_call 48; refine HM.out.2.mono ?_; rintro e w' ⟨rfl, rfl⟩))
      go_ret
      exact ⟨rfl, HR.out, Chg.refl _ _⟩
    | true =>
      rw [hh] at h2
      simp only [if_true] at h2
      obtain ⟨i, hi1, hi2, hi3, hi4⟩ := findL_some hh
      have hp : lvL l t = l.take i ++ l.drop (i + 1) := by unfold lvL; rw [if_pos h2, wdel_cut hi3 hi4]
      rw [h2, hp]
      rw [hi1] at hF
      obtain ⟨v, hb, hv⟩ := h
      obtain ⟨g, cap, cur, rfl, _, hgb, hnc, hcm, _, hcur⟩ := own_blk hv (by omega)
      have c0 : w.cell? ⟨rb, 0, none⟩ = some (.slice (some ⟨g, 0, none⟩) l.length cap) := cellB hb (i := 0) rfl
      have hcell : ∀ j u, (flatW l)[j]? = some u → w.drew.cell? ⟨g, j, none⟩ = some u := fun j u hj => cellB (w := w.drew) hgb (own_take hcur j u hj)
      have hadd : ∀ o j : Nat, ((⟨g, o, none⟩ : Addr).add j) = ⟨g, o + j, none⟩ := fun o j => by unfold Addr.add; split <;> simp_all
      have hs1 : SrcAt w.drew (.slice (some ⟨g, 0, none⟩) i cap) (l.take i).length (flatW (l.take i)) := .inr ⟨⟨g, 0, none⟩, cap, by rw [List.length_take, Nat.min_eq_left (by omega)], fun j u hj => by
        rw [hadd, Nat.zero_add]
        refine hcell j u ?_
        have e : flatW l = flatW (l.take i) ++ flatW (l.drop i) := by rw [← flatW_append, List.take_append_drop]
        rw [e, List.getElem?_append_left (List.getElem?_eq_some_iff.1 hj).1]
        exact hj⟩
      obtain ⟨v1, w1, hr1, ho1, hC1⟩ := run_fresh hs1 (by rw [List.length_take]; omega)
      obtain ⟨A, hA, hs2⟩ : ∃ A, (if cap = i + 1 then (⟨g, 0, none⟩ : Addr) else ⟨g, (i + 1) * 2, none⟩) = A ∧ SrcAt w1 (.slice (some A) (l.length - (i + 1)) (cap - (i + 1))) (l.drop (i + 1)).length (flatW (l.drop (i + 1))) := by
        refine ⟨_, rfl, .inr ⟨_, cap - (i + 1), by rw [List.length_drop], fun j u hj => ?_⟩⟩
        have hjl := (List.getElem?_eq_some_iff.1 hj).1
        rw [flatW_len, List.length_drop] at hjl
        rw [if_neg (by omega), hadd]
        have e : flatW l = flatW (l.take (i + 1)) ++ flatW (l.drop (i + 1)) := by rw [← flatW_append, List.take_append_drop]
        have hlen : (flatW (l.take (i + 1))).length = (i + 1) * 2 := by rw [flatW_len, List.length_take, Nat.min_eq_left (by omega)]
        have := hcell ((i + 1) * 2 + j) u (by rw [e, ← hlen, List.getElem?_append_right (by omega), Nat.add_sub_cancel_left]; exact hj)
        exact SrcAt.calm.cell_calm this hC1
      obtain ⟨i0, hi, hz0, hz1, hz2⟩ := info_parts infoWaiter
      have hlt : w.heap.size ≤ w1.heap.size := hC1.size
      have hd1 : (l.take i).length + (l.drop (i + 1)).length ≤ 999999 := by rw [List.length_take, List.length_drop]; omega
      obtain ⟨v2, w2, hr2, ho2, hC2, _⟩ := run_more (P := Try.prog) (w := w1) w.heap.size 40 40 68 i0 (.agg #[.int .i64 0, .int .i64 0]) 2 16 Try.underlying40 hi hz0 hz1 hz2 rfl (by decide)
        v1 _ _ ho1 _ _ _ hs2 (flatW_len _) (flatW_one _) (by unfold maxLen; omega) (by omega) hlt
      have hC0 : Chg [] w w1 := ((Chg.refl [] w).drew).trans hC1
      have hC3 : Chg [] w w2 := hC0.trans' hC2 (fun k hk => .inr (own_ge ho1 k hk))
      rw [← flatW_append, ← List.length_append] at ho2
      have hfin := RAt.made (l' := l.take i ++ l.drop (i + 1)) HR.out ho2 hC3
      obtain ⟨va1, vc1, e1⟩ := own_slice ho1
      obtain ⟨va2, vc2, e2⟩ := own_slice ho2
      have c1 : w1.cell? ⟨rb, 0, none⟩ = some (.slice (some ⟨g, 0, none⟩) l.length cap) := cellB (hC0.blk hb (by simp)) (i := 0) rfl
      have c2 : w2.cell? ⟨rb, 0, none⟩ = some (.slice (some ⟨g, 0, none⟩) l.length cap) := cellB (hC3.blk hb (by simp)) (i := 0) rfl
      have f2 := frozenB (hC3.blk hb (by simp)) 0
      subst e1
      subst e2
      generalize (l.take i).length = n1 at *
      generalize (l.take i ++ l.drop (i + 1)).length = n2 at *
      have HM := Lib.hid (And.intro hM hF)
      have H1 := Lib.hid (And.intro hr1 (And.intro hr2 hfin))
      have hA' : (if cap = i + 1 then (some ⟨g, 0, none⟩ : Option Addr) else some ⟨g, (i + 1) * 2, none⟩) = some A := by rw [← hA]; split <;> rfl
      clear hM hF h1 h2 hp hh hb hs1 hs2 hr1 hr2 ho1 ho2 hC1 hC2 hC0 hC3 hi1 hi3 hi4 hgb hfin hcell hadd hcur hv hi hd1 hA hlt hl
      generalize hn : l.length = n at *
      have HN := Lib.hid hn
      clear hn
      have hic : i ≤ cap := by omega
      have hin : i + 1 ≤ n := by omega
      have hwr : IntKind.i64.wrap ((i : Int) + 1) = (i : Int) + 1 := by unfold maxLen at hcm; simp [IntKind.wrap, IntKind.signed, IntKind.bits]; omega
      have hw1 : (0 : Int) ≤ (i : Int) + 1 := by omega
      have hw2 : (i : Int) + 1 ≤ (n : Int) := by omega
      go_enter Try.func29, Try.ntmps29
      go_wp2_with (first | (go_at_call 47; refine HM.out.1.mono ?_; rintro e w' ⟨rfl, rfl⟩) | (go_at_call 48; refine HM.out.2.mono ?_; rintro e w' ⟨rfl, rfl⟩))
      go_region_law (first
        | (refine step_run rfl _ _ 40 40 rfl rfl (.slice none 0 0) (.slice (some ⟨g, 0, none⟩) i cap) (.slice va1 n1 vc1) (by simp [Act.eval]) (by simp [Act.eval, Act.put]) w1 H1.out.1 ?_)
        | (refine step_run rfl _ _ 40 40 rfl rfl (.slice va1 n1 vc1) (.slice (some A) (n - (i + 1)) (cap - (i + 1))) (.slice va2 n2 vc2) (by simp [Act.eval, Act.put]) (by simp [Act.eval, Act.put]) w2 H1.out.2.1 ?_))
      all_goals (go_wp2; go_ret; exact ⟨rfl, H1.out.2.2⟩)

end Go.Proofs.Ytohkjiibjljmmaa
