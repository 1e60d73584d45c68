
/- metronomelaw19: stands: contract. -/
import Derived.Test.YtonahpilmchnkaaGf
import Derived.Deep.RegionHeld3
namespace Go.Proofs.Ytonahpilmchnkaa
open Go.RowKit

theorem neqSelf (e : TE) (W : World) : (binOp .neq 32 (.agg #[.bool e.armed, .int .i64 e.clock, .int .i64 e.at_, .int .i64 e.iv, .bool e.out, .int .i64 e.cnt, .int .i64 e.ovr]) (.agg #[.bool e.armed, .int .i64 e.clock, .int .i64 e.at_, .int .i64 e.iv, .bool e.out, .int .i64 e.cnt, .int .i64 e.ovr])).run Try.prog W = .ok (.bool false) W := by
  have := neqT e e W
  rw [TE.eqb_self] at this
  exact this
set_option maxRecDepth 100000 in
set_option maxHeartbeats 4000000 in
theorem standsc (b : Nat) (bs : Int → Nat) (vs : Int → List Value) (rb : Nat) (s : TS) (q : Int) (w : World) (h : PB w b bs vs rb s q) :
    Calls Try.prog 20 #[.pointer (some ⟨b, 0, none⟩), .pointer (some ⟨rb, 0, none⟩)] w fun e w' => e = .returned (.bool true) ∧ Chg [] w w' := by
  have H := Lib.hid h
  clear h
  go_enter Try.func20, Try.ntmps20
  go_wp2_with fail
  go_loopw [5] (fun i wr => ∃ z : Int, -1 ≤ z ∧ z ≤ 9 ∧ i = .int .i64 z ∧ Chg [] w wr) (fun i _ => (10 - intOf i).toNat)
  case atStart => exact ⟨-1, by omega, by omega, rfl, Chg.refl _ _⟩
  case round =>
    obtain ⟨z, hz1, hz9, rfl, hC⟩ := hrel
    have hP := H.out.calm hC
    obtain ⟨Z, nw, hR, _⟩ := hP.r
    have cn := hR.cn
    by_cases hle : z ≤ 8
    · have dle : decide (z ≤ 8) = true := decide_eq_true hle
      have HA := Lib.hid (patc b bs vs s z wr hP.p)
      have HX := Lib.hid (And.intro hC hP)
      have hwz : wrap64 (z + 1) = z + 1 := by unfold wrap64; omega
      by_cases hin : inT s z
      · obtain ⟨i, rfl⟩ := Int.eq_ofNat_of_zero_le hin.1
        have hi8 : i < 8 := by have := hin.2; have := hP.p.n8; omega
        have hzi : (i : Int) < 8 := by omega
        have hzi0 : (0 : Int) ≤ (i : Int) := by omega
        obtain ⟨e, he⟩ : ∃ e, s.L[i]? = some e := ⟨_, List.getElem?_eq_getElem (by rw [hP.p.len]; exact hi8)⟩
        have hV : s.atV (i : Int) = .tuple #[e.val, .bool true] := by unfold TS.atV; rw [if_pos hin, Int.toNat_natCast, he]
        have dn : decide ((i : Int) < (s.n : Int)) = true := decide_eq_true hin.2
        have dn2 : decide (i < s.n) = true := decide_eq_true (by have := hin.2; omega)
        have HE := Lib.hid he
        clear hC hP hR cn hin he
        go_wp2_with fail
        refine HA.out.mono ?_
        rintro x w2 ⟨rfl, hC2⟩
        rw [hV]
        unfold TE.val TE.cells
        have h3 := (HX.out.2.calm hC2).calm (w' := w2.alloc (.cells #[.bool e.armed, .int .i64 e.clock, .int .i64 e.at_, .int .i64 e.iv, .bool e.out, .int .i64 e.cnt, .int .i64 e.ovr] 32 (0, 0))) ((Chg.refl _ _).alloc _)
        obtain ⟨ba, hba⟩ : ∃ ba, ba = w2.heap.size := ⟨_, rfl⟩
        obtain ⟨W3, hW3⟩ : ∃ W3, W3 = w2.alloc (.cells #[.bool e.armed, .int .i64 e.clock, .int .i64 e.at_, .int .i64 e.iv, .bool e.out, .int .i64 e.cnt, .int .i64 e.ovr] 32 (0, 0)) := ⟨_, rfl⟩
        rw [← hW3] at h3
        have hC3 : Chg [] w W3 := by rw [hW3]; exact (HX.out.1.trans hC2).alloc _
        have hnew : W3.heap[ba]? = some (.cells #[.bool e.armed, .int .i64 e.clock, .int .i64 e.at_, .int .i64 e.iv, .bool e.out, .int .i64 e.cnt, .int .i64 e.ovr] 32 (0, 0)) := by rw [hW3, hba]; exact heap_alloc_eq w2 _
        obtain ⟨Z3, nw3, hR3, _⟩ := h3.r
        go_upto_region 5 with fail
        rw [← hW3, ← hba]
        clear hW3 hba hV h3 hC2
        have cn := hR3.cn
        obtain ⟨c0, c1, c2, c3, c4, c5, c6⟩ := hR3.cL HE.out
        have t0 := cellB hnew (i := 0) rfl
        have t1 := cellB hnew (i := 1) rfl
        have t2 := cellB hnew (i := 2) rfl
        have t3 := cellB hnew (i := 3) rfl
        have t4 := cellB hnew (i := 4) rfl
        have t5 := cellB hnew (i := 5) rfl
        have t6 := cellB hnew (i := 6) rfl
        have hE := neqSelf e
        have HC := Lib.hid hC3
        clear hR3 hnew hC3
        go_wp2_with fail
        go_quiet (fail)
        rename_i nq
        go_wp2_with fail
        exact ⟨⟨(i : Int) + 1, by omega, by omega, rfl, HC.out.trans ((Chg.refl _ _).drewN _)⟩, by simp only [intOf]; omega⟩
      · have hV : s.atV z = .tuple #[TE.zero.val, .bool false] := by unfold TS.atV; rw [if_neg hin]
        have hways : decide (0 ≤ z) = false ∨ (decide (0 ≤ z) = true ∧ decide (z < (s.n : Int)) = false) := by
          by_cases g : 0 ≤ z
          · exact .inr ⟨decide_eq_true g, decide_eq_false (fun g2 => hin ⟨g, g2⟩)⟩
          · exact .inl (decide_eq_false g)
        clear hC hP hR cn hin
        go_wp2_with fail
        refine HA.out.mono ?_
        rintro x w2 ⟨rfl, hC2⟩
        rw [hV]
        unfold TE.zero TE.val TE.cells
        dsimp only
        have h3 := (HX.out.2.calm hC2).calm (w' := w2.alloc (.cells #[.bool false, .int .i64 0, .int .i64 0, .int .i64 0, .bool false, .int .i64 0, .int .i64 0] 32 (0, 0))) ((Chg.refl _ _).alloc _)
        obtain ⟨ba, hba⟩ : ∃ ba, ba = w2.heap.size := ⟨_, rfl⟩
        obtain ⟨W3, hW3⟩ : ∃ W3, W3 = w2.alloc (.cells #[.bool false, .int .i64 0, .int .i64 0, .int .i64 0, .bool false, .int .i64 0, .int .i64 0] 32 (0, 0)) := ⟨_, rfl⟩
        rw [← hW3] at h3
        have hC3 : Chg [] w W3 := by rw [hW3]; exact (HX.out.1.trans hC2).alloc _
        have hnew : W3.heap[ba]? = some (.cells #[.bool false, .int .i64 0, .int .i64 0, .int .i64 0, .bool false, .int .i64 0, .int .i64 0] 32 (0, 0)) := by rw [hW3, hba]; exact heap_alloc_eq w2 _
        obtain ⟨Z3, nw3, hR3, _⟩ := h3.r
        go_upto_region 5 with fail
        rw [← hW3, ← hba]
        clear hW3 hba hV h3 hC2
        have cn := hR3.cn
        have t0 := cellB hnew (i := 0) rfl
        have t1 := cellB hnew (i := 1) rfl
        have t2 := cellB hnew (i := 2) rfl
        have t3 := cellB hnew (i := 3) rfl
        have t4 := cellB hnew (i := 4) rfl
        have t5 := cellB hnew (i := 5) rfl
        have t6 := cellB hnew (i := 6) rfl
        have hE := neqSelf TE.zero
        have hbz : ∀ W, (Instr.build 32 #[]).run Try.prog W = .ok (.agg #[.bool false, .int .i64 0, .int .i64 0, .int .i64 0, .bool false, .int .i64 0, .int .i64 0]) W := fun W => by kernel_rfl
        unfold TE.zero at hE
        dsimp only at hE
        have HC := Lib.hid hC3
        clear hR3 hnew hC3
        rcases hways with dz | ⟨dz, dn⟩
        iterate 2
          · go_wp2_with fail
            go_quiet (fail)
            rename_i nq
            go_wp2_with fail
            exact ⟨⟨z + 1, by omega, by omega, rfl, HC.out.trans ((Chg.refl _ _).drewN _)⟩, by simp only [intOf]; omega⟩
    · have dle : decide (z ≤ 8) = false := decide_eq_false hle
      have HX := Lib.hid (And.intro hC hP)
      clear hC hP hR
      have HLe := Lib.hid (plenc b bs vs s wr.drew (HX.out.2.calm (Chg.refl _ _).drew).p)
      have eN : ((s.n : Int) == (s.n : Int)) = true := by simp
      have eN2 : (s.n == s.n) = true := by simp
      obtain ⟨N, hN⟩ : ∃ N : Int, N = (s.n : Int) := ⟨_, rfl⟩
      rw [← hN] at cn eN HLe
      clear hN eN2
      go_wp2_with fail
      go_region_held3 (fun w' => w'.cell? ⟨rb, 0, none⟩ = some (.int .i64 N)) (first | exact cn) (first | (go_at_call 23; refine HLe.out.mono ?_; rintro e w' ⟨rfl, rfl⟩))
      go_wp2
      go_ret
      exact ⟨by simp, HX.out.1.trans (Chg.refl _ _).drew⟩

end Go.Proofs.Ytonahpilmchnkaa
