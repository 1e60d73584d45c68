
/- Timers: Clear, Taken, At, Len, New: contracts. -/
import Derived.Test.YtonahpilmchnkaaJc
import Derived.Deep.MidRow
namespace Go.Proofs.Ytonahpilmchnkaa
open Go.RowKit

theorem TAt.cells7 {w : World} {b : Nat} {bs : Int → Nat} {vs : Int → List Value} {s : TS} (h : TAt w b bs vs s) {i : Nat} {e : TE} (he : s.L[i]? = some e) :
    (w.cell? ⟨b, 3 + i * 7, none⟩ = some (.bool e.armed) ∧ w.cell? ⟨b, 3 + i * 7 + 1, none⟩ = some (.int .i64 e.clock) ∧ w.cell? ⟨b, 3 + i * 7 + 2, none⟩ = some (.int .i64 e.at_) ∧ w.cell? ⟨b, 3 + i * 7 + 3, none⟩ = some (.int .i64 e.iv) ∧ w.cell? ⟨b, 3 + i * 7 + 4, none⟩ = some (.bool e.out) ∧ w.cell? ⟨b, 3 + i * 7 + 5, none⟩ = some (.int .i64 e.cnt) ∧ w.cell? ⟨b, 3 + i * 7 + 6, none⟩ = some (.int .i64 e.ovr)) ∧ (∀ j : Nat, w.frozen? ⟨b, j, none⟩ = false) :=
  ⟨⟨h.entry he (f := 0) (by omega) rfl, h.entry he (f := 1) (by omega) rfl, h.entry he (f := 2) (by omega) rfl, h.entry he (f := 3) (by omega) rfl, h.entry he (f := 4) (by omega) rfl, h.entry he (f := 5) (by omega) rfl, h.entry he (f := 6) (by omega) rfl⟩, frozenB h.head⟩

theorem set_same {α : Type} {l : List α} {i : Nat} {x : α} (h : l[i]? = some x) : l.set i x = l := by
  apply List.ext_getElem?
  intro j
  by_cases e : i = j
  · subst e
    rw [List.getElem?_set_self (List.getElem?_eq_some_iff.1 h).1, h]
  · rw [List.getElem?_set_ne e]
set_option maxRecDepth 100000 in
set_option maxHeartbeats 4000000 in
theorem ptakenc (b : Nat) (bs : Int → Nat) (vs : Int → List Value) (s : TS) (id : Int) (w : World) (h : TAt w b bs vs s) :
    Calls Try.prog 13 #[.pointer (some ⟨b, 0, none⟩), .int .i64 id] w fun e w' => e = .returned (.tuple #[.int .i64 (s.takenV id).1, .int .i64 (s.takenV id).2]) ∧ NextT b bs vs (s.takenS id) w w' := by
  have HMp := pmayc b bs vs s id true w h
  by_cases hin : inT s id
  · rw [if_pos ⟨hin, rfl⟩] at HMp
    obtain ⟨i, rfl⟩ := Int.eq_ofNat_of_zero_le hin.1
    have hi8 : i < 8 := by have := hin.2; have := h.n8; omega
    obtain ⟨e, he⟩ : ∃ e, s.L[i]? = some e := ⟨_, List.getElem?_eq_getElem (by rw [h.len]; exact hi8)⟩
    have hz : (i : Int) < 8 := by omega
    have hz0 : (0 : Int) ≤ (i : Int) := by omega
    have HM := Lib.hid HMp
    obtain ⟨⟨c0, c1, c2, c3, c4, c5, c6⟩, fz⟩ := h.cells7 he
    have hv : s.takenV (i : Int) = (e.take.ovr, 0) := by unfold TS.takenV; rw [if_pos hin, Int.toNat_natCast, he]
    have hs : s.takenS (i : Int) = ⟨s.n, s.L.set i e.take, s.W⟩ := by unfold TS.takenS; rw [if_pos hin, Int.toNat_natCast, he]
    rw [hv, hs]
    have HT := Lib.hid (And.intro h he)
    have hg : ∀ x : TE, (s.L.set i x)[i]? = some x := fun x => List.getElem?_set_self (List.getElem?_eq_some_iff.1 he).1
    have HG := Lib.hid hg
    clear h he hin HMp hv hs hg
    unfold TE.take
    cases ho : e.out with
    | false =>
      rw [ho] at c4
      rw [if_neg (by simp)]
      have hse : NextT b bs vs ⟨s.n, s.L.set i e, s.W⟩ w w := by
        rw [set_same HT.out.2]
        exact NextT.refl HT.out.1
      have HS := Lib.hid hse
      clear hse ho
      go_enter Try.func13, Try.ntmps13
      go_wp2_with (go_at_call 25; refine HM.out.mono ?_; rintro e w' ⟨rfl, rfl⟩)
      go_ret2
      exact ⟨rfl, HS.out⟩
    | true =>
      rw [ho] at c4
      rw [if_pos rfl]
      have h1 := (NextT.refl HT.out.1).put HT.out.2 (f := 4) (by omega) (v := .bool false) (e' := ⟨e.armed, e.clock, e.at_, e.iv, false, e.cnt, e.ovr⟩) rfl
      have h2 := h1.put (HG.out _) (f := 6) (by omega) (v := .int .i64 e.cnt) (e' := ⟨e.armed, e.clock, e.at_, e.iv, false, e.cnt, e.cnt⟩) rfl
      rw [List.set_set] at h2
      have h3 := h2.put (HG.out _) (f := 5) (by omega) (v := .int .i64 0) (e' := ⟨e.armed, e.clock, e.at_, e.iv, false, 0, e.cnt⟩) rfl
      rw [List.set_set] at h3
      have HS := Lib.hid h3
      clear h1 h2 h3 ho
      go_enter Try.func13, Try.ntmps13
      go_wp2_with (go_at_call 25; refine HM.out.mono ?_; rintro e w' ⟨rfl, rfl⟩)
      go_ret2
      exact ⟨rfl, HS.out⟩
  · rw [if_neg (fun h => hin h.1)] at HMp
    rw [show s.takenV id = (0, 2) from if_neg hin, show s.takenS id = s from if_neg hin]
    have HM := Lib.hid HMp
    have HT := Lib.hid h
    clear h hin HMp
    go_enter Try.func13, Try.ntmps13
    go_wp2_with (go_at_call 25; refine HM.out.mono ?_; rintro e w' ⟨rfl, rfl⟩)
    go_ret2
    exact ⟨rfl, NextT.refl HT.out⟩

theorem sizeT : (Try.prog.info? 32).map (·.size) = some 7 := by kernel_rfl
theorem oneT (e : TE) : e.cells.toArray.all (·.oneCell') = true := all_oneCell_toArray (fun v hv => by
  unfold TE.cells at hv
  simp only [List.mem_cons, List.not_mem_nil, or_false] at hv
  rcases hv with rfl | rfl | rfl | rfl | rfl | rfl | rfl <;> rfl)
def TE.val (e : TE) : Value := .agg e.cells.toArray
def TS.atV (s : TS) (id : Int) : Value := if inT s id then (match s.L[id.toNat]? with | some e => .tuple #[e.val, .bool true] | none => .tuple #[TE.zero.val, .bool false]) else .tuple #[TE.zero.val, .bool false]
set_option maxRecDepth 100000 in
set_option maxHeartbeats 4000000 in
theorem patc (b : Nat) (bs : Int → Nat) (vs : Int → List Value) (s : TS) (id : Int) (w : World) (h : TAt w b bs vs s) :
    Calls Try.prog 12 #[.pointer (some ⟨b, 0, none⟩), .int .i64 id] w fun e w' => e = .returned (s.atV id) ∧ Chg [] w w' := by
  obtain ⟨bx, hbx⟩ : ∃ bx, bx = w.heap.size := ⟨_, rfl⟩
  obtain ⟨w1, hw1⟩ : ∃ w1, w1 = w.alloc (.cells #[.bool false, .int .i64 0, .int .i64 0, .int .i64 0, .bool false, .int .i64 0, .int .i64 0] 32 (0, 0)) := ⟨_, rfl⟩
  have hC1 : Chg [] w w1 := by rw [hw1]; exact (Chg.refl _ _).alloc _
  have hnew : w1.heap[bx]? = some (.cells #[.bool false, .int .i64 0, .int .i64 0, .int .i64 0, .bool false, .int .i64 0, .int .i64 0] 32 (0, 0)) := by rw [hw1, hbx]; exact heap_alloc_eq w _
  have hT1 := h.calm hC1
  have HIs := Lib.hid (pisc b bs vs s w1 hT1)
  have HIn := Lib.hid (pinc b bs vs s id w1 hT1)
  unfold TS.atV
  by_cases hin : inT s id
  · rw [if_pos hin]
    obtain ⟨i, rfl⟩ := Int.eq_ofNat_of_zero_le hin.1
    have hi8 : i < 8 := by have := hin.2; have := h.n8; omega
    obtain ⟨e, he⟩ : ∃ e, s.L[i]? = some e := ⟨_, List.getElem?_eq_getElem (by rw [h.len]; exact hi8)⟩
    rw [Int.toNat_natCast, he]
    have hz : (i : Int) < 8 := by omega
    have hz0 : (0 : Int) ≤ (i : Int) := by omega
    rw [show decide (inT s (i : Int)) = true from decide_eq_true hin] at HIn
    obtain ⟨⟨c0, c1, c2, c3, c4, c5, c6⟩, fz⟩ := hT1.cells7 he
    have HT := Lib.hid (And.intro hT1 (And.intro he (And.intro hC1 hnew)))
    have HB := Lib.hid (show w.heap.size ≤ bx from by omega)
    clear h hT1 he hin hC1 hnew
    go_enter Try.func12, Try.ntmps12
    go_wp2_with fail
    rw [← hw1, ← hbx]
    clear hw1 hbx
    have hth : w1.there bx 0 7 := fun j hj => ⟨by rw [cellB HT.out.2.2.2 (Array.getElem?_eq_getElem (by simpa using hj))]; rfl, frozenB HT.out.2.2.2 _⟩
    have hfull := blk_full HT.out.2.2.2 e.cells rfl
    have HF := Lib.hid (And.intro hth hfull)
    clear hth hfull
    go_wp2_with (first | (go_at_call 28; refine HIs.out.mono ?_; rintro e w' ⟨rfl, rfl⟩) | (go_at_call 31; refine HIn.out.mono ?_; rintro e w' ⟨rfl, rfl⟩) | (refine wpList_store_mid (P := Try.prog) rfl 32 _ _ rfl bx 0 e.cells.toArray rfl rfl HF.out.1 sizeT (oneT e) ?_))
    obtain ⟨W, hW⟩ : ∃ W, W = w'.setCells bx 0 e.cells := ⟨_, rfl⟩
    have hf := HF.out.2
    rw [← hW] at hf ⊢
    have r0 := cellB hf (i := 0) (v := .bool e.armed) rfl
    have r1 := cellB hf (i := 1) (v := .int .i64 e.clock) rfl
    have r2 := cellB hf (i := 2) (v := .int .i64 e.at_) rfl
    have r3 := cellB hf (i := 3) (v := .int .i64 e.iv) rfl
    have r4 := cellB hf (i := 4) (v := .bool e.out) rfl
    have r5 := cellB hf (i := 5) (v := .int .i64 e.cnt) rfl
    have r6 := cellB hf (i := 6) (v := .int .i64 e.ovr) rfl
    have hCW : Chg [] w W := by rw [hW]; exact HT.out.2.2.1.trans' (chg_setCells _ _ _) (fun x hx => .inr (by simp at hx; rw [hx]; exact HB.out))
    refine ⟨rfl, .tuple #[e.val, .bool true], ?_, rfl, hCW⟩
    simp [results, Try.results12, go_sem, r0, r1, r2, r3, r4, r5, r6, TE.val, TE.cells]
  · rw [if_neg hin]
    rw [show decide (inT s id) = false from decide_eq_false hin] at HIn
    have hz0 : (Instr.build 32 #[]).run Try.prog w1 = .ok (.agg TE.zero.cells.toArray) w1 := by kernel_rfl
    have HT := Lib.hid (And.intro hC1 (And.intro hnew hz0))
    have HB := Lib.hid (show w.heap.size ≤ bx from by omega)
    clear h hT1 hin hC1 hnew hz0
    go_enter Try.func12, Try.ntmps12
    go_wp2_with fail
    rw [← hw1, ← hbx]
    clear hw1 hbx
    have hth : w1.there bx 0 7 := fun j hj => ⟨by rw [cellB HT.out.2.1 (Array.getElem?_eq_getElem (by simpa using hj))]; rfl, frozenB HT.out.2.1 _⟩
    have hfull := blk_full HT.out.2.1 TE.zero.cells rfl
    have HF := Lib.hid (And.intro hth hfull)
    clear hth hfull
    go_wp2_with (first | (go_at_call 28; refine HIs.out.mono ?_; rintro e w' ⟨rfl, rfl⟩) | (go_at_call 31; refine HIn.out.mono ?_; rintro e w' ⟨rfl, rfl⟩) | (refine wpList_store_mid (P := Try.prog) rfl 32 _ _ rfl bx 0 TE.zero.cells.toArray rfl rfl HF.out.1 sizeT (oneT _) ?_))
    obtain ⟨W, hW⟩ : ∃ W, W = w'.setCells bx 0 TE.zero.cells := ⟨_, rfl⟩
    have hf := HF.out.2
    rw [← hW] at hf ⊢
    have r0 := cellB hf (i := 0) (v := .bool false) rfl
    have r1 := cellB hf (i := 1) (v := .int .i64 0) rfl
    have r2 := cellB hf (i := 2) (v := .int .i64 0) rfl
    have r3 := cellB hf (i := 3) (v := .int .i64 0) rfl
    have r4 := cellB hf (i := 4) (v := .bool false) rfl
    have r5 := cellB hf (i := 5) (v := .int .i64 0) rfl
    have r6 := cellB hf (i := 6) (v := .int .i64 0) rfl
    have hCW : Chg [] w W := by rw [hW]; exact HT.out.1.trans' (chg_setCells _ _ _) (fun x hx => .inr (by simp at hx; rw [hx]; exact HB.out))
    refine ⟨rfl, .tuple #[TE.zero.val, .bool false], ?_, rfl, hCW⟩
    simp [results, Try.results12, go_sem, r0, r1, r2, r3, r4, r5, r6, TE.val, TE.cells, TE.zero]

end Go.Proofs.Ytonahpilmchnkaa
