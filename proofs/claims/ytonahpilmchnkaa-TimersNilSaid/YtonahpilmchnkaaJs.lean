
/- Timers that are not there, and zero ones: contracts; Same where the numbers differ. -/
import Derived.Test.YtonahpilmchnkaaJn
namespace Go.Proofs.Ytonahpilmchnkaa
open Go.RowKit

/-! ### Ones that are not there -/
def NoT (w : World) (v : Value) : Prop := v = .pointer none ∨ ∃ b, v = .pointer (some ⟨b, 0, none⟩) ∧ w.cell? ⟨b, 0, none⟩ = some (.int .i64 0)
theorem NoT.calm {w w' : World} {v : Value} (h : NoT w v) (hC : Chg [] w w') : NoT w' v := by
  rcases h with h | ⟨b, h, hc⟩
  · exact .inl h
  · exact .inr ⟨b, h, cell_kept hc hC (by simp)⟩
theorem pisz (v : Value) (w : World) (h : NoT w v) : Calls Try.prog 28 #[v] w fun e w' => e = .returned (.bool false) ∧ w = w' := by
  rcases h with rfl | ⟨b, rfl, hc⟩
  · go_enter Try.func28, Try.ntmps28
    go_wp2
    go_ret
    exact ⟨rfl, rfl⟩
  · go_enter Try.func28, Try.ntmps28
    go_wp2
    go_ret
    exact ⟨rfl, rfl⟩
theorem pmayz (v : Value) (id : Int) (ok : Bool) (w : World) (h : NoT w v) : Calls Try.prog 25 #[v, .int .i64 id, .bool ok] w fun e w' => e = .returned (.int .i64 1) ∧ w = w' := by
  have HZ := Lib.hid (pisz v w h)
  clear h
  go_enter Try.func25, Try.ntmps25
  go_wp2_with (go_at_call 28; refine HZ.out.mono ?_; rintro e w' ⟨rfl, rfl⟩)
  go_ret
  exact ⟨rfl, rfl⟩
theorem parmz (v : Value) (w : World) (h : NoT w v) : Calls Try.prog 10 #[v, .int .i64 (-1), .int .i64 0, .int .i64 0, .int .i64 0] w fun e w' => e = .returned (.int .i64 1) ∧ w = w' := by
  have HZ := Lib.hid (fun ok => pmayz v (-1) ok w h)
  have HT := Lib.hid (ptimec 0 w)
  rw [show decide (okAt 0) = true from by decide] at HT
  clear h
  go_enter Try.func10, Try.ntmps10
  go_wp2_with (first | (go_at_call 26; refine HT.out.mono ?_; rintro e w' ⟨rfl, rfl⟩) | (go_at_call 25; refine (HZ.out _).mono ?_; rintro e w' ⟨rfl, rfl⟩))
  go_ret
  exact ⟨rfl, rfl⟩
theorem pstopz (v : Value) (w : World) (h : NoT w v) : Calls Try.prog 17 #[v, .int .i64 (-1)] w fun e w' => e = .returned (.int .i64 1) ∧ w = w' := by
  have HZ := Lib.hid (fun ok => pmayz v (-1) ok w h)
  clear h
  go_enter Try.func17, Try.ntmps17
  go_wp2_with (go_at_call 25; refine (HZ.out _).mono ?_; rintro e w' ⟨rfl, rfl⟩)
  go_ret
  exact ⟨rfl, rfl⟩
theorem pclearz (v : Value) (w : World) (h : NoT w v) : Calls Try.prog 16 #[v, .int .i64 (-1)] w fun e w' => e = .returned (.int .i64 1) ∧ w = w' := by
  have HZ := Lib.hid (pstopz v w h)
  clear h
  go_enter Try.func16, Try.ntmps16
  go_wp2_with (go_at_call 17; refine HZ.out.mono ?_; rintro e w' ⟨rfl, rfl⟩)
  go_ret
  exact ⟨rfl, rfl⟩
theorem ptakenz (v : Value) (w : World) (h : NoT w v) : Calls Try.prog 13 #[v, .int .i64 (-1)] w fun e w' => e = .returned (.tuple #[.int .i64 0, .int .i64 1]) ∧ w = w' := by
  have HZ := Lib.hid (fun ok => pmayz v (-1) ok w h)
  clear h
  go_enter Try.func13, Try.ntmps13
  go_wp2_with (go_at_call 25; refine (HZ.out _).mono ?_; rintro e w' ⟨rfl, rfl⟩)
  go_ret2
  exact ⟨rfl, rfl⟩
theorem plenz (v : Value) (w : World) (h : NoT w v) : Calls Try.prog 23 #[v] w fun e w' => e = .returned (.int .i64 0) ∧ w = w' := by
  have HZ := Lib.hid (pisz v w h)
  clear h
  go_enter Try.func23, Try.ntmps23
  go_wp2_with (go_at_call 28; refine HZ.out.mono ?_; rintro e w' ⟨rfl, rfl⟩)
  go_ret
  exact ⟨rfl, rfl⟩
theorem pcopyz (v : Value) (w : World) (h : NoT w v) : Calls Try.prog 21 #[v] w fun e w' => e = .returned (.pointer none) ∧ w = w' := by
  have HZ := Lib.hid (pisz v w h)
  clear h
  go_enter Try.func21, Try.ntmps21
  go_wp2_with (go_at_call 28; refine HZ.out.mono ?_; rintro e w' ⟨rfl, rfl⟩)
  go_ret
  exact ⟨rfl, rfl⟩
theorem pduez (v : Value) (n : Int) (w : World) (h : NoT w v) : Calls Try.prog 11 #[v, .int .i64 0, .int .i64 n] w fun e w' => e = .returned (.slice none 0 0) ∧ Chg [] w w' := by
  have hC : Chg [] w (w.alloc (int64B n)) := (Chg.refl _ _).alloc _
  have HZ := Lib.hid (pisz v _ (h.calm hC))
  unfold int64B at HZ
  clear h hC
  go_enter Try.func11, Try.ntmps11
  go_wp2_with (go_at_call 28; refine HZ.out.mono ?_; rintro e w' ⟨rfl, rfl⟩)
  go_ret
  exact ⟨rfl, (Chg.refl _ _).alloc _⟩
theorem patz (v : Value) (id : Int) (w : World) (h : NoT w v) : Calls Try.prog 12 #[v, .int .i64 id] w fun e w' => e = .returned (.tuple #[TE.zero.val, .bool false]) ∧ Chg [] w w' := by
  obtain ⟨bx, hbx⟩ : ∃ bx, bx = w.heap.size := ⟨_, rfl⟩
  obtain ⟨w1, hw1⟩ : ∃ w1, w1 = w.alloc (.cells #[.bool false, .int .i64 0, .int .i64 0, .int .i64 0, .bool false, .int .i64 0, .int .i64 0] 32 (0, 0)) := ⟨_, rfl⟩
  have hC1 : Chg [] w w1 := by rw [hw1]; exact (Chg.refl _ _).alloc _
  have hnew : w1.heap[bx]? = some (.cells #[.bool false, .int .i64 0, .int .i64 0, .int .i64 0, .bool false, .int .i64 0, .int .i64 0] 32 (0, 0)) := by rw [hw1, hbx]; exact heap_alloc_eq w _
  have HZ := Lib.hid (pisz v _ (h.calm hC1))
  have hz0 : (Instr.build 32 #[]).run Try.prog w1 = .ok (.agg TE.zero.cells.toArray) w1 := by kernel_rfl
  have HT := Lib.hid (And.intro hC1 (And.intro hnew hz0))
  have HB := Lib.hid (show w.heap.size ≤ bx from by omega)
  clear h hC1 hnew hz0
  go_enter Try.func12, Try.ntmps12
  go_wp2_with fail
  rw [← hw1, ← hbx]
  clear hw1 hbx
  have hth : w1.there bx 0 7 := fun j hj => ⟨by rw [cellB HT.out.2.1 (Array.getElem?_eq_getElem (by simpa using hj))]; rfl, frozenB HT.out.2.1 _⟩
  have hfull := blk_full HT.out.2.1 TE.zero.cells rfl
  have HF := Lib.hid (And.intro hth hfull)
  clear hth hfull
  go_wp2_with (first | (go_at_call 28; refine HZ.out.mono ?_; rintro e w' ⟨rfl, rfl⟩) | (refine wpList_store_mid (P := Try.prog) rfl 32 _ _ rfl bx 0 TE.zero.cells.toArray rfl rfl HF.out.1 sizeT (oneT _) ?_))
  obtain ⟨W, hW⟩ : ∃ W, W = w1.setCells bx 0 TE.zero.cells := ⟨_, rfl⟩
  have hf := HF.out.2
  rw [← hW] at hf ⊢
  have r0 := cellB hf (i := 0) (v := .bool false) rfl
  have r1 := cellB hf (i := 1) (v := .int .i64 0) rfl
  have r2 := cellB hf (i := 2) (v := .int .i64 0) rfl
  have r3 := cellB hf (i := 3) (v := .int .i64 0) rfl
  have r4 := cellB hf (i := 4) (v := .bool false) rfl
  have r5 := cellB hf (i := 5) (v := .int .i64 0) rfl
  have r6 := cellB hf (i := 6) (v := .int .i64 0) rfl
  have hCW : Chg [] w W := by rw [hW]; exact HT.out.1.trans' (chg_setCells _ _ _) (fun x hx => .inr (by simp at hx; rw [hx]; exact HB.out))
  refine ⟨rfl, .tuple #[TE.zero.val, .bool false], ?_, rfl, hCW⟩
  simp [results, Try.results12, go_sem, r0, r1, r2, r3, r4, r5, r6, TE.val, TE.cells, TE.zero]

/-! ### Same -/
theorem psamez (v u : Value) (p q : Bool) (w : World) (hn : p = false ∨ q = false) (h1 : Calls Try.prog 28 #[v] w fun e w' => e = .returned (.bool p) ∧ w = w') (h2 : Calls Try.prog 28 #[u] w fun e w' => e = .returned (.bool q) ∧ w = w') :
    Calls Try.prog 22 #[v, u] w fun e w' => e = .returned (.bool (p == q)) ∧ w = w' := by
  have H1 := Lib.hid h1
  have H2 := Lib.hid h2
  clear h1 h2
  cases p
  · clear hn
    cases q
    all_goals
      go_enter Try.func22, Try.ntmps22
      go_wp2_with (go_at_call 28; (first | (with_reducible refine H1.out.mono ?_) | (with_reducible refine H2.out.mono ?_)); rintro e w' ⟨rfl, rfl⟩)
      go_ret
      exact ⟨rfl, rfl⟩
  · obtain rfl : q = false := hn.resolve_left (by simp)
    clear hn
    go_enter Try.func22, Try.ntmps22
    go_wp2_with (go_at_call 28; (first | (with_reducible refine H1.out.mono ?_) | (with_reducible refine H2.out.mono ?_)); rintro e w' ⟨rfl, rfl⟩)
    go_ret
    exact ⟨rfl, rfl⟩

/-- Of unlike numbers. -/
theorem psamen (b1 b2 : Nat) (bs1 bs2 : Int → Nat) (vs1 vs2 : Int → List Value) (s1 s2 : TS) (w : World) (h1 : TAt w b1 bs1 vs1 s1) (h2 : TAt w b2 bs2 vs2 s2) (hn : s1.n ≠ s2.n) :
    Calls Try.prog 22 #[.pointer (some ⟨b1, 0, none⟩), .pointer (some ⟨b2, 0, none⟩)] w fun e w' => e = .returned (.bool false) ∧ Chg [] w w' := by
  have H1 := Lib.hid (pisc b1 bs1 vs1 s1 w h1)
  have H2 := Lib.hid (pisc b2 bs2 vs2 s2 w h2)
  have c1 := h1.cn
  have c2 := h2.cn
  have e0 : ((s1.n : Int) == (s2.n : Int)) = false := by simp; omega
  obtain ⟨n1, hn1⟩ : ∃ n1, n1 = (s1.n : Int) := ⟨_, rfl⟩
  obtain ⟨n2, hn2⟩ : ∃ n2, n2 = (s2.n : Int) := ⟨_, rfl⟩
  rw [← hn1] at c1 e0
  rw [← hn2] at c2 e0
  clear h1 h2 hn hn1 hn2
  go_enter Try.func22, Try.ntmps22
  go_wp2_with (go_at_call 28; (first | (with_reducible refine H1.out.mono ?_) | (with_reducible refine H2.out.mono ?_)); rintro e w' ⟨rfl, rfl⟩)
  go_quiet (fail)
  go_wp2
  go_ret
  exact ⟨rfl, (Chg.refl _ _).drewN _⟩

end Go.Proofs.Ytonahpilmchnkaa
