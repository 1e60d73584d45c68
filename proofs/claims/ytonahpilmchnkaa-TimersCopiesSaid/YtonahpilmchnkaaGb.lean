
/- metronomeref19: Due: what stands between its rounds. -/
import Derived.Test.YtonahpilmchnkaaGa
namespace Go.Proofs.Ytonahpilmchnkaa
open Go.RowKit

set_option maxRecDepth 100000 in
set_option maxHeartbeats 4000000 in
theorem rduebad (b : Nat) (c now : Int) (w : World) (hn : ¬ (isC c ∧ okAt now)) :
    Calls Try.prog 18 #[.pointer (some ⟨b, 0, none⟩), .int .i64 c, .int .i64 now] w fun e w' => e = .returned (.slice none 0 0) ∧ w' = w := by
  have HTn := rtimec now w
  have hways : decide (c < 0) = true ∨ (decide (c < 0) = false ∧ decide (1 < c) = true) ∨ (decide (c < 0) = false ∧ decide (1 < c) = false ∧ ¬ okAt now) := by
    simp only [decide_eq_true_eq, decide_eq_false_iff_not]
    by_cases h1 : c < 0
    · exact .inl h1
    · by_cases h2 : 1 < c
      · exact .inr (.inl ⟨h1, h2⟩)
      · exact .inr (.inr ⟨h1, h2, fun h3 => hn ⟨by unfold isC; omega, h3⟩⟩)
  clear hn
  rcases hways with d1 | ⟨d1, d2⟩ | ⟨d1, d2, hno⟩
  iterate 2
    · clear HTn
      go_enter Try.func18, Try.ntmps18
      go_wp2
      go_ret
      exact ⟨rfl, rfl⟩
  · rw [show decide (okAt now) = false from decide_eq_false hno] at HTn
    have HTn := Lib.hid HTn
    clear hno
    go_enter Try.func18, Try.ntmps18
    go_wp2_with fail
    refine HTn.out.mono ?_
    rintro e w' ⟨rfl, rfl⟩
    go_wp2
    go_ret
    exact ⟨rfl, rfl⟩

theorem own_slice {w : World} {B : Nat} {e : TypeId} {size : Nat} {v : Value} {n : Nat} {xs : List Value} (h : w.ownsRow B e size v n xs) : ∃ a cap, v = .slice a n cap := by
  rcases h.2 with ⟨rfl, rfl⟩ | ⟨b, cap, cur, rfl, _⟩
  · exact ⟨none, 0, rfl⟩
  · exact ⟨_, cap, rfl⟩
theorem TInvD.upto {c now : Int} (hc : isC c) {l : List Int} {p : TS × List Int} (h : TInvD p.1 c now l) (j : Nat) : TInvD ((l.take j).foldl (TS.due1 c now) p).1 c now (l.drop j) := by
  induction l generalizing p j with
  | nil => simpa using h
  | cons x l ih =>
    cases j with
    | zero => exact h
    | succ j => exact ih (h.step hc) j
/-! ### The choice -/
structure SelW (w : World) (b db n : Nat) (L : List TE) (Z : List Int) (nw : Int) (l : List Int) (q : Nat) (v : Value) (wr : World) : Prop where
  at_ : RAt wr b n L Z nw
  mks : wr.heap[db]? = some (.cells ((marksT l q).map Value.bool).toArray 74 (0, 0))
  own : wr.ownsRow w.heap.size 3 1 v q ((l.take q).map (Value.int .i64))
  chg : Chg [] w wr
  ne : db ∉ v.ownBlock.toList
  lt : w.heap.size ≤ db
  bl : b < w.heap.size
section
variable {w w1 w2 : World} {b db n : Nat} {L : List TE} {Z : List Int} {nw : Int} {l : List Int} {q : Nat} {v : Value}
theorem SelW.calm (h : SelW w b db n L Z nw l q v w1) (hC : Chg [] w1 w2) : SelW w b db n L Z nw l q v w2 :=
  ⟨h.at_.calm hC, hC.blk h.mks (by simp), own_kept h.own hC (by simp), h.chg.trans hC, h.ne, h.lt, h.bl⟩
theorem SelW.mark (h : SelW w b db n L Z nw l q v w1) {i : Nat} (hi : i < 8) : w1.cell? ⟨db, i, none⟩ = some (.bool (decide ((i : Int) ∈ l.take q))) :=
  cellB h.mks (by rw [List.getElem?_toArray, List.getElem?_map, marksT_get l q hi]; rfl)
theorem SelW.next (h : SelW w b db n L Z nw l q v w1) {k : Nat} (hk : l[q]? = some (k : Int)) {v' : Value} (ho : w2.ownsRow w.heap.size 3 1 v' (q + 1) ((l.take q).map (Value.int .i64) ++ [.int .i64 (k : Int)]))
    (hC : Chg v.ownBlock.toList (w1.setCell ⟨db, k, none⟩ (.bool true)) w2) (hl : v'.ownBlock = v.ownBlock ∨ ∃ g, (w1.setCell ⟨db, k, none⟩ (.bool true)).heap.size ≤ g ∧ v'.ownBlock = some g) : SelW w b db n L Z nw l (q + 1) v' w2 := by
  have hC0 : Chg [db] w1 (w1.setCell ⟨db, k, none⟩ (.bool true)) := (Chg.refl _ _).setCell _ _ (by simp)
  have hs0 := hC0.size
  have hb := h.bl
  have hlt := h.lt
  have hsz := h.chg.size
  have hdb := lt_of_blk h.mks
  refine ⟨(h.at_.kept hC0 (by simp; omega)).kept hC (own_notin h.own h.bl), ?_, ?_, (h.chg.trans' hC0 (fun x hx => .inr (by simp at hx; omega))).trans' hC (fun x hx => .inr (own_ge h.own x hx)), ?_, h.lt, h.bl⟩
  · have h1 := blk_setCell (i := k) h.mks (.bool true)
    rw [List.setIfInBounds_toArray, ← List.map_set, marksT_set hk] at h1
    exact hC.blk h1 h.ne
  · rw [List.take_add_one, hk, List.map_append]
    exact ho
  · intro hm
    rcases hl with e | ⟨g, hg, e⟩
    · rw [e] at hm; exact h.ne hm
    · rw [e] at hm
      simp at hm
      omega
end
theorem newB8 : ∀ w, (Instr.alloc 74 true (.tuple #[])).run Try.prog w = .ok (.pointer (some ⟨w.heap.size, 0, none⟩)) (w.alloc (.cells ((List.replicate 8 false).map Value.bool).toArray 74 (0, 0))) := fun w => by kernel_rfl

/-! ### What is done to those chosen -/
structure DueQ (w : World) (b : Nat) (s' : TS) (out : List Int) (v : Value) (a : Option Addr) (l : List Int) (q : Int) (wr : World) : Prop where
  at_ : ∃ Z nw, RAt wr b s'.n s'.L Z nw ∧ LinkT s' Z nw ∧ nw ≤ q
  own : wr.ownsRow w.heap.size 3 1 v out.length (out.map (Value.int .i64))
  ints : IntsAt wr a l
  chg : Chg [b] w wr
  la : ∀ g, a = some ⟨g, 0, none⟩ → w.heap.size ≤ g ∧ g < wr.heap.size ∧ g ∉ v.ownBlock.toList
  bl : b < w.heap.size
def RDueP (b : Nat) (s' : TS) (out : List Int) (q : Int) (w : World) (e : Ending) (w' : World) : Prop :=
  ∃ v, e = .returned v ∧ w'.ownsRow w.heap.size 3 1 v out.length (out.map (Value.int .i64)) ∧ (∃ Z nw, RAt w' b s'.n s'.L Z nw ∧ LinkT s' Z nw ∧ nw ≤ q) ∧ Chg [b] w w'
section
variable {w w1 w2 : World} {b : Nat} {s s' : TS} {out : List Int} {v : Value} {a : Option Addr} {l : List Int} {q q' : Int}
theorem DueQ.next (h : DueQ w b s out v a l q w1) {Z : List Int} {nw : Int} (hR : RAt w2 b s'.n s'.L Z nw) (hL : LinkT s' Z nw) (hq : nw ≤ q') (hC : Chg [b] w1 w2) : DueQ w b s' out v a l q' w2 := by
  have hs := hC.size
  have hb := h.bl
  exact ⟨⟨Z, nw, hR, hL, hq⟩, own_kept h.own hC (fun x hx hm => by simp at hx; subst hx; exact own_notin h.own h.bl hm), h.ints.kept hC (fun g e hm => by simp at hm; have := (h.la g e).1; omega), h.chg.trans hC, fun g e => ⟨(h.la g e).1, by have := (h.la g e).2.1; omega, (h.la g e).2.2⟩, h.bl⟩
theorem DueQ.calm (h : DueQ w b s out v a l q w1) (hC : Chg [] w1 w2) : DueQ w b s out v a l q w2 := by
  obtain ⟨Z, nw, hR, hL, hq⟩ := h.at_
  exact h.next (hR.calm hC) hL hq (hC.mono (by simp))
theorem DueQ.put (h : DueQ w b s out v a l q w1) {i : Nat} {e : TE} (he : s.L[i]? = some e) {f : Nat} (hf : f < 7) {u : Value} (e' : TE) (hv : e.cells.set f u = e'.cells) :
    DueQ w b ⟨s.n, s.L.set i e', s.W⟩ out v a l q (w1.setCell ⟨b, 1 + i * 7 + f, none⟩ u) := by
  obtain ⟨Z, nw, hR, hL, hq⟩ := h.at_
  exact h.next (s' := ⟨s.n, s.L.set i e', s.W⟩) (hR.put he hf e' hv) (hL.sub fun c hc x hx => hx) hq ((Chg.refl _ _).setCell _ _ (by simp))
theorem DueQ.push (h : DueQ w b s out v a l q w1) (x : Int) {v' : Value} (ho : w2.ownsRow w.heap.size 3 1 v' (out.length + 1) (out.map (Value.int .i64) ++ [.int .i64 x])) (hC1 : Chg v.ownBlock.toList w1 w2)
    (hl : v'.ownBlock = v.ownBlock ∨ ∃ k, w1.heap.size ≤ k ∧ v'.ownBlock = some k) : DueQ w b s (out ++ [x]) v' a l q w2 := by
  have hs2 := hC1.size
  obtain ⟨Z, nw, hR, hL, hq⟩ := h.at_
  refine ⟨⟨Z, nw, hR.kept hC1 (own_notin h.own h.bl), hL, hq⟩, ?_, h.ints.kept hC1 (fun g e => (h.la g e).2.2), h.chg.trans' hC1 (fun y hy => .inr (own_ge h.own y hy)), fun g e => ⟨(h.la g e).1, by have := (h.la g e).2.1; omega, fun hm => ?_⟩, h.bl⟩
  · rw [List.length_append, List.map_append]
    exact ho
  · rcases hl with e1 | ⟨k, hk, e1⟩
    · rw [e1] at hm; exact (h.la g e).2.2 hm
    · rw [e1] at hm
      simp at hm
      have := (h.la g e).2.1
      omega
theorem DueQ.cells (h : DueQ w b s out v a l q w1) {i : Nat} {e : TE} (he : s.L[i]? = some e) :
    (w1.cell? ⟨b, 1 + i * 7, none⟩ = some (.bool e.armed) ∧ w1.cell? ⟨b, 1 + i * 7 + 1, none⟩ = some (.int .i64 e.clock) ∧ w1.cell? ⟨b, 1 + i * 7 + 2, none⟩ = some (.int .i64 e.at_) ∧ w1.cell? ⟨b, 1 + i * 7 + 3, none⟩ = some (.int .i64 e.iv) ∧ w1.cell? ⟨b, 1 + i * 7 + 4, none⟩ = some (.bool e.out) ∧ w1.cell? ⟨b, 1 + i * 7 + 5, none⟩ = some (.int .i64 e.cnt) ∧ w1.cell? ⟨b, 1 + i * 7 + 6, none⟩ = some (.int .i64 e.ovr)) ∧ (∀ j : Nat, w1.frozen? ⟨b, j, none⟩ = false) := by
  obtain ⟨Z, nw, hR, _⟩ := h.at_
  exact ⟨hR.cL he, hR.fz⟩
end

end Go.Proofs.Ytonahpilmchnkaa
