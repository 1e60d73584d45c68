
/- metronomelaw22.nothing answers true at files that are not there (written by wip/nilb22.py). -/
import Derived.Test.YtkkjbnmfjhmobaaGreatDoorFna
import Derived.Test.YtkkjbnmfjhmobaaGreatDoorRgx
import Derived.Sort.CutIn
namespace Go.Proofs.YtkkjbnmfjhmobaaGreatDoor
open Go.RowKit Go.Shelf
attribute [local go_sem] Oper.semAt_some

set_option maxRecDepth 100000 in
theorem nnumc (z : Int) (w : World) : Calls Tryz.prog 16 #[.int .i64 z] w fun e w' => e = .returned (.int .i64 z) ∧ w = w' := by
  go_enter Tryz.func16, Tryz.ntmps16
  go_wp2
  go_ret
  exact ⟨rfl, rfl⟩
theorem all1X (p : Option Addr) (bq : Nat) (w : World) (h : NoF w p) (hb : w.heap[bq]? = some (.cells #[.pointer p] 23 (0, 0))) (L : Nat) :
    SeqX Fence.wide 6 Tryz.prog 52 #[.pointer (some ⟨bq, 0, none⟩)] (fun _ : Unit => #[.string ⟨#[]⟩, .int .i64 0]) (fun _ _ => True) (fun xs => xs = []) (fun _ => False) 0 L w := by
  intro l J Jx W hB _ _ _ _ h0
  have hC : Chg [] w W := ⟨hB.os, hB.tape, hB.output, hB.size, fun k hk _ => hB.block k hk⟩
  refine callsIn_wide.2 ((nAll1 p (.func (.yield l) #[] #[]) bq W (h.calm hC) (hC.blk hb (by simp))).mono ?_)
  rintro e w' ⟨rfl, rfl⟩
  exact ⟨⟨_, rfl⟩, .inl ⟨[], rfl, h0⟩⟩
/-- Beside calls at no files: the result's box. -/
structure NG (w : World) (p : Option Addr) (br B0 : Nat) (W : World) : Prop where
  n : NoF W p
  pb : ∀ a, p = some a → a.block < B0
  r : W.heap[br]? = some (.cells #[.bool false] 4 (0, 0))
  c : Chg [] w W
  lt : br < B0
  ge : w.heap.size ≤ br
  sz : B0 ≤ W.heap.size
theorem NG.kept {w : World} {p : Option Addr} {br B0 : Nat} {W W' : World} {S : List Nat} (h : NG w p br B0 W) (hC : Chg S W W') (hS : ∀ k ∈ S, B0 ≤ k) : NG w p br B0 W' := by
  refine ⟨?_, h.pb, hC.blk h.r (fun hm => by have := hS _ hm; have := h.lt; omega), h.c.trans' hC (fun k hk => .inr (by have := hS k hk; have := h.lt; have := h.ge; omega)), h.lt, h.ge, Nat.le_trans h.sz hC.size⟩
  rcases h.n with h1 | ⟨fb, A, t, fr, h1, hb, h0⟩
  · exact .inl h1
  · exact .inr ⟨fb, A, t, fr, h1, hC.blk hb (fun hm => by have := hS _ hm; have := h.pb _ h1; simp at this; omega), h0⟩
theorem NG.calm {w : World} {p : Option Addr} {br B0 : Nat} {W W' : World} (h : NG w p br B0 W) (hC : Chg [] W W') : NG w p br B0 W' := h.kept hC (by simp)
theorem NG.top {w : World} {p : Option Addr} {br B0 : Nat} {W : World} (h : NG w p br B0 W) : NG w p br W.heap.size W :=
  ⟨h.n, fun a e => Nat.lt_of_lt_of_le (h.pb a e) h.sz, h.r, h.c, Nat.lt_of_lt_of_le h.lt h.sz, h.ge, Nat.le_refl _⟩

set_option maxRecDepth 100000 in
set_option maxHeartbeats 8000000 in
theorem nothing22 (p : Option Addr) (w : World) (h : NoF w p) (hp : ∀ a, p = some a → a.block < w.heap.size) : Calls Tryz.prog 4 #[.pointer p] w fun e w' => e = .returned (.bool true) ∧ Chg [] w w' := by
  obtain ⟨br, hbr⟩ : ∃ br, br = w.heap.size := ⟨_, rfl⟩
  obtain ⟨w0, hw0⟩ : ∃ w0, w0 = w.alloc (.cells #[.bool false] 4 (0, 0)) := ⟨_, rfl⟩
  have hC : Chg [] w w0 := by rw [hw0]; exact (Chg.refl _ _).alloc _
  have hz : w0.heap.size = w.heap.size + 1 := by rw [hw0]; simp
  have G0 := Lib.hid (show NG w p br w0.heap.size w0 from ⟨h.calm hC, fun a e => by have := hp a e; omega, by rw [hw0, hbr]; exact heap_alloc_eq _ _, hC, by omega, by omega, Nat.le_refl _⟩)
  clear h hp hC hz
  refine (callsIn_wide (n := 7)).1 ?_
  refine callsIn_of_wp_marks Tryz.func4 rfl trivial ?_ rfl
  simp only [Tryz.ntmps4, List.size_toArray, List.length_cons, List.length_nil, Nat.reduceAdd, Nat.reduceSub, Array.replicate_succ, Array.replicate_zero, List.push_toArray, List.append_toArray, List.nil_append, List.cons_append]
  refine wpIn_wide.2 ?_
  go_upto_region 1 with fail
  rw [← hbr, ← hw0]
  clear hbr hw0
  go_wp2_with fail
  refine (nOpen p ⟨#[47, 97]⟩ 6 _ G0.out.n).mono ?_
  rintro e w1 ⟨rfl, hC⟩
  have G1 := Lib.hid (G0.out.calm hC)
  clear hC
  go_wp2_with fail
  refine (nRead p 0 1 _ G1.out.n).mono ?_
  rintro e w2 ⟨rfl, hC⟩
  have G2 := Lib.hid (G1.out.calm hC)
  clear hC
  go_wp2_with fail
  refine (nWrite p 0 _ G2.out.n).mono ?_
  rintro e w3 ⟨rfl, hC⟩
  have G3 := Lib.hid (G2.out.calm hC)
  clear hC
  go_wp2_with fail
  refine (nSeek p 0 0 0 _ G3.out.n).mono ?_
  rintro e w4 ⟨rfl, hC⟩
  have G4 := Lib.hid (G3.out.calm hC)
  clear hC
  go_wp2_with fail
  refine (nStat p ⟨#[47]⟩ _ G4.out.n).mono ?_
  rintro e w5 ⟨rfl, hC⟩
  have G5 := Lib.hid (G4.out.calm hC)
  clear hC
  go_wp2_with fail
  refine (nNames p ⟨#[47]⟩ _ (G5.out.calm ((Chg.refl _ _).alloc _)).n).mono ?_
  rintro e w6 ⟨rfl, hC⟩
  have G6 := Lib.hid ((G5.out.calm ((Chg.refl _ _).alloc _)).calm hC)
  clear hC
  go_wp2_with fail
  refine (nTell p 0 _ G6.out.n).mono ?_
  rintro e w7 ⟨rfl, hC⟩
  have G7 := Lib.hid (G6.out.calm hC)
  clear hC
  have G8 := Lib.hid (G7.out.calm ((Chg.refl _ _).alloc (.cells #[.int .i64 0, .bool false, .int .i64 0, .int .i64 0] 46 (0, 0))))
  go_wp2_with fail
  refine (nAll p _).mono ?_
  rintro e w9 ⟨bq, rfl, hb, hC⟩
  have G9 := Lib.hid (G8.out.calm hC).top
  have HB := Lib.hid hb
  clear hC hb
  have hnf := fun (W : World) => eql_seqF_nil (.func 52) #[] #[.pointer (some ⟨bq, 0, none⟩)] W
  go_wp2
  clear hnf
  refine (wpIn_wide (n := 7)).1 ?_
  refine wpIn_rangeX rfl (by omega) (gf := 52) (lb := #[.pointer (some ⟨bq, 0, none⟩)]) rfl trivial (enters_of Tryz.func52 (by kernel_rfl) rfl) (all1X p bq _ G9.out.n HB.out _)
    (fun _ _ => trivial) (fun _ _ _ _ _ _ => trivial) (Below.refl _ _) (fun _ => rfl)
    (fun pre W => pre = [] ∧ NG w p br w9.heap.size W)
    (fun c pre W => False)
    (fun s A B row hs hg hr => ⟨hs.1, hs.2.kept (Chg.of_grown (S := row.toList) hg (fun k hk => by simp [hk])) (fun k hk => (hr k (by simpa using hk)).1)⟩)
    (fun c s A B row hs hg hr => hs)
    ⟨rfl, G9.out⟩
    (fun _ _ _ => True)
    (fun _ _ _ _ _ _ _ _ _ => trivial)
    ?_ ?_ ?_ ?_
  · rintro l pre x W K ⟨rfl, hG⟩ hK
    have HG := Lib.hid hG
    clear hG
    gi_wp2
    first | exact hK _ _ (keepsFrom_chg (Chg.refl [] _) (by simp)) trivial ⟨by simp, HG.out⟩ trivial | exact hK _ _ (keepsFrom_chg ((Chg.refl [] _).alloc _) (by simp)) trivial ⟨by simp, HG.out.calm ((Chg.refl [] _).alloc _)⟩ trivial
  · rintro l pre x a' W hl ⟨r, hr⟩ _ _ hlt
    simp at hlt
  · rintro D xs W hD hxs ⟨_, hG⟩ hdef
    have GD := Lib.hid hG
    have HD := Lib.hid (And.intro hD hdef)
    clear hG hD hxs hdef
    gi_wp2
    have K0 := Lib.hid (And.intro GD.out (Chg.refl [] W))
    go_wp2_with (go_at_call 16; refine (nnumc _ _).mono ?_; rintro e w' ⟨rfl, rfl⟩)
    refine (nClose p 0 _ K0.out.1.n).mono ?_
    rintro e v1 ⟨rfl, hC⟩
    have K1 := Lib.hid (And.intro (K0.out.1.calm hC) (K0.out.2.trans hC))
    clear hC
    go_wp2_with (go_at_call 16; refine (nnumc _ _).mono ?_; rintro e w' ⟨rfl, rfl⟩)
    refine (nMkdir p ⟨#[47, 97]⟩ _ K1.out.1.n).mono ?_
    rintro e v2 ⟨rfl, hC⟩
    have K2 := Lib.hid (And.intro (K1.out.1.calm hC) (K1.out.2.trans hC))
    clear hC
    go_wp2_with (go_at_call 16; refine (nnumc _ _).mono ?_; rintro e w' ⟨rfl, rfl⟩)
    refine (nRmdir p ⟨#[47, 97]⟩ _ K2.out.1.n).mono ?_
    rintro e v3 ⟨rfl, hC⟩
    have K3 := Lib.hid (And.intro (K2.out.1.calm hC) (K2.out.2.trans hC))
    clear hC
    go_wp2_with (go_at_call 16; refine (nnumc _ _).mono ?_; rintro e w' ⟨rfl, rfl⟩)
    refine (nUnlink p ⟨#[47, 97]⟩ _ K3.out.1.n).mono ?_
    rintro e v4 ⟨rfl, hC⟩
    have K4 := Lib.hid (And.intro (K3.out.1.calm hC) (K3.out.2.trans hC))
    clear hC
    go_wp2_with (go_at_call 16; refine (nnumc _ _).mono ?_; rintro e w' ⟨rfl, rfl⟩)
    refine (nLink p ⟨#[47, 97]⟩ ⟨#[47, 98]⟩ _ K4.out.1.n).mono ?_
    rintro e v5 ⟨rfl, hC⟩
    have K5 := Lib.hid (And.intro (K4.out.1.calm hC) (K4.out.2.trans hC))
    clear hC
    go_wp2_with (go_at_call 16; refine (nnumc _ _).mono ?_; rintro e w' ⟨rfl, rfl⟩)
    refine (nRename p ⟨#[47, 97]⟩ ⟨#[47, 98]⟩ _ K5.out.1.n).mono ?_
    rintro e v6 ⟨rfl, hC⟩
    have K6 := Lib.hid (And.intro (K5.out.1.calm hC) (K5.out.2.trans hC))
    clear hC
    go_wp2_with (go_at_call 16; refine (nnumc _ _).mono ?_; rintro e w' ⟨rfl, rfl⟩)
    refine (nNodes p _ K6.out.1.n).mono ?_
    rintro e w' ⟨rfl, rfl⟩
    go_wp2_with fail
    refine (nBytes p _ K6.out.1.n).mono ?_
    rintro e w' ⟨rfl, rfl⟩
    go_wp2_with fail
    refine (nCopy p _ K6.out.1.n).mono ?_
    rintro e w' ⟨rfl, rfl⟩
    go_wp2_with fail
    refine (nSame p none false _ (nthere p _ K6.out.1.n) (.inl rfl)).mono ?_
    rintro e w' ⟨rfl, rfl⟩
    have c0 := cellB K6.out.1.r (i := 0) (v := .bool false) rfl
    have f0 := frozenB K6.out.1.r 0
    go_wp2
    have hDl := lt_of_blk HD.out.2
    have hDb : D ≠ br := by have := GD.out.lt; have := HD.out.1; omega
    obtain ⟨W2, hW2⟩ : ∃ W2, W2 = v6.setCell ⟨br, 0, none⟩ (.bool true) := ⟨_, rfl⟩
    have hCw : Chg [br] v6 W2 := by rw [hW2]; exact (Chg.refl _ _).setCell _ _ (by simp)
    have hr2 : W2.heap[br]? = some (.cells #[.bool true] 4 (0, 0)) := by rw [hW2]; exact blk_setCell K6.out.1.r _
    have hK2 : W2.heap[D]? = some (.deferred (some [])) := hCw.blk (K6.out.2.blk HD.out.2 (by simp)) (by simpa using hDb)
    have hC2 : Chg [] w W2 := K6.out.1.c.trans' hCw (fun k hk => by have := K6.out.1.ge; simp at hk; exact .inr (by omega))
    rw [← hW2]
    refine ⟨by simp, .inl ⟨_, _, rfl, run_takeDeferred hK2, ?_⟩⟩
    have hr3 : (W2.putObj D (.deferred none)).heap[br]? = some (.cells #[.bool true] 4 (0, 0)) := (World.putObj_heap_other hDb.symm).trans hr2
    have q0 := cellB hr3 (i := 0) rfl
    refine ⟨.bool true, ?_, rfl, hC2.trans' ((Chg.refl [D] W2).setBlock D _ (by simp) : Chg [D] W2 (W2.putObj D (.deferred none))) (fun k hk => by simp at hk; subst hk; exact .inr (by have := HD.out.1; have := GD.out.lt; have := GD.out.ge; omega))⟩
    simp [results, Tryz.results4, go_sem, q0]
  · rintro D c pre W hD hSp hF
    exact hSp.elim

end Go.Proofs.YtkkjbnmfjhmobaaGreatDoor
