
/- metronomelaw18: top over any that goes over messages; over no queue; nothing answers true at what is no queue. -/
import Derived.Test.YtiiafhlckmkcnaaVg
import Derived.Deep.CutBlock
namespace Go.Proofs.Ytiiafhlckmkcnaa
open Go.RowKit Go.Shelf
attribute [local go_sem] Oper.semAt_some

set_option maxRecDepth 100000 in
set_option maxHeartbeats 4000000 in
theorem utopX (p : Option Addr) (l : WL) (w : World) (h : ∀ (w1 : World) (bq : Nat), Chg [] w w1 → w1.heap[bq]? = some (.cells #[.pointer p] 24 (0, 0)) → SeqX Fence.wide 6 Try.prog 48 #[.pointer (some ⟨bq, 0, none⟩)] encU (KpC w.heap.size [] [] (some (w1.heap.size + 2))) (fun xs => xs = l) (fun pre => pre <+: l) l.length (w1.heap.size + 2) w1) :
    Calls Try.prog 9 #[.pointer p] w fun e w' => e = .returned (.tuple #[msgV (topM l), .bool (topB l)]) ∧ Chg [] w w' := by
  obtain ⟨w0, hw0⟩ : ∃ w0, w0 = (w.alloc (.cells #[.int .i64 0, .int .i64 0] 31 (0, 0))).alloc (.cells #[.bool false] 4 (0, 0)) := ⟨_, rfl⟩
  obtain ⟨br, hbr⟩ : ∃ br, br = w.heap.size := ⟨_, rfl⟩
  have hC0 : Chg [] w w0 := by rw [hw0]; exact ((Chg.refl _ _).alloc _).alloc _
  have hr0 : w0.heap[br]? = some (.cells #[.int .i64 0, .int .i64 0] 31 (0, 0)) := by rw [hw0, hbr]; exact blk_alloc (heap_alloc_eq w _) _
  have hk0 : w0.heap[br + 1]? = some (.cells #[.bool false] 4 (0, 0)) := by rw [hw0, hbr]; have := heap_alloc_eq (w.alloc (.cells #[.int .i64 0, .int .i64 0] 31 (0, 0))) (.cells #[.bool false] 4 (0, 0)); rwa [World.size_alloc] at this
  obtain ⟨w1, hw1⟩ : ∃ w1, w1 = w0.alloc (.cells #[.pointer p] 24 (0, 0)) := ⟨_, rfl⟩
  have hz0 : w0.heap.size = br + 1 + 1 := by rw [hw0, hbr]; simp
  have hC1 : Chg [] w0 w1 := by rw [hw1]; exact (Chg.refl _ _).alloc _
  have hq1 : w1.heap[br + 1 + 1]? = some (.cells #[.pointer p] 24 (0, 0)) := by rw [hw1, ← hz0]; exact heap_alloc_eq w0 _
  have hz1 : w1.heap.size = br + 1 + 1 + 1 := by rw [hw1]; simp [hz0]
  have hX := h w1 (br + 1 + 1) (hC0.trans hC1) hq1
  rw [← hbr] at hX
  have HX := Lib.hid hX
  have H0 := Lib.hid (And.intro hC0 (And.intro (hC1.blk hr0 (by simp)) (And.intro (hC1.blk hk0 (by simp)) (And.intro hC1 (And.intro hz1 (And.intro hz0 hbr))))))
  have hnf := fun (W : World) => eql_seqM_nil (.func 48) #[] #[.pointer (some ⟨br + 1 + 1, 0, none⟩)] W
  have hbu0 : ∀ W : World, (Instr.build 31 #[]).run Try.prog W = .ok (.agg #[.int .i64 0, .int .i64 0]) W := fun W => by kernel_rfl
  clear hC0 hr0 hk0 hC1 hq1 hX hz1 h
  refine (callsIn_wide (n := 7)).1 ?_
  refine callsIn_of_wp_marks Try.func9 rfl trivial ?_ rfl
  simp only [Try.ntmps9, List.size_toArray, List.length_cons, List.length_nil, Nat.reduceAdd, Nat.reduceSub, Array.replicate_succ, Array.replicate_zero, List.push_toArray, List.append_toArray, List.nil_append, List.cons_append]
  refine wpIn_wide.2 ?_
  go_upto_region 1 with fail
  rw [← hbr, ← hw0]
  clear hbr hw0
  go_wp2_with fail
  refine (uallc _ _).mono ?_
  rintro e w' ⟨rfl, rfl⟩
  rw [hz0, ← hw1]
  clear hw1 hz0
  go_wp2
  refine (wpIn_wide (n := 7)).1 ?_
  refine wpIn_act (fun A hA => ?_)
  have HA := Lib.hid hA
  refine wpIn_rangeX rfl (by omega) (gf := 48) (lb := #[.pointer (some ⟨br + 1 + 1, 0, none⟩)]) (by rw [hA]; rfl) trivial (enters_of Try.func48 (by kernel_rfl) rfl) HX.out
    KpC.trans (fun W o o' ho h1 h2 => KpC.put o' (by have := H0.out.2.2.2.2.1; omega) (fun x hx => by cases hx; omega) ho h1 h2) (Below.refl _ _) (fun _ => rfl)
    (fun pre W => pre = [] ∧ W.heap[br]? = some (.cells #[.int .i64 0, .int .i64 0] 31 (0, 0)) ∧ W.heap[br + 1]? = some (.cells #[.bool false] 4 (0, 0)) ∧ Chg [] w W)
    (fun c pre W => c = .ret ∧ ∃ x, pre = [x] ∧ W.heap[br]? = some (.cells #[.int .i64 x.1, .int .i64 x.2] 31 (0, 0)) ∧ W.heap[br + 1]? = some (.cells #[.bool true] 4 (0, 0)) ∧ Chg [] w W)
    (fun s' A' B' row hs hg hr => ⟨hs.1, ownFrom_blk (β := Unit) _ _ _ _ _ () A' B' row hs.2.1 hg hr, ownFrom_blk (β := Unit) _ _ _ _ _ () A' B' row hs.2.2.1 hg hr, ownFrom_chg (β := Unit) _ _ _ (by have := H0.out.2.2.2.2; omega) () A' B' row hs.2.2.2 hg hr⟩)
    (fun c s' A' B' row hs hg hr => by
      obtain ⟨h1, x, h2, h3, h4, h5⟩ := hs
      exact ⟨h1, x, h2, ownFrom_blk (β := Unit) _ _ _ _ _ () A' B' row h3 hg hr, ownFrom_blk (β := Unit) _ _ _ _ _ () A' B' row h4 hg hr, ownFrom_chg (β := Unit) _ _ _ (by have := H0.out.2.2.2.2; omega) () A' B' row h5 hg hr⟩)
    ⟨rfl, H0.out.2.1, H0.out.2.2.1, H0.out.1.trans H0.out.2.2.2.1⟩
    (fun x a' W' => ∃ Bx, br + 1 < Bx ∧ W'.heap[Bx]? = some (.cells #[.int .i64 x.1, .int .i64 x.2] 31 (0, 0)) ∧ a' = { tmps := (A.tmps.setIfInBounds 12 (msgV x)).setIfInBounds 5 (.pointer (some ⟨Bx, 0, none⟩)), defers := [] })
    (fun x a' _ A' B' row hs hg hr => by
      obtain ⟨Bx, h0, h1, h2⟩ := hs
      exact ⟨Bx, h0, ownFrom_blk (β := Unit) _ _ _ _ _ () A' B' row h1 hg hr, h2⟩)
    ?assign ?body ?done ?stop
  case assign =>
    rintro l' pre x W K ⟨rfl, h1, h2, h3⟩ hK
    have HC := Lib.hid (And.intro h1 (And.intro h2 (And.intro h3 (lt_of_blk h2))))
    clear h1 h2 h3
    rw [HA.out]
    unfold encU msgV
    gi_wp2
    exact hK _ _ (keepsFrom_chg ((Chg.refl [] _).alloc _) (by simp)) (KpC.chg ((Chg.refl [] _).alloc _) (by simp)) ⟨by trivial, blk_alloc HC.out.1 _, blk_alloc HC.out.2.1 _, HC.out.2.2.1.alloc _⟩ ⟨W.heap.size, HC.out.2.2.2, heap_alloc_eq _ _, by rw [HA.out]; rfl⟩
  case body =>
    rintro l' pre x a' W hl' ⟨r, hr⟩ ⟨rfl, h1, h2, h3⟩ ⟨Bx, hBx, hX, rfl⟩ hlt
    have x0 := cellB hX (i := 0) (v := .int .i64 x.1) rfl
    have x1 := cellB hX (i := 1) (v := .int .i64 x.2) rfl
    have r0 := cellB h1 (i := 0) (v := .int .i64 0) rfl
    have r1 := cellB h1 (i := 1) (v := .int .i64 0) rfl
    have f1 := frozenB h1
    have r2 := cellB h2 (i := 0) (v := .bool false) rfl
    have f2 := frozenB h2
    have HC := Lib.hid (And.intro h1 (And.intro h2 h3))
    clear hr hX h1 h2 h3
    rw [HA.out]
    simp only [msgV, List.setIfInBounds_toArray, List.set_cons_zero, List.set_cons_succ]
    gi_wp2
    obtain ⟨x1', x2'⟩ := x
    have hCw : Chg [br, br + 1] W (((W.setCell ⟨br, 0, none⟩ (.int .i64 x1')).setCell ⟨br, 1, none⟩ (.int .i64 x2')).setCell ⟨br + 1, 0, none⟩ (.bool true)) := (((Chg.refl _ _).setCell _ _ (by simp)).setCell _ _ (by simp)).setCell _ _ (by simp)
    refine ⟨keepsFrom_chg hCw (fun k hk o ho => ?_), rfl, (x1', x2'), rfl, ?_, ?_, HC.out.2.2.trans' hCw (fun k hk => ?_)⟩
    · simp at hk
      rcases hk with rfl | rfl
      · rw [HC.out.1] at ho; cases ho; rfl
      · rw [HC.out.2.1] at ho; cases ho; rfl
    · exact blk_setCell_ne (blk_setCell (blk_setCell HC.out.1 _) _) (by simp) _
    · exact blk_setCell (blk_setCell_ne (blk_setCell_ne HC.out.2.1 (by simp) _) (by simp) _) _
    · simp at hk
      have := H0.out.2.2.2.2.2.2
      rcases hk with rfl | rfl
      · exact .inr (by omega)
      · exact .inr (by omega)
  case done =>
    rintro D xs W hD rfl ⟨rfl, h1, h2, h3⟩ hK
    have r0 := cellB h1 (i := 0) (v := .int .i64 0) rfl
    have r1 := cellB h1 (i := 1) (v := .int .i64 0) rfl
    have f1 := frozenB h1
    have r2 := cellB h2 (i := 0) (v := .bool false) rfl
    have f2 := frozenB h2
    have HK := Lib.hid hK
    have HC := Lib.hid (And.intro h1 (And.intro h2 h3))
    clear h1 h2 h3 hK
    rw [HA.out]
    go_wp2
    have hDn : D ≠ br ∧ D ≠ br + 1 := by have := H0.out.2.2.2.2.1; omega
    obtain ⟨W2, hW2⟩ : ∃ W2, W2 = (((W.setCell ⟨br, 0, none⟩ (.int .i64 0)).setCell ⟨br, 1, none⟩ (.int .i64 0)).setCell ⟨br + 1, 0, none⟩ (.bool false)) := ⟨_, rfl⟩
    have hr2 : W2.heap[br]? = some (.cells #[.int .i64 0, .int .i64 0] 31 (0, 0)) := by rw [hW2]; exact blk_setCell_ne (blk_setCell (blk_setCell HC.out.1 _) _) (by simp) _
    have hk2 : W2.heap[br + 1]? = some (.cells #[.bool false] 4 (0, 0)) := by rw [hW2]; exact blk_setCell (blk_setCell_ne (blk_setCell_ne HC.out.2.1 (by simp) _) (by simp) _) _
    have hK2 : W2.heap[D]? = some (.deferred (some [])) := by rw [hW2]; exact blk_setCell_ne (blk_setCell_ne (blk_setCell_ne HK.out hDn.1 _) hDn.1 _) hDn.2 _
    have hCw : Chg [br, br + 1] W W2 := by rw [hW2]; exact (((Chg.refl _ _).setCell _ _ (by simp)).setCell _ _ (by simp)).setCell _ _ (by simp)
    have hC2 : Chg [] w W2 := HC.out.2.2.trans' hCw (fun k hk => by have := H0.out.2.2.2.2.2.2; simp at hk; exact .inr (by omega))
    rw [← hW2]
    refine ⟨by simp, .inl ⟨_, _, rfl, run_takeDeferred hK2, ?_⟩⟩
    have hr3 : (W2.putObj D (.deferred none)).heap[br]? = some (.cells #[.int .i64 0, .int .i64 0] 31 (0, 0)) := (World.putObj_heap_other (by omega)).trans hr2
    have hk3 : (W2.putObj D (.deferred none)).heap[br + 1]? = some (.cells #[.bool false] 4 (0, 0)) := (World.putObj_heap_other (by omega)).trans hk2
    have q0 := cellB hr3 (i := 0) rfl
    have q1 := cellB hr3 (i := 1) rfl
    have q2 := cellB hk3 (i := 0) rfl
    refine ⟨.tuple #[.agg #[.int .i64 0, .int .i64 0], .bool false], ?_, rfl, hC2.trans' (KeepsD D W2) (fun k hk => by simp at hk; subst hk; exact .inr (by have := H0.out.2.2.2.2; omega))⟩
    simp [results, Try.results9, go_sem, q0, q1, q2]
  case stop =>
    rintro D c pre W hD hSp ⟨rfl, x, rfl, h1, h2, h3⟩ hK
    have HK := Lib.hid hK
    have HC := Lib.hid (And.intro h1 (And.intro h2 h3))
    clear h1 h2 h3 hK
    rw [HA.out]
    gi_wp2
    have hDn : D ≠ br ∧ D ≠ br + 1 := by have := H0.out.2.2.2.2.1; omega
    obtain ⟨W2, hW2⟩ : ∃ W2, W2 = W := ⟨_, rfl⟩
    have hr2 : W2.heap[br]? = some (.cells #[.int .i64 x.1, .int .i64 x.2] 31 (0, 0)) := by rw [hW2]; exact HC.out.1
    have hk2 : W2.heap[br + 1]? = some (.cells #[.bool true] 4 (0, 0)) := by rw [hW2]; exact HC.out.2.1
    have hK2 : W2.heap[D]? = some (.deferred (some [])) := by rw [hW2]; exact HK.out
    have hC2 : Chg [] w W2 := by rw [hW2]; exact HC.out.2.2
    rw [← hW2]
    obtain ⟨l2, rfl⟩ : ∃ l2, l = x :: l2 := by
      obtain ⟨l2, h⟩ := hSp
      exact ⟨l2, h.symm⟩
    refine ⟨by simp, .inl ⟨_, _, rfl, run_takeDeferred hK2, ?_⟩⟩
    have hr3 : (W2.putObj D (.deferred none)).heap[br]? = some (.cells #[.int .i64 x.1, .int .i64 x.2] 31 (0, 0)) := (World.putObj_heap_other (by omega)).trans hr2
    have hk3 : (W2.putObj D (.deferred none)).heap[br + 1]? = some (.cells #[.bool true] 4 (0, 0)) := (World.putObj_heap_other (by omega)).trans hk2
    have q0 := cellB hr3 (i := 0) rfl
    have q1 := cellB hr3 (i := 1) rfl
    have q2 := cellB hk3 (i := 0) rfl
    refine ⟨.tuple #[.agg #[.int .i64 x.1, .int .i64 x.2], .bool true], ?_, rfl, hC2.trans' (KeepsD D W2) (fun k hk => by simp at hk; subst hk; exact .inr (by have := H0.out.2.2.2.2; omega))⟩
    simp [results, Try.results9, go_sem, q0, q1, q2]


set_option maxRecDepth 100000 in
set_option maxHeartbeats 1000000 in
theorem nall1X (B : Nat) (L : Nat) (bq : Nat) (p : Option Addr) (w : World) (hbq : w.heap[bq]? = some (.cells #[.pointer p] 24 (0, 0))) (h : NoQ w p) :
    SeqX Fence.wide 6 Try.prog 48 #[.pointer (some ⟨bq, 0, none⟩)] encU (KpC B [] [] (some L)) (fun xs => xs = []) (fun pre => pre <+: []) ([] : WL).length L w := fun lp J Jx W hBW hLW hJ hJx hY h0 => by
  have hCW := bel_chg hBW
  have hbW := hCW.blk hbq (by simp)
  obtain ⟨W1, hW1⟩ : ∃ W1, W1 = W.alloc (.cells #[.func (.yield lp) #[] #[]] 80 (0, 0)) := ⟨_, rfl⟩
  have hC1 : Chg [] W W1 := by rw [hW1]; exact (Chg.refl _ _).alloc _
  have cb := cellB (hC1.blk hbW (by simp)) (i := 0) (v := .pointer p) rfl
  have HT := Lib.hid (ntherec p W1 ((h.calm hCW).calm hC1))
  have HJ := Lib.hid (hJ _ _ _ none h0 hC1.grown (by simp))
  clear hbq h hCW hbW hC1 hJ hJx hY hBW hLW
  refine callsIn_of_wp_marks Try.func48 rfl trivial ?_ rfl
  simp only [Try.ntmps48, List.size_toArray, List.length_cons, List.length_nil, Nat.reduceAdd, Nat.reduceSub, Array.replicate_succ, Array.replicate_zero, List.push_toArray, List.append_toArray, List.nil_append, List.cons_append]
  refine wpIn_wide.2 ?_
  go_upto_region 1 with fail
  rw [← hW1]
  clear hW1
  go_wp2_with fail
  refine HT.out.mono ?_
  rintro e w' ⟨rfl, rfl⟩
  go_wp2
  unfold bodyPostM
  exact ⟨_, results_none rfl _ _ _, ⟨_, rfl⟩, .inl ⟨_, rfl, HJ.out⟩⟩

set_option maxRecDepth 100000 in
theorem ntopc (p : Option Addr) (w : World) (h : NoQ w p) :
    Calls Try.prog 9 #[.pointer p] w fun e w' => e = .returned (.tuple #[msgV (0, 0), .bool false]) ∧ Chg [] w w' :=
  (utopX p [] w (fun w1 bq hC hb => nall1X w.heap.size (w1.heap.size + 2) bq p w1 hb (h.calm hC))).mono fun _ _ h => h

end Go.Proofs.Ytiiafhlckmkcnaa
