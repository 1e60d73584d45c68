
/- metronomelaw18: num, m, top: contracts. -/
import Derived.Test.YtiiafhlckmkcnaaUm
namespace Go.Proofs.Ytiiafhlckmkcnaa
open Go.RowKit Go.Shelf
attribute [local go_sem] Oper.semAt_some

set_option maxRecDepth 100000 in
theorem unumc (e : Int) (w : World) : Calls Try.prog 7 #[.int .i64 e] w fun r w' => r = .returned (.int .i64 e) ∧ w = w' := by
  go_enter Try.func7, Try.ntmps7
  go_wp2
  go_ret
  exact ⟨rfl, rfl⟩

set_option maxRecDepth 100000 in
theorem umsgc (a b : Int) (w : World) : Calls Try.prog 16 #[.int .i64 a, .int .i64 b] w fun r w' => r = .returned (msgV (a, b)) ∧ Chg [] w w' := by
  obtain ⟨w1, hw1⟩ : ∃ w1, w1 = w.alloc (.cells #[.int .i64 0, .int .i64 0] 31 (0, 0)) := ⟨_, rfl⟩
  obtain ⟨br, hbr⟩ : ∃ br, br = w.heap.size := ⟨_, rfl⟩
  have hC : Chg [] w w1 := by rw [hw1]; exact (Chg.refl _ _).alloc _
  have hr : w1.heap[br]? = some (.cells #[.int .i64 0, .int .i64 0] 31 (0, 0)) := by rw [hw1, hbr]; exact heap_alloc_eq w _
  have r0 := cellB hr (i := 0) (v := .int .i64 0) rfl
  have r1 := cellB hr (i := 1) (v := .int .i64 0) rfl
  have f1 := frozenB hr
  have HH := Lib.hid (And.intro hC (And.intro hr (show w.heap.size ≤ br by omega)))
  have hbu : ∀ W : World, (Instr.build 31 #[(0, .int .i64 a), (1, .int .i64 b)]).run Try.prog W = .ok (.agg #[.int .i64 a, .int .i64 b]) W := fun W => by kernel_rfl
  clear hC hr
  go_enter Try.func16, Try.ntmps16
  go_upto_region 1 with fail
  rw [← hbr, ← hw1]
  clear hbr hw1
  go_wp2
  obtain ⟨W, hW⟩ : ∃ W, W = (w1.setCell ⟨br, 0, none⟩ (.int .i64 a)).setCell ⟨br, 1, none⟩ (.int .i64 b) := ⟨_, rfl⟩
  have hf : W.heap[br]? = some (.cells #[.int .i64 a, .int .i64 b] 31 (0, 0)) := by rw [hW]; exact blk_setCell (blk_setCell HH.out.2.1 _) _
  have hCW : Chg [br] w1 W := by rw [hW]; exact ((Chg.refl _ _).setCell _ _ (by simp)).setCell _ _ (by simp)
  have q0 := cellB hf (i := 0) rfl
  have q1 := cellB hf (i := 1) rfl
  rw [← hW]
  refine ⟨rfl, .agg #[.int .i64 a, .int .i64 b], ?_, rfl, HH.out.1.trans' hCW (fun k hk => by simp at hk; subst hk; exact .inr HH.out.2.2)⟩
  simp [results, Try.results16, go_sem, q0, q1]

theorem eql_seqM_nil (f : Fn) (a b : Array Value) (w : World) : (binOp .eql 63 (.func f a b) .nilFunc).run Try.prog w = .ok (.bool false) w := by kernel_rfl

theorem KeepsD (D : Nat) (W : World) : Chg [D] W (W.putObj D (.deferred none)) := by
  have hg := grownBy_putObj' W D (.deferred none)
  exact ⟨hg.os, hg.tape, hg.output, hg.size, fun k hk hn => hg.block k hk (fun e => by cases e; simp at hn)⟩
def topM (l : WL) : Int × Int := match l with | [] => (0, 0) | x :: _ => x
def topB (l : WL) : Bool := match l with | [] => false | _ :: _ => true

set_option maxRecDepth 100000 in
set_option maxHeartbeats 4000000 in
theorem utopc (u : UB) (v : Value) (N : Int) (s : QS) (w : World) (h : UAt w u v N s) :
    Calls Try.prog 9 #[.pointer (some ⟨u.q, 0, none⟩)] w fun e w' => e = .returned (.tuple #[msgV (topM s.ord), .bool (topB s.ord)]) ∧ Chg [] w w' := by
  obtain ⟨w0, hw0⟩ : ∃ w0, w0 = (w.alloc (.cells #[.int .i64 0, .int .i64 0] 31 (0, 0))).alloc (.cells #[.bool false] 4 (0, 0)) := ⟨_, rfl⟩
  obtain ⟨br, hbr⟩ : ∃ br, br = w.heap.size := ⟨_, rfl⟩
  have hC0 : Chg [] w w0 := by rw [hw0]; exact ((Chg.refl _ _).alloc _).alloc _
  have hr0 : w0.heap[br]? = some (.cells #[.int .i64 0, .int .i64 0] 31 (0, 0)) := by rw [hw0, hbr]; exact blk_alloc (heap_alloc_eq w _) _
  have hk0 : w0.heap[br + 1]? = some (.cells #[.bool false] 4 (0, 0)) := by rw [hw0, hbr]; have := heap_alloc_eq (w.alloc (.cells #[.int .i64 0, .int .i64 0] 31 (0, 0))) (.cells #[.bool false] 4 (0, 0)); rwa [World.size_alloc] at this
  obtain ⟨w1, hw1⟩ : ∃ w1, w1 = w0.alloc (.cells #[.pointer (some ⟨u.q, 0, none⟩)] 24 (0, 0)) := ⟨_, rfl⟩
  have hz0 : w0.heap.size = br + 1 + 1 := by rw [hw0, hbr]; simp
  have hC1 : Chg [] w0 w1 := by rw [hw1]; exact (Chg.refl _ _).alloc _
  have hq1 : w1.heap[br + 1 + 1]? = some (.cells #[.pointer (some ⟨u.q, 0, none⟩)] 24 (0, 0)) := by rw [hw1, ← hz0]; exact heap_alloc_eq w0 _
  have hz1 : w1.heap.size = br + 1 + 1 + 1 := by rw [hw1]; simp [hz0]
  have hU1 := h.calm (hC0.trans hC1)
  have hX := uall1X br [] [] (by simp) (w1.heap.size + 2) (br + 1 + 1) u v N s w1 hq1 hU1 (fun k hk => ⟨by rw [hbr]; exact h.lt k (List.mem_append.2 (.inr hk)), by simp⟩) (by simp) (by omega)
  have HX := Lib.hid hX
  have H0 := Lib.hid (And.intro hC0 (And.intro (hC1.blk hr0 (by simp)) (And.intro (hC1.blk hk0 (by simp)) (And.intro hC1 (And.intro hz1 (And.intro hz0 hbr))))))
  have hnf := fun (W : World) => eql_seqM_nil (.func 48) #[] #[.pointer (some ⟨br + 1 + 1, 0, none⟩)] W
  obtain ⟨l, hl⟩ : ∃ l, l = s.ord := ⟨_, rfl⟩
  rw [← hl] at HX ⊢
  have hbu0 : ∀ W : World, (Instr.build 31 #[]).run Try.prog W = .ok (.agg #[.int .i64 0, .int .i64 0]) W := fun W => by kernel_rfl
  clear hC0 hr0 hk0 hC1 hq1 hU1 hX hz1 h hl
  refine (callsIn_wide (n := 7)).1 ?_
  refine callsIn_of_wp_marks Try.func9 rfl trivial ?_ rfl
  simp only [Try.ntmps9, List.size_toArray, List.length_cons, List.length_nil, Nat.reduceAdd, Nat.reduceSub, Array.replicate_succ, Array.replicate_zero, List.push_toArray, List.append_toArray, List.nil_append, List.cons_append]
  refine wpIn_wide.2 ?_
  go_upto_region 1 with fail
  rw [← hbr, ← hw0]
  clear hbr hw0
  go_wp2_with fail
  refine (uallc _ _).mono ?_
  rintro e w' ⟨rfl, rfl⟩
  rw [hz0, ← hw1]
  clear hw1 hz0
  go_wp2
  refine (wpIn_wide (n := 7)).1 ?_
  refine wpIn_act (fun A hA => ?_)
  have HA := Lib.hid hA
  refine wpIn_rangeX rfl (by omega) (gf := 48) (lb := #[.pointer (some ⟨br + 1 + 1, 0, none⟩)]) (by rw [hA]; rfl) trivial (enters_of Try.func48 (by kernel_rfl) rfl) HX.out
    KpC.trans (fun W o o' ho h1 h2 => KpC.put o' (by have := H0.out.2.2.2.2.1; omega) (fun x hx => by cases hx; omega) ho h1 h2) (Below.refl _ _) (fun _ => rfl)
    (fun pre W => pre = [] ∧ W.heap[br]? = some (.cells #[.int .i64 0, .int .i64 0] 31 (0, 0)) ∧ W.heap[br + 1]? = some (.cells #[.bool false] 4 (0, 0)) ∧ Chg [] w W)
    (fun c pre W => c = .ret ∧ ∃ x, pre = [x] ∧ W.heap[br]? = some (.cells #[.int .i64 x.1, .int .i64 x.2] 31 (0, 0)) ∧ W.heap[br + 1]? = some (.cells #[.bool true] 4 (0, 0)) ∧ Chg [] w W)
    (fun s' A' B' row hs hg hr => ⟨hs.1, ownFrom_blk (β := Unit) _ _ _ _ _ () A' B' row hs.2.1 hg hr, ownFrom_blk (β := Unit) _ _ _ _ _ () A' B' row hs.2.2.1 hg hr, ownFrom_chg (β := Unit) _ _ _ (by have := H0.out.2.2.2.2; omega) () A' B' row hs.2.2.2 hg hr⟩)
    (fun c s' A' B' row hs hg hr => by
      obtain ⟨h1, x, h2, h3, h4, h5⟩ := hs
      exact ⟨h1, x, h2, ownFrom_blk (β := Unit) _ _ _ _ _ () A' B' row h3 hg hr, ownFrom_blk (β := Unit) _ _ _ _ _ () A' B' row h4 hg hr, ownFrom_chg (β := Unit) _ _ _ (by have := H0.out.2.2.2.2; omega) () A' B' row h5 hg hr⟩)
    ⟨rfl, H0.out.2.1, H0.out.2.2.1, H0.out.1.trans H0.out.2.2.2.1⟩
    (fun x a' W' => ∃ Bx, br + 1 < Bx ∧ W'.heap[Bx]? = some (.cells #[.int .i64 x.1, .int .i64 x.2] 31 (0, 0)) ∧ a' = { tmps := (A.tmps.setIfInBounds 12 (msgV x)).setIfInBounds 5 (.pointer (some ⟨Bx, 0, none⟩)), defers := [] })
    (fun x a' _ A' B' row hs hg hr => by
      obtain ⟨Bx, h0, h1, h2⟩ := hs
      exact ⟨Bx, h0, ownFrom_blk (β := Unit) _ _ _ _ _ () A' B' row h1 hg hr, h2⟩)
    ?assign ?body ?done ?stop
  case assign =>
    rintro l' pre x W K ⟨rfl, h1, h2, h3⟩ hK
    have HC := Lib.hid (And.intro h1 (And.intro h2 (And.intro h3 (lt_of_blk h2))))
    clear h1 h2 h3
    rw [HA.out]
    unfold encU msgV
    gi_wp2
    exact hK _ _ (keepsFrom_chg ((Chg.refl [] _).alloc _) (by simp)) (KpC.chg ((Chg.refl [] _).alloc _) (by simp)) ⟨by trivial, blk_alloc HC.out.1 _, blk_alloc HC.out.2.1 _, HC.out.2.2.1.alloc _⟩ ⟨W.heap.size, HC.out.2.2.2, heap_alloc_eq _ _, by rw [HA.out]; rfl⟩
  case body =>
    rintro l' pre x a' W hl' ⟨r, hr⟩ ⟨rfl, h1, h2, h3⟩ ⟨Bx, hBx, hX, rfl⟩ hlt
    have x0 := cellB hX (i := 0) (v := .int .i64 x.1) rfl
    have x1 := cellB hX (i := 1) (v := .int .i64 x.2) rfl
    have r0 := cellB h1 (i := 0) (v := .int .i64 0) rfl
    have r1 := cellB h1 (i := 1) (v := .int .i64 0) rfl
    have f1 := frozenB h1
    have r2 := cellB h2 (i := 0) (v := .bool false) rfl
    have f2 := frozenB h2
    have HC := Lib.hid (And.intro h1 (And.intro h2 h3))
    clear hr hX h1 h2 h3
    rw [HA.out]
    simp only [msgV, List.setIfInBounds_toArray, List.set_cons_zero, List.set_cons_succ]
    gi_wp2
    obtain ⟨x1', x2'⟩ := x
    have hCw : Chg [br, br + 1] W (((W.setCell ⟨br, 0, none⟩ (.int .i64 x1')).setCell ⟨br, 1, none⟩ (.int .i64 x2')).setCell ⟨br + 1, 0, none⟩ (.bool true)) := (((Chg.refl _ _).setCell _ _ (by simp)).setCell _ _ (by simp)).setCell _ _ (by simp)
    refine ⟨keepsFrom_chg hCw (fun k hk o ho => ?_), rfl, (x1', x2'), rfl, ?_, ?_, HC.out.2.2.trans' hCw (fun k hk => ?_)⟩
    · simp at hk
      rcases hk with rfl | rfl
      · rw [HC.out.1] at ho; cases ho; rfl
      · rw [HC.out.2.1] at ho; cases ho; rfl
    · exact blk_setCell_ne (blk_setCell (blk_setCell HC.out.1 _) _) (by simp) _
    · exact blk_setCell (blk_setCell_ne (blk_setCell_ne HC.out.2.1 (by simp) _) (by simp) _) _
    · simp at hk
      have := H0.out.2.2.2.2.2.2
      rcases hk with rfl | rfl
      · exact .inr (by omega)
      · exact .inr (by omega)
  case done =>
    rintro D xs W hD rfl ⟨rfl, h1, h2, h3⟩ hK
    have r0 := cellB h1 (i := 0) (v := .int .i64 0) rfl
    have r1 := cellB h1 (i := 1) (v := .int .i64 0) rfl
    have f1 := frozenB h1
    have r2 := cellB h2 (i := 0) (v := .bool false) rfl
    have f2 := frozenB h2
    have HK := Lib.hid hK
    have HC := Lib.hid (And.intro h1 (And.intro h2 h3))
    clear h1 h2 h3 hK
    rw [HA.out]
    go_wp2
    have hDn : D ≠ br ∧ D ≠ br + 1 := by have := H0.out.2.2.2.2.1; omega
    obtain ⟨W2, hW2⟩ : ∃ W2, W2 = (((W.setCell ⟨br, 0, none⟩ (.int .i64 0)).setCell ⟨br, 1, none⟩ (.int .i64 0)).setCell ⟨br + 1, 0, none⟩ (.bool false)) := ⟨_, rfl⟩
    have hr2 : W2.heap[br]? = some (.cells #[.int .i64 0, .int .i64 0] 31 (0, 0)) := by rw [hW2]; exact blk_setCell_ne (blk_setCell (blk_setCell HC.out.1 _) _) (by simp) _
    have hk2 : W2.heap[br + 1]? = some (.cells #[.bool false] 4 (0, 0)) := by rw [hW2]; exact blk_setCell (blk_setCell_ne (blk_setCell_ne HC.out.2.1 (by simp) _) (by simp) _) _
    have hK2 : W2.heap[D]? = some (.deferred (some [])) := by rw [hW2]; exact blk_setCell_ne (blk_setCell_ne (blk_setCell_ne HK.out hDn.1 _) hDn.1 _) hDn.2 _
    have hCw : Chg [br, br + 1] W W2 := by rw [hW2]; exact (((Chg.refl _ _).setCell _ _ (by simp)).setCell _ _ (by simp)).setCell _ _ (by simp)
    have hC2 : Chg [] w W2 := HC.out.2.2.trans' hCw (fun k hk => by have := H0.out.2.2.2.2.2.2; simp at hk; exact .inr (by omega))
    rw [← hW2]
    refine ⟨by simp, .inl ⟨_, _, rfl, run_takeDeferred hK2, ?_⟩⟩
    have hr3 : (W2.putObj D (.deferred none)).heap[br]? = some (.cells #[.int .i64 0, .int .i64 0] 31 (0, 0)) := (World.putObj_heap_other (by omega)).trans hr2
    have hk3 : (W2.putObj D (.deferred none)).heap[br + 1]? = some (.cells #[.bool false] 4 (0, 0)) := (World.putObj_heap_other (by omega)).trans hk2
    have q0 := cellB hr3 (i := 0) rfl
    have q1 := cellB hr3 (i := 1) rfl
    have q2 := cellB hk3 (i := 0) rfl
    refine ⟨.tuple #[.agg #[.int .i64 0, .int .i64 0], .bool false], ?_, rfl, hC2.trans' (KeepsD D W2) (fun k hk => by simp at hk; subst hk; exact .inr (by have := H0.out.2.2.2.2; omega))⟩
    simp [results, Try.results9, go_sem, q0, q1, q2]
  case stop =>
    rintro D c pre W hD hSp ⟨rfl, x, rfl, h1, h2, h3⟩ hK
    have HK := Lib.hid hK
    have HC := Lib.hid (And.intro h1 (And.intro h2 h3))
    clear h1 h2 h3 hK
    rw [HA.out]
    gi_wp2
    have hDn : D ≠ br ∧ D ≠ br + 1 := by have := H0.out.2.2.2.2.1; omega
    obtain ⟨W2, hW2⟩ : ∃ W2, W2 = W := ⟨_, rfl⟩
    have hr2 : W2.heap[br]? = some (.cells #[.int .i64 x.1, .int .i64 x.2] 31 (0, 0)) := by rw [hW2]; exact HC.out.1
    have hk2 : W2.heap[br + 1]? = some (.cells #[.bool true] 4 (0, 0)) := by rw [hW2]; exact HC.out.2.1
    have hK2 : W2.heap[D]? = some (.deferred (some [])) := by rw [hW2]; exact HK.out
    have hC2 : Chg [] w W2 := by rw [hW2]; exact HC.out.2.2
    rw [← hW2]
    obtain ⟨l2, rfl⟩ : ∃ l2, l = x :: l2 := by
      obtain ⟨l2, h⟩ := hSp
      exact ⟨l2, h.symm⟩
    refine ⟨by simp, .inl ⟨_, _, rfl, run_takeDeferred hK2, ?_⟩⟩
    have hr3 : (W2.putObj D (.deferred none)).heap[br]? = some (.cells #[.int .i64 x.1, .int .i64 x.2] 31 (0, 0)) := (World.putObj_heap_other (by omega)).trans hr2
    have hk3 : (W2.putObj D (.deferred none)).heap[br + 1]? = some (.cells #[.bool true] 4 (0, 0)) := (World.putObj_heap_other (by omega)).trans hk2
    have q0 := cellB hr3 (i := 0) rfl
    have q1 := cellB hr3 (i := 1) rfl
    have q2 := cellB hk3 (i := 0) rfl
    refine ⟨.tuple #[.agg #[.int .i64 x.1, .int .i64 x.2], .bool true], ?_, rfl, hC2.trans' (KeepsD D W2) (fun k hk => by simp at hk; subst hk; exact .inr (by have := H0.out.2.2.2.2; omega))⟩
    simp [results, Try.results9, go_sem, q0, q1, q2]

end Go.Proofs.Ytiiafhlckmkcnaa
