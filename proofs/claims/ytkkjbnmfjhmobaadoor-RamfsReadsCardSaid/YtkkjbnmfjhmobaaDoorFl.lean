
/- Package ramfs: gone: contract. -/
import Derived.Test.YtkkjbnmfjhmobaaDoorFk
namespace Go.Proofs.YtkkjbnmfjhmobaaDoor
open Go.RowKit

theorem sum_set_le {α : Type} (g : α → Nat) : ∀ (l : List α) (n : Nat) (x : α), g x = 0 → ((l.set n x).map g).sum ≤ (l.map g).sum := by
  intro l
  induction l with
  | nil => intro n x _; simp
  | cons y l ih =>
    intro n x hx
    cases n with
    | zero => simp [hx]
    | succ n =>
      have := ih n x hx
      simp only [List.set_cons_succ, List.map_cons, List.sum_cons]
      omega
theorem mem_set {α : Type} {l : List α} {n : Nat} {x y : α} (h : y ∈ l.set n x) : y = x ∨ y ∈ l := by
  rcases List.mem_or_eq_of_mem_set h with h | h
  · exact .inr h
  · exact .inl h
theorem sum_zero {l : List Nat} (h : l.sum = 0) : ∀ x ∈ l, x = 0 := by
  induction l with
  | nil => intro x hx; cases hx
  | cons y l ih =>
    intro x hx
    simp only [List.sum_cons] at h
    rcases List.mem_cons.1 hx with rfl | h2
    · omega
    · exact ih (by omega) x h2
theorem FInv.gone1 {f : FS} (h : FInv f) {n : Nat} (hn : n < 64) (h0 : 0 < n) (ho : f.opened n = false) (hk : f.links n = 0) : FInv (f.setN n nd0) := by
  have hnd : ∀ k : Int, 0 ≤ k → k ≠ n → (f.setN n nd0).nd k = f.nd k := fun k hk hne => getD_set_ne _ _ _ (by omega)
  refine ⟨by rw [show (f.setN n nd0).nodes = f.nodes.set n nd0 from rfl, List.length_set]; exact h.ln, h.lf, ?_, ?_, ?_, ?_, h.shut, ?_, ?_⟩
  · rw [hnd 0 (by omega) (by omega)]; exact h.root
  · intro x hx hf
    rcases mem_set hx with rfl | h2
    · rfl
    · exact h.free x h2 hf
  · intro x hx m hd
    rcases mem_set hx with rfl | h2
    · cases hd
    · obtain ⟨h3, h4⟩ := h.tgt x h2 m hd
      refine ⟨fun p hp => ?_, h4⟩
      obtain ⟨p0, p1, p2⟩ := h3 p hp
      refine ⟨p0, p1, ?_⟩
      rw [hnd p.2 p0 ?_]
      · exact p2
      · intro e
        have h5 := sum_zero hk (ndLinks x n) (List.mem_map.2 ⟨x, h2, rfl⟩)
        unfold ndLinks at h5
        rw [hd] at h5
        simp only [List.countP_eq_zero] at h5
        exact h5 p hp (by simp [e])
  · intro x hx hop
    obtain ⟨a, b, c, d⟩ := h.file x hx hop
    refine ⟨a, b, ?_, d⟩
    rw [hnd _ a ?_]
    · exact c
    · intro e
      have : f.opened n = true := List.any_eq_true.2 ⟨x, hx, by simp [hop, e]⟩
      rw [ho] at this
      cases this
  · exact Nat.le_trans (sum_set_le _ _ _ _ rfl) h.bytes
  · intro x hx z hz
    rcases mem_set hx with rfl | h2
    · cases hz
    · exact h.byte x h2 z hz

theorem own_nil {w : World} : w.ownsRow 0 5 1 (.slice none 0 0) 0 [] := ⟨rfl, .inl ⟨rfl, rfl⟩⟩
set_option maxRecDepth 100000 in
set_option maxHeartbeats 4000000 in
theorem fgonec (fb : Nat) (mb : Nat → Nat) (vs : Nat → Value) (f : FS) (n : Nat) (hn : n < 64) (w : World) (h : FAt w fb mb vs f) (hN : f.names < 4611686018427387904) :
    Calls Tryd.prog 39 #[.pointer (some ⟨fb, 0, none⟩), .int .i64 n] w fun e w' => e = .returned (.tuple #[]) ∧ ∃ mb' vs', FStep w w' fb mb vs f mb' vs' (f.gone n) := by
  obtain ⟨bx, hbx⟩ : ∃ bx, bx = w.heap.size := ⟨_, rfl⟩
  obtain ⟨w1, hw1⟩ : ∃ w1, w1 = w.alloc (.cells #[.int .i64 n] 3) := ⟨_, rfl⟩
  have hC1 : Chg [] w w1 := by rw [hw1]; exact (Chg.refl _ _).alloc _
  have hb1 : w1.heap[bx]? = some (.cells #[.int .i64 n] 3 (0, 0)) := by rw [hw1, hbx]; exact heap_alloc_eq w _
  have H := Lib.hid (And.intro h (And.intro hN (And.intro hC1 hb1)))
  have HA := Lib.hid (fanyc fb mb vs f 57 #[.pointer (some ⟨bx, 0, none⟩)] (fun x => x.op && x.node == n) w1 (h.calm hC1) (fun args w => by kernel_rfl) (fun x W hC => fgone1c x n bx W (hC.blk hb1 (by simp))))
  rw [show f.files.any (fun x => x.op && x.node == (n : Int)) = f.opened n from rfl] at HA
  clear h hN hC1 hb1
  by_cases h0 : 0 < n
  · have h0i : decide ((n : Int) > 0) = true := decide_eq_true (by omega)
    cases ho : f.opened n with
    | true =>
      have hg : f.gone n = f := by unfold FS.gone; rw [if_neg (by rw [ho]; simp)]
      have HG := Lib.hid hg
      rw [ho] at HA
      clear hg ho
      go_enter Tryd.func39, Tryd.ntmps39
      go_wp2_with (go_at_call 56; rw [← hbx, ← hw1]; clear hbx hw1; refine HA.out.mono ?_; rintro e w2 ⟨rfl, hC2⟩; have c3 := cell_chg hC2 (by simp) (cellB (i := 0) (v := .int .i64 n) H.out.2.2.2 rfl); have HC2 := Lib.hid hC2; clear hC2)
      exact ⟨rfl, _, results_none rfl _ _ _, rfl, mb, vs, by rw [HG.out]; exact H.out.1.step (H.out.2.2.1.trans HC2.out)⟩
    | false =>
      rw [ho] at HA
      by_cases hk : f.links n = 0
      · have hg : f.gone n = f.setN n nd0 := by unfold FS.gone; rw [if_pos ⟨by omega, ho, hk⟩]
        have HG := Lib.hid (And.intro hg (H.out.1.inv.gone1 hn h0 ho hk))
        have HK := Lib.hid hk
        have hnz : (n : Int) < 64 := by omega
        clear hg ho hk
        go_enter Tryd.func39, Tryd.ntmps39
        go_wp2_with (first | (go_at_call 56; rw [← hbx, ← hw1]; clear hbx hw1; refine HA.out.mono ?_; rintro e w2 ⟨rfl, hC2⟩; have c3 := cell_chg hC2 (by simp) (cellB (i := 0) (v := .int .i64 n) H.out.2.2.2 rfl); have HC2 := Lib.hid hC2; clear hC2) | (go_at_call 58; refine (flinksc fb mb vs f n _ (H.out.1.calm (H.out.2.2.1.trans HC2.out)) H.out.2.1).mono ?_; rintro e w3 ⟨rfl, hC3⟩; rw [HK.out]; have hb0 : (((0 : Nat) : Int) == 0) = true := rfl; clear c3; have c3 := cell_chg hC3 (by simp) (cell_chg HC2.out (by simp) (cellB (i := 0) (v := .int .i64 n) H.out.2.2.2 rfl)); have HC3 := Lib.hid ((H.out.2.2.1.trans HC2.out).trans hC3); clear hC3))
        obtain ⟨d0, d1, d2⟩ := (H.out.1.calm HC3.out).cN hn
        have z0 := fun i => (H.out.1.calm HC3.out).frz i
        generalize (if (f.nodes.getD n nd0).dir.isSome = true then some (mb n) else none) = mo at d1
        generalize (f.nodes.getD n nd0).is = b0 at d0
        generalize vs n = v0 at d2
        go_region
        go_wp2
        have hh : ((((w3.setCell ⟨fb, n * 3, none⟩ (.bool false)).setCell ⟨fb, n * 3 + 1, none⟩ (.map none)).setCell ⟨fb, n * 3 + 2, none⟩ (.slice none 0 0)).drew).heap[fb]? = some (.cells (fsCells (f.setN n nd0) (updN mb n 0) (updN vs n (.slice none 0 0))) 57 (0, 0)) := by
          rw [← fsCells_node H.out.1.inv.ln hn]
          exact blk_setCell (blk_setCell (blk_setCell (H.out.1.calm HC3.out).head _) _) _
        refine ⟨rfl, _, results_none rfl _ _ _, rfl, _, _, by
          rw [HG.out.1]
          exact (H.out.1.step HC3.out).trans ((H.out.1.calm HC3.out).setNode hn (S := [fb]) ((((Chg.refl _ _).setCell _ _ (.inl (by simp))).setCell _ _ (.inl (by simp))).setCell _ _ (.inl (by simp))).drew (fun k hk => .inl (by simpa using hk)) hh own_nil (by intro m hm; cases hm) (by intro k hk; cases hk) (by intro hs; cases hs) HG.out.2)⟩
      · have hg : f.gone n = f := by unfold FS.gone; rw [if_neg (fun h => hk h.2.2)]
        have HG := Lib.hid hg
        have hb0 : ((f.links n : Int) == 0) = false := by simp; exact hk
        clear hg ho
        go_enter Tryd.func39, Tryd.ntmps39
        go_wp2_with (first | (go_at_call 56; rw [← hbx, ← hw1]; clear hbx hw1; refine HA.out.mono ?_; rintro e w2 ⟨rfl, hC2⟩; have c3 := cell_chg hC2 (by simp) (cellB (i := 0) (v := .int .i64 n) H.out.2.2.2 rfl); have HC2 := Lib.hid hC2; clear hC2) | (go_at_call 58; refine (flinksc fb mb vs f n _ (H.out.1.calm (H.out.2.2.1.trans HC2.out)) H.out.2.1).mono ?_; rintro e w3 ⟨rfl, hC3⟩; have HC3 := Lib.hid hC3; clear hC3 c3))
        exact ⟨rfl, _, results_none rfl _ _ _, rfl, mb, vs, by rw [HG.out]; exact H.out.1.step ((H.out.2.2.1.trans HC2.out).trans HC3.out)⟩
  · have hg : f.gone n = f := by unfold FS.gone; rw [if_neg (fun h => absurd h.1 (by omega))]
    have HG := Lib.hid hg
    have h0i : decide ((n : Int) > 0) = false := decide_eq_false (by omega)
    have h0n : decide (0 < n) = false := decide_eq_false (by omega)
    clear hg h0
    go_enter Tryd.func39, Tryd.ntmps39
    go_wp2_with (go_at_call 56; rw [← hbx, ← hw1]; clear hbx hw1; refine HA.out.mono ?_; rintro e w2 ⟨rfl, hC2⟩; have c3 := cell_chg hC2 (by simp) (cellB (i := 0) (v := .int .i64 n) H.out.2.2.2 rfl); have HC2 := Lib.hid hC2; clear hC2)
    exact ⟨rfl, _, results_none rfl _ _ _, rfl, mb, vs, by rw [HG.out]; exact H.out.1.step (H.out.2.2.1.trans HC2.out)⟩

end Go.Proofs.YtkkjbnmfjhmobaaDoor
