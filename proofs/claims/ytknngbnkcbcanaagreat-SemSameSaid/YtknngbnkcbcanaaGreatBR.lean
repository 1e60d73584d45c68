
/- metronomeref14: barriers: NewBarrier, Wait. -/
import Derived.Test.YtknngbnkcbcanaaGreatBb
namespace Go.Proofs.YtknngbnkcbcanaaGreat
open Go.RowKit

theorem okRBar : okTy 62 := by unfold okTy; decide
theorem barNe : 60 ≠ 62 := by decide

def RBNewP (V : Int) (w : World) (e : Ending) (w' : World) : Prop :=
  ∃ rc rb, e = .returned (.pointer (some ⟨rc, 0, none⟩)) ∧ w.heap.size ≤ rc ∧ w.heap.size ≤ rb ∧ QAt 62 w' rc rb [] V ∧ Chg [] w w'

set_option maxRecDepth 100000 in
theorem rbnewc (V : Int) (w : World) (h0 : 1 ≤ V) (h1 : V ≤ 16) : Calls Tryz.prog 7 #[.int .i64 V] w (RBNewP V w) := by
  have d0 : decide (V < 1) = false := by simp; omega
  have d1 : decide (16 < V) = false := by simp; omega
  go_enter Tryz.func7, Tryz.ntmps7
  go_wp2
  go_ret
  have h1 := heap_alloc_eq w (.cells #[.slice none 0 0] 56)
  have h2 := heap_alloc_eq (w.alloc (.cells #[.slice none 0 0] 56)) (.cells #[.int .i64 V, .pointer (some ⟨w.heap.size, 0, none⟩)] 62)
  rw [World.size_alloc] at h2
  exact ⟨w.heap.size + 1, w.heap.size, rfl, by omega, by omega, ⟨h2, ⟨.slice none 0 0, blk_alloc h1 _, World.ownsRow_nil ..⟩, okRBar⟩, ((Chg.refl _ _).alloc _).alloc _⟩

set_option maxRecDepth 100000 in
theorem rbnew_no (V : Int) (w : World) (h : V < 1 ∨ 16 < V) : Calls Tryz.prog 7 #[.int .i64 V] w fun e w' => e = .returned (.pointer none) ∧ w = w' := by
  by_cases h0 : V < 1
  · have d0 : decide (V < 1) = true := by simpa using h0
    clear h h0
    go_enter Tryz.func7, Tryz.ntmps7
    go_wp2
    go_ret
    exact ⟨rfl, rfl⟩
  · have d0 : decide (V < 1) = false := by simpa using h0
    have d1 : decide (16 < V) = true := by simp; omega
    clear h h0
    go_enter Tryz.func7, Tryz.ntmps7
    go_wp2
    go_ret
    exact ⟨rfl, rfl⟩

def RBWaitP (rc rb : Nat) (L' : WL) (C : Int) (ts : List Int) (r : Int) (w : World) (e : Ending) (w' : World) : Prop :=
  ∃ v rb', e = .returned (.tuple #[v, .int .i64 r]) ∧ w'.ownsRow w.heap.size 3 1 v ts.length (ts.map (Value.int .i64)) ∧ QAt 62 w' rc rb' L' C ∧ (rb' = rb ∨ w.heap.size ≤ rb') ∧ Chg [rc, rb] w w'

theorem own_notW {w : World} {B : Nat} {v : Value} {n : Nat} {xs : List Value} (h : w.ownsRow B 3 1 v n xs) : ∀ k ∈ v.ownBlock.toList, NotW w k := fun k hk => by
  obtain ⟨cs, hcs⟩ := own_cells h k hk
  exact NotW.of hcs (fun cs fr e => by cases e)

set_option maxRecDepth 100000 in
set_option maxHeartbeats 1000000 in
theorem rbwaitc (rc rb : Nat) (L : WL) (C t p : Int) (w : World) (h : QAt 62 w rc rb L C) (hL : (L.length : Int) < C) (hok : ListOk L) (h1 : C ≤ 16) :
    Calls Tryz.prog 29 #[.pointer (some ⟨rc, 0, none⟩), .int .i64 t, .int .i64 p] w (RBWaitP rc rb (bwL L C t p) C (bwO L C t p) (askR L t p false) w) := by
  have hl : L.length ≤ 16 := by omega
  have hput := fun (r1 : Nat) (W : World) (hW : RAt W r1 L) => rputc r1 L t p W hW (by omega)
  have hpl : askR L t p false = 0 → putL L t p = L ++ [(t, p)] := fun h => by unfold putL; rw [if_pos h]
  have hlen : (ordT L).length ≤ 16 := by unfold ordT; rw [List.length_map, ordT_len hok]; exact hl
  have H := Lib.hid (And.intro h (And.intro h.ne (And.intro hlen (And.intro h.lt (And.intro hl hok)))))
  have c1 := cellB h.head (i := 1) rfl
  clear h hlen hok
  unfold bwO bwL
  by_cases ha : askR L t p false = 0
  · rw [hpl ha] at hput
    rw [ha, if_pos rfl]
    rw [ha] at hput
    obtain ⟨n, hn⟩ : ∃ n : Nat, n = (L ++ [(t, p)]).length := ⟨_, rfl⟩
    have hn1 : n = L.length + 1 := by rw [hn]; simp
    have HA := Lib.hid (And.intro hput hn)
    clear hput ha hpl hn
    by_cases hz : (L.length : Int) = C - 1
    case' neg =>
      rw [if_neg hz, if_neg (fun h : _ ∧ _ => hz h.2)]
      have hd : decide ((n : Int) < C) = true := by simp; omega
      have hp : (n : Int) < C := by omega
    case' pos =>
      rw [if_pos hz, if_pos (And.intro rfl hz)]
      have hd : decide ((n : Int) < C) = false := by simp; omega
      have hp : ¬ (n : Int) < C := by omega
    all_goals
      clear hz hL hl hn1
      go_enter Tryz.func29, Tryz.ntmps29
      go_wp2_with fail
      refine (rcopyc rb L w H.out.1.list (by have := H.out.2.2.2.2.1; omega)).mono ?_
      rintro e w1 ⟨r1, rfl, hr1, hR1, hC⟩
      have H1 := Lib.hid (And.intro hC (And.intro hR1 hr1))
      clear hC hR1 hr1
      go_wp2_with fail
      refine (HA.out.1 r1 w1 H1.out.2.1).mono ?_
      rintro e w2 ⟨rfl, hR2, hC⟩
      have H2 := Lib.hid (And.intro (H1.out.1.trans' hC (by have := H1.out.2.2; simp; omega)) (And.intro hR2 H1.out.2.2))
      clear hC hR2 H1
      obtain ⟨a1, cap1, hb1, hs1⟩ := H2.out.2.1.src
      rw [← HA.out.2] at hb1
      have q0 : w2.cell? ⟨r1, 0, none⟩ = some (.slice a1 n cap1) := cellB hb1 (i := 0) rfl
      have c0 := cellB (H.out.1.calm H2.out.1).head (i := 0) rfl
      have c1 := cellB (H.out.1.calm H2.out.1).head (i := 1) rfl
      have f1 := frozenB (H.out.1.calm H2.out.1).head 1
      clear hb1 hs1
      go_wp2
      go_quiet (fail)
    · have hq := (H.out.1.calm H2.out.1).calm ((Chg.refl [] w2).drewN nq)
      have hsz : w2.heap.size = (w2.drewN nq).heap.size := rfl
      have HQ := Lib.hid (And.intro hq ((H2.out.1.drewN nq) : Chg [] w (w2.drewN nq)))
      clear hq
      go_wp2_with fail
      refine (rclearc rb L (w2.drewN nq) HQ.out.1.list (by have := H.out.2.2.2.2.1; omega) H.out.2.2.2.2.2).mono ?_
      rintro e w3 ⟨v3, rfl, ho, hR, hC⟩
      have hg3 := HQ.out.1.lstep hR hC
      have hs : w.heap.size ≤ (w2.drewN nq).heap.size := HQ.out.2.size
      have hge := own_ge ho
      have hnw := own_notW ho
      have H3 := Lib.hid (And.intro (own_mono ho hs) (And.intro hg3 (And.intro ((HQ.out.2.mono (by simp)).trans hC) (And.intro hge (And.intro hnw hs)))))
      have hs3 : w.heap.size ≤ w3.heap.size := Nat.le_trans hs hC.size
      clear ho hR hC hs hge hnw hg3 hsz
      have hlen := H.out.2.2.1
      generalize (ordT L) = oT at *
      obtain ⟨i0, hi, hz0, hz1, hz2⟩ := info_parts infoInt
      obtain ⟨va, vc, rfl⟩ := own_slice H3.out.1
      have hd1 : oT.length + 1 ≤ maxLen := by unfold maxLen; omega
      have hd2 : (oT.length + 1) * 8 ≤ 140737488355328 := by omega
      clear hlen
      go_wp2_with (at_builtin; refine wpList_push rfl _ _ 77 rfl w.heap.size 3 i0 (.int .i64 0) 1 8 Tryz.underlying77 hi hz0 hz1 hz2 rfl (by decide) (.slice va oT.length vc) oT.length _ rfl H3.out.1 [.int .i64 t] rfl rfl (by simp [Value.oneCell']) hd1 hd2 hs3 ?_; intro v2 w4 ho2 hC2 hloc hnn; obtain ⟨va2, vc2, rfl⟩ := own_slice ho2)
      go_ret2
      have hlt := H.out.2.2.2.1
      have hge : ∀ k ∈ (Value.slice va oT.length vc).ownBlock.toList, w.heap.size ≤ k := fun k hk => Nat.le_trans H3.out.2.2.2.2.2 (H3.out.2.2.2.1 k hk)
      refine ⟨_, rb, rfl, ?_, H3.out.2.1.kept hC2 (fun k hk => ⟨by have := hge k hk; omega, by have := hge k hk; omega, own_notW H3.out.1 k hk⟩), .inl rfl, H3.out.2.2.1.mono (by simp) |>.trans' hC2 (fun k hk => .inr (hge k hk))⟩
      rw [List.length_append, List.map_append]
      exact ho2
    · have hq := (H.out.1.calm H2.out.1).calm ((Chg.refl [] w2).drewN nq)
      have HQ := Lib.hid (And.intro hq (And.intro ((H2.out.1.drewN nq) : Chg [] w (w2.drewN nq)) (H2.out.2.1.calm ((Chg.refl [] w2).drewN nq))))
      clear hq
      go_wp2
      go_ret2
      exact ⟨_, r1, rfl, World.ownsRow_nil .., (HQ.out.1.swap HQ.out.2.2).1, .inr H2.out.2.2, (HQ.out.2.1.mono (by simp)).trans ((HQ.out.1.swap HQ.out.2.2).2.mono (by simp))⟩
  · rw [if_neg ha, if_neg (fun h : _ ∧ _ => ha h.1)]
    obtain ⟨r, hr⟩ : ∃ r, r = askR L t p false := ⟨_, rfl⟩
    rw [← hr] at hput ha ⊢
    have hb : (r != 0) = true := by simpa using ha
    have HA := Lib.hid hput
    clear hput ha hr hpl hL hl
    go_enter Tryz.func29, Tryz.ntmps29
    go_wp2_with fail
    refine (rcopyc rb L w H.out.1.list (by have := H.out.2.2.2.2.1; omega)).mono ?_
    rintro e w1 ⟨r1, rfl, hr1, hR1, hC⟩
    have H1 := Lib.hid (And.intro hC (And.intro hR1 hr1))
    clear hC hR1 hr1
    go_wp2_with fail
    refine (HA.out r1 w1 H1.out.2.1).mono ?_
    rintro e w2 ⟨rfl, hR2, hC⟩
    have H2 := Lib.hid (H1.out.1.trans' hC (by have := H1.out.2.2; simp; omega))
    clear hC hR2 H1
    go_wp2
    go_ret2
    exact ⟨_, rb, rfl, World.ownsRow_nil .., H.out.1.calm H2.out, .inl rfl, H2.out.mono (by simp)⟩

end Go.Proofs.YtknngbnkcbcanaaGreat
