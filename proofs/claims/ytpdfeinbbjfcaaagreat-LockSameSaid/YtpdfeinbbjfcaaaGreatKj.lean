
/- metronomelaw15.LockSteps answers true, whatever the script. -/
import Derived.Test.YtpdfeinbbjfcaaaGreatKi
import Derived.Test.YtpdfeinbbjfcaaaGreatRow
namespace Go.Proofs.YtpdfeinbbjfcaaaGreat
open Go.RowKit

theorem lnew_is' : lnew = ⟨-1, [0, 0, 0, 0, 0, 0, 0, 0, 0, 0, 0, 0, 0, 0, 0, 0], [], []⟩ := by kernel_rfl

/-- Both locks, side by side, as new as the call. -/
structure PK (w W : World) (cb rb a0 m0 a1 m1 rc rr rw : Nat) (N : Int) (s : LS) : Prop where
  l : LAt W cb rb a0 m0 a1 m1 N s
  d : DAt W rc rr rw s
  c : Chg [] w W
  g : ∀ k ∈ [cb, rb, a0, m0, a1, m1, rc, rr, rw], w.heap.size ≤ k
theorem PK.calm {w W W' : World} {cb rb a0 m0 a1 m1 rc rr rw : Nat} {N : Int} {s : LS} (h : PK w W cb rb a0 m0 a1 m1 rc rr rw N s) (hC : Chg [] W W') : PK w W' cb rb a0 m0 a1 m1 rc rr rw N s := ⟨h.l.calm hC, h.d.calm hC, h.c.trans hC, h.g⟩
theorem PK.step {w W W' : World} {cb rb a0 m0 a1 m1 rc rr rw : Nat} {N N' : Int} {s s' : LS} {e : Ending} (h : PK w W cb rb a0 m0 a1 m1 rc rr rw N s) (hD : DoK cb rb a0 m0 a1 m1 rc rr rw N' s' W e W') :
    ∃ cb' rb' a0' m0' a1' m1', e = .returned (.tuple #[.pointer (some ⟨cb', 0, none⟩), .pointer (some ⟨rc, 0, none⟩), .bool true]) ∧ PK w W' cb' rb' a0' m0' a1' m1' rc rr rw N' s' := by
  obtain ⟨cb', rb', a0', m0', a1', m1', he, hL, hd, hC, hb⟩ := hD
  refine ⟨cb', rb', a0', m0', a1', m1', he, hL, hd, h.c.trans' hC (fun k hk => .inr (h.g k hk)), fun k hk => ?_⟩
  rcases hb with ⟨rfl, rfl, rfl, rfl, rfl, rfl⟩ | hb
  · exact h.g k hk
  · have hs := h.c.size
    have hg := h.g
    simp only [List.mem_cons, List.not_mem_nil, or_false] at hk
    have h6 : ∀ j ∈ [cb', rb', a0', m0', a1', m1'], w.heap.size ≤ j := fun j hj => Nat.le_trans hs (hb j hj)
    rcases hk with rfl | rfl | rfl | rfl | rfl | rfl | rfl | rfl | rfl
    · exact h6 _ (by simp)
    · exact h6 _ (by simp)
    · exact h6 _ (by simp)
    · exact h6 _ (by simp)
    · exact h6 _ (by simp)
    · exact h6 _ (by simp)
    · exact hg _ (by simp)
    · exact hg _ (by simp)
    · exact hg _ (by simp)

set_option maxRecDepth 100000 in
set_option maxHeartbeats 8000000 in
theorem lockSteps_any (v : Value) (R : List (Nat → Int)) (w : World) (hv : IsRows 3 w v R) :
    Calls Tryz.prog 3 #[v] w fun e w' => e = .returned (.bool true) ∧ Chg [] w w' := by
  obtain ⟨a, cap, rfl⟩ := hv.slice
  have HV := Lib.hid hv
  clear hv
  obtain ⟨n, hn⟩ : ∃ n, n = R.length := ⟨_, rfl⟩
  rw [← hn]
  have HN := Lib.hid hn
  clear hn
  go_enter Tryz.func3, Tryz.ntmps3
  go_wp2_with fail
  refine (lnewc w).mono ?_
  rintro e w0 ⟨cb, rb, a0, m0, a1, m1, rfl, hg, hL, hC⟩
  have H0 := Lib.hid (And.intro hL (And.intro hC hg))
  clear hL hC hg
  go_wp2_with fail
  refine (dnewc w0).mono ?_
  rintro e w1 ⟨rc, rr, rw', rfl, hg, hD, hC⟩
  have H1 := Lib.hid (show PK w w1 cb rb a0 m0 a1 m1 rc rr rw' 0 lnew from ⟨H0.out.1.calm hC, hD, H0.out.2.1.trans hC, fun k hk => by
    have h1 := H0.out.2.2
    have h2 := H0.out.2.1.size
    simp only [List.mem_cons, List.not_mem_nil, or_false] at hk
    rcases hk with rfl | rfl | rfl | rfl | rfl | rfl | rfl | rfl | rfl
    · exact h1 _ (by simp)
    · exact h1 _ (by simp)
    · exact h1 _ (by simp)
    · exact h1 _ (by simp)
    · exact h1 _ (by simp)
    · exact h1 _ (by simp)
    · exact Nat.le_trans h2 (hg _ (by simp))
    · exact Nat.le_trans h2 (hg _ (by simp))
    · exact Nat.le_trans h2 (hg _ (by simp))⟩)
  clear hg hD hC H0
  go_wp2
  go_loopw [3, 4, 5] (fun x p i wr => ∃ (k cb rb a0 m0 a1 m1 : Nat) (s : LS), k ≤ n ∧ k ≤ 200 ∧ x = .pointer (some ⟨cb, 0, none⟩) ∧ p = .pointer (some ⟨rc, 0, none⟩) ∧ i = .int .i64 k ∧ PK w wr cb rb a0 m0 a1 m1 rc rr rw' (4 * k) s) (fun _ _ i _ => 200 - (intOf i).toNat)
  case atStart => exact ⟨0, cb, rb, a0, m0, a1, m1, lnew, by omega, by omega, rfl, rfl, rfl, H1.out⟩
  case round =>
    obtain ⟨k, cb, rb, a0, m0, a1, m1, s, hk, hk2, rfl, rfl, rfl, hP⟩ := hrel
    have HK := Lib.hid hP
    clear hP H1
    have hcase : (k < n ∧ k < 200) ∨ (¬ k < n) ∨ (k < n ∧ ¬ k < 200) := by omega
    rcases hcase with ⟨hlt, hlt2⟩ | hlt | ⟨hlt, hlt2⟩
    · as_aux_lemma =>
      have hne : R ≠ [] := fun e => by have := HN.out; rw [e] at this; simp at this; omega
      obtain ⟨g, o, cap', hsl, hcells⟩ := HV.out.addr hne
      cases hsl
      obtain ⟨x, hx⟩ : ∃ x, R[k]? = some x := ⟨_, List.getElem?_eq_getElem (by have := HN.out; omega)⟩
      have hrow := IsRows.row hcells HK.out.c hx
      have d0 := hrow 0 (by omega)
      have d1 := hrow 1 (by omega)
      have d2 := hrow 2 (by omega)
      rw [Nat.add_zero] at d0
      clear hcells hrow hx hne
      generalize x 0 = kd at *
      generalize x 1 = t at *
      generalize x 2 = q at *
      go_wp2_with fail
      refine (kdoc kd cb rb a0 m0 a1 m1 rc rr rw' (4 * k) s t q wr HK.out.l HK.out.d (by omega)).mono ?_
      rintro e w2 hD
      obtain ⟨cb', rb', a0', m0', a1', m1', rfl, hP⟩ := HK.out.step hD
      have H2 := Lib.hid hP
      clear hD hP
      go_wp2_with fail
      refine (kstandsc cb' rb' a0' m0' a1' m1' rc rr rw' _ _ w2 H2.out.l H2.out.d).mono ?_
      rintro e w3 ⟨rfl, hC⟩
      have H3 := Lib.hid (H2.out.calm hC)
      clear hC
      go_wp2
      go_roundw
      case rel => exact ⟨k + 1, cb', rb', a0', m0', a1', m1', _, by omega, by omega, rfl, rfl, by go_num, by rw [show (4 : Int) * ((k + 1 : Nat) : Int) = 4 * (k : Int) + 4 by omega]; exact H3.out⟩
      case measure => simp [intOf]; omega
    all_goals
      go_wp2_with fail
      refine (known15 wr).mono ?_
      rintro e w8 ⟨rfl, hC8⟩
      have HK8 := Lib.hid (HK.out.c.trans hC8)
      clear hC8
      go_wp2
      go_ret
      exact ⟨rfl, HK8.out⟩

end Go.Proofs.YtpdfeinbbjfcaaaGreat
