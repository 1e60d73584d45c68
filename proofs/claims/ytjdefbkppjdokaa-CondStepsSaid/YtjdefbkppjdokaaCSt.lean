/- metronomelaw16.stands: the two tell the same. -/
import Derived.Test.YtjdefbkppjdokaaCDp
namespace Go.Proofs.Ytjdefbkppjdokaa
open Go.RowKit

set_option maxRecDepth 100000 in
set_option maxHeartbeats 2000000 in
theorem cstandsc (cb ab mb rc rb : Nat) (N : Int) (L : WL) (M : Int) (w : World) (h : CB w cb ab mb rc rb N L M) :
    Calls Try.prog 23 #[.pointer (some ⟨cb, 0, none⟩), .pointer (some ⟨rc, 0, none⟩)] w fun e w' => e = .returned (.bool true) ∧ Chg [] w w' := by
  have hlen : (ordT L).length ≤ 16 := by unfold ordT; rw [List.length_map, ordT_len h.c.list.lok]; exact h.c.list.facts.2.2
  have H := Lib.hid (And.intro h (And.intro h.c.list.facts.2.2 (And.intro h.c.list.lok hlen)))
  clear h hlen
  go_enter Try.func23, Try.ntmps23
  go_wp2_with fail
  refine (cmutexc cb ab mb N L M w H.out.1.c).mono ?_
  rintro e w1 ⟨rfl, hC⟩
  have H1 := Lib.hid hC
  clear hC
  go_wp2_with fail
  refine (rcmutexc rc rb L M w1 (H.out.1.r.calm H1.out)).mono ?_
  rintro e w2 ⟨rfl, rfl⟩
  generalize muM L M = x
  generalize muB L = y
  have hx : (x == x) = true := by simp
  have hy : (y == y) = true := by simp
  go_wp2
  go_loopw [9] (fun i wr => ∃ k : Nat, k ≤ 18 ∧ i = .int .i64 ((k : Int) - 1) ∧ Chg [] w wr) (fun i _ => (17 - intOf i).toNat)
  case atStart => exact ⟨0, by omega, rfl, H1.out⟩
  case round =>
    obtain ⟨k, hk, rfl, hC⟩ := hrel
    have H2 := Lib.hid hC
    have c0 := cellB (H.out.1.r.calm H2.out).head (i := 0) rfl
    clear hC
    by_cases hlt : k < 18
    · go_wp2_with fail
      refine (rpriocc rb L ((k : Int) - 1) wr (H.out.1.r.calm H2.out).list (by have := H.out.2.1; omega)).mono ?_
      rintro e w3 ⟨rfl, rfl⟩
      go_wp2_with fail
      refine (chasc cb ab mb N L M ((k : Int) - 1) wr (H.out.1.c.calm H2.out)).mono ?_
      rintro e w3 ⟨rfl, hC⟩
      have H3 := Lib.hid (H2.out.trans hC)
      clear hC
      generalize hasR L ((k : Int) - 1) = b
      have hb : (b != b) = false := by simp
      go_wp2
      go_roundw
      case rel => exact ⟨k + 1, by omega, by go_num, H3.out⟩
      case measure => simp [intOf]; omega
    · obtain rfl : k = 18 := by omega
      obtain ⟨a, cap, hb, hs⟩ := (H.out.1.r.calm H2.out).list.src
      have d0 : wr.cell? ⟨rb, 0, none⟩ = some (.slice a L.length cap) := cellB hb (i := 0) rfl
      have HB := Lib.hid hb
      clear hb hs
      obtain ⟨n, hn⟩ : ∃ n, n = L.length := ⟨_, rfl⟩
      rw [← hn] at d0 HB
      have hnn : ((n : Int) == (n : Int)) = true := by simp
      have HL := Lib.hid (clenc cb ab mb N L M wr.drew ((H.out.1.c.calm H2.out).calm (Chg.refl [] wr).drew))
      rw [← hn] at HL
      clear hn
      go_wp2
      go_region_held3 (fun w' => w'.cell? ⟨rc, 0, none⟩ = some (.pointer (some ⟨rb, 0, none⟩)) ∧ w'.cell? ⟨rb, 0, none⟩ = some (.slice a n cap)) (first | exact ⟨c0, d0⟩ | exact ⟨x0, x1⟩ | exact ⟨y0, y1⟩ | exact ⟨z0, z1⟩ | exact ⟨u0, u1⟩)
        (first
        | (go_at_call 13; refine HL.out.mono ?_; rintro e w3 ⟨rfl, hC⟩; have H3 := Lib.hid ((Chg.refl [] wr).drew.trans hC); clear hC; have x0 := cellB ((H.out.1.r.calm H2.out).calm H3.out).head (i := 0) rfl; have x1 : w3.cell? ⟨rb, 0, none⟩ = some (.slice a n cap) := cellB (H3.out.blk HB.out (by simp)) (i := 0) rfl)
        | (go_at_call 9; refine (clistc cb ab mb N L M w3 ((H.out.1.c.calm H2.out).calm H3.out)).mono ?_; rintro e w4 ⟨v1, rfl, ho1, hC⟩; have HO1 := Lib.hid ho1; have H4 := Lib.hid (H3.out.trans hC); clear hC ho1; have y0 := cellB ((H.out.1.r.calm H2.out).calm H4.out).head (i := 0) rfl; have y1 : w4.cell? ⟨rb, 0, none⟩ = some (.slice a n cap) := cellB (H4.out.blk HB.out (by simp)) (i := 0) rfl)
        | (go_at_call 46; refine (rlistc rb L w4 ((H.out.1.r.calm H2.out).calm H4.out).list (by have := H.out.2.1; omega) H.out.2.2.1).mono ?_; rintro e w5 ⟨v2, rfl, ho2, hC⟩; have HO2 := Lib.hid (And.intro (IsInts.of_own (own_kept HO1.out hC (by simp))) (IsInts.of_own ho2)); have H5 := Lib.hid (H4.out.trans hC); clear hC ho2; have z0 := cellB ((H.out.1.r.calm H2.out).calm H5.out).head (i := 0) rfl; have z1 : w5.cell? ⟨rb, 0, none⟩ = some (.slice a n cap) := cellB (H5.out.blk HB.out (by simp)) (i := 0) rfl)
        | (go_at_call 14; refine (sameInts_any v1 v2 (ordT L) (ordT L) w5 HO2.out.1 HO2.out.2 (by have := H.out.2.2.2; omega) (by have := H.out.2.2.2; omega)).mono ?_; rintro e w6 ⟨rfl, hC⟩; rw [show decide (ordT L = ordT L) = true from decide_eq_true rfl]; have H6 := Lib.hid (H5.out.trans hC); clear hC; have u0 := cellB ((H.out.1.r.calm H2.out).calm H6.out).head (i := 0) rfl; have u1 : w6.cell? ⟨rb, 0, none⟩ = some (.slice a n cap) := cellB (H6.out.blk HB.out (by simp)) (i := 0) rfl))
      go_wp2
      go_ret
      exact ⟨rfl, H2.out.trans H6.out⟩

end Go.Proofs.Ytjdefbkppjdokaa
