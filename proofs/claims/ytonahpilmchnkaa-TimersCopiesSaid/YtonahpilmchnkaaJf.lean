
/- Timers: Due: how often; the contract. -/
import Derived.Test.YtonahpilmchnkaaJe
import Derived.Test.YtonahpilmchnkaaHj
namespace Go.Proofs.Ytonahpilmchnkaa
open Go.RowKit

set_option maxRecDepth 100000 in
set_option maxHeartbeats 4000000 in
theorem oftenc (e : TE) (now : Int) (nb : Nat) (w : World) (hn : w.cell? ⟨nb, 0, none⟩ = some (.int .i64 now)) (h0 : 0 ≤ e.at_) (h1 : e.at_ ≤ now) (h2 : now ≤ 1099511627776) (h3 : 0 ≤ e.iv) :
    Calls Try.prog 29 #[e.val, .pointer (some ⟨nb, 0, none⟩)] w fun x w' => x = .returned (.int .i64 (e.often now)) ∧ Chg [] w w' := by
  obtain ⟨armed, clock, at_, iv, out, cnt, ovr⟩ := e
  unfold TE.often TE.val TE.cells
  dsimp only at *
  obtain ⟨bx, hbx⟩ : ∃ bx, bx = w.heap.size := ⟨_, rfl⟩
  obtain ⟨w1, hw1⟩ : ∃ w1, w1 = w.alloc (.cells #[.bool armed, .int .i64 clock, .int .i64 at_, .int .i64 iv, .bool out, .int .i64 cnt, .int .i64 ovr] 32 (0, 0)) := ⟨_, rfl⟩
  have hC1 : Chg [] w w1 := by rw [hw1]; exact (Chg.refl _ _).alloc _
  have hnew : w1.heap[bx]? = some (.cells #[.bool armed, .int .i64 clock, .int .i64 at_, .int .i64 iv, .bool out, .int .i64 cnt, .int .i64 ovr] 32 (0, 0)) := by rw [hw1, hbx]; exact heap_alloc_eq w _
  have cn := cell_kept hn hC1 (by simp)
  have c2 := cellB hnew (i := 2) (v := .int .i64 at_) rfl
  have c3 := cellB hnew (i := 3) (v := .int .i64 iv) rfl
  have HC := Lib.hid hC1
  by_cases hz : iv = 0
  · subst hz
    rw [if_pos rfl]
    clear hn hC1 hnew h0 h1 h2 h3
    go_enter Try.func29, Try.ntmps29
    go_wp2_with fail
    rw [← hw1, ← hbx]
    clear hw1 hbx
    go_wp2
    go_ret
    exact ⟨rfl, HC.out⟩
  · rw [if_neg hz]
    have ez : (iv == 0) = false := by simpa using hz
    have ez2 : ¬ iv = 0 := hz
    have hq : Int.tdiv (now - at_) iv = (now - at_) / iv := Int.tdiv_eq_ediv_of_nonneg (by omega)
    have hq0 : 0 ≤ (now - at_) / iv := Int.ediv_nonneg (by omega) h3
    have hq1 : (now - at_) / iv ≤ now - at_ := Int.ediv_le_self _ (by omega)
    clear hn hC1 hnew
    go_enter Try.func29, Try.ntmps29
    have cn2 := cn
    rw [hw1] at cn2
    go_wp2
    go_ret
    rw [← hw1]
    exact ⟨rfl, HC.out⟩

end Go.Proofs.Ytonahpilmchnkaa
