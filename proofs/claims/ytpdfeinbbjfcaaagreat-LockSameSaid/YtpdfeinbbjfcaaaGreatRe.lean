
/- metronomeref09: List, First, Take, Clear. -/
import Derived.Test.YtpdfeinbbjfcaaaGreatRd
namespace Go.Proofs.YtpdfeinbbjfcaaaGreat
open Go.RowKit

set_option maxRecDepth 100000 in
set_option maxHeartbeats 2000000 in
theorem rlistc (rb : Nat) (l : WL) (w : World) (h : RAt w rb l) (hl : l.length ≤ 999999) (hok : ListOk l) :
    Calls Tryz.prog 35 #[.pointer (some ⟨rb, 0, none⟩)] w (IntsPost (ordT l) w) := by
  obtain ⟨i0, hi, hz0, hz1, hz2⟩ := info_parts infoInt
  have hO := rorderc rb l w h hl
  have hlen : (ordL l).length ≤ 999999 := by rw [ordT_len hok]; exact hl
  unfold ordT
  generalize ordL l = m at *
  have HO := Lib.hid hO
  clear hO h hok hl
  go_enter Tryz.func35, Tryz.ntmps35
  go_wp2_with fail
  refine HO.out.mono ?_
  rintro e w1 ⟨v, rfl, ho, hC⟩
  have hp := IsPairs.of_own ho
  by_cases hn : m = []
  · subst hn
    obtain ⟨a, cap, rfl⟩ := hp.slice
    clear ho hp hlen
    go_wp2
    refine wp_loop_rounds 1 ?_
    rw [rounds_succ]
    go_wp2
    go_ret
    exact ⟨_, rfl, World.ownsRow_nil .., hC⟩
  · obtain ⟨b, o, cap, rfl, hc⟩ := hp.addr hn
    have HC := Lib.hid (And.intro hC hc)
    obtain ⟨n, hnn⟩ : ∃ n, n = m.length := ⟨_, rfl⟩
    rw [← hnn] at hlen ⊢
    have HN := Lib.hid hnn
    have HB0 := hC.size
    clear hp hc hC hn hnn ho
    go_wp2
    go_loopw [4, 5] (fun s p wr => ∃ i : Nat, i ≤ n ∧ p = .int .i64 i ∧ (∃ a c, s = .slice a i c) ∧ wr.ownsRow w1.heap.size 3 1 s i (((m.take i).map (·.1)).map (Value.int .i64)) ∧ Chg [] w1 wr) (fun _ p _ => n - (intOf p).toNat)
    case atStart => exact ⟨0, by omega, rfl, ⟨none, 0, rfl⟩, World.ownsRow_nil .., Chg.refl _ _⟩
    case round =>
      obtain ⟨i, hin, rfl, ⟨va, vc, rfl⟩, ho, hC⟩ := hrel
      have HO2 := Lib.hid (And.intro ho hC)
      have hB1 : w1.heap.size ≤ wr.heap.size := hC.size
      by_cases hlt : i < n
      · obtain ⟨x, hx⟩ : ∃ x, m[i]? = some x := ⟨_, List.getElem?_eq_getElem (by have := HN.out; omega)⟩
        have d1 := SrcAt.calm.cell_calm (HC.out.2 i x hx).1 hC
        obtain ⟨t, q⟩ := x
        simp only at d1
        have hd1 : i + 1 ≤ maxLen := by unfold maxLen; omega
        have hd2 : (i + 1) * 8 ≤ 140737488355328 := by omega
        have HX := Lib.hid (show (((m.take (i + 1)).map (·.1)).map (Value.int .i64)) = (((m.take i).map (·.1)).map (Value.int .i64)) ++ [.int .i64 t] by simp [List.take_add_one, hx])
        clear hx ho hC
        go_wp2_with (at_builtin; refine wpList_push rfl _ _ 56 rfl w1.heap.size 3 i0 (.int .i64 0) 1 8 Tryz.underlying56 hi hz0 hz1 hz2 rfl (by decide) (.slice va i vc) i _ rfl HO2.out.1 [.int .i64 t] rfl rfl (by simp [Value.oneCell']) hd1 hd2 hB1 ?_; intro v2 w2 ho2 hC2 hloc hnn; obtain ⟨va2, vc2, rfl⟩ := own_slice ho2)
        go_roundw
        case rel => exact ⟨i + 1, by omega, by go_num, ⟨_, _, rfl⟩, by rw [HX.out]; exact ho2, HO2.out.2.trans' hC2 (fun j hj => .inr (own_ge HO2.out.1 j hj))⟩
        case measure => simp [intOf]; omega
      · have : i = n := by omega
        subst this
        have HX := Lib.hid (show m.take i = m from List.take_of_length_le (by have := HN.out; omega))
        clear ho hC
        go_wp2
        go_ret
        refine ⟨_, rfl, ?_, HC.out.1.trans HO2.out.2⟩
        have := HO2.out.1
        rw [HX.out] at this
        rw [List.length_map, ← HN.out]
        exact own_mono this HB0

def RClearPost (rb : Nat) (l : WL) (w : World) (e : Ending) (w' : World) : Prop :=
  ∃ v, e = .returned v ∧ w'.ownsRow w.heap.size 3 1 v (ordT l).length ((ordT l).map (Value.int .i64)) ∧ RAt w' rb [] ∧ Chg [rb] w w'

end Go.Proofs.YtpdfeinbbjfcaaaGreat
