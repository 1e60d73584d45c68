
/- metronomelaw09.WaitsSteps answers true, whatever the script. -/
import Derived.Test.YtohkjiibjljmmaaL09s
import Derived.Test.YtohkjiibjljmmaaL09known
import Derived.Test.YtohkjiibjljmmaaRow
namespace Go.Proofs.Ytohkjiibjljmmaa
open Go.RowKit

theorem RAt.fresh9 {w : World} {rb : Nat} (h : w.heap[rb]? = some (.cells #[.slice none 0 0] 42 (0, 0))) : RAt w rb [] := ⟨_, h, World.ownsRow_nil ..⟩

set_option maxRecDepth 100000 in
set_option maxHeartbeats 4000000 in
theorem waitsSteps_any (v : Value) (leave : Int) (R : List (Nat → Int)) (w : World) (hv : IsRows 3 w v R) :
    Calls Try.prog 5 #[v, .int .i64 leave] w fun e w' => e = .returned (.bool true) ∧ Chg [] w w' := by
  obtain ⟨a, cap, rfl⟩ := hv.slice
  have HV := Lib.hid hv
  clear hv
  obtain ⟨n, hn⟩ : ∃ n, n = R.length := ⟨_, rfl⟩
  rw [← hn]
  have HN := Lib.hid hn
  clear hn
  go_enter Try.func5, Try.ntmps5
  go_wp2_with fail
  refine (newc w).mono ?_
  rintro e w1 ⟨a1, m1, rfl, ha1, hm1, hW1, hC1⟩
  have HT := Lib.hid (show WAt (w1.alloc (.cells #[.slice none 0 0] 42)) a1 m1 0 [] ∧ RAt (w1.alloc (.cells #[.slice none 0 0] 42)) w1.heap.size [] ∧ Chg [] w (w1.alloc (.cells #[.slice none 0 0] 42)) ∧ w.heap.size ≤ a1 ∧ w.heap.size ≤ m1 ∧ w.heap.size ≤ w1.heap.size from
    ⟨hW1.kept ((Chg.refl [] w1).alloc _) (by simp) (by simp), .fresh9 (heap_alloc_eq w1 _), hC1.alloc _, ha1, hm1, hC1.size⟩)
  clear ha1 hm1 hW1 hC1
  go_wp2
  generalize (w1.alloc (.cells #[.slice none 0 0] 42)) = w2 at *
  generalize w1.heap.size = r1 at *
  go_loopw [5, 6, 7] (fun x p i wr => ∃ (k a1 m1 : Nat) (L : WL), k ≤ n ∧ k ≤ 200 ∧ x = .pointer (some ⟨a1, 0, none⟩) ∧ p = .pointer (some ⟨r1, 0, none⟩) ∧ i = .int .i64 k ∧ WAt wr a1 m1 k L ∧ RAt wr r1 L ∧ Chg [] w wr ∧ w.heap.size ≤ a1 ∧ w.heap.size ≤ m1 ∧ w.heap.size ≤ r1) (fun _ _ i _ => 200 - (intOf i).toNat)
  case atStart => exact ⟨0, a1, m1, [], by omega, by omega, rfl, rfl, rfl, HT.out.1, HT.out.2.1, HT.out.2.2.1, HT.out.2.2.2⟩
  case round =>
    clear HT
    obtain ⟨k, a1, m1, L, hk1, hk2, rfl, rfl, rfl, hW, hR, hG, hge⟩ := hrel
    have HK := Lib.hid (And.intro hW (And.intro hR (And.intro hG hge)))
    clear hW hR hge
    have hcase : (k < n ∧ k < 200) ∨ (¬ k < n) ∨ (k < n ∧ ¬ k < 200) := by omega
    rcases hcase with ⟨hlt, hlt2⟩ | hlt | ⟨hlt, hlt2⟩
    · have hne : R ≠ [] := fun e => by have := HN.out; rw [e] at this; simp at this; omega
      obtain ⟨g, o, cap', hsl, hcells⟩ := HV.out.addr hne
      cases hsl
      obtain ⟨x, hx⟩ : ∃ x, R[k]? = some x := ⟨_, List.getElem?_eq_getElem (by have := HN.out; omega)⟩
      have hrow := IsRows.row hcells hG hx
      have d0 := hrow 0 (by omega)
      have d1 := hrow 1 (by omega)
      have d2 := hrow 2 (by omega)
      rw [Nat.add_zero] at d0
      clear hcells hrow hx hG hne
      generalize x 0 = kd at *
      generalize x 1 = t at *
      generalize x 2 = q at *
      go_wp2_with fail
      refine (doc a1 m1 r1 k L kd t q wr HK.out.1 HK.out.2.1 (by omega)).mono ?_
      rintro e w4 ⟨a', m', rfl, ha, hW, hR, hC⟩
      have HN2 := Lib.hid (show WAt w4 a' m' ((k : Int) + 1) (stepL L kd t q) ∧ RAt w4 r1 (stepL L kd t q) ∧ Chg [] w w4 ∧ w.heap.size ≤ a' ∧ w.heap.size ≤ m' ∧ w.heap.size ≤ r1 from by
        have h1 := HK.out.2.2.2
        have h2 := HK.out.2.2.1.size
        exact ⟨hW, hR, HK.out.2.2.1.trans' hC (fun j hj => by simp at hj; omega), by omega, by omega, by omega⟩)
      clear ha hW hR hC d0 d1 d2
      go_wp2_with fail
      refine (stands09 a' m' r1 _ _ leave w4 HN2.out.1 HN2.out.2.1).mono ?_
      rintro e w5 ⟨rfl, hC⟩
      have HS := Lib.hid hC
      clear hC
      go_wp2
      go_roundw
      case rel => exact ⟨k + 1, a', m', _, by omega, by omega, rfl, rfl, by go_num, by rw [Int.natCast_add]; exact HN2.out.1.kept HS.out (by simp) (by simp), HN2.out.2.1.calm HS.out, HN2.out.2.2.1.trans HS.out, HN2.out.2.2.2⟩
      case measure => simp [intOf]; omega
    all_goals
      clear hG
      go_wp2_with fail
      refine (known09 wr).mono ?_
      rintro e w8 ⟨rfl, hC8⟩
      have HK8 := Lib.hid (HK.out.2.2.1.trans hC8)
      clear hC8
      go_wp2
      go_ret
      exact ⟨rfl, HK8.out⟩

end Go.Proofs.Ytohkjiibjljmmaa
