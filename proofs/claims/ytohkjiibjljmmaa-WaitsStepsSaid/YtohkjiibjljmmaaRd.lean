
/- metronomeref09: Order, List, First, Take, Clear. -/
import Derived.Test.YtohkjiibjljmmaaRc
namespace Go.Proofs.Ytohkjiibjljmmaa
open Go.RowKit

def ordK (l : WL) (k : Nat) : WL := (List.range k).flatMap fun (i : Nat) => l.filter fun x => x.2 == 31 - (i : Int)
theorem ordK_succ (l : WL) (k : Nat) : ordK l (k + 1) = ordK l k ++ l.filter (fun x => x.2 == 31 - (k : Int)) := by simp [ordK, List.range_succ]
theorem ordK_len (l : WL) (k : Nat) : (ordK l k).length ≤ k * l.length := by
  induction k with
  | zero => simp [ordK]
  | succ k ih =>
    rw [ordK_succ, List.length_append, Nat.add_mul]
    have := List.length_filter_le (fun x : Int × Int => x.2 == 31 - (k : Int)) l
    omega

/-- What has been gathered within a round. -/
def ordI (l : WL) (k i : Nat) : WL := ordK l k ++ (l.take i).filter (fun x => x.2 == 31 - (k : Int))
theorem ordI_zero (l : WL) (k : Nat) : ordI l k 0 = ordK l k := by simp [ordI]
theorem ordI_all (l : WL) (k i : Nat) (h : l.length ≤ i) : ordI l k i = ordK l (k + 1) := by rw [ordI, List.take_of_length_le h, ordK_succ]
theorem ordI_yes {l : WL} {k i : Nat} {x : Int × Int} (h : l[i]? = some x) (hp : x.2 = 31 - (k : Int)) : ordI l k (i + 1) = ordI l k i ++ [x] := by
  simp [ordI, List.take_add_one, h, hp]
theorem ordI_no {l : WL} {k i : Nat} {x : Int × Int} (h : l[i]? = some x) (hp : ¬ x.2 = 31 - (k : Int)) : ordI l k (i + 1) = ordI l k i := by
  simp [ordI, List.take_add_one, h, hp]
theorem ordI_len (l : WL) (k i : Nat) : (ordI l k i).length ≤ (k + 1) * l.length := by
  have h1 := ordK_len l k
  have h2 := List.length_filter_le (fun x : Int × Int => x.2 == 31 - (k : Int)) (l.take i)
  have h3 := List.length_take_le i l
  have h3 : (l.take i).length ≤ l.length := by rw [List.length_take]; omega
  rw [ordI, List.length_append, Nat.add_mul]
  omega

set_option maxRecDepth 100000 in
set_option maxHeartbeats 2000000 in
theorem rorderc (rb : Nat) (l : WL) (w : World) (h : RAt w rb l) (hl : l.length ≤ 999999) :
    Calls Try.prog 40 #[.pointer (some ⟨rb, 0, none⟩)] w (PairsPost (ordL l) w) := by
  obtain ⟨i0, hi, hz0, hz1, hz2⟩ := info_parts infoWaiter
  obtain ⟨a, cap, hb, hc⟩ := h.open
  have HR := Lib.hid h
  have HB := Lib.hid (And.intro hb hc)
  obtain ⟨n, hn⟩ : ∃ n, n = l.length := ⟨_, rfl⟩
  rw [← hn] at HB hl
  have HN := Lib.hid hn
  clear hb hc h hn
  go_enter Try.func40, Try.ntmps40
  go_wp2
  go_loopw [3, 4] (fun s p wr => ∃ k : Nat, k ≤ 31 ∧ p = .int .i64 (31 - k) ∧ (∃ a c, s = .slice a (ordK l k).length c) ∧ wr.ownsRow w.heap.size 68 2 s (ordK l k).length (flatW (ordK l k)) ∧ Chg [] w wr) (fun _ p _ => (intOf p).toNat)
  case atStart => exact ⟨0, by omega, rfl, ⟨none, 0, rfl⟩, World.ownsRow_nil .., Chg.refl _ _⟩
  case round =>
    obtain ⟨k, hk, rfl, ⟨va, vc, rfl⟩, ho, hC⟩ := hrel
    by_cases hlt : k < 31
    · have HO := Lib.hid (And.intro ho hC)
      clear ho hC
      have hge : (1 : Int) ≤ 31 - (k : Int) := by omega
      go_wp2
      go_loopw [3, 5] (fun s p wr => ∃ i : Nat, i ≤ n ∧ p = .int .i64 i ∧ (∃ a c, s = .slice a (ordI l k i).length c) ∧ wr.ownsRow w.heap.size 68 2 s (ordI l k i).length (flatW (ordI l k i)) ∧ Chg [] w wr) (fun _ p _ => n - (intOf p).toNat)
      case atStart => exact ⟨0, by omega, rfl, by rw [ordI_zero]; exact ⟨va, vc, rfl⟩, by rw [ordI_zero]; exact HO.out.1, HO.out.2⟩
      case round =>
        obtain ⟨i, hin, rfl, ⟨va', vc', rfl⟩, ho, hC⟩ := hrel
        have c0 : wr.cell? ⟨rb, 0, none⟩ = some (.slice a n cap) := cellB (hC.blk HB.out.1 (by simp)) (i := 0) rfl
        by_cases hlt2 : i < n
        · obtain ⟨x, hx⟩ : ∃ x, l[i]? = some x := ⟨_, List.getElem?_eq_getElem (by have := HN.out; omega)⟩
          obtain ⟨g, hag, hd⟩ := HB.out.2.resolve_left (fun e => by rw [e] at hx; simp at hx)
          have d1 := SrcAt.calm.cell_calm (hd i x hx).1 hC
          have d2 := SrcAt.calm.cell_calm (hd i x hx).2 hC
          subst hag
          have hlen := ordI_len l k i
          rw [← HN.out] at hlen
          have hkn : (k + 1) * n ≤ 31 * 999999 := Nat.mul_le_mul (by omega) hl
          obtain ⟨t, q⟩ := x
          simp only at d1 d2
          have hB1 : w.heap.size ≤ wr.heap.size := hC.size
          have HO2 := Lib.hid (And.intro ho hC)
          by_cases hq : q = 31 - (k : Int)
          · subst hq
            have hbq : ((31 - (k : Int) : Int) == 31 - (k : Int)) = true := by simp
            have HY := Lib.hid (ordI_yes hx rfl)
            have hd1 : (ordI l k i).length + 1 ≤ maxLen := by unfold maxLen; omega
            have hd2 : ((ordI l k i).length + 1) * 16 ≤ 140737488355328 := by omega
            generalize hm : (ordI l k i).length = m at *
            have HMM := Lib.hid hm
            clear hx hd hlen hkn ho hC hm
            go_wp2_with (at_builtin; refine wpList_push rfl _ _ 40 rfl w.heap.size 68 i0 (.agg #[.int .i64 0, .int .i64 0]) 2 16 Try.underlying40 hi hz0 hz1 hz2 rfl (by decide) (.slice va' m vc') m _ rfl HO2.out.1 [.int .i64 t, .int .i64 (31 - (k : Int))] rfl rfl (by simp [Value.oneCell']) hd1 hd2 hB1 ?_; intro v2 w2 ho2 hC2 hloc hnn; obtain ⟨va2, vc2, rfl⟩ := own_slice ho2)
            go_roundw
            case rel =>
              have e1 : (ordI l k (i + 1)).length = m + 1 := by rw [HY.out, List.length_append, HMM.out]; rfl
              have e2 : flatW (ordI l k (i + 1)) = flatW (ordI l k i) ++ [.int .i64 t, .int .i64 (31 - (k : Int))] := by rw [HY.out, flatW_snoc]
              exact ⟨i + 1, by omega, by go_num, by rw [e1]; exact ⟨_, _, rfl⟩, by rw [e1, e2]; exact ho2, HO2.out.2.trans' hC2 (fun j hj => .inr (own_ge HO2.out.1 j hj))⟩
            case measure => simp [intOf]; omega
          · have hbq : ((q : Int) == 31 - (k : Int)) = false := by simpa using hq
            have HY := Lib.hid (ordI_no hx hq)
            clear hx hd hlen hkn ho hC hq
            go_wp2
            go_roundw
            case rel => exact ⟨i + 1, by omega, by go_num, by rw [HY.out]; exact ⟨_, _, rfl⟩, by rw [HY.out]; exact HO2.out.1, HO2.out.2⟩
            case measure => simp [intOf]; omega
        · have HO2 := Lib.hid (And.intro ho hC)
          have HY := Lib.hid (ordI_all l k i (by have := HN.out; omega))
          clear ho hC
          go_wp2
          go_roundw
          case rel => exact ⟨k + 1, by omega, by go_num, by rw [← HY.out]; exact ⟨_, _, rfl⟩, by rw [← HY.out]; exact HO2.out.1, HO2.out.2⟩
          case measure => simp [intOf]; omega
    · have hk31 : k = 31 := by omega
      subst hk31
      have e : ordK l 31 = ordL l := rfl
      rw [e] at ho
      rw [e]
      have HO := Lib.hid (And.intro ho hC)
      clear ho hC e
      go_wp2
      go_ret
      exact ⟨_, rfl, HO.out.1, HO.out.2⟩

end Go.Proofs.Ytohkjiibjljmmaa
