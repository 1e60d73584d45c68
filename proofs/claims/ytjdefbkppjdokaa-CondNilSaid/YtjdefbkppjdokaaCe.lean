/- Package cond: Broadcast: all come, in the order, and nobody waits any more. -/
import Derived.Test.YtjdefbkppjdokaaCd
import Derived.Test.YtjdefbkppjdokaaOrd
import Derived.Test.YtjdefbkppjdokaaRe
namespace Go.Proofs.Ytjdefbkppjdokaa
open Go.RowKit

def CBroadP (cb ab mb : Nat) (N : Int) (L : WL) (M : Int) (w : World) (e : Ending) (w' : World) : Prop :=
  ∃ v, e = .returned v ∧ w'.ownsRow w.heap.size 3 1 v (ordT L).length ((ordT L).map (Value.int .i64)) ∧ CAt w' cb ab mb N [] M ∧ Chg [ab, mb] w w'

set_option maxRecDepth 100000 in
set_option maxHeartbeats 1000000 in
theorem cbroadc (cb ab mb : Nat) (N : Int) (L : WL) (M : Int) (w : World) (h : CAt w cb ab mb N L M) :
    Calls Try.prog 16 #[.pointer (some ⟨cb, 0, none⟩)] w (CBroadP cb ab mb N L M w) := by
  obtain ⟨i0, hi, hz0, hz1, hz2⟩ := info_parts infoInt
  have hlen : (ordL L).length ≤ 16 := by rw [(ordL_perm h.list.lok).length_eq]; exact h.list.facts.2.2
  have hlt := h.lt
  have H := Lib.hid (And.intro h hlen)
  clear h hlen
  go_enter Try.func16, Try.ntmps16
  go_wp2
  go_step3
  go_wp2
  go_step3
  go_wp2
  go_loopw [3] (fun l wr => ∃ (k : Nat) (L2 : WL), k ≤ 16 ∧ (∃ a c, l = .slice a k c) ∧ k + (ordL L2).length = (ordL L).length ∧ ordL L2 = (ordL L).drop k ∧ CAt wr cb ab mb N L2 M ∧ wr.ownsRow w.heap.size 3 1 l k (((ordT L).take k).map (Value.int .i64)) ∧ Chg [ab, mb] w wr) (fun l _ => match l with | .slice _ n _ => 17 - n | _ => 0)
  case atStart => exact ⟨0, L, by omega, ⟨none, 0, rfl⟩, by omega, by simp, H.out.1, World.ownsRow_nil .., Chg.refl _ _⟩
  case round =>
    obtain ⟨k, L2, hk, ⟨va, vc, rfl⟩, hl, hd, hA, ho, hC⟩ := hrel
    have hS := csignalc cb ab mb N L2 M wr hA
    cases hor : ordL L2 with
    | nil =>
      rw [hor] at hS
      have hT : takeL L2 = L2 := by unfold takeL; rw [hor]
      have hL2 : L2 = [] := (ord_nil_iff hA.list.lok).1 hor
      rw [hT, hL2] at hS
      simp only [headT, headB] at hS
      have hkl : k = (ordL L).length := by rw [hor] at hl; simpa using hl
      have HS := Lib.hid hS
      have HK := Lib.hid (And.intro ho (And.intro hC hkl))
      clear hS hT hL2 hl hd hA ho hC hor hkl
      go_wp2_with fail
      refine HS.out.mono ?_
      rintro e w1 ⟨rfl, hA1, hC1⟩
      have H1 := Lib.hid (And.intro hA1 hC1)
      clear hA1 hC1
      go_wp2
      try rw [Exit.noGoto_ret]
      go_ret
      have hle : (ordT L).length = k := by unfold ordT; rw [List.length_map, HK.out.2.2]
      refine ⟨_, rfl, ?_, H1.out.1, HK.out.2.1.trans H1.out.2⟩
      rw [hle]
      have ho := HK.out.1
      rw [List.take_of_length_le (by omega)] at ho
      exact own_kept ho H1.out.2 (fun j hj => own_notin ho (by simp at hj; omega))
    | cons x r =>
      rw [hor] at hS hl
      have hd1 : k + 1 ≤ maxLen := by unfold maxLen; omega
      have hd2 : (k + 1) * 8 ≤ 140737488355328 := by omega
      have ht := ord_take hA.list.lok
      rw [hor] at ht
      obtain ⟨t, p⟩ := x
      simp only [headT, headB, List.tail_cons, List.length_cons] at hS hl ht
      have hlr : k + 1 + r.length = (ordL L).length := by omega
      have hdr : r = (ordL L).drop (k + 1) := by
        have := congrArg List.tail (hor.symm.trans hd)
        simpa using this
      have htk : (ordT L).take (k + 1) = (ordT L).take k ++ [t] := by
        have hx : (ordL L)[k]? = some (t, p) := by
          have := congrArg (fun l => l[0]?) (hor.symm.trans hd)
          simpa using this.symm
        unfold ordT
        rw [List.take_add_one, List.getElem?_map, hx]
        rfl
      have HS := Lib.hid hS
      have HK := Lib.hid (And.intro ho (And.intro hC (And.intro hlr (And.intro hdr (And.intro htk ht)))))
      have hk16 : k + 1 ≤ 16 := by have := H.out.2; omega
      clear hS hl hd hA ho hC hor hlr hdr htk ht
      go_wp2_with fail
      refine HS.out.mono ?_
      rintro e w1 ⟨rfl, hA1, hC1⟩
      have hB1 : w.heap.size ≤ w1.heap.size := Nat.le_trans HK.out.2.1.size hC1.size
      have H1 := Lib.hid (And.intro hA1 (And.intro hC1 (own_kept HK.out.1 hC1 (fun j hj => own_notin HK.out.1 (by simp at hj; omega)))))
      clear hA1 hC1
      go_wp2_with (at_builtin; refine wpList_push rfl _ _ 28 rfl w.heap.size 3 i0 (.int .i64 0) 1 8 Try.underlying28 hi hz0 hz1 hz2 rfl (by decide) (.slice va k vc) k _ rfl H1.out.2.2 [.int .i64 t] rfl rfl (by simp [Value.oneCell']) hd1 hd2 hB1 ?_; intro v2 w2 ho2 hC2 hloc hnn; obtain ⟨va2, vc2, rfl⟩ := own_slice ho2)
      go_roundw
      case rel =>
        have h0 := H1.out.2.2
        have hg := own_ge h0
        refine ⟨k + 1, takeL L2, hk16, ⟨_, _, rfl⟩, ?_, ?_, H1.out.1.kept hC2 (fun hm => by have := hg _ hm; omega) (fun hm => by have := hg _ hm; omega) (fun hm => by have := hg _ hm; omega), ?_, ?_⟩
        · rw [HK.out.2.2.2.2.2]; exact HK.out.2.2.1
        · rw [HK.out.2.2.2.2.2]; exact HK.out.2.2.2.1
        · rw [HK.out.2.2.2.2.1, List.map_append]; exact ho2
        · exact (HK.out.2.1.trans H1.out.2.1).trans' hC2 (fun j hj => .inr (hg j hj))
      case measure => simp; omega

end Go.Proofs.Ytjdefbkppjdokaa
