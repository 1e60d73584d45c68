
/- metronomeref09: List, First, Take, Clear. -/
import Derived.Test.YtohkjiibjljmmaaRd
namespace Go.Proofs.Ytohkjiibjljmmaa
open Go.RowKit

set_option maxRecDepth 100000 in
set_option maxHeartbeats 2000000 in
theorem rlistc (rb : Nat) (l : WL) (w : World) (h : RAt w rb l) (hl : l.length ≤ 999999) (hok : ListOk l) :
    Calls Try.prog 42 #[.pointer (some ⟨rb, 0, none⟩)] w (IntsPost (ordT l) w) := by
  obtain ⟨i0, hi, hz0, hz1, hz2⟩ := info_parts infoInt
  have hO := rorderc rb l w h hl
  have hlen : (ordL l).length ≤ 999999 := by rw [ordT_len hok]; exact hl
  unfold ordT
  generalize ordL l = m at *
  have HO := Lib.hid hO
  clear hO h hok hl
  go_enter Try.func42, Try.ntmps42
  go_wp2_with fail
  refine HO.out.mono ?_
  rintro e w1 ⟨v, rfl, ho, hC⟩
  have hp := IsPairs.of_own ho
  by_cases hn : m = []
  · subst hn
    obtain ⟨a, cap, rfl⟩ := hp.slice
    clear ho hp hlen
    go_wp2
    refine wp_loop_rounds 1 ?_
    rw [rounds_succ]
    go_wp2
    go_ret
    exact ⟨_, rfl, World.ownsRow_nil .., hC⟩
  · obtain ⟨b, o, cap, rfl, hc⟩ := hp.addr hn
    have HC := Lib.hid (And.intro hC hc)
    obtain ⟨n, hnn⟩ : ∃ n, n = m.length := ⟨_, rfl⟩
    rw [← hnn] at hlen ⊢
    have HN := Lib.hid hnn
    have HB0 := hC.size
    clear hp hc hC hn hnn ho
    go_wp2
    go_loopw [4, 5] (fun s p wr => ∃ i : Nat, i ≤ n ∧ p = .int .i64 i ∧ (∃ a c, s = .slice a i c) ∧ wr.ownsRow w1.heap.size 3 1 s i (((m.take i).map (·.1)).map (Value.int .i64)) ∧ Chg [] w1 wr) (fun _ p _ => n - (intOf p).toNat)
    case atStart => exact ⟨0, by omega, rfl, ⟨none, 0, rfl⟩, World.ownsRow_nil .., Chg.refl _ _⟩
    case round =>
      obtain ⟨i, hin, rfl, ⟨va, vc, rfl⟩, ho, hC⟩ := hrel
      have HO2 := Lib.hid (And.intro ho hC)
      have hB1 : w1.heap.size ≤ wr.heap.size := hC.size
      by_cases hlt : i < n
      · obtain ⟨x, hx⟩ : ∃ x, m[i]? = some x := ⟨_, List.getElem?_eq_getElem (by have := HN.out; omega)⟩
        have d1 := SrcAt.calm.cell_calm (HC.out.2 i x hx).1 hC
        obtain ⟨t, q⟩ := x
        simp only at d1
        have hd1 : i + 1 ≤ maxLen := by unfold maxLen; omega
        have hd2 : (i + 1) * 8 ≤ 140737488355328 := by omega
        have HX := Lib.hid (show (((m.take (i + 1)).map (·.1)).map (Value.int .i64)) = (((m.take i).map (·.1)).map (Value.int .i64)) ++ [.int .i64 t] by simp [List.take_add_one, hx])
        clear hx ho hC
        go_wp2_with (at_builtin; refine wpList_push rfl _ _ 50 rfl w1.heap.size 3 i0 (.int .i64 0) 1 8 Try.underlying50 hi hz0 hz1 hz2 rfl (by decide) (.slice va i vc) i _ rfl HO2.out.1 [.int .i64 t] rfl rfl (by simp [Value.oneCell']) hd1 hd2 hB1 ?_; intro v2 w2 ho2 hC2 hloc hnn; obtain ⟨va2, vc2, rfl⟩ := own_slice ho2)
        go_roundw
        case rel => exact ⟨i + 1, by omega, by go_num, ⟨_, _, rfl⟩, by rw [HX.out]; exact ho2, HO2.out.2.trans' hC2 (fun j hj => .inr (own_ge HO2.out.1 j hj))⟩
        case measure => simp [intOf]; omega
      · have : i = n := by omega
        subst this
        have HX := Lib.hid (show m.take i = m from List.take_of_length_le (by have := HN.out; omega))
        clear ho hC
        go_wp2
        go_ret
        refine ⟨_, rfl, ?_, HC.out.1.trans HO2.out.2⟩
        have := HO2.out.1
        rw [HX.out] at this
        rw [List.length_map, ← HN.out]
        exact own_mono this HB0

set_option maxRecDepth 100000 in
set_option maxHeartbeats 1000000 in
theorem rfirstc (rb : Nat) (l : WL) (w : World) (h : RAt w rb l) (hl : l.length ≤ 999999) :
    Calls Try.prog 41 #[.pointer (some ⟨rb, 0, none⟩)] w fun e w' => e = .returned (.tuple #[.int .i64 (headT (ordL l)), .bool (headB (ordL l))]) ∧ Chg [] w w' := by
  have hO := rorderc rb l w h hl
  generalize ordL l = m at *
  have HO := Lib.hid hO
  clear hO h hl
  go_enter Try.func41, Try.ntmps41
  go_wp2_with fail
  refine HO.out.mono ?_
  rintro e w1 ⟨v, rfl, ho, hC⟩
  have hp := IsPairs.of_own ho
  cases m with
  | nil =>
    obtain ⟨a, cap, rfl⟩ := hp.slice
    have hb : (((([] : WL).length : Nat) : Int) == 0) = true := rfl
    clear ho hp
    go_wp2
    go_ret2
    exact ⟨rfl, hC⟩
  | cons x m =>
    obtain ⟨b, o, cap, rfl, hc⟩ := hp.addr (by simp)
    have d1 := (hc 0 x rfl).1
    have hb : (((x :: m).length : Int) == 0) = false := by
      rw [beq_eq_false_iff_ne, List.length_cons]; omega
    have hpos : (0 : Int) < ((x :: m).length : Int) := by rw [List.length_cons]; omega
    obtain ⟨t, p⟩ := x
    rw [Nat.zero_mul, Nat.add_zero] at d1
    simp only at d1
    generalize ((t, p) :: m).length = n at *
    clear ho hp hc
    go_wp2
    go_ret2
    exact ⟨rfl, hC⟩

set_option maxRecDepth 100000 in
set_option maxHeartbeats 1000000 in
theorem rtakec (rb : Nat) (l : WL) (w : World) (h : RAt w rb l) (hl : l.length ≤ 999999) (hok : ListOk l) :
    Calls Try.prog 30 #[.pointer (some ⟨rb, 0, none⟩)] w fun e w' => e = .returned (.tuple #[.int .i64 (headT (ordL l)), .bool (headB (ordL l))]) ∧ RAt w' rb (takeL l) ∧ Chg [rb] w w' := by
  have hF := rfirstc rb l w h hl
  have hp := ordL_perm hok
  cases ho : ordL l with
  | nil =>
    rw [ho] at hF
    have ht : takeL l = l := by unfold takeL; rw [ho]
    rw [ht]
    simp only [headT, headB] at hF ⊢
    have HF := Lib.hid hF
    have HR := Lib.hid h
    clear hF h hp ht ho hok
    go_enter Try.func30, Try.ntmps30
    go_wp2_with (go_at_call 41; refine HF.out.mono ?_; rintro e w' ⟨rfl, hC⟩)
    go_ret2
    exact ⟨rfl, HR.out.calm hC, hC.mono (by simp)⟩
  | cons x r =>
    rw [ho] at hF
    have hx : x ∈ l := hp.mem_iff.1 (by rw [ho]; simp)
    have hhx : hasR l x.1 = true := hasR_mem.2 ⟨x.2, hx⟩
    have hxt := (hok.ok x hx).1
    unfold okT at hxt
    have ha : askR l x.1 1 true = 0 := by
      unfold askR
      unfold hasR at hhx
      rw [if_neg (by omega), if_pos hhx]
      rfl
    have ht : lvL l x.1 = takeL l := by unfold takeL lvL; rw [ho, if_pos ha]
    obtain ⟨t, p⟩ := x
    simp only [headT, headB] at hF ha ht ⊢
    have HF := Lib.hid hF
    have HR := Lib.hid h
    have HL := Lib.hid (fun (W : World) (hW : RAt W rb l) => rleavec rb l t W hW hl)
    rw [ha, ht] at HL
    clear hF h hp ht ho hok ha hxt hhx hx hl
    go_enter Try.func30, Try.ntmps30
    go_wp2_with fail
    refine HF.out.mono ?_
    rintro e w1 ⟨rfl, hC⟩
    go_wp2_with fail
    refine (HL.out w1 (HR.out.calm hC)).mono ?_
    rintro e w2 ⟨rfl, h2, hC2⟩
    have H2 := Lib.hid (And.intro h2 ((hC.mono (by simp)).trans hC2))
    clear h2 hC2 hC
    go_wp2
    go_ret2
    exact ⟨rfl, H2.out.1, H2.out.2⟩

def RClearPost (rb : Nat) (l : WL) (w : World) (e : Ending) (w' : World) : Prop :=
  ∃ v, e = .returned v ∧ w'.ownsRow w.heap.size 3 1 v (ordT l).length ((ordT l).map (Value.int .i64)) ∧ RAt w' rb [] ∧ Chg [rb] w w'

set_option maxRecDepth 100000 in
set_option maxHeartbeats 1000000 in
theorem rclearc (rb : Nat) (l : WL) (w : World) (h : RAt w rb l) (hl : l.length ≤ 999999) (hok : ListOk l) :
    Calls Try.prog 31 #[.pointer (some ⟨rb, 0, none⟩)] w (RClearPost rb l w) := by
  have hL := rlistc rb l w h hl hok
  have hlt := h.lt
  obtain ⟨v0, hb, _⟩ := h
  have HF := Lib.hid (And.intro hL hb)
  clear hL hb hok hl
  go_enter Try.func31, Try.ntmps31
  go_wp2_with fail
  refine HF.out.1.mono ?_
  rintro e w1 ⟨v, rfl, ho, hC⟩
  obtain ⟨va, vc, rfl⟩ := own_slice ho
  have hb1 := hC.blk HF.out.2 (by simp)
  have c1 := cellB hb1 (i := 0) rfl
  have f1 := frozenB hb1 0
  have H1 := Lib.hid (And.intro ho (And.intro hC hb1))
  clear ho hC hb1
  go_wp2
  go_ret
  have hS : Chg [rb] w1 (w1.setCell ⟨rb, 0, none⟩ (.slice none 0 0)) := (Chg.refl [rb] w1).setCell _ _ (by simp)
  refine ⟨_, rfl, own_kept H1.out.1 hS (fun k hk => ?_), ⟨.slice none 0 0, by rw [blk_setCell H1.out.2.2]; rfl, World.ownsRow_nil ..⟩, (H1.out.2.1.mono (by simp)).trans hS⟩
  simp at hk
  subst hk
  exact own_notin H1.out.1 hlt

end Go.Proofs.Ytohkjiibjljmmaa
