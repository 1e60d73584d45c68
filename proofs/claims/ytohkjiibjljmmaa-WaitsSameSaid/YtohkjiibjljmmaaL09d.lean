/- metronomelaw09.WaitsSame answers true, whatever the steps. -/
import Derived.Test.YtohkjiibjljmmaaDob
namespace Go.Proofs.Ytohkjiibjljmmaa
open Go.RowKit

/-- Two pairs of lists, apart from each other and all above B. -/
structure Two (B : Nat) (W : World) (a1 m1 r1 : Nat) (N1 : Int) (L1 : WL) (a2 m2 r2 : Nat) (N2 : Int) (L2 : WL) : Prop where
  A1 : WAt W a1 m1 N1 L1
  R1 : RAt W r1 L1
  A2 : WAt W a2 m2 N2 L2
  R2 : RAt W r2 L2
  ne : a1 ≠ a2 ∧ a1 ≠ m2 ∧ m1 ≠ a2 ∧ m1 ≠ m2 ∧ r1 ≠ r2
  ge : B ≤ a1 ∧ B ≤ m1 ∧ B ≤ r1 ∧ B ≤ a2 ∧ B ≤ m2 ∧ B ≤ r2

theorem Two.swap {B : Nat} {W : World} {a1 m1 r1 : Nat} {N1 : Int} {L1 : WL} {a2 m2 r2 : Nat} {N2 : Int} {L2 : WL} (h : Two B W a1 m1 r1 N1 L1 a2 m2 r2 N2 L2) : Two B W a2 m2 r2 N2 L2 a1 m1 r1 N1 L1 :=
  ⟨h.A2, h.R2, h.A1, h.R1, by have := h.ne; omega, by have := h.ge; omega⟩

theorem Two.calm {B : Nat} {W W' : World} {a1 m1 r1 : Nat} {N1 : Int} {L1 : WL} {a2 m2 r2 : Nat} {N2 : Int} {L2 : WL} (h : Two B W a1 m1 r1 N1 L1 a2 m2 r2 N2 L2) (hC : Chg [] W W') : Two B W' a1 m1 r1 N1 L1 a2 m2 r2 N2 L2 :=
  ⟨h.A1.kept hC (by simp) (by simp), h.R1.calm hC, h.A2.kept hC (by simp) (by simp), h.R2.calm hC, h.ne, h.ge⟩

theorem Two.step {B : Nat} {w W W' : World} {a1 m1 r1 : Nat} {N1 : Int} {L1 : WL} {a2 m2 r2 : Nat} {N2 : Int} {L2 : WL} (h : Two B W a1 m1 r1 N1 L1 a2 m2 r2 N2 L2) (hG : Chg [] w W) (hB : B = w.heap.size) {a' m' : Nat} {L' : WL}
    (ha : (a' = a1 ∧ m' = m1) ∨ (W.heap.size ≤ a' ∧ W.heap.size ≤ m')) (hW : WAt W' a' m' (N1 + 1) L') (hR : RAt W' r1 L') (hC : Chg [a1, m1, r1] W W') :
    Two B W' a' m' r1 (N1 + 1) L' a2 m2 r2 N2 L2 ∧ Chg [] w W' := by
  have hne := h.ne
  have hge := h.ge
  have x1 := h.R1.ne h.A2
  have x2 := h.R2.ne h.A1
  have hs := hG.size
  have l2 := h.A2.lt
  refine ⟨⟨hW, hR, h.A2.kept hC (by simp; omega) (by simp; omega), h.R2.kept hC (fun k hk => ?_), ?_, ?_⟩, hG.trans' hC (fun k hk => ?_)⟩
  · simp at hk
    rcases hk with rfl | rfl | rfl
    · exact ⟨x2.1, h.A1.notW.1⟩
    · exact ⟨x2.2, h.A1.notW.2⟩
    · exact ⟨hne.2.2.2.2, h.R1.notW⟩
  · omega
  · omega
  · simp at hk
    omega

theorem RAt.fresh {w : World} {rb : Nat} (h : w.heap[rb]? = some (.cells #[.slice none 0 0] 42 (0, 0))) : RAt w rb [] := ⟨_, h, World.ownsRow_nil ..⟩

set_option maxRecDepth 100000 in
set_option maxHeartbeats 4000000 in
theorem waitsSame_any (v u : Value) (R S : List (Int × Int × Int)) (w : World) (hv : IsSteps w v R) (hu : IsSteps w u S) :
    Calls Try.prog 4 #[v, u] w fun e w' => e = .returned (.bool true) ∧ Chg [] w w' := by
  obtain ⟨a, cap, rfl⟩ := hv.slice
  obtain ⟨b, cap2, rfl⟩ := hu.slice
  have HV := Lib.hid (And.intro hv hu)
  clear hv hu
  go_enter Try.func4, Try.ntmps4
  go_wp2_with fail
  refine (newc w).mono ?_
  rintro e w1 ⟨a1, m1, rfl, ha1, hm1, hW1, hC1⟩
  have H1 := Lib.hid (And.intro hW1 (And.intro hC1 (And.intro ha1 hm1)))
  clear ha1 hm1 hW1 hC1
  go_wp2_with fail
  refine (newc w1).mono ?_
  rintro e w2 ⟨a2, m2, rfl, ha2, hm2, hW2, hC2⟩
  have h1 := H1.out.1.lt
  have hs := H1.out.2.1.size
  have h2 := hW2.lt
  have hT : Two w.heap.size ((w2.alloc (.cells #[.slice none 0 0] 42)).alloc (.cells #[.slice none 0 0] 42)) a1 m1 w2.heap.size 0 [] a2 m2 (w2.heap.size + 1) 0 [] := by
    have hC : Chg [] w2 ((w2.alloc (.cells #[.slice none 0 0] 42)).alloc (.cells #[.slice none 0 0] 42)) := ((Chg.refl _ _).alloc _).alloc _
    refine ⟨H1.out.1.kept (hC2.trans hC) (by simp) (by simp), .fresh (blk_alloc (heap_alloc_eq w2 _) _), hW2.kept hC (by simp) (by simp), .fresh ?_, by omega, by have := H1.out.2.2; omega⟩
    have := heap_alloc_eq (w2.alloc (.cells #[.slice none 0 0] 42)) (.cells #[.slice none 0 0] 42)
    rwa [World.size_alloc] at this
  have HT := Lib.hid (And.intro hT ((((H1.out.2.1.trans hC2).alloc _).alloc _ : Chg [] w ((w2.alloc (.cells #[.slice none 0 0] 42)).alloc (.cells #[.slice none 0 0] 42)))))
  clear hT h1 hs h2 ha2 hm2 hW2 hC2
  go_wp2
  generalize ((w2.alloc (.cells #[.slice none 0 0] 42)).alloc (.cells #[.slice none 0 0] 42)) = w3 at *
  generalize w2.heap.size = r1 at *
  generalize r1 + 1 = r2 at *
  clear H1
  go_loopw [5, 7, 9, 10] (fun x p ok i wr => ∃ (k a1 m1 : Nat) (L1 : WL), k ≤ R.length ∧ k ≤ 60 ∧ x = .pointer (some ⟨a1, 0, none⟩) ∧ p = .pointer (some ⟨r1, 0, none⟩) ∧ ok = .bool true ∧ i = .int .i64 k ∧ Two w.heap.size wr a1 m1 r1 k L1 a2 m2 r2 0 [] ∧ Chg [] w wr) (fun _ _ _ i _ => 60 - (intOf i).toNat)
  case atStart => exact ⟨0, a1, m1, [], by omega, by omega, rfl, rfl, rfl, rfl, HT.out.1, HT.out.2⟩
  case round =>
    clear HT
    obtain ⟨k, a1, m1, L1, hk1, hk2, rfl, rfl, rfl, rfl, hT, hG⟩ := hrel
    have HK := Lib.hid (And.intro hT hG)
    clear hT
    have hcase : (k < R.length ∧ k < 60) ∨ (¬ k < R.length) ∨ (k < R.length ∧ ¬ k < 60) := by omega
    rcases hcase with ⟨hlt, hlt2⟩ | hlt | ⟨hlt, hlt2⟩
    · have hne : R ≠ [] := fun e => by rw [e] at hlt; simp at hlt
      obtain ⟨g, o, cap', hsl, hb, hcells⟩ := HV.out.1.addr hne
      cases hsl
      obtain ⟨x, hx⟩ : ∃ x, R[k]? = some x := ⟨_, List.getElem?_eq_getElem hlt⟩
      have hc3 := hcells k x hx
      have d0 := cell_kept hc3.1 hG (by simp)
      have d1 := cell_kept hc3.2.1 hG (by simp)
      have d2 := cell_kept hc3.2.2 hG (by simp)
      obtain ⟨kd, th, pr⟩ := x
      simp only at d0 d1 d2
      clear hcells hc3 hx hG hne
      go_wp2_with fail
      refine (doc a1 m1 r1 k L1 kd th pr _ HK.out.1.A1 HK.out.1.R1 (by omega)).mono ?_
      rintro e w4 ⟨a', m', rfl, ha, hW, hR, hC⟩
      have HN := Lib.hid (HK.out.1.step HK.out.2 rfl ha hW hR hC)
      clear ha hW hR hC d0 d1 d2
      go_wp2
      go_roundw
      case rel => exact ⟨k + 1, a', m', _, by omega, by omega, rfl, rfl, rfl, by go_num, by rw [Int.natCast_add]; exact HN.out.1, HN.out.2⟩
      case measure => simp [intOf]; omega
    all_goals
      obtain ⟨N1, hN1⟩ : ∃ N1 : Int, N1 = (k : Int) := ⟨_, rfl⟩
      rw [← hN1] at HK
      clear hG hN1
      go_wp2
      go_loopw [6, 8, 9, 11] (fun x p ok i wr => ∃ (k2 a2 m2 : Nat) (L2 : WL), k2 ≤ S.length ∧ k2 ≤ 60 ∧ x = .pointer (some ⟨a2, 0, none⟩) ∧ p = .pointer (some ⟨r2, 0, none⟩) ∧ ok = .bool true ∧ i = .int .i64 k2 ∧ Two w.heap.size wr a2 m2 r2 k2 L2 a1 m1 r1 N1 L1 ∧ Chg [] w wr) (fun _ _ _ i _ => 60 - (intOf i).toNat)
      case atStart => exact ⟨0, a2, m2, [], by omega, by omega, rfl, rfl, rfl, rfl, HK.out.1.swap, HK.out.2⟩
      case round =>
        clear HK
        obtain ⟨k2, a2, m2, L2, hk12, hk22, rfl, rfl, rfl, rfl, hT, hG⟩ := hrel
        have HK := Lib.hid (And.intro hT hG)
        clear hT
        have hcase : (k2 < S.length ∧ k2 < 60) ∨ (¬ k2 < S.length) ∨ (k2 < S.length ∧ ¬ k2 < 60) := by omega
        rcases hcase with ⟨hlt, hlt2⟩ | hlt | ⟨hlt, hlt2⟩
        · have hne : S ≠ [] := fun e => by rw [e] at hlt; simp at hlt
          obtain ⟨g, o, cap', hsl, hb, hcells⟩ := HV.out.2.addr hne
          cases hsl
          obtain ⟨x, hx⟩ : ∃ x, S[k2]? = some x := ⟨_, List.getElem?_eq_getElem hlt⟩
          have hc3 := hcells k2 x hx
          have d0 := cell_kept hc3.1 hG (by simp)
          have d1 := cell_kept hc3.2.1 hG (by simp)
          have d2 := cell_kept hc3.2.2 hG (by simp)
          obtain ⟨kd, th, pr⟩ := x
          simp only at d0 d1 d2
          clear hcells hc3 hx hG hne
          go_wp2_with fail
          refine (doc a2 m2 r2 k2 L2 kd th pr _ HK.out.1.A1 HK.out.1.R1 (by omega)).mono ?_
          rintro e w4 ⟨a', m', rfl, ha, hW, hR, hC⟩
          have HN := Lib.hid (HK.out.1.step HK.out.2 rfl ha hW hR hC)
          clear ha hW hR hC d0 d1 d2
          go_wp2
          go_roundw
          case rel => exact ⟨k2 + 1, a', m', _, by omega, by omega, rfl, rfl, rfl, by go_num, by rw [Int.natCast_add]; exact HN.out.1, HN.out.2⟩
          case measure => simp [intOf]; omega
        all_goals
          clear hG
          go_wp2_with fail
          refine (samec a1 m1 a2 m2 _ _ L1 L2 wr HK.out.1.A2 HK.out.1.A1).mono ?_
          rintro e w5 ⟨rfl, hC5⟩
          have HK5 := Lib.hid (And.intro (HK.out.1.calm hC5) (HK.out.2.trans hC5))
          clear hC5
          go_wp2_with fail
          refine (rsame r1 r2 L1 L2 w5 HK5.out.1.R2 HK5.out.1.R1 (by have := HK5.out.1.A2.facts.2.2; omega) (by have := HK5.out.1.A1.facts.2.2; omega)).mono ?_
          rintro e w6 ⟨rfl, hC6⟩
          have HK6 := Lib.hid (And.intro (HK5.out.1.calm hC6) (HK5.out.2.trans hC6))
          clear hC6
          generalize decide (L1 = L2) = dd at *
          have hdd : (dd == dd) = true := by simp
          go_wp2_with fail
          refine (samec a1 m1 a1 m1 _ _ L1 L1 w6 HK6.out.1.A2 HK6.out.1.A2).mono ?_
          rintro e w7 ⟨rfl, hC7⟩
          rw [show decide (L1 = L1) = true from decide_eq_true rfl]
          have HK7 := Lib.hid (HK6.out.2.trans hC7)
          clear hC7
          go_wp2_with fail
          refine (known09 w7).mono ?_
          rintro e w8 ⟨rfl, hC8⟩
          have HK8 := Lib.hid (HK7.out.trans hC8)
          clear hC8
          go_wp2
          go_ret
          exact ⟨rfl, HK8.out⟩

end Go.Proofs.Ytohkjiibjljmmaa
