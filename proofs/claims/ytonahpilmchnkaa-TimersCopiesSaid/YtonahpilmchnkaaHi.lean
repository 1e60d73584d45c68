
/- The wheel: Set, Cancel, At, all, Len, First: contracts. -/
import Derived.Test.YtonahpilmchnkaaHh
namespace Go.Proofs.Ytonahpilmchnkaa
open Go.RowKit

/-- Behind a call that may change the wheel at block b: it is s'. -/
def NextH (b : Nat) (vs : List Value) (s' : HS) (w w' : World) : Prop :=
  ∃ vs', HAt w' b vs' s' ∧ Chg (blocksH b vs) w w' ∧ (∀ x ∈ blocksH b vs', x ∈ blocksH b vs ∨ w.heap.size ≤ x)
theorem NextH.refl {b : Nat} {vs : List Value} {s : HS} {w : World} (h : HAt w b vs s) : NextH b vs s w w := ⟨vs, h, Chg.refl _ _, fun _ hx => .inl hx⟩

theorem setc (b : Nat) (vs : List Value) (s : HS) (n t : Int) (w : World) (h : HAt w b vs s) (hc : s.c < 4611686018427387904) :
    Calls Try.prog 27 #[.pointer (some ⟨b, 0, none⟩), .int .i64 n, .int .i64 t] w fun e w' => e = .returned (.int .i64 (HS.setE n t)) ∧ NextH b vs (s.setS n t) w w' := by
  unfold HS.setE HS.setS
  by_cases hh : okId n ∧ okAt t
  · rw [if_pos hh, if_pos hh]
    obtain ⟨h1, h2⟩ := hh
    unfold okId at h1
    unfold okAt at h2
    obtain ⟨i, rfl⟩ := Int.eq_ofNat_of_zero_le h1.1
    obtain ⟨T, rfl⟩ := Int.eq_ofNat_of_zero_le h2.1
    exact setc_ok b vs s i T w h (by omega) (by omega) hc
  · rw [if_neg hh, if_neg hh]
    exact (setc_no b vs s n t w h hh).mono fun e w' ⟨he, hw⟩ => ⟨he, by subst hw; exact NextH.refl h⟩

set_option maxRecDepth 100000 in
set_option maxHeartbeats 1000000 in
theorem cancelc (b : Nat) (vs : List Value) (s : HS) (n : Int) (w : World) (h : HAt w b vs s) :
    Calls Try.prog 36 #[.pointer (some ⟨b, 0, none⟩), .int .i64 n] w fun e w' => e = .returned (.int .i64 (s.canE n)) ∧ NextH b vs (s.canS n) w w' := by
  have HI := Lib.hid (hisc b vs s w h)
  have HD := Lib.hid (hidc n w)
  unfold HS.canE HS.canS
  by_cases hk : okId n
  · rw [if_pos hk]
    have e1 : decide (okId n) = true := decide_eq_true hk
    rw [e1] at HD
    unfold okId at hk
    obtain ⟨i, rfl⟩ := Int.eq_ofNat_of_zero_le hk.1
    have hi : i < 64 := by omega
    have hiz : (i : Int) < 64 := by omega
    have cW := h.cW hi
    rcases where_has (M := s.M) (n := i) with ⟨hw, hf⟩ | ⟨x, hx, hxi, hw, ht, _⟩
    · rw [if_neg (by rw [hf]; simp)]
      rw [hw] at cW
      have hdel : (⟨delH s.M i, s.c⟩ : HS) = s := by rw [del_none hf]
      rw [hdel]
      have H := Lib.hid h
      clear h hw hf hdel e1 hk
      go_enter Try.func36, Try.ntmps36
      go_wp2_with (first | (go_at_call 42; refine HI.out.mono ?_; rintro e w' ⟨rfl, rfl⟩) | (go_at_call 43; refine HD.out.mono ?_; rintro e w' ⟨rfl, rfl⟩))
      go_ret
      exact ⟨rfl, NextH.refl H.out⟩
    · rw [if_pos ht]
      obtain ⟨z, hz⟩ : ∃ z : Int, z = whereH s.M i := ⟨_, rfl⟩
      have hz0 : (z == 0) = false := by simp; omega
      rw [← hz] at cW
      have HR := Lib.hid (removec b vs s i w h hi ht)
      clear h hw hx hxi ht hz hk e1
      go_enter Try.func36, Try.ntmps36
      go_wp2_with (first | (go_at_call 42; refine HI.out.mono ?_; rintro e w' ⟨rfl, rfl⟩) | (go_at_call 43; refine HD.out.mono ?_; rintro e w' ⟨rfl, rfl⟩) | (go_at_call 44; refine HR.out.mono ?_; rintro e w1 ⟨rfl, vs1, hA, hC, hB⟩))
      go_ret
      exact ⟨rfl, vs1, hA, hC.mono (fun x hx => by simp at hx; subst hx; exact .inl (mem_blocks.2 (.inl rfl))), hB⟩
  · rw [if_neg hk]
    have e1 : decide (okId n) = false := decide_eq_false hk
    rw [e1] at HD
    have hf : hasH s.M n = false := by
      cases hh : hasH s.M n with
      | false => rfl
      | true =>
        obtain ⟨x, hx, rfl⟩ := has_iff.1 hh
        have := h.inv.ok x hx
        exact absurd (show okId x.1 from ⟨this.1, this.2.1⟩) hk
    have hdel : (⟨delH s.M n, s.c⟩ : HS) = s := by rw [del_none hf]
    rw [hdel]
    have H := Lib.hid h
    clear h hf hdel e1 hk
    go_enter Try.func36, Try.ntmps36
    go_wp2_with (first | (go_at_call 42; refine HI.out.mono ?_; rintro e w' ⟨rfl, rfl⟩) | (go_at_call 43; refine HD.out.mono ?_; rintro e w' ⟨rfl, rfl⟩))
    go_ret
    exact ⟨rfl, NextH.refl H.out⟩

def atV (M : HL) (n : Int) : Value := match M.find? (fun x => x.1 == n) with | none => .tuple #[.int .i64 0, .bool false] | some x => .tuple #[.int .i64 x.2.1, .bool true]
theorem idx_find {s : HS} (h : HInv s) {x : H1} (hx : x ∈ s.M) {k : Nat} (hk : (k : Int) = x.2.1 % 64) : ∃ j : Nat, idxT (fun y => y.1 == x.1) (ringH s.M k) = j ∧ (ringH s.M k)[j]? = some x := by
  have hxr : x ∈ ringH s.M k := List.mem_filter.2 ⟨hx, by simp [hk]⟩
  cases hf : (ringH s.M k).findIdx? (fun y => y.1 == x.1) with
  | none =>
    have := List.findIdx?_eq_none_iff.1 hf x hxr
    simp at this
  | some j =>
    obtain ⟨h1, h2, _⟩ := List.findIdx?_eq_some_iff_getElem.1 hf
    refine ⟨j, by unfold idxT; rw [hf], ?_⟩
    rw [List.getElem?_eq_getElem h1]
    congr 1
    exact id_inj h.ids (List.mem_filter.1 (List.getElem_mem h1)).1 hx (by simpa using h2)

set_option maxRecDepth 100000 in
set_option maxHeartbeats 1000000 in
theorem allc (b : Nat) (vs : List Value) (s : HS) (w : World) (h : HAt w b vs s) :
    Calls Try.prog 50 #[.pointer (some ⟨b, 0, none⟩)] w fun e w' => OwnH w.heap.size w' (ordH s.M) w e := by
  have HI := Lib.hid (hisc b vs s w h)
  have hO := orderc b vs s w h 58 #[] (fun _ => true) b _ (pall1 b _) (enters_of Try.func58 (by kernel_rfl) rfl) h.head
  have hf : s.M.filter (fun _ => true) = s.M := by simp
  rw [hf] at hO
  have HO := Lib.hid hO
  clear h hO hf
  go_enter Try.func50, Try.ntmps50
  go_wp2_with (first | (go_at_call 42; refine HI.out.mono ?_; rintro e w' ⟨rfl, rfl⟩) | (go_at_call 45; refine HO.out.mono ?_; rintro e w' ⟨v, rfl, h1, h2⟩; have H2 := Lib.hid (And.intro h1 h2); clear h1 h2))
  go_ret
  exact ⟨_, rfl, H2.out.1, H2.out.2⟩

def firstV (l : HL) : Value := match l with | [] => .tuple #[.int .i64 0, .int .i64 0, .bool false] | x :: _ => .tuple #[.int .i64 x.1, .int .i64 x.2.1, .bool true]
end Go.Proofs.Ytonahpilmchnkaa
