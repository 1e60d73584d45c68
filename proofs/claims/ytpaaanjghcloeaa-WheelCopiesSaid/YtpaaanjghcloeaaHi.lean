
/- The wheel: Set, Cancel, At, all, Len, First: contracts. -/
import Derived.Test.YtpaaanjghcloeaaHh
namespace Go.Proofs.Ytpaaanjghcloeaa
open Go.RowKit

/-- Behind a call that may change the wheel at block b: it is s'. -/
def NextH (b : Nat) (vs : List Value) (s' : HS) (w w' : World) : Prop :=
  ∃ vs', HAt w' b vs' s' ∧ Chg (blocksH b vs) w w' ∧ (∀ x ∈ blocksH b vs', x ∈ blocksH b vs ∨ w.heap.size ≤ x)
theorem NextH.refl {b : Nat} {vs : List Value} {s : HS} {w : World} (h : HAt w b vs s) : NextH b vs s w w := ⟨vs, h, Chg.refl _ _, fun _ hx => .inl hx⟩

theorem setc (b : Nat) (vs : List Value) (s : HS) (n t : Int) (w : World) (h : HAt w b vs s) (hc : s.c < 4611686018427387904) :
    Calls Try.prog 9 #[.pointer (some ⟨b, 0, none⟩), .int .i64 n, .int .i64 t] w fun e w' => e = .returned (.int .i64 (HS.setE n t)) ∧ NextH b vs (s.setS n t) w w' := by
  unfold HS.setE HS.setS
  by_cases hh : okId n ∧ okAt t
  · rw [if_pos hh, if_pos hh]
    obtain ⟨h1, h2⟩ := hh
    unfold okId at h1
    unfold okAt at h2
    obtain ⟨i, rfl⟩ := Int.eq_ofNat_of_zero_le h1.1
    obtain ⟨T, rfl⟩ := Int.eq_ofNat_of_zero_le h2.1
    exact setc_ok b vs s i T w h (by omega) (by omega) hc
  · rw [if_neg hh, if_neg hh]
    exact (setc_no b vs s n t w h hh).mono fun e w' ⟨he, hw⟩ => ⟨he, by subst hw; exact NextH.refl h⟩

set_option maxRecDepth 100000 in
set_option maxHeartbeats 1000000 in
theorem cancelc (b : Nat) (vs : List Value) (s : HS) (n : Int) (w : World) (h : HAt w b vs s) :
    Calls Try.prog 10 #[.pointer (some ⟨b, 0, none⟩), .int .i64 n] w fun e w' => e = .returned (.int .i64 (s.canE n)) ∧ NextH b vs (s.canS n) w w' := by
  have HI := Lib.hid (hisc b vs s w h)
  have HD := Lib.hid (hidc n w)
  unfold HS.canE HS.canS
  by_cases hk : okId n
  · rw [if_pos hk]
    have e1 : decide (okId n) = true := decide_eq_true hk
    rw [e1] at HD
    unfold okId at hk
    obtain ⟨i, rfl⟩ := Int.eq_ofNat_of_zero_le hk.1
    have hi : i < 64 := by omega
    have hiz : (i : Int) < 64 := by omega
    have cW := h.cW hi
    rcases where_has (M := s.M) (n := i) with ⟨hw, hf⟩ | ⟨x, hx, hxi, hw, ht, _⟩
    · rw [if_neg (by rw [hf]; simp)]
      rw [hw] at cW
      have hdel : (⟨delH s.M i, s.c⟩ : HS) = s := by rw [del_none hf]
      rw [hdel]
      have H := Lib.hid h
      clear h hw hf hdel e1 hk
      go_enter Try.func10, Try.ntmps10
      go_wp2_with (first | (go_at_call 21; refine HI.out.mono ?_; rintro e w' ⟨rfl, rfl⟩) | (go_at_call 22; refine HD.out.mono ?_; rintro e w' ⟨rfl, rfl⟩))
      go_ret
      exact ⟨rfl, NextH.refl H.out⟩
    · rw [if_pos ht]
      obtain ⟨z, hz⟩ : ∃ z : Int, z = whereH s.M i := ⟨_, rfl⟩
      have hz0 : (z == 0) = false := by simp; omega
      rw [← hz] at cW
      have HR := Lib.hid (removec b vs s i w h hi ht)
      clear h hw hx hxi ht hz hk e1
      go_enter Try.func10, Try.ntmps10
      go_wp2_with (first | (go_at_call 21; refine HI.out.mono ?_; rintro e w' ⟨rfl, rfl⟩) | (go_at_call 22; refine HD.out.mono ?_; rintro e w' ⟨rfl, rfl⟩) | (go_at_call 23; refine HR.out.mono ?_; rintro e w1 ⟨rfl, vs1, hA, hC, hB⟩))
      go_ret
      exact ⟨rfl, vs1, hA, hC.mono (fun x hx => by simp at hx; subst hx; exact .inl (mem_blocks.2 (.inl rfl))), hB⟩
  · rw [if_neg hk]
    have e1 : decide (okId n) = false := decide_eq_false hk
    rw [e1] at HD
    have hf : hasH s.M n = false := by
      cases hh : hasH s.M n with
      | false => rfl
      | true =>
        obtain ⟨x, hx, rfl⟩ := has_iff.1 hh
        have := h.inv.ok x hx
        exact absurd (show okId x.1 from ⟨this.1, this.2.1⟩) hk
    have hdel : (⟨delH s.M n, s.c⟩ : HS) = s := by rw [del_none hf]
    rw [hdel]
    have H := Lib.hid h
    clear h hf hdel e1 hk
    go_enter Try.func10, Try.ntmps10
    go_wp2_with (first | (go_at_call 21; refine HI.out.mono ?_; rintro e w' ⟨rfl, rfl⟩) | (go_at_call 22; refine HD.out.mono ?_; rintro e w' ⟨rfl, rfl⟩))
    go_ret
    exact ⟨rfl, NextH.refl H.out⟩

def atV (M : HL) (n : Int) : Value := match M.find? (fun x => x.1 == n) with | none => .tuple #[.int .i64 0, .bool false] | some x => .tuple #[.int .i64 x.2.1, .bool true]
theorem idx_find {s : HS} (h : HInv s) {x : H1} (hx : x ∈ s.M) {k : Nat} (hk : (k : Int) = x.2.1 % 64) : ∃ j : Nat, idxT (fun y => y.1 == x.1) (ringH s.M k) = j ∧ (ringH s.M k)[j]? = some x := by
  have hxr : x ∈ ringH s.M k := List.mem_filter.2 ⟨hx, by simp [hk]⟩
  cases hf : (ringH s.M k).findIdx? (fun y => y.1 == x.1) with
  | none =>
    have := List.findIdx?_eq_none_iff.1 hf x hxr
    simp at this
  | some j =>
    obtain ⟨h1, h2, _⟩ := List.findIdx?_eq_some_iff_getElem.1 hf
    refine ⟨j, by unfold idxT; rw [hf], ?_⟩
    rw [List.getElem?_eq_getElem h1]
    congr 1
    exact id_inj h.ids (List.mem_filter.1 (List.getElem_mem h1)).1 hx (by simpa using h2)

set_option maxRecDepth 100000 in
set_option maxHeartbeats 2000000 in
theorem atc (b : Nat) (vs : List Value) (s : HS) (n : Int) (w : World) (h : HAt w b vs s) :
    Calls Try.prog 16 #[.pointer (some ⟨b, 0, none⟩), .int .i64 n] w fun e w' => e = .returned (atV s.M n) ∧ Chg [] w w' := by
  obtain ⟨bx, hbx⟩ : ∃ bx, bx = w.heap.size := ⟨_, rfl⟩
  obtain ⟨w1, hw1⟩ : ∃ w1, w1 = w.alloc (intB n) := ⟨_, rfl⟩
  have hC1 : Chg [] w w1 := by rw [hw1]; exact (Chg.refl _ _).alloc _
  have hb1 : w1.heap[bx]? = some (intB n) := by rw [hw1, hbx]; exact heap_alloc_eq w _
  have c3 := cellB (i := 0) (v := .int .i64 n) hb1 rfl
  have h1 := h.calm hC1
  have HI := Lib.hid (fun m : Nat => (hisc b vs s (w1.drewN m) (h1.calm ((Chg.refl [] w1).drewN m))).mono fun e w' ⟨a, b⟩ => And.intro a b.symm)
  have HD := Lib.hid (fun m : Nat => (hidc n (w1.drewN m)).mono fun e w' ⟨a, b⟩ => And.intro a b.symm)
  by_cases hk : okId n
  · have e1 : decide (okId n) = true := decide_eq_true hk
    rw [e1] at HD
    unfold okId at hk
    obtain ⟨i, rfl⟩ := Int.eq_ofNat_of_zero_le hk.1
    have hi : i < 64 := by omega
    have hiz : (i : Int) < 64 := by omega
    have hi0 : (0 : Int) ≤ (i : Int) := by omega
    have cW := h1.cW hi
    rcases where_has (M := s.M) (n := i) with ⟨hw, hf⟩ | ⟨x, hx, hxi, hw, ht, hfd⟩
    · have hv : atV s.M i = .tuple #[.int .i64 0, .bool false] := by
        unfold atV
        cases hfd : s.M.find? (fun x => x.1 == (i : Int)) with
        | none => rfl
        | some x =>
          have h2 := List.find?_some hfd
          have := has_iff.2 ⟨x, List.mem_of_find?_eq_some hfd, by simpa using h2⟩
          rw [hf] at this
          cases this
      rw [hv]
      rw [hw] at cW
      have HC := Lib.hid hC1
      clear h h1 hv hw hf hk e1 hC1 hb1
      unfold intB at hw1
      go_enter Try.func16, Try.ntmps16
      go_wp2
      rw [← hbx, ← hw1]
      clear hbx hw1
      go_quiet (first | (go_at_call 21; exact Calls.quiet_of_same (HI.out _)) | (go_at_call 22; exact Calls.quiet_of_same (HD.out _)))
      go_wp2
      go_ret2
      exact ⟨rfl, HC.out.drewN _⟩
    · have hv : atV s.M i = .tuple #[.int .i64 x.2.1, .bool true] := by unfold atV; rw [hfd]
      rw [hv]
      obtain ⟨k, hkk⟩ : ∃ k : Nat, (k : Int) = x.2.1 % 64 := ⟨(x.2.1 % 64).toNat, by omega⟩
      have hk64 : k < 64 := by omega
      have hkz : (k : Int) < 64 := by omega
      have hk0 : (0 : Int) ≤ (k : Int) := by omega
      rw [hw, ← hkk] at cW
      have hz0 : ((k : Int) + 1 == 0) = false := by simp; omega
      obtain ⟨v, hvk⟩ : ∃ v, vs[k]? = some v := ⟨_, List.getElem?_eq_getElem (by rw [h.len]; exact hk64)⟩
      have cR := h1.cR hvk
      obtain ⟨j, hj, hjx⟩ := idx_find h.inv hx hkk
      obtain ⟨a0, cap, rfl, hT⟩ := IsT.of_own (h1.own k v hvk)
      have hne : ringH s.M k ≠ [] := fun e => by rw [e] at hjx; simp at hjx
      obtain ⟨g0, rfl, hd⟩ := hT.resolve_left hne
      obtain ⟨d0, d1, d2⟩ := hd j x hjx
      have hjl : j < (ringH s.M k).length := (List.getElem?_eq_some_iff.1 hjx).1
      have hX := fun q => idxc 35 #[.pointer (some ⟨bx, 0, none⟩)] (fun y => y.1 == (i : Int)) bx (intB i) (pat1 i bx) (enters_of Try.func35 (by kernel_rfl) rfl) (some ⟨g0, 0, none⟩) cap (ringH s.M k) (w1.drewN q) (hT.calm ((Chg.refl [] w1).drewN q)) hb1 (by have := ring_len s.M k; have := h.inv.few; omega)
      rw [hxi] at hj
      rw [hj] at hX
      have hln := ring_len s.M k
      have hfw := h.inv.few
      obtain ⟨m, hm⟩ : ∃ m, m = (ringH s.M k).length := ⟨_, rfl⟩
      rw [← hm] at hX cR hjl hln
      have hm64 : m ≤ 64 := by omega
      have hjz : (j : Int) < (m : Int) := by omega
      have hj0 : (0 : Int) ≤ (j : Int) := by omega
      have HX := Lib.hid hX
      have HC := Lib.hid hC1
      have HD1 := Lib.hid d1
      have hkw : IntKind.i64.wrap ((k : Int) + 1 - 1) = (k : Int) := by rw [IntKind.wrap_i64]; omega
      clear h h1 hv hw hk hkk e1 hC1 hb1 hX hd hT hne hj hjx hvk hx hxi ht hfd d0 d1 d2 hm hln hfw
      unfold intB at hw1
      go_enter Try.func16, Try.ntmps16
      go_wp2
      rw [← hbx, ← hw1]
      clear hbx hw1
      go_quiet (first | (go_at_call 21; exact Calls.quiet_of_same (HI.out _)) | (go_at_call 22; exact Calls.quiet_of_same (HD.out _)))
      go_wp2
      go_quiet (fail)
      go_wp2_with fail
      refine (HX.out _).mono ?_
      rintro e w2 ⟨rfl, hC2⟩
      have d1 := cell_kept HD1.out (((Chg.refl [] w1).drewN _).trans hC2) (by simp)
      have H2 := Lib.hid hC2
      clear hC2
      go_wp2
      go_ret2
      exact ⟨rfl, (HC.out.drewN _).trans H2.out⟩
  · have e1 : decide (okId n) = false := decide_eq_false hk
    rw [e1] at HD
    have hv : atV s.M n = .tuple #[.int .i64 0, .bool false] := by
      unfold atV
      cases hfd : s.M.find? (fun x => x.1 == n) with
      | none => rfl
      | some x =>
        have h2 := List.find?_some hfd
        have h3 := h.inv.ok x (List.mem_of_find?_eq_some hfd)
        have h4 : x.1 = n := by simpa using h2
        rw [h4] at h3
        exact absurd (show okId n from ⟨h3.1, h3.2.1⟩) hk
    rw [hv]
    have HC := Lib.hid hC1
    clear h h1 hv hk e1 hC1 hb1
    unfold intB at hw1
    go_enter Try.func16, Try.ntmps16
    go_wp2
    rw [← hbx, ← hw1]
    clear hbx hw1
    go_quiet (first | (go_at_call 21; exact Calls.quiet_of_same (HI.out _)) | (go_at_call 22; exact Calls.quiet_of_same (HD.out _)))
    go_wp2
    go_ret2
    exact ⟨rfl, HC.out.drewN _⟩

set_option maxRecDepth 100000 in
set_option maxHeartbeats 1000000 in
theorem allc (b : Nat) (vs : List Value) (s : HS) (w : World) (h : HAt w b vs s) :
    Calls Try.prog 32 #[.pointer (some ⟨b, 0, none⟩)] w fun e w' => OwnH w.heap.size w' (ordH s.M) w e := by
  have HI := Lib.hid (hisc b vs s w h)
  have hO := orderc b vs s w h 43 #[] (fun _ => true) b _ (pall1 b _) (enters_of Try.func43 (by kernel_rfl) rfl) h.head
  have hf : s.M.filter (fun _ => true) = s.M := by simp
  rw [hf] at hO
  have HO := Lib.hid hO
  clear h hO hf
  go_enter Try.func32, Try.ntmps32
  go_wp2_with (first | (go_at_call 21; refine HI.out.mono ?_; rintro e w' ⟨rfl, rfl⟩) | (go_at_call 24; refine HO.out.mono ?_; rintro e w' ⟨v, rfl, h1, h2⟩; have H2 := Lib.hid (And.intro h1 h2); clear h1 h2))
  go_ret
  exact ⟨_, rfl, H2.out.1, H2.out.2⟩

theorem lenc (b : Nat) (vs : List Value) (s : HS) (w : World) (h : HAt w b vs s) :
    Calls Try.prog 18 #[.pointer (some ⟨b, 0, none⟩)] w fun e w' => e = .returned (.int .i64 s.M.length) ∧ w = w' := by
  have HI := Lib.hid (hisc b vs s w h)
  have cN := h.cN
  obtain ⟨m, hm⟩ : ∃ m : Int, m = s.M.length := ⟨_, rfl⟩
  rw [← hm] at cN ⊢
  clear h hm
  go_enter Try.func18, Try.ntmps18
  go_wp2_with (go_at_call 21; refine HI.out.mono ?_; rintro e w' ⟨rfl, rfl⟩)
  go_ret
  exact ⟨rfl, rfl⟩

def firstV (l : HL) : Value := match l with | [] => .tuple #[.int .i64 0, .int .i64 0, .bool false] | x :: _ => .tuple #[.int .i64 x.1, .int .i64 x.2.1, .bool true]
set_option maxRecDepth 100000 in
set_option maxHeartbeats 1000000 in
theorem firstc (b : Nat) (vs : List Value) (s : HS) (w : World) (h : HAt w b vs s) :
    Calls Try.prog 17 #[.pointer (some ⟨b, 0, none⟩)] w fun e w' => e = .returned (firstV (ordH s.M)) ∧ Chg [] w w' := by
  have HA := Lib.hid (allc b vs s w h)
  clear h
  obtain ⟨l, hl⟩ : ∃ l, l = ordH s.M := ⟨_, rfl⟩
  rw [← hl] at HA ⊢
  clear hl
  cases l with
  | nil =>
    go_enter Try.func17, Try.ntmps17
    go_wp2_with fail
    refine HA.out.mono ?_
    rintro e w1 ⟨v, rfl, h1, h2⟩
    obtain ⟨a0, cap, rfl, hT⟩ := IsT.of_own h1
    have H2 := Lib.hid h2
    clear h1 h2 hT
    simp only [List.length_nil]
    go_wp2
    go_ret3
    exact ⟨rfl, H2.out⟩
  | cons x l =>
    go_enter Try.func17, Try.ntmps17
    go_wp2_with fail
    refine HA.out.mono ?_
    rintro e w1 ⟨v, rfl, h1, h2⟩
    obtain ⟨a0, cap, rfl, hT⟩ := IsT.of_own h1
    obtain ⟨g0, rfl, hd⟩ := hT.resolve_left (by simp)
    obtain ⟨d0, d1, d2⟩ := hd 0 x rfl
    have H2 := Lib.hid h2
    obtain ⟨n, hn⟩ : ∃ n, n = (x :: l).length := ⟨_, rfl⟩
    have hn0 : 0 < n := by rw [hn]; simp
    have hz : ((n : Int) == 0) = false := by simp; omega
    have hnz : (0 : Int) < (n : Int) := by omega
    rw [← hn]
    simp only [Nat.zero_mul, Nat.zero_add] at d0 d1 d2
    clear h1 h2 hT hd hn
    go_wp2
    go_quiet (fail)
    go_wp2
    go_ret3
    exact ⟨rfl, H2.out.drewN _⟩

end Go.Proofs.Ytpaaanjghcloeaa
