
/- Package ramfs: no, there, dir, Nodes, Bytes: contracts. -/
import Derived.Test.YtkkjbnmfjhmobaaDoorFa
import Derived.Test.YtkkjbnmfjhmobaaDoorRows
import Derived.IntWalk
import Derived.Recover
namespace Go.Proofs.YtkkjbnmfjhmobaaDoor
open Go.RowKit

/-- What a call that gives up for e panics with. -/
def refV (e : Int) : Value := .iface 78 (.agg #[.int .i64 e])
def refP (e : Int) : List PanicEntry := [{ v := refV e, recovered := false }]
set_option maxRecDepth 100000 in
theorem nofc (e : Int) (w : World) : Calls Tryd.prog 25 #[.bool false, .int .i64 e] w fun en w' => en = .returned (.tuple #[]) ∧ w = w' := by
  go_enter Tryd.func25, Tryd.ntmps25
  go_wp2
  exact ⟨rfl, _, results_none rfl _ _ _, rfl, rfl⟩
set_option maxRecDepth 100000 in
theorem notc (e : Int) (w : World) : Calls Tryd.prog 25 #[.bool true, .int .i64 e] w fun en w' => en = .panicked (refP e) ∧ w = w' := by
  go_enter Tryd.func25, Tryd.ntmps25
  go_wp2
  exact ⟨rfl, rfl, rfl⟩

theorem neq_names (x : Option Nat) (w : World) : (binOp .neq 49 (.map x) (.map none)).run Tryd.prog w = .ok (.bool x.isSome) w := by
  cases x <;> kernel_rfl
set_option maxRecDepth 100000 in
theorem ftherec (fb : Nat) (mb : Nat → Nat) (vs : Nat → Value) (f : FS) (w : World) (h : FAt w fb mb vs f) : Calls Tryd.prog 40 #[.pointer (some ⟨fb, 0, none⟩)] w fun e w' => e = .returned (.bool true) ∧ w = w' := by
  have c0 : w.cell? ⟨fb, 0, none⟩ = some (.bool true) := by
    have h1 := (h.cN (n := 0) (by omega)).1
    rw [show (f.nodes.getD 0 nd0).is = true from h.inv.root.1] at h1
    exact h1
  clear h
  go_enter Tryd.func40, Tryd.ntmps40
  go_wp2
  go_ret
  exact ⟨rfl, rfl⟩
set_option maxRecDepth 100000 in
theorem fdirc (fb : Nat) (mb : Nat → Nat) (vs : Nat → Value) (f : FS) (n : Nat) (hn : n < 64) (w : World) (h : FAt w fb mb vs f) : Calls Tryd.prog 29 #[.pointer (some ⟨fb, 0, none⟩), .int .i64 n] w fun e w' => e = .returned (.bool (f.isDir n)) ∧ w = w' := by
  have c1 := (h.cN hn).2.1
  have hd : f.isDir n = (f.nodes.getD n nd0).dir.isSome := rfl
  rw [hd]
  generalize (f.nodes.getD n nd0).dir.isSome = b at *
  clear h hd
  have hq := neq_names
  cases b
  all_goals
    simp only [if_true, Bool.false_eq_true, if_false] at c1
    go_enter Tryd.func29, Tryd.ntmps29
    go_wp2
    go_ret
    exact ⟨rfl, rfl⟩

/-- The sum of the first k nodes'. -/
def FS.countK (f : FS) (k : Nat) : Nat := (f.nodes.take k).countP (·.is)
def FS.bytesK (f : FS) (k : Nat) : Nat := ((f.nodes.take k).map (·.b.length)).sum
theorem take_nd {f : FS} (h : FInv f) {k : Nat} (hk : k < 64) : f.nodes.take (k + 1) = f.nodes.take k ++ [f.nodes.getD k nd0] := by
  have hl := h.ln
  rw [List.take_add_one, List.getD_eq_getElem?_getD, List.getElem?_eq_getElem (by omega)]
  rfl
theorem FS.countK_succ {f : FS} (h : FInv f) {k : Nat} (hk : k < 64) : f.countK (k + 1) = f.countK k + if (f.nodes.getD k nd0).is = true then 1 else 0 := by
  unfold FS.countK
  rw [take_nd h hk, List.countP_append, List.countP_singleton]
theorem FS.bytesK_succ {f : FS} (h : FInv f) {k : Nat} (hk : k < 64) : f.bytesK (k + 1) = f.bytesK k + (f.nodes.getD k nd0).b.length := by
  unfold FS.bytesK
  rw [take_nd h hk, List.map_append, List.sum_append]
  simp
theorem FS.countK_all {f : FS} (h : FInv f) : f.countK 64 = f.count := by
  unfold FS.countK FS.count
  rw [List.take_of_length_le (by have := h.ln; omega)]
theorem FS.bytesK_all {f : FS} (h : FInv f) : f.bytesK 64 = f.bytes := by
  unfold FS.bytesK FS.bytes
  rw [List.take_of_length_le (by have := h.ln; omega)]
theorem FS.countK_le (f : FS) (k : Nat) : f.countK k ≤ k := by
  unfold FS.countK
  exact Nat.le_trans List.countP_le_length (by simp; omega)
theorem FS.bytesK_le {f : FS} (h : FInv f) (k : Nat) : f.bytesK k ≤ 4096 := by
  have h1 := h.bytes
  have h2 : f.bytes = f.bytesK k + ((f.nodes.drop k).map (·.b.length)).sum := by
    unfold FS.bytes FS.bytesK
    rw [← List.sum_append, ← List.map_append, List.take_append_drop]
  omega
set_option maxRecDepth 100000 in
set_option maxHeartbeats 1000000 in
theorem fnodesc (fb : Nat) (mb : Nat → Nat) (vs : Nat → Value) (f : FS) (w : World) (h : FAt w fb mb vs f) : Calls Tryd.prog 13 #[.pointer (some ⟨fb, 0, none⟩)] w fun e w' => e = .returned (.int .i64 f.count) ∧ w = w' := by
  have HT := Lib.hid (ftherec fb mb vs f w h)
  have HC := Lib.hid (fun (k : Nat) (hk : k < 64) => (h.cN hk).1)
  have HI := Lib.hid h.inv
  clear h
  go_enter Tryd.func13, Tryd.ntmps13
  go_wp2
  go_loopw [3, 4] (fun n i wr => ∃ k : Nat, k ≤ 64 ∧ n = .int .i64 (f.countK k) ∧ i = .int .i64 k ∧ wr = w) (fun _ i _ => 64 - (intOf i).toNat)
  case atStart => exact ⟨0, by omega, rfl, rfl, rfl⟩
  case round =>
    obtain ⟨k, hk, rfl, rfl, rfl⟩ := hrel
    by_cases hlt : k < 64
    · have c0 := HC.out k hlt
      have HS := Lib.hid (FS.countK_succ HI.out hlt)
      have hle := f.countK_le k
      generalize (f.nodes.getD k nd0).is = b at *
      obtain ⟨m, hm⟩ : ∃ m, m = f.countK k := ⟨_, rfl⟩
      rw [← hm] at hle ⊢
      have HM := Lib.hid hm
      clear hm
      cases b
      · go_wp2_with (go_at_call 40; refine HT.out.mono ?_; rintro e w' ⟨rfl, rfl⟩)
        go_roundw
        case rel => exact ⟨k + 1, by omega, by rw [HS.out, HM.out]; rfl, by go_num, by trivial⟩
        case measure => simp [intOf]; omega
      · go_wp2_with (go_at_call 40; refine HT.out.mono ?_; rintro e w' ⟨rfl, rfl⟩)
        go_roundw
        case rel => exact ⟨k + 1, by omega, by rw [HS.out, ← HM.out]; go_num, by go_num, by trivial⟩
        case measure => simp [intOf]; omega
    · obtain rfl : k = 64 := by omega
      rw [FS.countK_all HI.out]
      clear hk hlt
      go_wp2_with (go_at_call 40; refine HT.out.mono ?_; rintro e w' ⟨rfl, rfl⟩)
      go_ret
      exact ⟨rfl, rfl⟩
set_option maxRecDepth 100000 in
set_option maxHeartbeats 1000000 in
theorem fbytesc (fb : Nat) (mb : Nat → Nat) (vs : Nat → Value) (f : FS) (w : World) (h : FAt w fb mb vs f) : Calls Tryd.prog 14 #[.pointer (some ⟨fb, 0, none⟩)] w fun e w' => e = .returned (.int .i64 f.bytes) ∧ w = w' := by
  have HT := Lib.hid (ftherec fb mb vs f w h)
  have HC := Lib.hid (show ∀ k : Nat, k < 64 → ∃ a cap, w.cell? ⟨fb, k * 3 + 2, none⟩ = some (.slice a (f.nodes.getD k nd0).b.length cap) from fun k hk => by
    obtain ⟨a, cap, e⟩ := own_slice (h.row k hk)
    exact ⟨a, cap, by rw [(h.cN hk).2.2, e]⟩)
  have HI := Lib.hid h.inv
  clear h
  go_enter Tryd.func14, Tryd.ntmps14
  go_wp2
  go_loopw [3, 4] (fun n i wr => ∃ k : Nat, k ≤ 64 ∧ n = .int .i64 (f.bytesK k) ∧ i = .int .i64 k ∧ wr = w) (fun _ i _ => 64 - (intOf i).toNat)
  case atStart => exact ⟨0, by omega, rfl, rfl, rfl⟩
  case round =>
    obtain ⟨k, hk, rfl, rfl, rfl⟩ := hrel
    by_cases hlt : k < 64
    · obtain ⟨a, cap, c0⟩ := HC.out k hlt
      have HS := Lib.hid (FS.bytesK_succ HI.out hlt)
      have hle := FS.bytesK_le HI.out (k + 1)
      rw [HS.out] at hle
      generalize (f.nodes.getD k nd0).b.length = b at *
      obtain ⟨m, hm⟩ : ∃ m, m = f.bytesK k := ⟨_, rfl⟩
      rw [← hm] at hle ⊢
      have HM := Lib.hid hm
      clear hm
      go_wp2_with (go_at_call 40; refine HT.out.mono ?_; rintro e w' ⟨rfl, rfl⟩)
      go_roundw
      case rel => exact ⟨k + 1, by omega, by rw [HS.out, ← HM.out]; go_num, by go_num, by trivial⟩
      case measure => simp [intOf]; omega
    · obtain rfl : k = 64 := by omega
      rw [FS.bytesK_all HI.out]
      clear hk hlt
      go_wp2_with (go_at_call 40; refine HT.out.mono ?_; rintro e w' ⟨rfl, rfl⟩)
      go_ret
      exact ⟨rfl, rfl⟩

end Go.Proofs.YtkkjbnmfjhmobaaDoor
