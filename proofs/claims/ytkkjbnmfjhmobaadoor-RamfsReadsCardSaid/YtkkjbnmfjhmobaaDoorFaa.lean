
/- Package ramfs: slices of bytes: laws; a slice of a row cloned. -/
import Derived.Test.YtkkjbnmfjhmobaaDoorFu
import Derived.Test.YtkkjbnmfjhmobaaDoorShelf
import Derived.StillTailTactics
namespace Go.Proofs.YtkkjbnmfjhmobaaDoor
open Go.RowKit

theorem sl_lh (a : Option Addr) (ln cap fr e : Nat) (h1 : fr ≤ e) (h2 : e ≤ cap) (W : World) : (Instr.slice 23 (.slice a ln cap) (some (.int .i64 (fr : Int))) (some (.int .i64 (e : Int))) none).run Tryd.prog W = .ok (sliced a fr e cap 1) W := by
  rw [run_slice_lh W 23 a ln cap (by kernel_rfl) .i64 .i64 fr e (by omega) (by omega) (by omega)]
  rw [show (sizeOf (Tryd.prog.elem 23)).run Tryd.prog W = .ok 1 W by kernel_rfl]
  rfl
theorem sl_l (a : Option Addr) (ln cap fr : Nat) (h1 : fr ≤ ln) (W : World) : (Instr.slice 23 (.slice a ln cap) (some (.int .i64 (fr : Int))) none none).run Tryd.prog W = .ok (sliced a fr ln cap 1) W := by
  rw [run_slice_l W 23 a ln cap (by kernel_rfl) .i64 fr (by omega) (by omega)]
  rw [show (sizeOf (Tryd.prog.elem 23)).run Tryd.prog W = .ok 1 W by kernel_rfl]
  rfl
theorem addr_add (g o n : Nat) : Addr.add ⟨g, o, none⟩ n = ⟨g, o + n, none⟩ := by
  unfold Addr.add
  split <;> simp_all
/-- A row of bytes, as it is read. -/
def BytesAt (w : World) (v : Value) (b : List Int) : Prop := ∃ a cap, v = .slice a b.length cap ∧ b.length ≤ cap ∧ ((a = none ∧ b = []) ∨ ∃ g o, a = some ⟨g, o, none⟩ ∧ ∀ (j : Nat) x, b[j]? = some x → w.cell? ⟨g, o + j, none⟩ = some (.int .u8 x))
theorem BytesAt.of_own {w : World} {B : Nat} {v : Value} {b : List Int} (h : w.ownsRow B 5 1 v b.length (bytesV b)) : BytesAt w v b := by
  obtain ⟨h1, (⟨rfl, h2⟩ | ⟨g, cap, cur, rfl, hB, hb, hcp, _, _, ht⟩)⟩ := h
  · have : b = [] := List.eq_nil_of_length_eq_zero h2
    subst this
    exact ⟨none, 0, rfl, Nat.le_refl _, .inl ⟨rfl, rfl⟩⟩
  · exact ⟨some ⟨g, 0, none⟩, cap, rfl, hcp, .inr ⟨g, 0, rfl, fun j x hx => by rw [Nat.zero_add]; exact cellB hb (own_take ht _ _ (by simp [bytesV, hx]))⟩⟩
theorem BytesAt.kept {S : List Nat} {w w' : World} {v : Value} {b : List Int} (h : BytesAt w v b) (hC : Chg S w w') (hS : ∀ k ∈ S, k ∉ v.ownBlock.toList) : BytesAt w' v b := by
  obtain ⟨a, cap, rfl, hcp, h⟩ := h
  refine ⟨a, cap, rfl, hcp, ?_⟩
  rcases h with h | ⟨g, o, rfl, h⟩
  · exact .inl h
  · exact .inr ⟨g, o, rfl, fun j x hx => cell_chg hC (fun hm => hS g hm (by simp [Value.ownBlock])) (h j x hx)⟩
theorem BytesAt.calm {w w' : World} {v : Value} {b : List Int} (h : BytesAt w v b) (hC : Chg [] w w') : BytesAt w' v b := h.kept hC (by simp)
theorem own_base {w : World} {B B' : Nat} {e : TypeId} {size : Nat} {v : Value} {n : Nat} {xs : List Value} (h : w.ownsRow B e size v n xs) (hB : B' ≤ B) : w.ownsRow B' e size v n xs := by
  refine ⟨h.1, h.2.imp id ?_⟩
  rintro ⟨g, cap, cur, h1, h2, h3⟩
  exact ⟨g, cap, cur, h1, Nat.le_trans hB h2, h3⟩
/-- A slice of a row of bytes, cloned. -/
theorem clone_mid {a : Option Addr} {cap : Nat} {b : List Int} {w W : World} (h : BytesAt w (.slice a b.length cap) b) (fr cnt : Nat) (hle : fr + cnt ≤ b.length) (hb : b.length ≤ 4096) (hC : Chg [] w W) :
    Calls Tryd.prog 46 #[sliced a fr (fr + cnt) cap 1] W fun e w' => ∃ v', e = .returned v' ∧ w'.ownsRow w.heap.size 5 1 v' ((b.drop fr).take cnt).length (bytesV ((b.drop fr).take cnt)) ∧ Chg [] w w' := by
  have hB := (h.calm hC)
  obtain ⟨a', cap', e1, hcp, hr⟩ := hB
  injection e1 with e1 _ e2
  subst e1 e2
  unfold sliced
  rw [show fr + cnt - fr = cnt by omega]
  rcases hr with ⟨rfl, hnil⟩ | ⟨g, o, rfl, hcs⟩
  · subst hnil
    simp only [List.length_nil, Nat.le_zero_eq, Nat.add_eq_zero_iff] at hle
    obtain ⟨rfl, rfl⟩ := hle
    rw [show (if cap = 0 then none else Option.map (fun x => Addr.add x (0 * 1)) (none : Option Addr)) = none by split <;> rfl]
    refine (Tryd.bytes_Clone_nil _ _ W).mono ?_
    rintro e w' ⟨rfl, rfl⟩
    exact ⟨_, rfl, ⟨rfl, .inl ⟨rfl, rfl⟩⟩, hC⟩
  · have hA : ∃ A : Addr, (if cap = fr then some ⟨g, o, none⟩ else Option.map (fun x => Addr.add x (fr * 1)) (some ⟨g, o, none⟩)) = some A ∧ ∀ i, i < cnt → W.cell? (A.add i) = some (.int .u8 (((b.drop fr).take cnt).getD i 0)) := by
      by_cases he : cap = fr
      · exact ⟨_, by rw [if_pos he], fun i hi => by omega⟩
      · refine ⟨_, by rw [if_neg he]; rfl, fun i hi => ?_⟩
        have := hcs (fr + i) (b[fr + i]'(by omega)) (List.getElem?_eq_getElem (by omega))
        have e2 : ((b.drop fr).take cnt).getD i 0 = b[fr + i]'(by omega) := by
          rw [List.getD_eq_getElem?_getD, List.getElem?_take_of_lt hi, List.getElem?_drop, List.getElem?_eq_getElem (by omega)]
          rfl
        rw [e2, ← this]
        show W.cell? ((Addr.add ⟨g, o, none⟩ (fr * 1)).add i) = _
        rw [addr_add, addr_add, Nat.mul_one, Nat.add_assoc]
    obtain ⟨A, e3, hA⟩ := hA
    rw [e3]
    have hln : ((b.drop fr).take cnt).length = cnt := by rw [List.length_take, List.length_drop]; omega
    refine (Tryd.bytes_Clone_at A cnt _ ((b.drop fr).take cnt) W hln (by omega) hA).mono ?_
    rintro e w' ⟨v', rfl, h1, _, h2⟩
    exact ⟨v', rfl, by rw [hln]; exact own_base h1 hC.size, hC.trans (Chg.of_below h2)⟩

end Go.Proofs.YtkkjbnmfjhmobaaDoor
