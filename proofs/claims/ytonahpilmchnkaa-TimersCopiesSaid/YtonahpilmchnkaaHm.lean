
/- The wheel: New; ints that are there to be read (as in XHq, for seats without metronomeref07). -/
import Derived.Test.YtonahpilmchnkaaHl
namespace Go.Proofs.Ytonahpilmchnkaa
open Go.RowKit

def vs0 : List Value := List.replicate 64 (.slice none 0 0)
def hs0 : HS := ⟨[], 0⟩
theorem blocks0 (b : Nat) : blocksH b vs0 = [b] := by
  unfold blocksH vs0
  congr 1
theorem HAt.new {w : World} {b : Nat} (h : w.heap[b]? = some (.cells (wcl vs0 (wherL []) 0 0) 82 (0, 0))) : HAt w b vs0 hs0 := by
  have hz : ∀ (k : Nat) v, vs0[k]? = some v → v = .slice none 0 0 := fun k v hk => by
    have := List.mem_of_getElem? hk
    exact List.eq_of_mem_replicate this
  refine ⟨h, by simp [vs0], fun k v hk => ?_, fun j k u v hj hk _ x hx => ?_, HInv.new⟩
  · rw [hz k v hk]
    exact World.ownsRow_nil ..
  · rw [hz j u hj] at hx
    simp [Value.ownBlock] at hx
theorem buildWheel (w : World) : (Instr.build 82 #[(0, Value.bool true)]).run Try.prog w = .ok (.agg (wcl vs0 (wherL []) 0 0)) w := by kernel_rfl

theorem wpList_build {P : Program} {ops : Array Oper} {rest : List Oper} {op : Oper} {a : Act} {w : World} {Q : Exit → Act → World → Prop} (hgd : op.guard = none) (ty : TypeId) (x : Value) (ho : op.op = .build ty #[(0, .const x)]) (v : Value)
    (hr : (Instr.build ty #[(0, x)]).run P w = .ok v w) (h : wpList P ops Q rest (a.put op.dst v) w) : wpList P ops Q (op :: rest) a w := by
  refine wpList_plain hgd fun K hK => ?_
  unfold Oper.wp execOp
  simp only [ho, List.map_toArray, List.map_cons, List.map_nil, Act.eval, Sem.run_bind, hr, Result.andThen_ok, Sem.run_pure]
  exact hK _ _ h

def NewP (w : World) (e : Ending) (w' : World) : Prop := ∃ b, e = .returned (.pointer (some ⟨b, 0, none⟩)) ∧ b = w.heap.size ∧ HAt w' b vs0 hs0 ∧ Chg [] w w'
set_option maxRecDepth 100000 in
set_option maxHeartbeats 1000000 in
theorem newc (w : World) : Calls Try.prog 24 #[] w (NewP w) := by
  have hb := buildWheel
  obtain ⟨cs, hcs⟩ : ∃ cs, cs = wcl vs0 (wherL []) 0 0 := ⟨_, rfl⟩
  rw [← hcs] at hb
  have hsz : cs.size = 131 := by rw [hcs]; kernel_rfl
  have HC := Lib.hid hcs
  clear hcs
  go_enter Try.func24, Try.ntmps24
  go_wp2_with (refine wpList_build (P := Try.prog) rfl 82 _ rfl _ (hb _) ?_)
  go_ret
  exact ⟨_, rfl, rfl, HAt.new (by rw [← HC.out]; exact heap_alloc_eq w _), (Chg.refl _ _).alloc _⟩

/-- Ints that are there to be read. -/
def IntsAt (w : World) (a : Option Addr) (l : List Int) : Prop := l = [] ∨ ∃ g, a = some ⟨g, 0, none⟩ ∧ ∀ j x, l[j]? = some x → w.cell? ⟨g, j, none⟩ = some (.int .i64 x)
theorem IntsAt.of_own {w : World} {B : Nat} {v : Value} {l : List Int} {n : Nat} (h : w.ownsRow B 3 1 v n (l.map (Value.int .i64))) (hn : n = l.length) : ∃ a cap, v = .slice a n cap ∧ IntsAt w a l := by
  rcases h.2 with ⟨e1, e2⟩ | ⟨g, cap, cur, e1, _, e3, _, _, _, e4⟩
  · exact ⟨none, 0, by rw [e1, e2], .inl (List.eq_nil_of_length_eq_zero (by omega))⟩
  · refine ⟨some ⟨g, 0, none⟩, cap, e1, .inr ⟨g, rfl, fun j x hj => cellB e3 (own_takeH e4 _ _ (by rw [List.getElem?_map, hj]; rfl))⟩⟩
theorem IntsAt.calm {w w' : World} {a : Option Addr} {l : List Int} (h : IntsAt w a l) (hC : Chg [] w w') : IntsAt w' a l := by
  rcases h with h | ⟨g, e, h⟩
  · exact .inl h
  · exact .inr ⟨g, e, fun j x hj => cell_kept (h j x hj) hC (by simp)⟩


end Go.Proofs.Ytonahpilmchnkaa
