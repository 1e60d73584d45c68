
/- The wheel: New; metronomelaw07: same: contracts. -/
import Derived.Test.YtpaaanjghcloeaaHp
import Derived.Test.YtpaaanjghcloeaaHl
namespace Go.Proofs.Ytpaaanjghcloeaa
open Go.RowKit

def vs0 : List Value := List.replicate 64 (.slice none 0 0)
def hs0 : HS := ⟨[], 0⟩
theorem blocks0 (b : Nat) : blocksH b vs0 = [b] := by
  unfold blocksH vs0
  congr 1
theorem HAt.new {w : World} {b : Nat} (h : w.heap[b]? = some (.cells (wcl vs0 (wherL []) 0 0) 51 (0, 0))) : HAt w b vs0 hs0 := by
  have hz : ∀ (k : Nat) v, vs0[k]? = some v → v = .slice none 0 0 := fun k v hk => by
    have := List.mem_of_getElem? hk
    exact List.eq_of_mem_replicate this
  refine ⟨h, by simp [vs0], fun k v hk => ?_, fun j k u v hj hk _ x hx => ?_, HInv.new⟩
  · rw [hz k v hk]
    exact World.ownsRow_nil ..
  · rw [hz j u hj] at hx
    simp [Value.ownBlock] at hx
theorem buildWheel (w : World) : (Instr.build 51 #[(0, Value.bool true)]).run Try.prog w = .ok (.agg (wcl vs0 (wherL []) 0 0)) w := by kernel_rfl

theorem wpList_build {P : Program} {ops : Array Oper} {rest : List Oper} {op : Oper} {a : Act} {w : World} {Q : Exit → Act → World → Prop} (hgd : op.guard = none) (ty : TypeId) (x : Value) (ho : op.op = .build ty #[(0, .const x)]) (v : Value)
    (hr : (Instr.build ty #[(0, x)]).run P w = .ok v w) (h : wpList P ops Q rest (a.put op.dst v) w) : wpList P ops Q (op :: rest) a w := by
  refine wpList_plain hgd fun K hK => ?_
  unfold Oper.wp execOp
  simp only [ho, List.map_toArray, List.map_cons, List.map_nil, Act.eval, Sem.run_bind, hr, Result.andThen_ok, Sem.run_pure]
  exact hK _ _ h

def NewP (w : World) (e : Ending) (w' : World) : Prop := ∃ b, e = .returned (.pointer (some ⟨b, 0, none⟩)) ∧ b = w.heap.size ∧ HAt w' b vs0 hs0 ∧ Chg [] w w'
set_option maxRecDepth 100000 in
set_option maxHeartbeats 1000000 in
theorem newc (w : World) : Calls Try.prog 8 #[] w (NewP w) := by
  have hb := buildWheel
  obtain ⟨cs, hcs⟩ : ∃ cs, cs = wcl vs0 (wherL []) 0 0 := ⟨_, rfl⟩
  rw [← hcs] at hb
  have hsz : cs.size = 131 := by rw [hcs]; kernel_rfl
  have HC := Lib.hid hcs
  clear hcs
  go_enter Try.func8, Try.ntmps8
  go_wp2_with (refine wpList_build (P := Try.prog) rfl 51 _ rfl _ (hb _) ?_)
  go_ret
  exact ⟨_, rfl, rfl, HAt.new (by rw [← HC.out]; exact heap_alloc_eq w _), (Chg.refl _ _).alloc _⟩

/-- Ints that are there to be read. -/
def IntsAt (w : World) (a : Option Addr) (l : List Int) : Prop := l = [] ∨ ∃ g, a = some ⟨g, 0, none⟩ ∧ ∀ j x, l[j]? = some x → w.cell? ⟨g, j, none⟩ = some (.int .i64 x)
theorem IntsAt.of_own {w : World} {B : Nat} {v : Value} {l : List Int} {n : Nat} (h : w.ownsRow B 3 1 v n (l.map (Value.int .i64))) (hn : n = l.length) : ∃ a cap, v = .slice a n cap ∧ IntsAt w a l := by
  rcases h.2 with ⟨e1, e2⟩ | ⟨g, cap, cur, e1, _, e3, _, _, _, e4⟩
  · exact ⟨none, 0, by rw [e1, e2], .inl (List.eq_nil_of_length_eq_zero (by omega))⟩
  · refine ⟨some ⟨g, 0, none⟩, cap, e1, .inr ⟨g, rfl, fun j x hj => cellB e3 (own_takeH e4 _ _ (by rw [List.getElem?_map, hj]; rfl))⟩⟩
theorem IntsAt.calm {w w' : World} {a : Option Addr} {l : List Int} (h : IntsAt w a l) (hC : Chg [] w w') : IntsAt w' a l := by
  rcases h with h | ⟨g, e, h⟩
  · exact .inl h
  · exact .inr ⟨g, e, fun j x hj => cell_kept (h j x hj) hC (by simp)⟩

set_option maxRecDepth 100000 in
set_option maxHeartbeats 2000000 in
theorem lsamec (a1 a2 : Option Addr) (c1 c2 : Nat) (l m : List Int) (w : World) (h1 : IntsAt w a1 l) (h2 : IntsAt w a2 m) (hl : l.length ≤ 1000000) :
    Calls Try.prog 20 #[.slice a1 l.length c1, .slice a2 m.length c2] w fun e w' => e = .returned (.bool (decide (l = m))) ∧ Chg [] w w' := by
  by_cases hlen : l.length = m.length
  · obtain ⟨n, hn⟩ : ∃ n, n = l.length := ⟨_, rfl⟩
    have hn2 : n = m.length := by omega
    rw [← hn, ← hn2]
    rw [← hn] at hl
    have H := Lib.hid (And.intro h1 (And.intro h2 (And.intro hn hn2)))
    have e0 : ((n : Int) != (n : Int)) = false := by simp
    clear h1 h2 hlen hn hn2
    go_enter Try.func20, Try.ntmps20
    go_wp2
    go_loopw [5] (fun i wr => ∃ k : Nat, k ≤ n ∧ i = .int .i64 k ∧ l.take k = m.take k ∧ Chg [] w wr) (fun i _ => n - (intOf i).toNat)
    case atStart => exact ⟨0, by omega, rfl, by simp, Chg.refl _ _⟩
    case round =>
      obtain ⟨k, hk, rfl, hall, hC⟩ := hrel
      by_cases hlt : k < n
      · obtain ⟨x, hx⟩ : ∃ x, l[k]? = some x := ⟨_, List.getElem?_eq_getElem (by have := H.out.2.2.1; omega)⟩
        obtain ⟨y, hy⟩ : ∃ y, m[k]? = some y := ⟨_, List.getElem?_eq_getElem (by have := H.out.2.2.2; omega)⟩
        obtain ⟨g1, rfl, hd⟩ := (H.out.1.calm hC).resolve_left (fun e => by subst e; simp at hx)
        obtain ⟨g2, rfl, hf⟩ := (H.out.2.1.calm hC).resolve_left (fun e => by subst e; simp at hy)
        have d0 := hd k x hx
        have f0 := hf k y hy
        by_cases hxy : x = y
        · subst hxy
          have hst : l.take (k + 1) = m.take (k + 1) := by rw [List.take_add_one, List.take_add_one, hx, hy, hall]
          have e1 : (x != x) = false := by simp
          have HX := Lib.hid (And.intro hC hst)
          clear hx hy hd hf hall hC hst
          go_wp2
          go_quiet (fail)
          go_wp2
          go_roundw
          case rel => exact ⟨k + 1, by omega, by go_num, HX.out.2, HX.out.1.drewN _⟩
          case measure => simp [intOf]; omega
        · have hno : decide (l = m) = false := decide_eq_false fun e2 => hxy (by
            have := congrArg (fun z => z[k]?) e2
            simpa [hx, hy] using this)
          have e1 : (x != y) = true := by simpa using hxy
          have HX := Lib.hid (And.intro hC hno)
          clear hx hy hd hf hall hC hno hxy
          go_wp2
          go_quiet (fail)
          go_wp2
          go_ret
          exact ⟨by rw [HX.out.2]; rfl, HX.out.1.drewN _⟩
      · have hkn : k = n := by omega
        subst hkn
        have e1 : decide (l = m) = true := by
          rw [List.take_of_length_le (by have := H.out.2.2.1; omega), List.take_of_length_le (by have := H.out.2.2.2; omega)] at hall
          exact decide_eq_true hall
        have HX := Lib.hid (And.intro hC e1)
        clear hall hC e1
        go_wp2
        go_ret
        exact ⟨by rw [HX.out.2]; rfl, HX.out.1⟩
  · have hno : decide (l = m) = false := decide_eq_false fun e => hlen (by rw [e])
    rw [hno]
    have e0 : ((l.length : Int) != (m.length : Int)) = true := by simp; omega
    clear h1 h2 hl hno
    generalize l.length = n1 at *
    generalize m.length = n2 at *
    go_enter Try.func20, Try.ntmps20
    go_wp2
    go_ret
    exact ⟨rfl, Chg.refl _ _⟩

end Go.Proofs.Ytpaaanjghcloeaa
