
/- slices.Values at messages; Queue.All: contracts (an iterator that ranges over an iterator). -/
import Derived.Test.YtiiafhlckmkcnaaGreatUk
import Derived.Test.YtiiafhlckmkcnaaGreatRgx
import Derived.Test.YtiiafhlckmkcnaaGreatWm
import Derived.RangeFuncNested
import Derived.TacticsInMore
import Derived.LoopNIn
import Derived.LoopIn
namespace Go.Proofs.YtiiafhlckmkcnaaGreat
open Go.RowKit Go.Shelf
attribute [local go_sem] Oper.semAt_some

/-- Where k is a record of a loop's that began behind L. -/
def RecB (L : Option Nat) (k : Nat) (o : Obj) : Prop := ∃ x, L = some x ∧ x ≤ k ∧ o.isCells = false
/-- What a round that goes on keeps: all below block B, and beyond it what is of none of the types Ts, and records laid behind L, but the blocks of S. -/
structure KpC (B : Nat) (S : List Nat) (Ts : List TypeId) (L : Option Nat) (W W' : World) : Prop where
  os : W'.os = W.os
  tape : W'.tape = W.tape
  output : W'.output = W.output
  size : W.heap.size ≤ W'.heap.size
  same : ∀ k o, W.heap[k]? = some o → k ∉ S → (k < B ∨ keepT Ts o = true ∨ RecB L k o) → W'.heap[k]? = some o
theorem KpC.trans {B : Nat} {S : List Nat} {Ts : List TypeId} {L : Option Nat} {X Y Z : World} (h : KpC B S Ts L X Y) (g : KpC B S Ts L Y Z) : KpC B S Ts L X Z :=
  ⟨g.os.trans h.os, g.tape.trans h.tape, g.output.trans h.output, Nat.le_trans h.size g.size, fun k o hk hn ho => g.same k o (h.same k o hk hn ho) hn ho⟩
theorem KpC.weak {B : Nat} {S : List Nat} {Ts : List TypeId} {L : Option Nat} {W W' : World} (h : KpC B S Ts L W W') : KpC B S Ts none W W' :=
  ⟨h.os, h.tape, h.output, h.size, fun k o hk hn ho => h.same k o hk hn (by rcases ho with h1 | h1 | ⟨x, h1, _⟩; exact .inl h1; exact .inr (.inl h1); cases h1)⟩
theorem KpC.put {B : Nat} {S : List Nat} {Ts : List TypeId} {L : Option Nat} {W : World} {l : Nat} {o : Obj} (o' : Obj) (hB : B ≤ l) (hL : ∀ x, L = some x → l < x) (hl : W.heap[l]? = some o) (h1 : o.isCells = false) (h2 : o.isWalk = false) : KpC B S Ts L W (W.putObj l o') := by
  have hg := grownBy_putObj' W l o'
  refine ⟨hg.os, hg.tape, hg.output, hg.size, fun k x hk _ hx => ?_⟩
  refine (hg.block k (lt_of_blk hk) (fun e => ?_)).trans hk
  cases e
  rw [hl] at hk
  cases hk
  rcases hx with hx | hx | ⟨y, hy, hx, _⟩
  · omega
  · cases o <;> simp [keepT, Obj.isCells, Obj.isWalk] at hx h1 h2
  · have := hL y hy; omega
theorem KpC.chg {B : Nat} {S : List Nat} {Ts : List TypeId} {L : Option Nat} {S2 : List Nat} {W W' : World} (h : Chg S2 W W') (hS : ∀ k ∈ S2, k ∈ S ∨ (B ≤ k ∧ ∀ o, W.heap[k]? = some o → keepT Ts o = false ∧ o.isCells = true)) : KpC B S Ts L W W' :=
  ⟨h.os, h.tape, h.output, h.size, fun k o hk hn ho => h.blk hk (fun hm => by
    rcases hS k hm with h1 | ⟨h1, h2⟩
    · exact hn h1
    · rcases ho with h3 | h3 | ⟨y, _, _, h3⟩
      · omega
      · rw [(h2 o hk).1] at h3; cases h3
      · rw [(h2 o hk).2] at h3; cases h3)⟩
theorem KpC.low {B : Nat} {S : List Nat} {Ts : List TypeId} {L : Option Nat} {W W' : World} {k : Nat} {o : Obj} (h : KpC B S Ts L W W') (hb : W.heap[k]? = some o) (hn : k ∉ S) (hk : k < B) : W'.heap[k]? = some o := h.same k o hb hn (.inl hk)
theorem KpC.typ {B : Nat} {S : List Nat} {Ts : List TypeId} {L : Option Nat} {W W' : World} {k : Nat} {cs : Array Value} {e : TypeId} {fr : Nat × Nat} (h : KpC B S Ts L W W') (hb : W.heap[k]? = some (.cells cs e fr)) (hn : k ∉ S) (he : e ∉ Ts) : W'.heap[k]? = some (.cells cs e fr) :=
  h.same k _ hb hn (.inr (.inl (by simpa [keepT] using he)))
/-- Records laid behind L are kept. -/
theorem KpC.recs {B : Nat} {S : List Nat} {Ts : List TypeId} {x : Nat} {W W' : World} {M : Nat} (h : KpC B S Ts (some x) W W') (hM : x ≤ M) (hS : ∀ k ∈ S, k < M) : KeepsFrom M W W' :=
  ⟨h.size, fun k o hk ho hc => h.same k o ho (fun hm => by have := hS k hm; omega) (.inr (.inr ⟨x, rfl, by omega, hc⟩))⟩

theorem round_any {F : Fence} (hd : F.depth = none) {m m' : Nat} {P : Program} {l : Nat} {f : FuncId} {tmps : Array Value} {assign body : Code} {w : World} {R : Ending → World → Prop}
    (h : RoundIn F m P l f tmps assign body w R) : RoundIn F m' P l f tmps assign body w R := ⟨h.1, fun c cs _ => h.2 c cs (fun d hd' => by rw [hd] at hd'; cases hd')⟩
theorem yield_any {F : Fence} (hd : F.depth = none) {m : Nat} (m' : Nat) {P : Program} {l : Nat} {args : Array Value} {W : World} {R : Ending → World → Prop} (h : YieldAt F m P l args W R) : YieldAt F m' P l args W R := by
  obtain ⟨fn, tmps, assign, body, hy, hR⟩ := h
  exact ⟨fn, tmps, assign, body, hy, round_any hd hR⟩

def encU (x : Int × Int) : Array Value := #[msgV x]

set_option maxRecDepth 100000 in
set_option maxHeartbeats 400000 in
theorem uvalsc (a : Option Addr) (n c : Nat) (w : World) : Calls Tryz.prog 71 #[.slice a n c] w fun e w' => e = .returned (.func (.func 89) #[] #[.pointer (some ⟨w.heap.size, 0, none⟩)]) ∧ w' = w.alloc (.cells #[.slice a n c] 47 (0, 0)) := by
  go_enter Tryz.func71, Tryz.ntmps71
  go_wp2
  go_ret
  exact ⟨rfl, rfl⟩

/-- The messages' row, as cells that lie below B. -/
def RowLow (w : World) (v : Value) (l : WL) (B : Nat) (S : List Nat) : Prop := ∃ a cap, v = .slice a l.length cap ∧ (l = [] ∨ ∃ g cur, a = some ⟨g, 0, none⟩ ∧ w.heap[g]? = some (.cells cur 33 (0, 0)) ∧ g < B ∧ g ∉ S ∧ cur.toList.take (l.length * 2) = flatW l)
theorem RowLow.of {w : World} {v : Value} {l : WL} {B B0 : Nat} {S : List Nat} (h : w.ownsRow B0 33 2 v l.length (flatW l)) (hB : ∀ k ∈ v.ownBlock.toList, k < B ∧ k ∉ S) : RowLow w v l B S := by
  rcases h.2 with ⟨e1, e2⟩ | ⟨g, cap, cur, e1, _, e3, _, _, _, e4⟩
  · exact ⟨none, 0, by rw [e1, e2], .inl (List.eq_nil_of_length_eq_zero e2)⟩
  · have := hB g (by rw [e1]; simp [Value.ownBlock])
    exact ⟨some ⟨g, 0, none⟩, cap, e1, .inr ⟨g, cur, rfl, e3, this.1, this.2, e4⟩⟩
theorem RowLow.kept {w w' : World} {v : Value} {l : WL} {B : Nat} {S : List Nat} {Ts : List TypeId} {L : Option Nat} (h : RowLow w v l B S) (hK : KpC B S Ts L w w') : RowLow w' v l B S := by
  obtain ⟨a, cap, e1, h⟩ := h
  refine ⟨a, cap, e1, ?_⟩
  rcases h with h | ⟨g, cur, e2, e3, e4, e5, e6⟩
  · exact .inl h
  · exact .inr ⟨g, cur, e2, hK.low e3 e5 e4, e4, e5, e6⟩
theorem RowLow.chg {w w' : World} {v : Value} {l : WL} {B : Nat} {S : List Nat} (h : RowLow w v l B S) (hC : Chg [] w w') : RowLow w' v l B S := by
  obtain ⟨a, cap, e1, h⟩ := h
  refine ⟨a, cap, e1, ?_⟩
  rcases h with h | ⟨g, cur, e2, e3, e4, e5, e6⟩
  · exact .inl h
  · exact .inr ⟨g, cur, e2, hC.blk e3 (by simp), e4, e5, e6⟩
theorem RowLow.below {w w' : World} {v : Value} {l : WL} {B : Nat} {S : List Nat} (h : RowLow w v l B S) (hC : Below w.heap.size w w') : RowLow w' v l B S :=
  h.chg ⟨hC.os, hC.tape, hC.output, hC.size, fun k hk _ => hC.block k hk⟩

set_option maxRecDepth 100000 in
set_option maxHeartbeats 1000000 in
theorem uvals_stops (B : Nat) (S : List Nat) (Ts : List TypeId) (bs : Nat) (v : Value) (l : WL) (w : World) (hbs : w.heap[bs]? = some (.cells #[v] 47 (0, 0))) (hrow : RowLow w v l B S) (hl : l.length ≤ 1000) :
    SeqStopsK Fence.wide 5 Tryz.prog 89 #[.pointer (some ⟨bs, 0, none⟩)] encU (KpC B S Ts none) (fun xs => xs = l) (fun pre => pre <+: l) l.length w := fun lp J Jx W hBW hJ hJx hY h0 => by
  have hrW := hrow.below hBW
  have hbW : W.heap[bs]? = some (.cells #[v] 47 (0, 0)) := (hBW.block bs (lt_of_blk hbs)).trans hbs
  obtain ⟨n, hn⟩ : ∃ n, n = l.length := ⟨_, rfl⟩
  obtain ⟨a, cap, rfl, _⟩ := id hrW
  rw [← hn] at hbW hl hY
  have cb := cellB hbW (i := 0) (v := .slice a n cap) rfl
  have HJ := Lib.hid hJ
  have HJx := Lib.hid hJx
  have HY := Lib.hid hY
  have HR := Lib.hid (And.intro hrW hn)
  clear hrW hrow hbs hbW hBW hJ hJx hY hn
  refine callsIn_of_wp Tryz.func89 rfl trivial ?_ rfl
  simp only [Tryz.ntmps89, List.size_toArray, List.length_cons, List.length_nil, Nat.reduceAdd, Nat.reduceSub, Array.replicate_succ, Array.replicate_zero, List.push_toArray, List.append_toArray, List.nil_append, List.cons_append]
  gi_wp2
  gi_loopw [7] (fun i wr => ∃ k : Nat, k ≤ n ∧ i = .int .i64 k ∧ J (l.take k) wr ∧ RowLow wr (.slice a l.length cap) l B S ∧ W.heap.size ≤ wr.heap.size) (fun i _ => n - (intOf i).toNat)
  case atStart => exact ⟨0, by omega, rfl, by simpa using h0, HR.out.1, Nat.le_refl _⟩
  case round =>
    obtain ⟨k, hk, rfl, hJk, hRk, hsz⟩ := hrel
    by_cases hlt : k < n
    · obtain ⟨x, hx⟩ : ∃ x, l[k]? = some x := ⟨_, List.getElem?_eq_getElem (by have := HR.out.2; omega)⟩
      obtain ⟨g, cur, rfl, hg, hgB, hgS, hcur⟩ : ∃ g cur, a = some ⟨g, 0, none⟩ ∧ wr.heap[g]? = some (.cells cur 33 (0, 0)) ∧ g < B ∧ g ∉ S ∧ cur.toList.take (l.length * 2) = flatW l := by
        obtain ⟨a', cap', e1, h⟩ := hRk
        cases e1
        rcases h with h | h
        · rw [h] at hx; simp at hx
        · exact h
      have hfx := flatW_at hx
      have d0 := cellB hg (i := k * 2) (own_take hcur _ _ hfx.1)
      have d1 := cellB hg (i := k * 2 + 1) (own_take hcur _ _ hfx.2)
      have htk : l.take (k + 1) = l.take k ++ [x] := by rw [List.take_add_one, hx]; rfl
      have hkl : (l.take k).length < n := by rw [List.length_take]; have := HR.out.2; omega
      obtain ⟨x1, x2⟩ := x
      have HX := Lib.hid (And.intro hJk (And.intro hRk (And.intro hsz (And.intro htk hkl))))
      clear hJk hRk hsz htk hkl hg hcur hfx hx
      simp only at d0 d1
      obtain ⟨wb, hwb⟩ : ∃ wb, wb = wr.alloc (.cells #[.int .i64 x1, .int .i64 x2] 33 (0, 0)) := ⟨_, rfl⟩
      have hCb : Chg [] wr wb := by rw [hwb]; exact (Chg.refl _ _).alloc _
      obtain ⟨fn, tmps, assign, body, hy, hR⟩ := HY.out _ (x1, x2) wb (HJ.out _ _ _ none HX.out.1 hCb.grown (by simp)) HX.out.2.2.2.2
      simp only [encU, msgV] at hy
      rw [hwb] at hy
      gi_wp2
      rw [← hwb]
      refine hR.mono ?_
      rintro e W3 (⟨rfl, hJ3, hK⟩ | ⟨rfl, hJx3⟩)
      · have H3 := Lib.hid (And.intro hJ3 (And.intro hK hCb))
        clear hJ3 hK hCb hy hR hwb d0 d1
        gi_wp2
        go_roundw
        case rel =>
          obtain ⟨hJk, hRk, hsz, htk, hkl⟩ := HX.out
          refine ⟨k + 1, by omega, by go_num, ?_, (hRk.chg H3.out.2.2).kept H3.out.2.1, by have := H3.out.2.1.size; have := H3.out.2.2.size; omega⟩
          rw [htk]
          exact H3.out.1
        case measure => simp [intOf]; omega
      · have HJx3 := Lib.hid hJx3
        clear hJx3 hCb hy hR hwb d0 d1
        gi_wp2
        refine bodyPost_ret (results_none rfl _ _ _) rfl ?_
        obtain ⟨hJk, hRk, hsz, htk, hkl⟩ := HX.out
        refine ⟨⟨_, rfl⟩, .inr ⟨_, ?_, HJx3.out⟩⟩
        rw [← htk]
        exact List.take_prefix _ _
    · have hkk : k = n := by omega
      have HJk := Lib.hid hJk
      clear hJk hRk
      gi_wp2
      go_end0
      refine ⟨⟨_, rfl⟩, .inl ⟨_, rfl, ?_⟩⟩
      have := HJk.out
      rwa [List.take_of_length_le (by rw [← HR.out.2]; omega)] at this

end Go.Proofs.YtiiafhlckmkcnaaGreat
