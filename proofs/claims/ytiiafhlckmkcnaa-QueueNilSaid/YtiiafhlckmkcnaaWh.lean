
/- Package waits: List; All's closure goes over the list (a range over a function). -/
import Derived.Test.YtiiafhlckmkcnaaWg
import Derived.RangeFuncNested
import Derived.RangeFuncBound
import Derived.RangeFuncCalls
import Derived.RangeFuncLeaves
import Derived.Shelf.Abstract
import Derived.Shelf.RegionOpen
import Derived.OwnWalkIn
import Derived.TacticsInMore
import Derived.LoopNIn
import Derived.LoopIn
namespace Go.Proofs.Ytiiafhlckmkcnaa
open Go.RowKit Go.Shelf
attribute [local go_sem] Oper.semAt_some

/-- A list of ints of the call's own comes back. -/
def IntsPost (ts : List Int) (w : World) (e : Ending) (w' : World) : Prop :=
  ∃ v, e = .returned v ∧ w'.ownsRow w.heap.size 3 1 v ts.length (ts.map (Value.int .i64)) ∧ Chg [] w w'

set_option maxRecDepth 100000 in
set_option maxHeartbeats 400000 in
theorem list_any (ab mb : Nat) (n : Int) (L1 : List W1) (w : World) (hW : WIn w ab mb n L1) :
    Calls Try.prog 51 #[.pointer (some ⟨ab, 0, none⟩)] w (IntsPost (ordT (L1.map W1.pair)) w) := by
  have eg : ∀ args w, (callFunc 66 args).run Try.prog w = .ok (.enter 66 args) w := enters_of Try.func66 (by kernel_rfl) rfl
  have hs := sorted_any 66 cfL list1_any eg ab mb n L1 w hW (swo_list L1)
  have HS := Lib.hid hs
  have HW := Lib.hid hW
  clear eg hs hW
  go_enter Try.func51, Try.ntmps51
  go_wp2_with (go_at_call 58; refine HS.out.mono ?_; rintro e w' ⟨v, ts, rfl, hp, hs, ho, hC⟩)
  go_ret
  rw [sorted_is HW.out hp (by simpa using hs)] at ho
  exact ⟨v, rfl, ho, hC⟩

/-- Cells of a type that is not among Ts, a map, or what goes over one. -/
def keepT (Ts : List TypeId) : Obj → Bool
  | .cells _ e _ => !Ts.contains e
  | o => o.isWalk

/-- What a round that goes on keeps: all of that kind, but the blocks of S. -/
structure KpS (S : List Nat) (Ts : List TypeId) (W W' : World) : Prop where
  os : W'.os = W.os
  tape : W'.tape = W.tape
  output : W'.output = W.output
  size : W.heap.size ≤ W'.heap.size
  same : ∀ k o, W.heap[k]? = some o → k ∉ S → keepT Ts o = true → W'.heap[k]? = some o
theorem KpS.refl (S : List Nat) (Ts : List TypeId) (W : World) : KpS S Ts W W := ⟨rfl, rfl, rfl, Nat.le_refl _, fun _ _ h _ _ => h⟩
theorem KpS.trans {S : List Nat} {Ts : List TypeId} {A B C : World} (h : KpS S Ts A B) (g : KpS S Ts B C) : KpS S Ts A C :=
  ⟨g.os.trans h.os, g.tape.trans h.tape, g.output.trans h.output, Nat.le_trans h.size g.size, fun k o hk hn ho => g.same k o (h.same k o hk hn ho) hn ho⟩
theorem KpS.put {S : List Nat} {Ts : List TypeId} {W : World} {l : Nat} {o : Obj} (o' : Obj) (hl : W.heap[l]? = some o) (h1 : o.isCells = false) (h2 : o.isWalk = false) : KpS S Ts W (W.putObj l o') := by
  have hg := grownBy_putObj' W l o'
  refine ⟨hg.os, hg.tape, hg.output, hg.size, fun k x hk _ hx => ?_⟩
  refine (hg.block k (lt_of_blk hk) (fun e => ?_)).trans hk
  cases e
  rw [hl] at hk
  cases hk
  cases o <;> simp [keepT, Obj.isCells, Obj.isWalk] at hx h1 h2
/-- A step that turns blocks of S, or of a type among Ts. -/
theorem KpS.chg {S S2 : List Nat} {Ts : List TypeId} {W W' : World} (h : Chg S2 W W') (hS : ∀ k ∈ S2, k ∈ S ∨ ∀ o, W.heap[k]? = some o → keepT Ts o = false) : KpS S Ts W W' :=
  ⟨h.os, h.tape, h.output, h.size, fun k o hk hn ho => h.blk hk (fun hm => by
    rcases hS k hm with h1 | h1
    · exact hn h1
    · rw [h1 o hk] at ho; cases ho)⟩
theorem KpS.blk {S : List Nat} {Ts : List TypeId} {W W' : World} {k : Nat} {cs : Array Value} {e : TypeId} {fr : Nat × Nat} (h : KpS S Ts W W') (hb : W.heap[k]? = some (.cells cs e fr)) (hn : k ∉ S) (he : e ∉ Ts) : W'.heap[k]? = some (.cells cs e fr) :=
  h.same k _ hb hn (by simpa [keepT] using he)
theorem WIn.keptK {S : List Nat} {Ts : List TypeId} {w w' : World} {ab mb : Nat} {n : Int} {L1 : List W1} (h : WIn w ab mb n L1) (hC : KpS S Ts w w') (ha : ab ∉ S) (hm : mb ∉ S) (hT : 78 ∉ Ts) : WIn w' ab mb n L1 := by
  obtain ⟨M, ⟨es, cl, hb, hE⟩, hp⟩ := h.map
  exact ⟨hC.blk h.head ha hT, ⟨M, ⟨es, cl, hC.same _ _ hb hm rfl, hE⟩, hp⟩, h.ok, h.came, h.low⟩
theorem own_keptK {S : List Nat} {Ts : List TypeId} {w w' : World} {B : Nat} {e : TypeId} {size : Nat} {v : Value} {n : Nat} {xs : List Value} (h : w.ownsRow B e size v n xs) (hC : KpS S Ts w w') (hS : ∀ k ∈ S, k < B) (hT : e ∉ Ts) : w'.ownsRow B e size v n xs := by
  refine ⟨h.1, ?_⟩
  rcases h.2 with h2 | ⟨g, cap, cur, rfl, h4, h5, h6⟩
  · exact .inl h2
  · exact .inr ⟨g, cap, cur, rfl, h4, hC.blk h5 (fun hm => by have := hS g hm; omega) hT, h6⟩
theorem Chg.grown {w w' : World} (h : Chg [] w w') : w.grownBy w' none := ⟨h.os, h.tape, h.output, h.size, fun k hk _ => h.block k hk (by simp)⟩

theorem own_some {w : World} {B : Nat} {e : TypeId} {v : Value} {xs : List Value} {n : Nat} (h : w.ownsRow B e 1 v n xs) (hn : n ≠ 0) : ∃ g cap, v = .slice (some ⟨g, 0, none⟩) n cap ∧ B ≤ g ∧ g < w.heap.size ∧ ∀ j u, xs[j]? = some u → w.cell? ⟨g, j, none⟩ = some u := by
  rcases h.2 with ⟨_, h2⟩ | ⟨g, cap, cur, rfl, h4, h5, h6, h7, h8, h9⟩
  · exact absurd h2 hn
  · refine ⟨g, cap, rfl, h4, lt_of_blk h5, fun j u hj => ?_⟩
    refine cellB h5 ?_
    rw [← h9] at hj
    rw [List.getElem?_take] at hj
    split at hj
    · simpa using hj
    · cases hj
theorem own_none {w : World} {B : Nat} {e : TypeId} {v : Value} {xs : List Value} {n : Nat} (h : w.ownsRow B e 1 v n xs) : ∃ a cap, v = .slice a n cap := by
  rcases h.2 with ⟨h1, h2⟩ | ⟨g, cap, cur, rfl, _⟩
  · exact ⟨none, 0, by rw [h1, h2]⟩
  · exact ⟨_, _, rfl⟩

def encW (x : Int × Int) : Array Value := #[.agg #[.int .i64 x.1, .int .i64 x.2]]

theorem ordL_mem {L : WL} {x : Int × Int} (h : x ∈ ordL L) : x ∈ L := by
  obtain ⟨i, _, hx⟩ := List.mem_flatMap.1 h
  exact (List.mem_filter.1 hx).1
theorem prioR_mem : ∀ {L : WL}, (L.map (·.1)).Nodup → ∀ {x : Int × Int}, x ∈ L → prioR L x.1 = x.2
  | [], _, _, hx => by cases hx
  | (t, p) :: L, hn, x, hx => by
    have hn' := List.nodup_cons.1 hn
    unfold prioR
    rw [List.lookup_cons]
    rcases List.mem_cons.1 hx with rfl | hx1
    · simp
    · have : (x.1 == t) = false := by
        have : x.1 ≠ t := fun e => hn'.1 (List.mem_map.2 ⟨x, hx1, e⟩)
        simpa using this
      rw [this]
      exact prioR_mem hn'.2 hx1
theorem pair_nodup {L1 : List W1} (h : (L1.map W1.t).Nodup) : ((L1.map W1.pair).map (·.1)).Nodup := by
  rw [List.map_map]; exact h

set_option maxRecDepth 100000 in
set_option maxHeartbeats 1000000 in
theorem all1_stops (S : List Nat) (Ts : List TypeId) (hT1 : 3 ∉ Ts) (hT2 : 52 ∉ Ts) (hT3 : 78 ∉ Ts) (bw ab mb : Nat) (n : Int) (L1 : List W1) (w : World) (hS : ∀ k ∈ S, k < w.heap.size) (hbw : w.heap[bw]? = some (.cells #[.pointer (some ⟨ab, 0, none⟩)] 52 (0, 0)))
    (hW : WIn w ab mb n L1) (h1 : bw ∉ S) (h2 : ab ∉ S) (h3 : mb ∉ S) :
    SeqStopsK Fence.wide 4 Try.prog 73 #[.pointer (some ⟨bw, 0, none⟩)] encW (KpS S Ts) (fun xs => xs = ordL (L1.map W1.pair)) (fun pre => pre <+: ordL (L1.map W1.pair)) (ordL (L1.map W1.pair)).length w := fun l J Jx W hBW hJ hJx hY h0 => by
  have hWW : WIn W ab mb n L1 := hW.kept (S := []) ⟨hBW.os, hBW.tape, hBW.output, hBW.size, fun k hk _ => hBW.block k hk⟩ (by simp) (by simp)
  have hbW : W.heap[bw]? = some (.cells #[.pointer (some ⟨ab, 0, none⟩)] 52 (0, 0)) := (hBW.block bw (lt_of_blk hbw)).trans hbw
  have hls := list_any ab mb n L1 W hWW
  have cb := cellB hbW (i := 0) rfl
  refine callsIn_of_wp Try.func73 rfl trivial ?_ rfl
  simp only [Try.ntmps73, List.size_toArray, List.length_cons, List.length_nil, Nat.reduceAdd, Nat.reduceSub, Array.replicate_succ, Array.replicate_zero, List.push_toArray, List.append_toArray, List.nil_append, List.cons_append]
  have HL := Lib.hid hls
  have HS := Lib.hid hS
  have HW := Lib.hid hWW
  have HB := Lib.hid hbW
  have HBW := Lib.hid hBW.size
  have HJ := Lib.hid hJ
  have HJx := Lib.hid hJx
  have HY := Lib.hid hY
  clear hls hW hWW hbw hbW hBW hS hJ hJx hY
  refine ?_
  by_cases hnil : ordT (L1.map W1.pair) = []
  · have hnl : ordL (L1.map W1.pair) = [] := by
      unfold ordT at hnil
      exact List.map_eq_nil_iff.1 hnil
    rw [hnil] at HL
    clear hnil
    gi_wp2_with (refine ⟨trivial, ?_⟩; gi_at_call 51; refine (callsIn_wide.2 HL.out).mono ?_; rintro e w' ⟨v, rfl, ho, hC⟩; obtain ⟨a, cap, rfl⟩ := own_none ho)
    have HC := Lib.hid hC
    have HN := Lib.hid hnl
    clear hC ho hnl
    refine wpIn_loop_rounds 1 ?_
    rw [roundsIn_succ]
    gi_wp2
    go_end0
    exact ⟨⟨_, rfl⟩, .inl ⟨_, rfl, by rw [HN.out]; exact HJ.out _ W w' none h0 HC.out.grown (by simp)⟩⟩
  · gi_wp2_with (refine ⟨trivial, ?_⟩; gi_at_call 51; refine (callsIn_wide.2 HL.out).mono ?_; rintro e w' ⟨v, rfl, ho, hC⟩; obtain ⟨g, cap, rfl, hg⟩ := own_some ho (by simpa using hnil))
    have HO := Lib.hid ho
    have HC := Lib.hid hC
    have hlen : (ordT (L1.map W1.pair)).length = (ordL (L1.map W1.pair)).length := by unfold ordT; simp
    have hfew : (ordT (L1.map W1.pair)).length ≤ 16 := by
      have h1 := (ord1_perm (fun x hx => (HW.out.ok x hx).2.1)).length_eq
      rw [hlen, ← ord1_pair, List.length_map, h1]
      exact HW.out.few
    generalize hT : (ordT (L1.map W1.pair)).length = len at *
    have HT := Lib.hid hT
    have HLen := Lib.hid hlen
    clear ho hC hT hlen cb
    gi_loopw [10] (fun i wr => ∃ k : Nat, k ≤ len ∧ i = .int .i64 k ∧ J ((ordL (L1.map W1.pair)).take k) wr ∧ WIn wr ab mb n L1 ∧ wr.heap[bw]? = some (.cells #[.pointer (some ⟨ab, 0, none⟩)] 52 (0, 0)) ∧
        wr.ownsRow W.heap.size 3 1 (.slice (some ⟨g, 0, none⟩) len cap) len ((ordT (L1.map W1.pair)).map (Value.int .i64)) ∧ W.heap.size ≤ wr.heap.size)
      (fun i _ => len - (intOf i).toNat)
    case atStart => exact ⟨0, by omega, rfl, by simpa using HJ.out _ W w' none h0 HC.out.grown (by simp), HW.out.kept HC.out (by simp) (by simp), HC.out.blk HB.out (by simp), HO.out, HC.out.size⟩
    case round =>
      obtain ⟨k, hk, rfl, hJk, hWk, hbk, hok, hsz⟩ := hrel
      by_cases hlt : k < len
      · obtain ⟨_, _, hge, _, _, hcell⟩ := own_some hok (by omega)
        cases hge
        have hkl : k < (ordL (L1.map W1.pair)).length := by rw [← HLen.out]; exact hlt
        obtain ⟨x, hx⟩ : ∃ x, (ordL (L1.map W1.pair))[k]? = some x := ⟨_, List.getElem?_eq_getElem hkl⟩
        have hxt : ((ordT (L1.map W1.pair)).map (Value.int .i64))[k]? = some (.int .i64 x.1) := by
          unfold ordT
          rw [List.map_map, List.getElem?_map, hx]
          rfl
        have hck := hcell k _ hxt
        have hpr : prioR (L1.map W1.pair) x.1 = x.2 := prioR_mem (pair_nodup HW.out.nodup) (ordL_mem (List.mem_of_getElem? hx))
        have hP := prio_any ab mb n L1 x.1 wr hWk
        rw [hpr] at hP
        have cb := cellB hbk (i := 0) rfl
        have htk : (ordL (L1.map W1.pair)).take (k + 1) = (ordL (L1.map W1.pair)).take k ++ [x] := by
          rw [List.take_add_one, hx]; rfl
        obtain ⟨t, p⟩ := x
        generalize ((L1.map W1.pair).lookup t).isSome = bs at hP
        have HX := Lib.hid (And.intro hJk (And.intro hWk (And.intro hbk (And.intro hok (And.intro hsz (And.intro htk (And.intro hkl hx)))))))
        have HP := Lib.hid hP
        clear hJk hWk hbk hok hsz htk hkl hP hpr hxt hcell hx
        simp only at hck HP
        gi_wp2_with (refine ⟨trivial, ?_⟩; gi_at_call 65; refine (callsIn_wide.2 HP.out).mono ?_; rintro e w2 ⟨rfl, hC2⟩; obtain ⟨fn, tmps, assign, body, hy, hR⟩ := HY.out _ (t, p) w2 (HJ.out _ _ _ none HX.out.1 hC2.grown (by simp)) (by have := HX.out.2.2.2.2.2.2.1; rw [List.length_take]; omega); simp only [encW] at hy)
        refine hR.mono ?_
        rintro e W3 (⟨rfl, hJ3, hK⟩ | ⟨rfl, hJx3⟩)
        · have HJ3 := Lib.hid hJ3
          have HK := Lib.hid hK
          have HC2 := Lib.hid hC2
          clear hJ3 hK hC2 hy hR hck
          gi_wp2
          go_roundw
          case rel =>
            obtain ⟨hJk, hWk, hbk, hok, hsz, htk, hkl, hx⟩ := HX.out
            refine ⟨k + 1, by omega, by go_num, ?_, (hWk.kept HC2.out (by simp) (by simp)).keptK HK.out h2 h3 hT3, HK.out.blk (HC2.out.blk hbk (by simp)) h1 hT2, own_keptK (own_kept hok HC2.out (by simp)) HK.out (fun j hj => by have := HS.out j hj; have := HBW.out; omega) hT1, by have := HK.out.size; have := HC2.out.size; omega⟩
            rw [htk]; exact HJ3.out
          case measure => simp [intOf]; omega
        · have HJx3 := Lib.hid hJx3
          clear hJx3 hC2 hy hR hck
          gi_wp2
          refine bodyPost_ret (results_none rfl _ _ _) rfl ?_
          obtain ⟨hJk, hWk, hbk, hok, hsz, htk, hkl, hx⟩ := HX.out
          refine ⟨⟨_, rfl⟩, .inr ⟨_, ?_, HJx3.out⟩⟩
          rw [← htk]
          exact List.take_prefix _ _
      · have hkk : k = len := by omega
        have HJk := Lib.hid hJk
        clear hJk hWk hbk hok
        gi_wp2
        go_end0
        refine ⟨⟨_, rfl⟩, .inl ⟨_, rfl, ?_⟩⟩
        have := HJk.out
        rwa [List.take_of_length_le (by rw [← HLen.out]; omega)] at this

end Go.Proofs.Ytiiafhlckmkcnaa
