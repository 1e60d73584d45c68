
/- The wheel: what one that is not there, or a zero one, answers; All, and its closure, which goes over the deadlines (a range over a function). -/
import Derived.Test.YtpaaanjghcloeaaHr
import Derived.RangeFuncNested
import Derived.RangeFuncBound
import Derived.RangeFuncCalls
import Derived.RangeFuncLeaves
import Derived.Shelf.Abstract
import Derived.Shelf.RegionOpen
import Derived.OwnWalkIn
import Derived.TacticsInMore
import Derived.LoopNIn
import Derived.LoopIn
namespace Go.Proofs.Ytpaaanjghcloeaa
open Go.RowKit Go.Shelf

/-! ### One that is not there -/
def NoW (w : World) (v : Value) : Prop := v = .pointer none ∨ ∃ b, v = .pointer (some ⟨b, 0, none⟩) ∧ w.cell? ⟨b, 0, none⟩ = some (.bool false)
theorem NoW.calm {w w' : World} {v : Value} (h : NoW w v) (hC : Chg [] w w') : NoW w' v := by
  rcases h with h | ⟨b, h, hc⟩
  · exact .inl h
  · exact .inr ⟨b, h, cell_kept hc hC (by simp)⟩
theorem isz (v : Value) (w : World) (h : NoW w v) : Calls Try.prog 21 #[v] w fun e w' => e = .returned (.bool false) ∧ w = w' := by
  rcases h with rfl | ⟨b, rfl, hc⟩
  · go_enter Try.func21, Try.ntmps21
    go_wp2
    go_ret
    exact ⟨rfl, rfl⟩
  · go_enter Try.func21, Try.ntmps21
    go_wp2
    go_ret
    exact ⟨rfl, rfl⟩
theorem setz (v : Value) (n t : Int) (w : World) (h : NoW w v) : Calls Try.prog 9 #[v, .int .i64 n, .int .i64 t] w fun e w' => e = .returned (.int .i64 1) ∧ w = w' := by
  have HZ := Lib.hid (isz v w h)
  clear h
  go_enter Try.func9, Try.ntmps9
  go_wp2_with (go_at_call 21; refine HZ.out.mono ?_; rintro e w' ⟨rfl, rfl⟩)
  go_ret
  exact ⟨rfl, rfl⟩
theorem canz (v : Value) (n : Int) (w : World) (h : NoW w v) : Calls Try.prog 10 #[v, .int .i64 n] w fun e w' => e = .returned (.int .i64 1) ∧ w = w' := by
  have HZ := Lib.hid (isz v w h)
  clear h
  go_enter Try.func10, Try.ntmps10
  go_wp2_with (go_at_call 21; refine HZ.out.mono ?_; rintro e w' ⟨rfl, rfl⟩)
  go_ret
  exact ⟨rfl, rfl⟩
theorem lenz (v : Value) (w : World) (h : NoW w v) : Calls Try.prog 18 #[v] w fun e w' => e = .returned (.int .i64 0) ∧ w = w' := by
  have HZ := Lib.hid (isz v w h)
  clear h
  go_enter Try.func18, Try.ntmps18
  go_wp2_with (go_at_call 21; refine HZ.out.mono ?_; rintro e w' ⟨rfl, rfl⟩)
  go_ret
  exact ⟨rfl, rfl⟩
theorem copyz (v : Value) (w : World) (h : NoW w v) : Calls Try.prog 14 #[v] w fun e w' => e = .returned (.pointer none) ∧ w = w' := by
  have HZ := Lib.hid (isz v w h)
  clear h
  go_enter Try.func14, Try.ntmps14
  go_wp2_with (go_at_call 21; refine HZ.out.mono ?_; rintro e w' ⟨rfl, rfl⟩)
  go_ret
  exact ⟨rfl, rfl⟩
theorem duez (v : Value) (n : Int) (w : World) (h : NoW w v) : Calls Try.prog 11 #[v, .int .i64 n] w fun e w' => e = .returned (.slice none 0 0) ∧ Chg [] w w' := by
  have hC : Chg [] w (w.alloc (int64B n)) := (Chg.refl _ _).alloc _
  have HZ := Lib.hid (isz v _ (h.calm hC))
  unfold int64B at HZ
  clear h hC
  go_enter Try.func11, Try.ntmps11
  go_wp2_with (go_at_call 21; refine HZ.out.mono ?_; rintro e w' ⟨rfl, rfl⟩)
  go_ret
  exact ⟨rfl, (Chg.refl _ _).alloc _⟩
theorem hallz (v : Value) (w : World) (h : NoW w v) : Calls Try.prog 32 #[v] w fun e w' => e = .returned (.slice none 0 0) ∧ w = w' := by
  have HZ := Lib.hid (isz v w h)
  clear h
  go_enter Try.func32, Try.ntmps32
  go_wp2_with (go_at_call 21; refine HZ.out.mono ?_; rintro e w' ⟨rfl, rfl⟩)
  go_ret
  exact ⟨rfl, rfl⟩
theorem firstz (v : Value) (w : World) (h : NoW w v) : Calls Try.prog 17 #[v] w fun e w' => e = .returned (.tuple #[.int .i64 0, .int .i64 0, .bool false]) ∧ w = w' := by
  have HZ := Lib.hid (hallz v w h)
  clear h
  go_enter Try.func17, Try.ntmps17
  go_wp2_with (go_at_call 32; refine HZ.out.mono ?_; rintro e w' ⟨rfl, rfl⟩)
  go_ret3
  exact ⟨rfl, rfl⟩
theorem atz' (v : Value) (n : Int) (w : World) (h : NoW w v) : Calls Try.prog 16 #[v, .int .i64 n] w fun e w' => e = .returned (.tuple #[.int .i64 0, .bool false]) ∧ Chg [] w w' := by
  obtain ⟨w1, hw1⟩ : ∃ w1, w1 = w.alloc (intB n) := ⟨_, rfl⟩
  have hC1 : Chg [] w w1 := by rw [hw1]; exact (Chg.refl _ _).alloc _
  have HI := Lib.hid (fun m : Nat => (isz v (w1.drewN m) (h.calm (hC1.drewN m))).mono fun e w' ⟨a, b⟩ => And.intro a b.symm)
  have HC := Lib.hid hC1
  clear h hC1
  unfold intB at hw1
  go_enter Try.func16, Try.ntmps16
  go_wp2
  rw [← hw1]
  clear hw1
  go_quiet ((go_at_call 21; exact Calls.quiet_of_same (HI.out _)))
  go_wp2
  go_ret2
  exact ⟨rfl, HC.out.drewN _⟩
/-- Same, where one of both is not there. -/
theorem samez (v u : Value) (bv bu : Bool) (w : World) (h : bv = false ∨ bu = false) (hv : Calls Try.prog 21 #[v] w fun e w' => e = .returned (.bool bv) ∧ w = w') (hu : Calls Try.prog 21 #[u] w fun e w' => e = .returned (.bool bu) ∧ w = w') :
    Calls Try.prog 15 #[v, u] w fun e w' => e = .returned (.bool (bv == bu)) ∧ w = w' := by
  have HV := Lib.hid hv
  have HU := Lib.hid hu
  clear hv hu
  cases bv with
  | false =>
    cases bu with
    | false =>
      go_enter Try.func15, Try.ntmps15
      go_wp2_with fail
      refine HV.out.mono ?_
      rintro e w' ⟨rfl, rfl⟩
      go_wp2_with fail
      refine HV.out.mono ?_
      rintro e w' ⟨rfl, rfl⟩
      go_wp2_with fail
      refine HU.out.mono ?_
      rintro e w' ⟨rfl, rfl⟩
      go_wp2
      go_ret
      exact ⟨rfl, rfl⟩
    | true =>
      go_enter Try.func15, Try.ntmps15
      go_wp2_with fail
      refine HV.out.mono ?_
      rintro e w' ⟨rfl, rfl⟩
      go_wp2_with fail
      refine HV.out.mono ?_
      rintro e w' ⟨rfl, rfl⟩
      go_wp2_with fail
      refine HU.out.mono ?_
      rintro e w' ⟨rfl, rfl⟩
      go_wp2
      go_ret
      exact ⟨rfl, rfl⟩
  | true =>
    have hb : bu = false := by rcases h with h | h; cases h; exact h
    subst hb
    go_enter Try.func15, Try.ntmps15
    go_wp2_with fail
    refine HV.out.mono ?_
    rintro e w' ⟨rfl, rfl⟩
    go_wp2_with fail
    refine HU.out.mono ?_
    rintro e w' ⟨rfl, rfl⟩
    go_wp2_with fail
    refine HV.out.mono ?_
    rintro e w' ⟨rfl, rfl⟩
    go_wp2_with fail
    refine HU.out.mono ?_
    rintro e w' ⟨rfl, rfl⟩
    go_wp2
    go_ret
    exact ⟨rfl, rfl⟩

/-! ### All -/
/-- All's closure: it has what all() answered. -/
def SeqP (B : Nat) (l : HL) (w : World) (e : Ending) (w' : World) : Prop :=
  ∃ bl v, e = .returned (.func (.func 36) #[] #[.pointer (some ⟨bl, 0, none⟩)]) ∧ w'.heap[bl]? = some (.cells #[v] 47 (0, 0)) ∧ w'.ownsRow B 65 3 v l.length (flatH l) ∧ B ≤ bl ∧ Chg [] w w'
theorem seqc (v : Value) (l : HL) (w : World) (hA : Calls Try.prog 32 #[v] w fun e w' => OwnH w.heap.size w' l w e) : Calls Try.prog 19 #[v] w (SeqP w.heap.size l w) := by
  have HA := Lib.hid hA
  clear hA
  go_enter Try.func19, Try.ntmps19
  go_wp2_with fail
  refine HA.out.mono ?_
  rintro e w1 ⟨u, rfl, ho, hC⟩
  obtain ⟨a, cap, rfl, _⟩ := IsT.of_own ho
  have H1 := Lib.hid (And.intro ho hC)
  clear ho hC
  go_wp2
  go_ret
  exact ⟨w1.heap.size, _, rfl, heap_alloc_eq w1 _, H1.out.1.alloc _, H1.out.2.size, H1.out.2.alloc _⟩
theorem seqz (v : Value) (w : World) (h : NoW w v) : Calls Try.prog 19 #[v] w (SeqP w.heap.size [] w) :=
  seqc v [] w ((hallz v w h).mono fun e w' ⟨he, hw⟩ => by subst hw; exact ⟨_, he, World.ownsRow_nil .., Chg.refl _ _⟩)

/-- Cells of a type that is not among Ts, a map, or what goes over one. -/
def keepC (Ts : List TypeId) : Obj → Bool
  | .cells _ e _ => !Ts.contains e
  | o => o.isWalk
/-- What a round that goes on keeps: all of that kind, but the blocks of S. -/
structure KpS (S : List Nat) (Ts : List TypeId) (W W' : World) : Prop where
  os : W'.os = W.os
  tape : W'.tape = W.tape
  output : W'.output = W.output
  size : W.heap.size ≤ W'.heap.size
  same : ∀ k o, W.heap[k]? = some o → k ∉ S → keepC Ts o = true → W'.heap[k]? = some o
theorem KpS.trans {S : List Nat} {Ts : List TypeId} {A B C : World} (h : KpS S Ts A B) (g : KpS S Ts B C) : KpS S Ts A C :=
  ⟨g.os.trans h.os, g.tape.trans h.tape, g.output.trans h.output, Nat.le_trans h.size g.size, fun k o hk hn ho => g.same k o (h.same k o hk hn ho) hn ho⟩
theorem KpS.put {S : List Nat} {Ts : List TypeId} {W : World} {l : Nat} {o : Obj} (o' : Obj) (hl : W.heap[l]? = some o) (h1 : o.isCells = false) (h2 : o.isWalk = false) : KpS S Ts W (W.putObj l o') := by
  have hg := grownBy_putObj' W l o'
  refine ⟨hg.os, hg.tape, hg.output, hg.size, fun k x hk _ hx => ?_⟩
  refine (hg.block k (lt_of_blk hk) (fun e => ?_)).trans hk
  cases e
  rw [hl] at hk
  cases hk
  cases o <;> simp [keepC, Obj.isCells, Obj.isWalk] at hx h1 h2
theorem KpS.chg {S S2 : List Nat} {Ts : List TypeId} {W W' : World} (h : Chg S2 W W') (hS : ∀ k ∈ S2, k ∈ S ∨ ∀ o, W.heap[k]? = some o → keepC Ts o = false) : KpS S Ts W W' :=
  ⟨h.os, h.tape, h.output, h.size, fun k o hk hn ho => h.blk hk (fun hm => by
    rcases hS k hm with h1 | h1
    · exact hn h1
    · rw [h1 o hk] at ho; cases ho)⟩
theorem KpS.blk {S : List Nat} {Ts : List TypeId} {W W' : World} {k : Nat} {cs : Array Value} {e : TypeId} {fr : Nat × Nat} (h : KpS S Ts W W') (hb : W.heap[k]? = some (.cells cs e fr)) (hn : k ∉ S) (he : e ∉ Ts) : W'.heap[k]? = some (.cells cs e fr) :=
  h.same k _ hb hn (by simpa [keepC] using he)
theorem own_keptK {S : List Nat} {Ts : List TypeId} {w w' : World} {B : Nat} {e : TypeId} {size : Nat} {v : Value} {n : Nat} {xs : List Value} (h : w.ownsRow B e size v n xs) (hC : KpS S Ts w w') (hS : ∀ k ∈ v.ownBlock.toList, k ∉ S) (hT : e ∉ Ts) : w'.ownsRow B e size v n xs := by
  refine ⟨h.1, ?_⟩
  rcases h.2 with h2 | ⟨g, cap, cur, rfl, h4, h5, h6⟩
  · exact .inl h2
  · exact .inr ⟨g, cap, cur, rfl, h4, hC.blk h5 (hS g (by simp [Value.ownBlock])) hT, h6⟩
theorem Chg.grown {w w' : World} (h : Chg [] w w') : w.grownBy w' none := ⟨h.os, h.tape, h.output, h.size, fun k hk _ => h.block k hk (by simp)⟩
theorem ownFrom_blk {β : Type} (B k : Nat) (cs : Array Value) (T : TypeId) (fr : Nat × Nat) : OwnFrom B (fun (_ : β) W => W.heap[k]? = some (.cells cs T fr)) := fun _ W W' row h hg hr => by
  refine (hg.block k (lt_of_blk h) (fun e => ?_)).trans h
  obtain ⟨_, o, ho, hc⟩ := hr k e.symm
  rw [h] at ho
  cases ho
  cases hc
theorem keepsFrom_chg {B : Nat} {S : List Nat} {W W' : World} (h : Chg S W W') (hS : ∀ k ∈ S, ∀ o, W.heap[k]? = some o → o.isCells = true) : KeepsFrom B W W' :=
  ⟨h.size, fun k o _ hk ho => h.blk hk (fun hm => by rw [hS k hm o hk] at ho; cases ho)⟩
def encH (x : Int × Int) : Array Value := #[.int .i64 x.1, .int .i64 x.2]

attribute [local go_sem] Oper.semAt_some
set_option maxRecDepth 100000 in
set_option maxHeartbeats 1000000 in
theorem all1_stops (S : List Nat) (Ts : List TypeId) (hT1 : 65 ∉ Ts) (bw : Nat) (v : Value) (B : Nat) (l : HL) (w : World) (hbw : w.heap[bw]? = some (.cells #[v] 47 (0, 0)))
    (hO : w.ownsRow B 65 3 v l.length (flatH l)) (hl : l.length ≤ 1000000) (h2 : ∀ k ∈ v.ownBlock.toList, k ∉ S) :
    SeqStopsK Fence.wide 4 Try.prog 36 #[.pointer (some ⟨bw, 0, none⟩)] encH (KpS S Ts) (fun xs => xs = l.map keyH) (fun pre => pre <+: l.map keyH) l.length w := fun l0 J Jx W hBW hJ hJx hY h0 => by
  have hOW := own_kept hO (S := []) ⟨hBW.os, hBW.tape, hBW.output, hBW.size, fun k hk _ => hBW.block k hk⟩ (by simp)
  have hbW : W.heap[bw]? = some (.cells #[v] 47 (0, 0)) := (hBW.block bw (lt_of_blk hbw)).trans hbw
  obtain ⟨a, cap, rfl, _⟩ := IsT.of_own hO
  have cb := cellB hbW (i := 0) rfl
  refine callsIn_of_wp Try.func36 rfl trivial ?_ rfl
  simp only [Try.ntmps36, List.size_toArray, List.length_cons, List.length_nil, Nat.reduceAdd, Nat.reduceSub, Array.replicate_succ, Array.replicate_zero, List.push_toArray, List.append_toArray, List.nil_append, List.cons_append]
  obtain ⟨n, hn⟩ : ∃ n, n = l.length := ⟨_, rfl⟩
  rw [← hn] at hl hOW cb hbW h2
  have H := Lib.hid (And.intro hOW (And.intro hn hbW))
  have HJ := Lib.hid hJ
  have HJx := Lib.hid hJx
  have HY := Lib.hid hY
  have H2 := Lib.hid h2
  clear hOW hn hJ hJx hY hbw hbW hBW hO h2
  refine ?_
  gi_wp2
  gi_loopw [7] (fun i wr => ∃ k : Nat, k ≤ n ∧ i = .int .i64 k ∧ J ((l.map keyH).take k) wr ∧ wr.ownsRow B 65 3 (.slice a n cap) n (flatH l) ∧ W.heap.size ≤ wr.heap.size) (fun i _ => n - (intOf i).toNat)
  case atStart => exact ⟨0, by omega, rfl, by simpa using h0, H.out.1, Nat.le_refl _⟩
  case round =>
    obtain ⟨k, hk, rfl, hJk, hok, hsz⟩ := hrel
    by_cases hlt : k < n
    · have hkl : k < l.length := by have := H.out.2.1; omega
      obtain ⟨x, hx⟩ : ∃ x, l[k]? = some x := ⟨_, List.getElem?_eq_getElem hkl⟩
      obtain ⟨g, rfl, hd⟩ : ∃ g, a = some ⟨g, 0, none⟩ ∧ ∀ j y, l[j]? = some y → wr.cell? ⟨g, j * 3, none⟩ = some (.int .i64 y.1) ∧ wr.cell? ⟨g, j * 3 + 1, none⟩ = some (.int .i64 y.2.1) ∧ wr.cell? ⟨g, j * 3 + 2, none⟩ = some (.int .i64 y.2.2) := by
        have h3 := hok
        rw [H.out.2.1] at h3
        obtain ⟨a', cap', e, hT⟩ := IsT.of_own h3
        simp only [Value.slice.injEq] at e
        obtain ⟨rfl, _, rfl⟩ := e
        obtain ⟨g, e, hd⟩ := hT.resolve_left (fun e => by subst e; simp at hx)
        exact ⟨g, e, hd⟩
      obtain ⟨d0, d1, d2⟩ := hd k x hx
      have htk : (l.map keyH).take (k + 1) = (l.map keyH).take k ++ [keyH x] := by
        rw [List.take_add_one, List.getElem?_map, hx]; rfl
      obtain ⟨x1, x2, x3⟩ := x
      dsimp only at d0 d1 d2
      have hCa : Chg [] wr (wr.alloc (.cells #[.int .i64 x1, .int .i64 x2, .int .i64 x3] 65 (0, 0))) := (Chg.refl _ _).alloc _
      obtain ⟨fn, tmps, assign, body, hy, hR⟩ := HY.out _ (keyH (x1, x2, x3)) _ (HJ.out _ _ _ none hJk hCa.grown (by simp)) (by rw [List.length_take, List.length_map]; omega)
      simp only [encH, keyH] at hy
      have HX := Lib.hid (And.intro hJk (And.intro hok (And.intro hsz (And.intro htk (And.intro hkl hCa)))))
      have HR := Lib.hid hR
      clear hJk hok hsz htk hkl hx hd hCa hR
      gi_wp2
      refine HR.out.mono ?_
      rintro e W3 (⟨rfl, hJ3, hK⟩ | ⟨rfl, hJx3⟩)
      · have HJ3 := Lib.hid hJ3
        have HK := Lib.hid hK
        clear hJ3 hK hy
        gi_wp2
        go_roundw
        case rel =>
          obtain ⟨hJk, hok, hsz, htk, hkl, hCa⟩ := HX.out
          refine ⟨k + 1, by omega, by go_num, ?_, own_keptK (own_kept hok hCa (by simp)) HK.out H2.out hT1, by have := HK.out.size; have := hCa.size; omega⟩
          rw [htk]; exact HJ3.out
        case measure => simp [intOf]; omega
      · have HJx3 := Lib.hid hJx3
        clear hJx3 hy
        gi_wp2
        refine bodyPost_ret (results_none rfl _ _ _) rfl ?_
        obtain ⟨hJk, hok, hsz, htk, hkl, hCa⟩ := HX.out
        refine ⟨⟨_, rfl⟩, .inr ⟨_, ?_, HJx3.out⟩⟩
        rw [← htk]
        exact List.take_prefix _ _
    · have hkk : k = n := by omega
      have HJk := Lib.hid hJk
      clear hJk hok
      gi_wp2
      go_end0
      refine ⟨⟨_, rfl⟩, .inl ⟨_, rfl, ?_⟩⟩
      have := HJk.out
      rwa [List.take_of_length_le (by rw [List.length_map]; have := H.out.2.1; omega)] at this

end Go.Proofs.Ytpaaanjghcloeaa
