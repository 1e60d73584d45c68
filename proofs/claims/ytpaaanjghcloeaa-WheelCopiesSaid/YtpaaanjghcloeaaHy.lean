
/- metronomelaw07.WheelPlays: the walk. -/
import Derived.Test.YtpaaanjghcloeaaHx
import Derived.Test.YtpaaanjghcloeaaHr
import Derived.Test.YtpaaanjghcloeaaRow
namespace Go.Proofs.Ytpaaanjghcloeaa
open Go.RowKit

theorem wpList_build00 {P : Program} {ops : Array Oper} {rest : List Oper} {op : Oper} {a : Act} {w : World} {Q : Exit → Act → World → Prop} (hgd : op.guard = none) (ty : TypeId) (ho : op.op = .build ty #[]) (v : Value)
    (hr : (Instr.build ty #[]).run P w = .ok v w) (h : wpList P ops Q rest (a.put op.dst v) w) : wpList P ops Q (op :: rest) a w := by
  refine wpList_plain hgd fun K hK => ?_
  unfold Oper.wp execOp
  simp only [ho, List.map_toArray, List.map_nil, Sem.run_bind, hr, Result.andThen_ok, Sem.run_pure]
  exact hK _ _ h
theorem buildR (w : World) : (Instr.build 39 #[]).run Try.prog w = .ok (.agg #[.slice none 0 0]) w := by kernel_rfl

/-- What stands in memory between the steps. -/
structure PlP (w : World) (b : Nat) (vs : List Value) (rb : Nat) (s : HS) (w' : World) : Prop where
  ph : PH w' b vs rb s
  chg : Chg [] w w'
  own : ∀ x ∈ blocksH b vs, w.heap.size ≤ x
  ro : w.heap.size ≤ rb
theorem PlP.calm {w w1 w2 : World} {b : Nat} {vs : List Value} {rb : Nat} {s : HS} (h : PlP w b vs rb s w1) (hC : Chg [] w1 w2) : PlP w b vs rb s w2 :=
  ⟨h.ph.calm hC, h.chg.trans hC, h.own, h.ro⟩
theorem PlP.next {w w1 w2 : World} {b : Nat} {vs : List Value} {rb : Nat} {s s' : HS} {e : Ending} (h : PlP w b vs rb s w1) (hN : DoH b vs rb s' w1 e w2) : ∃ vs', PlP w b vs' rb s' w2 := by
  obtain ⟨_, vs', hP, hC, hB⟩ := hN
  refine ⟨vs', hP, h.chg.trans' hC (fun x hx => .inr ?_), fun x hx => ?_, h.ro⟩
  · rcases List.mem_cons.1 hx with rfl | hx
    · exact h.ro
    · exact h.own x hx
  · rcases hB x hx with h1 | h1
    · exact h.own x h1
    · exact Nat.le_trans h.chg.size h1
theorem QAt.new {w : World} {rb : Nat} (h : w.heap[rb]? = some (.cells #[.slice none 0 0] 39 (0, 0))) : QAt w rb [] :=
  ⟨_, h, World.ownsRow_nil ..⟩
theorem newPH {w : World} {b : Nat} (hA : HAt w b vs0 hs0) {W : World} (hW : W = w.alloc (.cells #[.slice none 0 0] 39 (0, 0))) : PH W b vs0 w.heap.size hs0 := by
  subst hW
  exact ⟨hA.calm ((Chg.refl _ _).alloc _), QAt.new (heap_alloc_eq w _)⟩

set_option maxRecDepth 100000 in
set_option maxHeartbeats 8000000 in
theorem wheelPlays_any (v0 : Value) (z1 z2 : Int) (R : List (Nat → Int)) (w : World) (h0 : IsRows 3 w v0 R) :
    Calls Try.prog 4 #[v0, .int .i64 z1, .int .i64 z2] w fun e w' => e = .returned (.bool true) ∧ Chg [] w w' := by
  obtain ⟨a0, cap0, rfl⟩ := h0.slice
  obtain ⟨N, hN⟩ : ∃ N, N = R.length := ⟨_, rfl⟩
  rw [← hN] at h0 ⊢
  have H0 := Lib.hid (And.intro h0 hN)
  clear h0 hN
  by_cases hbig : (200 : Int) < (N : Int)
  · have d1 : decide ((200 : Int) < (N : Int)) = true := by simpa using hbig
    clear hbig
    go_enter Try.func4, Try.ntmps4
    go_wp2_with fail
    refine (knownc w).mono ?_
    rintro e w' ⟨rfl, hC⟩
    have HC := Lib.hid hC
    clear hC
    go_wp2
    go_ret
    exact ⟨rfl, HC.out⟩
  · have d1 : decide ((200 : Int) < (N : Int)) = false := by simpa using hbig
    have hN1 : N ≤ 200 := by omega
    clear hbig
    go_enter Try.func4, Try.ntmps4
    go_wp2_with fail
    refine (newc w).mono ?_
    rintro e w1 ⟨b, rfl, hb, hA, hC⟩
    obtain ⟨rb, hrb⟩ : ∃ rb, rb = w1.heap.size := ⟨_, rfl⟩
    obtain ⟨w3, hw3⟩ : ∃ w3, w3 = w1.alloc (.cells #[.slice none 0 0] 39 (0, 0)) := ⟨_, rfl⟩
    have hP0 : PlP w b vs0 rb hs0 w3 := by
      have hs := hC.size
      refine ⟨by rw [hrb]; exact newPH hA hw3, hC.trans (by rw [hw3]; exact (Chg.refl _ _).alloc _), fun x hx => by rw [blocks0] at hx; simp at hx; omega, by omega⟩
    have HP0 := Lib.hid hP0
    clear hA hC hP0 hb
    go_wp2_with (refine wpList_build00 (P := Try.prog) rfl 39 rfl _ (buildR _) ?_)
    rw [← hw3, ← hrb]
    clear hw3 hrb
    go_loopw [9] (fun i wr => ∃ k : Nat, k ≤ N ∧ i = .int .i64 k ∧ ∃ vs s, PlP w b vs rb s wr ∧ s.c ≤ k) (fun i _ => N - (intOf i).toNat)
    case atStart => exact ⟨0, by omega, rfl, vs0, hs0, HP0.out, by simp [hs0]⟩
    case round =>
      obtain ⟨k, hk, rfl, vs, s, hP, hc⟩ := hrel
      by_cases hlt : k < N
      · obtain ⟨x, hx⟩ : ∃ x, R[k]? = some x := ⟨_, List.getElem?_eq_getElem (by have := H0.out.2; omega)⟩
        obtain ⟨g, o, cp, hg, hd⟩ := (show IsRows 3 w (.slice a0 R.length cap0) R from by rw [← H0.out.2]; exact H0.out.1).addr (fun e => by rw [e] at hx; simp at hx)
        cases hg
        have hrow := IsRows.row hd hP.chg hx
        have d0 := hrow 0 (by omega)
        have d1' := hrow 1 (by omega)
        have d2' := hrow 2 (by omega)
        rw [Nat.add_zero] at d0
        obtain ⟨kd, hkd⟩ : ∃ kd, kd = x 0 := ⟨_, rfl⟩
        obtain ⟨id, hid⟩ : ∃ id, id = x 1 := ⟨_, rfl⟩
        obtain ⟨tm, htm⟩ : ∃ tm, tm = x 2 := ⟨_, rfl⟩
        rw [← hkd] at d0
        rw [← hid] at d1'
        rw [← htm] at d2'
        have HX := Lib.hid (And.intro hP hc)
        clear hx hd hP hc hrow hkd hid htm
        go_wp2_with fail
        refine (doesc b vs rb s kd id tm _ HX.out.1.ph (by have := HX.out.2; omega)).mono ?_
        intro e w2 hD
        obtain ⟨vs2, hP2⟩ := HX.out.1.next hD
        obtain ⟨rfl, _⟩ := hD
        have H2 := Lib.hid hP2
        clear hP2
        go_wp2_with fail
        refine (stands07 b vs2 rb _ z1 z2 _ H2.out.ph).mono ?_
        rintro e w4 ⟨rfl, hC4⟩
        have H4 := Lib.hid hC4
        clear hC4
        go_wp2
        go_roundw
        case measure => simp [intOf]; omega
        refine ⟨k + 1, by omega, by simp [go_sem], vs2, _, H2.out.calm H4.out, ?_⟩
        have h1 := stepS_c s kd id tm
        have h2 := HX.out.2
        omega
      · obtain rfl : N = k := by omega
        have HX := Lib.hid hP
        clear hP hc
        go_wp2_with fail
        refine (knownc _).mono ?_
        rintro e w4 ⟨rfl, hC4⟩
        have H4 := Lib.hid hC4
        clear hC4
        go_wp2
        go_ret
        exact ⟨rfl, HX.out.chg.trans H4.out⟩

end Go.Proofs.Ytpaaanjghcloeaa
