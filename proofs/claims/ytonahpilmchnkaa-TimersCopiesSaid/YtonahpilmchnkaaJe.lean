
/- Timers: Clear, New: contracts. -/
import Derived.Test.YtonahpilmchnkaaJd
namespace Go.Proofs.Ytonahpilmchnkaa
open Go.RowKit

theorem NextT.seven {w w1 : World} {b : Nat} {bs : Int → Nat} {vs : Int → List Value} {s : TS} (h : NextT b bs vs s w w1) {i : Nat} {e : TE} (he : s.L[i]? = some e) (x : TE) : NextT b bs vs ⟨s.n, s.L.set i x, s.W⟩ w (w1.setCells b (3 + i * 7) x.cells) := by
  have g : ∀ x : TE, (s.L.set i x)[i]? = some x := fun x => List.getElem?_set_self (List.getElem?_eq_some_iff.1 he).1
  have h1 := h.four he x.armed x.clock x.at_ x.iv
  have h5 := h1.put (g _) (f := 4) (by omega) (v := .bool x.out) (e' := ⟨x.armed, x.clock, x.at_, x.iv, x.out, e.cnt, e.ovr⟩) rfl
  rw [List.set_set] at h5
  have h6 := h5.put (g _) (f := 5) (by omega) (v := .int .i64 x.cnt) (e' := ⟨x.armed, x.clock, x.at_, x.iv, x.out, x.cnt, e.ovr⟩) rfl
  rw [List.set_set] at h6
  have h7 := h6.put (g _) (f := 6) (by omega) (v := .int .i64 x.ovr) (e' := x) rfl
  rw [List.set_set] at h7
  exact h7
theorem NextT.there7 {w w1 : World} {b : Nat} {bs : Int → Nat} {vs : Int → List Value} {s : TS} (h : NextT b bs vs s w w1) {i : Nat} {e : TE} (he : s.L[i]? = some e) : w1.there b (3 + i * 7) 7 := by
  obtain ⟨vs1, hA, _⟩ := h
  intro j hj
  have hv : e.cells[j]? = some (e.cells[j]'(by rw [TE.cells_len]; exact hj)) := List.getElem?_eq_getElem _
  exact ⟨by rw [hA.entry he hj hv]; rfl, frozenB hA.head _⟩

set_option maxRecDepth 100000 in
set_option maxHeartbeats 4000000 in
theorem pclearc (b : Nat) (bs : Int → Nat) (vs : Int → List Value) (s : TS) (id : Int) (w : World) (h : TAt w b bs vs s) (hI : ∀ (i : Nat) e, s.L[i]? = some e → e.armed = true → isC e.clock) :
    Calls Try.prog 16 #[.pointer (some ⟨b, 0, none⟩), .int .i64 id] w fun e w' => e = .returned (.int .i64 (s.stopE id)) ∧ NextT b bs vs (s.clearS id) w w' := by
  have HSp := pstopc b bs vs s id w h hI
  by_cases hin : inT s id
  · obtain ⟨i, rfl⟩ := Int.eq_ofNat_of_zero_le hin.1
    have hi8 : i < 8 := by have := hin.2; have := h.n8; omega
    obtain ⟨e, he⟩ : ∃ e, s.L[i]? = some e := ⟨_, List.getElem?_eq_getElem (by rw [h.len]; exact hi8)⟩
    have hz : (i : Int) < 8 := by omega
    have hz0 : (0 : Int) ≤ (i : Int) := by omega
    have hg := TS.rests_get he
    rw [show s.stopE (i : Int) = 0 from if_pos hin] at HSp ⊢
    rw [show s.stopS (i : Int) = s.rests i from if_pos hin] at HSp
    rw [show s.clearS (i : Int) = ⟨(s.rests i).n, (s.rests i).L.set i TE.zero, (s.rests i).W⟩ from by unfold TS.clearS; rw [if_pos hin, Int.toNat_natCast, TS.rests_n]]
    obtain ⟨s1, hs1⟩ : ∃ s1, s1 = s.rests i := ⟨_, rfl⟩
    rw [← hs1] at HSp hg ⊢
    have HS := Lib.hid (And.intro HSp hg)
    clear h hI hin HSp hg he hs1
    go_enter Try.func16, Try.ntmps16
    go_wp2_with fail
    refine HS.out.1.mono ?_
    rintro e2 w2 ⟨rfl, hN⟩
    have HN := Lib.hid (And.intro hN (And.intro (hN.there7 HS.out.2) (hN.seven HS.out.2 TE.zero)))
    clear hN
    go_wp2_with (refine wpList_store_mid (P := Try.prog) rfl 32 _ _ rfl b (3 + i * 7) TE.zero.cells.toArray rfl rfl HN.out.2.1 sizeT (oneT _) ?_)
    go_ret
    exact ⟨rfl, HN.out.2.2⟩
  · rw [show s.stopE id = 2 from if_neg hin, show s.stopS id = s from if_neg hin] at HSp
    rw [show s.stopE id = 2 from if_neg hin, show s.clearS id = s from if_neg hin]
    have HS := Lib.hid HSp
    clear h hI hin HSp
    go_enter Try.func16, Try.ntmps16
    go_wp2_with fail
    refine HS.out.mono ?_
    rintro e2 w2 ⟨rfl, hN⟩
    have HN := Lib.hid hN
    clear hN
    go_wp2
    go_ret
    exact ⟨rfl, HN.out⟩

/-! ### New -/
def ts0 (n : Nat) : TS := ⟨n, List.replicate 8 TE.zero, fun _ => hs0⟩
theorem flat0 : flatT (List.replicate 8 TE.zero) = (List.replicate 8 [Value.bool false, .int .i64 0, .int .i64 0, .int .i64 0, .bool false, .int .i64 0, .int .i64 0]).flatten := by
  unfold flatT; rfl
def tclz (n : Int) (b0 b1 : Nat) : Array Value := tcl n b0 b1 (List.replicate 8 TE.zero)
theorem buildT (n : Int) (b0 b1 : Nat) (w : World) : (Instr.build 59 #[(0, .int .i64 n), (1, .agg #[.pointer (some ⟨b0, 0, none⟩), .pointer (some ⟨b1, 0, none⟩)])]).run Try.prog w = .ok (.agg (tclz n b0 b1)) w := by kernel_rfl
theorem build2W (b0 b1 : Nat) (w : World) : (Instr.build 57 #[(0, .pointer (some ⟨b0, 0, none⟩)), (1, .pointer (some ⟨b1, 0, none⟩))]).run Try.prog w = .ok (.agg #[.pointer (some ⟨b0, 0, none⟩), .pointer (some ⟨b1, 0, none⟩)]) w := by kernel_rfl

theorem wpList_build2 {P : Program} {ops : Array Oper} {rest : List Oper} {op : Oper} {a : Act} {w : World} {Q : Exit → Act → World → Prop} (hgd : op.guard = none) (ty : TypeId) (x y : Operand) (ho : op.op = .build ty #[(0, x), (1, y)]) (vx vy : Value) (hx : a.eval x = vx) (hy : a.eval y = vy) (v : Value)
    (hr : (Instr.build ty #[(0, vx), (1, vy)]).run P w = .ok v w) (h : wpList P ops Q rest (a.put op.dst v) w) : wpList P ops Q (op :: rest) a w := by
  refine wpList_plain hgd fun K hK => ?_
  unfold Oper.wp execOp
  simp only [ho, List.map_toArray, List.map_cons, List.map_nil, hx, hy, Sem.run_bind, hr, Result.andThen_ok, Sem.run_pure]
  exact hK _ _ h

def NewTP (w : World) (n : Int) (e : Ending) (w' : World) : Prop :=
  ∃ b bs, e = .returned (.tuple #[.pointer (some ⟨b, 0, none⟩), .int .i64 0]) ∧ TAt w' b bs (fun _ => vs0) (ts0 n.toNat) ∧ (∀ x ∈ blocksT b bs (fun _ => vs0), w.heap.size ≤ x) ∧ Chg [] w w'
theorem pnewbad (n : Int) (w : World) (hn : ¬ (1 ≤ n ∧ n ≤ 8)) : Calls Try.prog 9 #[.int .i64 n] w fun e w' => e = .returned (.tuple #[.pointer none, .int .i64 2]) ∧ w' = w := by
  by_cases h1 : n < 1
  · have d1 : decide (n < 1) = true := by simpa using h1
    clear h1 hn
    go_enter Try.func9, Try.ntmps9
    go_wp2
    go_ret2
    exact ⟨rfl, rfl⟩
  · have d1 : decide (n < 1) = false := by simpa using h1
    have d2 : decide (8 < n) = true := by simp; omega
    clear h1 hn
    go_enter Try.func9, Try.ntmps9
    go_wp2
    go_ret2
    exact ⟨rfl, rfl⟩
set_option maxRecDepth 100000 in
set_option maxHeartbeats 4000000 in
theorem pnewc (n : Int) (w : World) (hn : 1 ≤ n ∧ n ≤ 8) : Calls Try.prog 9 #[.int .i64 n] w (NewTP w n) := by
  have d1 : decide (n < 1) = false := by simp; omega
  have d2 : decide (8 < n) = false := by simp; omega
  have HB := Lib.hid (fun b0 b1 W => buildT n b0 b1 W)
  have HR := Lib.hid hn
  clear hn
  go_enter Try.func9, Try.ntmps9
  go_wp2_with fail
  refine (newc w).mono ?_
  rintro e w1 ⟨b0, rfl, hb0, hA0, hC0⟩
  have H0 := Lib.hid (And.intro hb0 (And.intro hA0 hC0))
  clear hb0 hA0 hC0
  go_wp2_with fail
  refine (newc w1).mono ?_
  rintro e w2 ⟨b1, rfl, hb1, hA1, hC1⟩
  have H1 := Lib.hid (And.intro hb1 (And.intro hA1 hC1))
  clear hb1 hA1 hC1
  have h2W := build2W b0 b1
  have hB := HB.out b0 b1
  obtain ⟨cs, hcs⟩ : ∃ cs, cs = tclz n b0 b1 := ⟨_, rfl⟩
  rw [← hcs] at hB
  have HC := Lib.hid hcs
  clear hcs
  go_wp2_with (first | (refine wpList_build2 (P := Try.prog) rfl 57 _ _ rfl (.pointer (some ⟨b0, 0, none⟩)) (.pointer (some ⟨b1, 0, none⟩)) rfl rfl _ (h2W _) ?_) | (refine wpList_build2 (P := Try.prog) rfl 59 _ _ rfl (.int .i64 n) (.agg #[.pointer (some ⟨b0, 0, none⟩), .pointer (some ⟨b1, 0, none⟩)]) rfl rfl _ (hB _) ?_))
  go_ret2
  have hC2 : Chg [] w2 (w2.alloc (.cells cs 59 (0, 0))) := (Chg.refl _ _).alloc _
  have hs0 := H0.out.2.2.size
  have hs1 := H1.out.2.2.size
  have l0 := H0.out.2.1.lt b0 (mem_blocks.2 (.inl rfl))
  have e0 := H0.out.1
  have e1 := H1.out.1
  refine ⟨_, fun k => if k = 0 then b0 else b1, rfl, ⟨?_, ?_, ?_, ?_, ?_, ?_⟩, ?_, (H0.out.2.2.trans H1.out.2.2).trans hC2⟩
  · rw [heap_alloc_eq w2 _, HC.out]
    unfold tclz ts0
    have : ((n.toNat : Nat) : Int) = n := by have := HR.out; omega
    rw [this]
    rfl
  · show 1 ≤ n.toNat
    have := HR.out; omega
  · show n.toNat ≤ 8
    have := HR.out; omega
  · rfl
  · intro k hk
    rcases hk with rfl | rfl
    · exact (H0.out.2.1.calm H1.out.2.2).calm hC2
    · exact H1.out.2.1.calm hC2
  · intro x hx hm
    rw [blocks0] at hx hm
    simp at hx hm
    omega
  · intro x hx
    rcases mem_blocksT.1 hx with h | ⟨k, hk, hm⟩
    · omega
    · rw [blocks0] at hm
      rcases hk with rfl | rfl <;> simp at hm <;> omega

end Go.Proofs.Ytonahpilmchnkaa
