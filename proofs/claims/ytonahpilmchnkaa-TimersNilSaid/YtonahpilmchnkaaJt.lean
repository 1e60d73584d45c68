
/- metronomelaw19.TimersNil: the walk (written by wip/nil19.py). -/
import Derived.Test.YtonahpilmchnkaaJs
namespace Go.Proofs.Ytonahpilmchnkaa
open Go.RowKit

def zT : Array Value := (Value.int .i64 0 :: .pointer none :: .pointer none :: (List.replicate 8 [Value.bool false, .int .i64 0, .int .i64 0, .int .i64 0, .bool false, .int .i64 0, .int .i64 0]).flatten).toArray
theorem buildZT (w : World) : (Instr.build 59 #[]).run Try.prog w = .ok (.agg zT) w := by kernel_rfl
theorem wpList_build0 {P : Program} {ops : Array Oper} {rest : List Oper} {op : Oper} {a : Act} {w : World} {Q : Exit → Act → World → Prop} (hgd : op.guard = none) (ty : TypeId) (ho : op.op = .build ty #[]) (v : Value)
    (hr : (Instr.build ty #[]).run P w = .ok v w) (h : wpList P ops Q rest (a.put op.dst v) w) : wpList P ops Q (op :: rest) a w := by
  refine wpList_plain hgd fun K hK => ?_
  unfold Oper.wp execOp
  simp only [ho, List.map_toArray, List.map_nil, Sem.run_bind, hr, Result.andThen_ok, Sem.run_pure]
  exact hK _ _ h

/-- What stands in memory. -/
structure Gz (w : World) (bz bl : Nat) (cs : Array Value) (W : World) : Prop where
  hz : W.heap[bz]? = some (.cells cs 59 (0, 0))
  hl : W.heap[bl]? = some (.cells #[.pointer none, .pointer (some ⟨bz, 0, none⟩)] 24 (0, 0))
  ch : Chg [] w W
theorem Gz.calm {w : World} {bz bl : Nat} {cs : Array Value} {W W' : World} (h : Gz w bz bl cs W) (hC : Chg [] W W') : Gz w bz bl cs W' := ⟨hC.blk h.hz (by simp), hC.blk h.hl (by simp), h.ch.trans hC⟩

set_option maxRecDepth 100000 in
set_option maxHeartbeats 8000000 in
theorem timersNil_any (w : World) : Calls Try.prog 7 #[] w fun e w' => e = .returned (.bool true) ∧ Chg [] w w' := by
  have hbz := buildZT
  obtain ⟨cs, hcs⟩ : ∃ cs, cs = zT := ⟨_, rfl⟩
  have hz0 : cs[0]? = some (.int .i64 0) := by rw [hcs]; kernel_rfl
  rw [← hcs] at hbz
  have HZ := Lib.hid hz0
  clear hcs hz0
  obtain ⟨b0, hb0⟩ : ∃ b0, b0 = w.heap.size := ⟨_, rfl⟩
  obtain ⟨wA, hwA⟩ : ∃ wA, wA = (w.alloc (.cells cs 59 (0, 0))).alloc (.cells #[.pointer none, .pointer (some ⟨w.heap.size, 0, none⟩)] 24 (0, 0)) := ⟨_, rfl⟩
  have hGA : Gz w b0 (b0 + 1) cs wA := by
    refine ⟨?_, ?_, ?_⟩
    · rw [hwA, hb0]; exact blk_alloc (heap_alloc_eq w _) _
    · rw [hwA, hb0]
      have := heap_alloc_eq (w.alloc (.cells cs 59 (0, 0))) (.cells #[.pointer none, .pointer (some ⟨w.heap.size, 0, none⟩)] 24 (0, 0))
      rwa [World.size_alloc] at this
    · rw [hwA]; exact ((Chg.refl _ _).alloc _).alloc _
  have G0 := Lib.hid hGA
  have cl0 := cellB hGA.hl (i := 0) (v := .pointer none) rfl
  clear hGA
  go_enter Try.func7, Try.ntmps7
  go_wp2_with (refine wpList_build0 (P := Try.prog) rfl 59 rfl _ (hbz _) ?_)
  rw [← hwA, ← hb0]
  clear hwA hb0 hbz
  refine wp_loop_rounds 3 ?_
  rw [rounds_succ]
  go_wp2_with fail
  refine (ptakenz (.pointer none) _ (.inl rfl)).mono ?_
  rintro e w' ⟨rfl, rfl⟩
  go_wp2_with fail
  refine (patz (.pointer none) 0 _ (.inl rfl)).mono ?_
  rintro e W01 ⟨rfl, hC⟩
  have G01 := Lib.hid ((G0.out.calm hC).calm (W' := W01.alloc (.cells #[.bool false, .int .i64 0, .int .i64 0, .int .i64 0, .bool false, .int .i64 0, .int .i64 0] 32 (0, 0))) ((Chg.refl _ _).alloc _))
  clear hC
  unfold TE.val TE.zero TE.cells
  go_wp2_with fail
  refine (parmz (.pointer none) _ (.inl rfl)).mono ?_
  rintro e w' ⟨rfl, rfl⟩
  go_wp2_with fail
  refine (pstopz (.pointer none) _ (.inl rfl)).mono ?_
  rintro e w' ⟨rfl, rfl⟩
  go_wp2_with fail
  refine (pduez (.pointer none) 9 _ (.inl rfl)).mono ?_
  rintro e W02 ⟨rfl, hC⟩
  have G02 := Lib.hid (G01.out.calm hC)
  clear hC
  go_wp2_with fail
  refine (pclearz (.pointer none) _ (.inl rfl)).mono ?_
  rintro e w' ⟨rfl, rfl⟩
  go_wp2_with fail
  refine (plenz (.pointer none) _ (.inl rfl)).mono ?_
  rintro e w' ⟨rfl, rfl⟩
  go_wp2_with fail
  refine (pcopyz (.pointer none) _ (.inl rfl)).mono ?_
  rintro e w' ⟨rfl, rfl⟩
  have cl0 := cellB G02.out.hl (i := 1) (v := .pointer (some ⟨b0, 0, none⟩)) rfl
  have G1 := Lib.hid G02.out
  go_wp2
  rw [rounds_succ]
  go_wp2_with fail
  refine (ptakenz (.pointer (some ⟨b0, 0, none⟩)) _ (.inr ⟨b0, rfl, cellB G1.out.hz HZ.out⟩)).mono ?_
  rintro e w' ⟨rfl, rfl⟩
  go_wp2_with fail
  refine (patz (.pointer (some ⟨b0, 0, none⟩)) 0 _ (.inr ⟨b0, rfl, cellB G1.out.hz HZ.out⟩)).mono ?_
  rintro e W11 ⟨rfl, hC⟩
  have G11 := Lib.hid ((G1.out.calm hC).calm (W' := W11.alloc (.cells #[.bool false, .int .i64 0, .int .i64 0, .int .i64 0, .bool false, .int .i64 0, .int .i64 0] 32 (0, 0))) ((Chg.refl _ _).alloc _))
  clear hC
  unfold TE.val TE.zero TE.cells
  go_wp2_with fail
  refine (parmz (.pointer (some ⟨b0, 0, none⟩)) _ (.inr ⟨b0, rfl, cellB G11.out.hz HZ.out⟩)).mono ?_
  rintro e w' ⟨rfl, rfl⟩
  go_wp2_with fail
  refine (pstopz (.pointer (some ⟨b0, 0, none⟩)) _ (.inr ⟨b0, rfl, cellB G11.out.hz HZ.out⟩)).mono ?_
  rintro e w' ⟨rfl, rfl⟩
  go_wp2_with fail
  refine (pduez (.pointer (some ⟨b0, 0, none⟩)) 9 _ (.inr ⟨b0, rfl, cellB G11.out.hz HZ.out⟩)).mono ?_
  rintro e W12 ⟨rfl, hC⟩
  have G12 := Lib.hid (G11.out.calm hC)
  clear hC
  go_wp2_with fail
  refine (pclearz (.pointer (some ⟨b0, 0, none⟩)) _ (.inr ⟨b0, rfl, cellB G12.out.hz HZ.out⟩)).mono ?_
  rintro e w' ⟨rfl, rfl⟩
  go_wp2_with fail
  refine (plenz (.pointer (some ⟨b0, 0, none⟩)) _ (.inr ⟨b0, rfl, cellB G12.out.hz HZ.out⟩)).mono ?_
  rintro e w' ⟨rfl, rfl⟩
  go_wp2_with fail
  refine (pcopyz (.pointer (some ⟨b0, 0, none⟩)) _ (.inr ⟨b0, rfl, cellB G12.out.hz HZ.out⟩)).mono ?_
  rintro e w' ⟨rfl, rfl⟩
  have cl1 := cellB G12.out.hl (i := 1) (v := .pointer (some ⟨b0, 0, none⟩)) rfl
  have G2 := Lib.hid G12.out
  go_wp2
  rw [rounds_succ]
  go_wp2_with fail
  refine (pnewc 1 _ (by decide)).mono ?_
  rintro e W3 hN
  obtain ⟨c1, cs1, rfl, hk1⟩ := KT.new (by decide) hN
  have G3 := Lib.hid (G2.out.calm hk1.chg)
  have K1 := Lib.hid hk1
  clear hN hk1
  go_wp2_with fail
  refine (pnewc 2 _ (by decide)).mono ?_
  rintro e W4 hN
  obtain ⟨c2, cs2, rfl, hk2⟩ := KT.new (by decide) hN
  have G4 := Lib.hid (G3.out.calm hk2.chg)
  have K2 := Lib.hid hk2
  have K1' := Lib.hid (K1.out.calm hk2.chg)
  clear hN hk2
  have clz := cellB G4.out.hl (i := 1) (v := .pointer (some ⟨b0, 0, none⟩)) rfl
  go_wp2_with fail
  refine (psamez (.pointer none) (.pointer (some ⟨b0, 0, none⟩)) false false _ (.inl rfl) (pisz _ _ (.inl rfl)) (pisz _ _ (.inr ⟨b0, rfl, cellB G4.out.hz HZ.out⟩))).mono ?_
  rintro e w' ⟨rfl, rfl⟩
  go_wp2_with fail
  refine (psamez (.pointer none) (.pointer (some ⟨c1, 0, none⟩)) false true _ (.inl rfl) (pisz _ _ (.inl rfl)) ((pisc c1 cs1 _ _ _ K1'.out.at_).mono (fun e w' h => ⟨h.1, h.2.symm⟩))).mono ?_
  rintro e w' ⟨rfl, rfl⟩
  go_wp2_with fail
  refine (psamen c1 c2 cs1 cs2 _ _ _ _ _ K1'.out.at_ K2.out.at_ (by decide)).mono ?_
  rintro e W5 ⟨rfl, hC⟩
  have G5 := Lib.hid (G4.out.calm hC)
  clear hC
  go_wp2_with fail
  refine (knownc _).mono ?_
  rintro e W6 ⟨rfl, hC⟩
  have G6 := Lib.hid (G5.out.calm hC)
  clear hC
  go_wp2
  go_ret
  exact ⟨rfl, G6.out.ch⟩

end Go.Proofs.Ytonahpilmchnkaa
