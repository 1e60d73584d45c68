
/- metronomelaw07.WheelNil: the walk (written by wip/nilwheel.py). -/
import Derived.Test.YtpaaanjghcloeaaHt
import Derived.Sort.CutIn
namespace Go.Proofs.Ytpaaanjghcloeaa
open Go.RowKit Go.Shelf
attribute [local go_sem] Oper.semAt_some

def zW : Array Value := (Value.bool false :: (List.replicate 64 (Value.slice none 0 0) ++ (List.replicate 64 (Value.int .i64 0) ++ [.int .i64 0, .int .i64 0]))).toArray
theorem buildZero (w : World) : (Instr.build 51 #[]).run Try.prog w = .ok (.agg zW) w := by kernel_rfl
theorem wpList_build0 {P : Program} {ops : Array Oper} {rest : List Oper} {op : Oper} {a : Act} {w : World} {Q : Exit → Act → World → Prop} (hgd : op.guard = none) (ty : TypeId) (ho : op.op = .build ty #[]) (v : Value)
    (hr : (Instr.build ty #[]).run P w = .ok v w) (h : wpList P ops Q rest (a.put op.dst v) w) : wpList P ops Q (op :: rest) a w := by
  refine wpList_plain hgd fun K hK => ?_
  unfold Oper.wp execOp
  simp only [ho, List.map_toArray, List.map_nil, Sem.run_bind, hr, Result.andThen_ok, Sem.run_pure]
  exact hK _ _ h
theorem eql_seq_nil (f : Fn) (a b : Array Value) (w : World) : (binOp .eql 59 (.func f a b) .nilFunc).run Try.prog w = .ok (.bool false) w := by
  kernel_rfl

/-- What stands in memory; all of it below block B0. -/
structure Gz (w : World) (b0 bz bl : Nat) (cs : Array Value) (B0 : Nat) (Ds : List Nat) (W : World) : Prop where
  h0 : W.heap[b0]? = some (.cells #[.bool false] 4 (0, 0))
  hz : W.heap[bz]? = some (.cells cs 51 (0, 0))
  hl : W.heap[bl]? = some (.cells #[.pointer none, .pointer (some ⟨bz, 0, none⟩)] 24 (0, 0))
  ch : Chg [] w W
  df : ∀ k ∈ Ds, W.heap[k]? = some (.deferred (some [])) ∧ w.heap.size ≤ k ∧ k < B0
  lt : b0 < B0 ∧ bz < B0 ∧ bl < B0 ∧ w.heap.size ≤ b0
theorem Gz.kept {w : World} {b0 bz bl : Nat} {cs : Array Value} {B0 : Nat} {Ds : List Nat} {W W' : World} {S : List Nat} (h : Gz w b0 bz bl cs B0 Ds W) (hC : Chg S W W') (hS : ∀ k ∈ S, B0 ≤ k ∧ w.heap.size ≤ k) : Gz w b0 bz bl cs B0 Ds W' := by
  have l := h.lt
  have hn : ∀ j, j < B0 → j ∉ S := fun j hj hm => by have := (hS j hm).1; omega
  exact ⟨hC.blk h.h0 (hn _ l.1), hC.blk h.hz (hn _ l.2.1), hC.blk h.hl (hn _ l.2.2.1), h.ch.trans' hC (fun k hk => .inr (hS k hk).2), fun k hk => ⟨hC.blk (h.df k hk).1 (hn _ (h.df k hk).2.2), (h.df k hk).2⟩, h.lt⟩
theorem Gz.calm {w : World} {b0 bz bl : Nat} {cs : Array Value} {B0 : Nat} {Ds : List Nat} {W W' : World} (h : Gz w b0 bz bl cs B0 Ds W) (hC : Chg [] W W') : Gz w b0 bz bl cs B0 Ds W' := h.kept hC (by simp)
theorem Gz.up {w : World} {b0 bz bl : Nat} {cs : Array Value} {B0 B1 : Nat} {Ds : List Nat} {W : World} (h : Gz w b0 bz bl cs B0 Ds W) (hB : B0 ≤ B1) : Gz w b0 bz bl cs B1 Ds W :=
  ⟨h.h0, h.hz, h.hl, h.ch, fun k hk => ⟨(h.df k hk).1, (h.df k hk).2.1, Nat.lt_of_lt_of_le (h.df k hk).2.2 hB⟩, by have := h.lt; omega⟩
theorem Gz.mark {w : World} {b0 bz bl : Nat} {cs : Array Value} {B0 : Nat} {Ds : List Nat} {W : World} (h : Gz w b0 bz bl cs B0 Ds W) {D : Nat} (hD : W.heap[D]? = some (.deferred (some []))) (h1 : w.heap.size ≤ D) (h2 : D < B0) : Gz w b0 bz bl cs B0 (D :: Ds) W :=
  ⟨h.h0, h.hz, h.hl, h.ch, fun k hk => by
    rcases List.mem_cons.1 hk with rfl | hk
    · exact ⟨hD, h1, h2⟩
    · exact h.df k hk, h.lt⟩

set_option maxRecDepth 100000 in
set_option maxHeartbeats 8000000 in
theorem wheelNil_any (w : World) : Calls Try.prog 6 #[] w fun e w' => e = .returned (.bool true) ∧ Chg [] w w' := by
  have hbz := buildZero
  obtain ⟨cs, hcs⟩ : ∃ cs, cs = zW := ⟨_, rfl⟩
  have hz0 : cs[0]? = some (.bool false) := by rw [hcs]; kernel_rfl
  rw [← hcs] at hbz
  have HZ := Lib.hid hz0
  clear hcs hz0
  obtain ⟨b0, hb0⟩ : ∃ b0, b0 = w.heap.size := ⟨_, rfl⟩
  obtain ⟨wA, hwA⟩ : ∃ wA, wA = ((w.alloc (.cells #[.bool false] 4 (0, 0))).alloc (.cells cs 51 (0, 0))).alloc (.cells #[.pointer none, .pointer (some ⟨w.heap.size + 1, 0, none⟩)] 24 (0, 0)) := ⟨_, rfl⟩
  have hGA : Gz w b0 (b0 + 1) (b0 + 1 + 1) cs wA.heap.size [] wA := by
    refine ⟨?_, ?_, ?_, ?_, by simp, by rw [hwA, hb0]; simp; omega⟩
    · rw [hwA, hb0]; exact blk_alloc (blk_alloc (heap_alloc_eq w _) _) _
    · rw [hwA, hb0]
      refine blk_alloc ?_ _
      have := heap_alloc_eq (w.alloc (.cells #[.bool false] 4 (0, 0))) (.cells cs 51 (0, 0))
      rwa [World.size_alloc] at this
    · rw [hwA, hb0]
      have := heap_alloc_eq ((w.alloc (.cells #[.bool false] 4 (0, 0))).alloc (.cells cs 51 (0, 0))) (.cells #[.pointer none, .pointer (some ⟨w.heap.size + 1, 0, none⟩)] 24 (0, 0))
      rwa [World.size_alloc, World.size_alloc] at this
    · rw [hwA]; exact (((Chg.refl _ _).alloc _).alloc _).alloc _
  have HG0 := Lib.hid hGA
  have cl0 := cellB hGA.hl (i := 0) (v := .pointer none) rfl
  clear hGA
  refine (callsIn_wide (n := 8)).1 ?_
  refine callsIn_of_wp_marks Try.func6 rfl trivial ?_ rfl
  simp only [Try.ntmps6, List.size_toArray, List.length_nil, Nat.reduceSub, Array.replicate_succ, Array.replicate_zero, List.push_toArray, List.append_toArray, List.nil_append, List.cons_append]
  refine wpIn_wide.2 ?_
  go_wp2_with (refine wpList_build0 (P := Try.prog) rfl 51 rfl _ (hbz _) ?_)
  rw [← hwA, ← hb0]
  clear hwA hb0 hbz
  refine wp_loop_rounds 3 ?_
  rw [rounds_succ]
  go_wp2_with fail
  refine (atz' (.pointer none) 0 wA (.inl rfl)).mono ?_
  rintro e w11 ⟨rfl, hC⟩
  have G11 := Lib.hid (HG0.out.calm hC)
  have SZ11 := Lib.hid hC.size
  clear hC
  go_wp2_with fail
  refine (firstz (.pointer none) w11 (.inl rfl)).mono ?_
  rintro e w' ⟨rfl, rfl⟩
  go_wp2_with fail
  refine (setz (.pointer none) (-1) 0 w11 (.inl rfl)).mono ?_
  rintro e w' ⟨rfl, rfl⟩
  go_wp2_with fail
  refine (canz (.pointer none) (-1) w11 (.inl rfl)).mono ?_
  rintro e w' ⟨rfl, rfl⟩
  go_wp2_with fail
  refine (duez (.pointer none) 9 w11 (.inl rfl)).mono ?_
  rintro e w12 ⟨rfl, hC⟩
  have G12 := Lib.hid (G11.out.calm hC)
  have SZ12 := Lib.hid (show wA.heap.size ≤ w12.heap.size from Nat.le_trans SZ11.out hC.size)
  clear hC
  go_wp2_with fail
  refine (lenz (.pointer none) w12 (.inl rfl)).mono ?_
  rintro e w' ⟨rfl, rfl⟩
  go_wp2_with fail
  refine (copyz (.pointer none) w12 (.inl rfl)).mono ?_
  rintro e w' ⟨rfl, rfl⟩
  go_wp2_with fail
  refine (seqz (.pointer none) w12 (.inl rfl)).mono ?_
  rintro e w13 ⟨bl1, u1, rfl, hbl, ho, hBl, hC⟩
  have G13 := Lib.hid (G12.out.calm hC)
  have SZ1 := Lib.hid (show wA.heap.size ≤ w13.heap.size from Nat.le_trans SZ12.out hC.size)
  have HS1 := Lib.hid (all1_stops [] [] (by simp) bl1 u1 _ [] w13 hbl ho (by simp) (by simp))
  clear hbl ho hBl hC
  have hnf := fun (W : World) => eql_seq_nil (.func 36) #[] #[.pointer (some ⟨bl1, 0, none⟩)] W
  go_wp2
  clear hnf
  refine (wpIn_wide (n := 5)).1 ?_
  refine wpIn_rangeFunc_ownH rfl (by omega) (gf := 36) (lb := #[.pointer (some ⟨bl1, 0, none⟩)]) rfl trivial (enters_of Try.func36 (by kernel_rfl) rfl) HS1.out
    KpS.trans (fun W l o o' _ ho h1 h2 => KpS.put o' ho h1 h2) (Below.refl _ _) (fun _ => rfl)
    (fun pre W => pre = [] ∧ Gz w b0 (b0 + 1) (b0 + 1 + 1) cs w13.heap.size [] W)
    (fun c pre W => False)
    (fun s A B row hs hg hr => ⟨hs.1, hs.2.kept (Chg.of_grown (S := row.toList) hg (fun k hk => by simp [hk])) (fun k hk => by have h1 := (hr k (by simpa using hk)).1; have h2 := hs.2.lt; omega)⟩)
    (fun c s A B row hs hg hr => hs)
    ⟨rfl, G13.out.up SZ1.out⟩
    (fun _ _ _ => True)
    (fun _ _ _ _ _ _ _ _ _ => trivial)
    ?_ ?_ ?_ ?_
  · rintro l pre x W K ⟨rfl, hG⟩ hK
    have HG := Lib.hid hG
    clear hG
    unfold encH
    gi_wp2
    first | exact hK _ _ (keepsFrom_chg (Chg.refl [] _) (by simp)) (KpS.chg (Chg.refl [] _) (by simp)) ⟨by simp, HG.out⟩ trivial | exact hK _ _ (keepsFrom_chg ((Chg.refl [] _).alloc _) (by simp)) (KpS.chg ((Chg.refl [] _).alloc _) (by simp)) ⟨by simp, HG.out.calm ((Chg.refl [] _).alloc _)⟩ trivial
  · rintro l pre x a' W hl ⟨r, hr⟩ _ _ hlt
    simp at hlt
  · rintro D xs W hD hxs ⟨_, hG⟩ hdef
    have hDl := lt_of_blk hdef
    have GD := Lib.hid ((hG.up (B1 := W.heap.size) (by have := hD; omega)).mark hdef (by have h1 := hG.ch.size; have h2 := G13.out.ch.size; have := hD; omega) hDl)
    have cl1 := cellB GD.out.hl (i := 1) (v := .pointer (some ⟨b0 + 1, 0, none⟩)) rfl
    clear hG hdef hDl hD hxs
    gi_wp2
    go_wp2
    rw [rounds_succ]
    go_wp2_with fail
    refine (atz' (.pointer (some ⟨b0 + 1, 0, none⟩)) 0 W (.inr ⟨b0 + 1, rfl, cellB GD.out.hz HZ.out⟩)).mono ?_
    rintro e w21 ⟨rfl, hC⟩
    have G21 := Lib.hid (GD.out.calm hC)
    have SZ21 := Lib.hid hC.size
    clear hC
    go_wp2_with fail
    refine (firstz (.pointer (some ⟨b0 + 1, 0, none⟩)) w21 (.inr ⟨b0 + 1, rfl, cellB G21.out.hz HZ.out⟩)).mono ?_
    rintro e w' ⟨rfl, rfl⟩
    go_wp2_with fail
    refine (setz (.pointer (some ⟨b0 + 1, 0, none⟩)) (-1) 0 w21 (.inr ⟨b0 + 1, rfl, cellB G21.out.hz HZ.out⟩)).mono ?_
    rintro e w' ⟨rfl, rfl⟩
    go_wp2_with fail
    refine (canz (.pointer (some ⟨b0 + 1, 0, none⟩)) (-1) w21 (.inr ⟨b0 + 1, rfl, cellB G21.out.hz HZ.out⟩)).mono ?_
    rintro e w' ⟨rfl, rfl⟩
    go_wp2_with fail
    refine (duez (.pointer (some ⟨b0 + 1, 0, none⟩)) 9 w21 (.inr ⟨b0 + 1, rfl, cellB G21.out.hz HZ.out⟩)).mono ?_
    rintro e w22 ⟨rfl, hC⟩
    have G22 := Lib.hid (G21.out.calm hC)
    have SZ22 := Lib.hid (show W.heap.size ≤ w22.heap.size from Nat.le_trans SZ21.out hC.size)
    clear hC
    go_wp2_with fail
    refine (lenz (.pointer (some ⟨b0 + 1, 0, none⟩)) w22 (.inr ⟨b0 + 1, rfl, cellB G22.out.hz HZ.out⟩)).mono ?_
    rintro e w' ⟨rfl, rfl⟩
    go_wp2_with fail
    refine (copyz (.pointer (some ⟨b0 + 1, 0, none⟩)) w22 (.inr ⟨b0 + 1, rfl, cellB G22.out.hz HZ.out⟩)).mono ?_
    rintro e w' ⟨rfl, rfl⟩
    go_wp2_with fail
    refine (seqz (.pointer (some ⟨b0 + 1, 0, none⟩)) w22 (.inr ⟨b0 + 1, rfl, cellB G22.out.hz HZ.out⟩)).mono ?_
    rintro e w23 ⟨bl2, u2, rfl, hbl, ho, hBl, hC⟩
    have G23 := Lib.hid (G22.out.calm hC)
    have SZ2 := Lib.hid (show W.heap.size ≤ w23.heap.size from Nat.le_trans SZ22.out hC.size)
    have HS2 := Lib.hid (all1_stops [] [] (by simp) bl2 u2 _ [] w23 hbl ho (by simp) (by simp))
    clear hbl ho hBl hC
    have hnf := fun (W : World) => eql_seq_nil (.func 36) #[] #[.pointer (some ⟨bl2, 0, none⟩)] W
    go_wp2
    clear hnf
    refine (wpIn_wide (n := 5)).1 ?_
    refine wpIn_rangeFunc_ownH rfl (by omega) (gf := 36) (lb := #[.pointer (some ⟨bl2, 0, none⟩)]) rfl trivial (enters_of Try.func36 (by kernel_rfl) rfl) HS2.out
      KpS.trans (fun W l o o' _ ho h1 h2 => KpS.put o' ho h1 h2) (Below.refl _ _) (fun _ => rfl)
      (fun pre W => pre = [] ∧ Gz w b0 (b0 + 1) (b0 + 1 + 1) cs w23.heap.size [D] W)
      (fun c pre W => False)
      (fun s A B row hs hg hr => ⟨hs.1, hs.2.kept (Chg.of_grown (S := row.toList) hg (fun k hk => by simp [hk])) (fun k hk => by have h1 := (hr k (by simpa using hk)).1; have h2 := hs.2.lt; omega)⟩)
      (fun c s A B row hs hg hr => hs)
      ⟨rfl, G23.out.up SZ2.out⟩
      (fun _ _ _ => True)
      (fun _ _ _ _ _ _ _ _ _ => trivial)
      ?_ ?_ ?_ ?_
    · rintro l pre x W K ⟨rfl, hG⟩ hK
      have HG := Lib.hid hG
      clear hG
      unfold encH
      gi_wp2
      first | exact hK _ _ (keepsFrom_chg (Chg.refl [] _) (by simp)) (KpS.chg (Chg.refl [] _) (by simp)) ⟨by simp, HG.out⟩ trivial | exact hK _ _ (keepsFrom_chg ((Chg.refl [] _).alloc _) (by simp)) (KpS.chg ((Chg.refl [] _).alloc _) (by simp)) ⟨by simp, HG.out.calm ((Chg.refl [] _).alloc _)⟩ trivial
    · rintro l pre x a' W hl ⟨r, hr⟩ _ _ hlt
      simp at hlt
    · rintro D2 xs2 W2 hD2 hxs2 ⟨_, hG2⟩ hdef2
      have hD2l := lt_of_blk hdef2
      have GE := Lib.hid ((hG2.up (B1 := W2.heap.size) (by have := hD2; omega)).mark hdef2 (by have h1 := hG2.ch.size; have h2 := G23.out.ch.size; have := hD2; omega) hD2l)
      have HDD := Lib.hid (show D ≠ D2 from fun e => by have h1 := (G23.out.df D (by simp)).2.2; have h2 := SZ2.out; have h3 := hD2; omega)
      have cl2 := cellB GE.out.hl (i := 1) (v := .pointer (some ⟨b0 + 1, 0, none⟩)) rfl
      clear hG2 hdef2 hD2l hD2 hxs2
      gi_wp2
      go_wp2
      rw [rounds_succ]
      go_wp2_with fail
      refine (samez (.pointer none) (.pointer (some ⟨b0 + 1, 0, none⟩)) false false W2 (.inl rfl) (isz _ _ (.inl rfl)) (isz _ _ (.inr ⟨b0 + 1, rfl, cellB GE.out.hz HZ.out⟩))).mono ?_
      rintro e w' ⟨rfl, rfl⟩
      go_wp2_with fail
      refine (newc W2).mono ?_
      rintro e w31 ⟨bp, rfl, hbp, hA31, hC31⟩
      have G31 := Lib.hid (GE.out.calm hC31)
      have HA31 := Lib.hid hA31
      clear hA31 hC31 hbp
      go_wp2_with fail
      refine (samez (.pointer none) (.pointer (some ⟨bp, 0, none⟩)) false true w31 (.inl rfl) (isz _ _ (.inl rfl)) (hisc bp vs0 hs0 w31 HA31.out)).mono ?_
      rintro e w' ⟨rfl, rfl⟩
      go_wp2_with fail
      refine (newc w31).mono ?_
      rintro e w32 ⟨bq, rfl, hbq, hA32, hC32⟩
      have G32 := Lib.hid (G31.out.calm hC32)
      have HA32 := Lib.hid hA32
      clear hA32 hC32 hbq
      go_wp2_with fail
      refine (newc w32).mono ?_
      rintro e w33 ⟨br, rfl, hbr, hA33, hC33⟩
      have G33 := Lib.hid (G32.out.calm hC33)
      have HA33 := Lib.hid (And.intro (HA32.out.calm hC33) hA33)
      clear hA33 hC33 hbr
      go_wp2_with fail
      refine (samec bq br vs0 vs0 hs0 hs0 w33 HA33.out.1 HA33.out.2).mono ?_
      rintro e w34 ⟨rfl, hC34⟩
      have G34 := Lib.hid (G33.out.calm hC34)
      clear hC34
      have e1 : sameH (ordH hs0.M) (ordH hs0.M) = true := by kernel_rfl
      rw [e1]
      go_wp2_with fail
      refine (knownc w34).mono ?_
      rintro e w35 ⟨rfl, hC35⟩
      have G35 := Lib.hid (G34.out.calm hC35)
      clear hC35
      have cr := cellB G35.out.h0 (i := 0) (v := .bool false) rfl
      have fr := frozenB G35.out.h0 0
      go_wp2
      have l := G35.out.lt
      have d2 := (G35.out.df D2 (by simp)).2
      have d1 := (G35.out.df D (by simp)).2
      have hCF : Chg [b0] w35 (w35.setCell ⟨b0, 0, none⟩ (.bool true)) := (Chg.refl _ _).setCell _ _ (by simp)
      have n1 : D ≠ b0 := fun e => by
        have h1 := (G35.out.df D (by simp)).1
        rw [e, G35.out.h0] at h1
        cases h1
      have n2 : D2 ≠ b0 := fun e => by
        have h1 := (G35.out.df D2 (by simp)).1
        rw [e, G35.out.h0] at h1
        cases h1
      have hF0 := blk_setCell (i := 0) G35.out.h0 (.bool true)
      have hF2 := hCF.blk (G35.out.df D2 (by simp)).1 (by simpa using n2)
      have hF1 := hCF.blk (G35.out.df D (by simp)).1 (by simpa using n1)
      generalize (w35.setCell ⟨b0, 0, none⟩ (.bool true)) = WF at *
      have hCG : Chg [D2] WF (WF.putObj D2 (.deferred none)) := (Chg.refl [D2] WF).setBlock D2 _ (by simp)
      have hG1 := hCG.blk hF1 (by simpa using HDD.out)
      have hCH : Chg [D] (WF.putObj D2 (.deferred none)) ((WF.putObj D2 (.deferred none)).putObj D (.deferred none)) := (Chg.refl [D] _).setBlock D _ (by simp)
      have hH0 := cellB (hCH.blk (hCG.blk hF0 (by simpa using fun e => n2 e.symm)) (by simpa using fun e => n1 e.symm)) (i := 0) rfl
      have hc35 := G35.out.ch
      refine ⟨by simp, .inl ⟨_, _, rfl, run_takeDeferred hF2, ?_⟩⟩
      refine ⟨by simp, .inl ⟨_, _, rfl, run_takeDeferred hG1, ?_⟩⟩
      refine ⟨.bool true, ?_, rfl, ((hc35.trans' hCF (fun x hx => .inr (by simp at hx; omega))).trans' hCG (fun x hx => .inr (by simp at hx; omega))).trans' hCH (fun x hx => .inr (by simp at hx; omega))⟩
      simp [results, Try.results6, go_sem, hH0]
    · rintro D2 c pre W2 hD2 hp hS hdef2
      exact hS.elim
  · rintro D c pre W hD hp hS hdef
    exact hS.elim

end Go.Proofs.Ytpaaanjghcloeaa
