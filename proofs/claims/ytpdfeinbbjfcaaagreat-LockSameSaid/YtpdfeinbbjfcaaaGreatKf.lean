
/- maps.Equal, maps.Clone at maps of counts; package rwlock: Copy, Same: contracts. -/
import Derived.Test.YtpdfeinbbjfcaaaGreatKe
import Derived.Test.YtpdfeinbbjfcaaaGreatRng
import Derived.Shelf.SlMaps.Clone
namespace Go.Proofs.YtpdfeinbbjfcaaaGreat
open Go.RowKit

theorem cntC_ge {C : CL} (h : ∀ k : Nat, 0 ≤ cAt C k) (t : Int) : 0 ≤ cntC C t := by
  unfold cntC
  split
  · exact h _
  · omega
theorem ext_cnt {C D : CL} (hc : C.length = 16) (hd : D.length = 16) (h : ∀ a, cntC C a = cntC D a) : C = D := by
  refine List.ext_getElem (by omega) fun i h1 h2 => ?_
  have := h (i : Int)
  unfold cntC cAt at this
  rw [if_pos (by omega), if_pos (by omega), Int.toNat_natCast, List.getD_eq_getElem?_getD, List.getD_eq_getElem?_getD, List.getElem?_eq_getElem h1, List.getElem?_eq_getElem h2] at this
  exact this
/-- Two maps of counts are the same where they are as long, and each row of the one is one of the other. -/
theorem eq_of_rows {C D : CL} (hc : C.length = 16) (hd : D.length = 16) (pc : ∀ k : Nat, 0 ≤ cAt C k) (pd : ∀ k : Nat, 0 ≤ cAt D k) (hl : (rdM C).length = (rdM D).length) (h : ∀ a, 0 < cntC C a → cntC D a = cntC C a) : C = D := by
  refine ext_cnt hc hd fun a => ?_
  have h1 := cntC_ge pc a
  have h2 := cntC_ge pd a
  by_cases hca : 0 < cntC C a
  · exact (h a hca).symm
  · by_cases hda : 0 < cntC D a
    · exfalso
      have hm : ∀ b, 0 < cntC D b → 0 ≤ b := fun b hb => by unfold cntC at hb; split at hb <;> omega
      have hnd : (a :: (rdM C).map (·.1)).Nodup := List.nodup_cons.2 ⟨fun hm2 => by
        obtain ⟨x, hx, e⟩ := List.mem_map.1 hm2
        obtain ⟨b, v⟩ := x
        have := (rdM_mem.1 hx).2.1
        simp only at e
        rw [e] at this
        exact hca this, rdM_nodup C⟩
      have := List.Nodup.length_le_of_subset (l₁ := a :: (rdM C).map (·.1)) (l₂ := (rdM D).map (·.1)) hnd (by
        intro b hb
        rcases List.mem_cons.1 hb with rfl | hb
        · exact List.mem_map.2 ⟨(b, .int .i64 (cntC D b)), rdM_mem.2 ⟨hm b hda, hda, rfl⟩, rfl⟩
        · obtain ⟨x, hx, rfl⟩ := List.mem_map.1 hb
          obtain ⟨b, v⟩ := x
          have h3 := rdM_mem.1 hx
          have h4 := h b h3.2.1
          exact List.mem_map.2 ⟨(b, .int .i64 (cntC D b)), rdM_mem.2 ⟨h3.1, by rw [h4]; exact h3.2.1, rfl⟩, rfl⟩)
      simp at this
      omega
    · omega

set_option maxRecDepth 100000 in
set_option maxHeartbeats 2000000 in
theorem mequalc (b1 b2 : Nat) (C D : CL) (w : World) (h1 : MapP w b1 (rdM C)) (h2 : MapP w b2 (rdM D)) (hc : C.length = 16) (hd : D.length = 16) (pc : ∀ k : Nat, 0 ≤ cAt C k) (pd : ∀ k : Nat, 0 ≤ cAt D k) :
    Calls Tryz.prog 38 #[.map (some b1), .map (some b2)] w fun e w' => e = .returned (.bool (decide (C = D))) ∧ Chg [] w w' := by
  have hr1 := run_len_P (P := Tryz.prog) Tryz.underlying37 h1 3
  have hr2 := run_len_P (P := Tryz.prog) Tryz.underlying37 h2 3
  obtain ⟨n1, hn1⟩ : ∃ n, n = (rdM C).length := ⟨_, rfl⟩
  obtain ⟨n2, hn2⟩ : ∃ n, n = (rdM D).length := ⟨_, rfl⟩
  rw [← hn1] at hr1
  rw [← hn2] at hr2
  by_cases hl : n1 = n2
  · subst hl
    have hb : ((n1 : Int) != (n1 : Int)) = false := by simp
    obtain ⟨M, hM, hMp⟩ := h1
    obtain ⟨o, hrange, hR0⟩ := run_range_I (P := Tryz.prog) Tryz.underlying37 hM
    have hD0 := h2.kept ((Chg.refl [] w).alloc o) (by simp)
    have H0 := Lib.hid (And.intro hR0 (And.intro hD0 ((Chg.refl [] w).alloc o)))
    have HH := Lib.hid (And.intro hMp (And.intro hc (And.intro hd (And.intro pc (And.intro pd (hn1.symm.trans hn2))))))
    clear hR0 hD0 h2 hM hMp hc hd pc pd hn1 hn2
    go_enter Tryz.func38, Tryz.ntmps38
    go_wp2
    go_loopw [4] (fun _ wr => ∃ done rest, RngP wr b1 w.heap.size M rest ∧ M.Perm (done ++ rest) ∧ (∀ x ∈ done, ∃ n : Int, x.2 = .int .i64 n ∧ cntC D x.1 = n) ∧ MapP wr b2 (rdM D) ∧ Chg [] w wr) (fun _ wr => rleft wr b1 w.heap.size)
    case atStart => exact ⟨[], M, H0.out.1, by simp, by simp, H0.out.2.1, H0.out.2.2⟩
    case round =>
      obtain ⟨done, rest, hR, hP, hD, h2, hC⟩ := hrel
      rcases run_next_I (P := Tryz.prog) hR with ⟨hr0, hnx⟩ | ⟨p, q1, q2, w1, hr0, hnx, hR1, hen, hC1, hsz1⟩
      · subst hr0
        rw [List.append_nil] at hP
        have HF := Lib.hid (And.intro hP (And.intro hD hC))
        clear hP hD hC hR h2
        go_wp2
        go_ret
        obtain ⟨hP, hD, hC⟩ := HF.out
        obtain ⟨hMp, hc, hd, pc, pd, hl⟩ := HH.out
        refine ⟨?_, hC⟩
        have : C = D := eq_of_rows hc hd pc pd hl fun a ha => by
          have hm : (a, Value.int .i64 (cntC C a)) ∈ rdM C := rdM_mem.2 ⟨by unfold cntC at ha; split at ha <;> omega, ha, rfl⟩
          obtain ⟨n, h1, h2⟩ := hD _ (hP.mem_iff.1 (hMp.mem_iff.2 hm))
          simp at h1
          rw [h1]
          exact h2
        rw [decide_eq_true this]
        rfl
      · have hin : p ∈ rdM C := HH.out.1.mem_iff.1 (hP.mem_iff.2 (by rw [hr0]; simp))
        obtain ⟨a, v⟩ := p
        obtain ⟨ha0, han, rfl⟩ := rdM_mem.1 hin
        have hl1 := hR.left
        have hrl : rest.length = (q1 ++ q2).length + 1 := by rw [hr0]; simp; omega
        have h2' := h2.kept hC1 (by
          have hlt := h2.lt
          have := H0.out.2.1.lt
          simp
          intro e
          subst e
          obtain ⟨M', ⟨es, cl, hb, _⟩, _⟩ := h2
          obtain ⟨_, _, _, _, _, hr, _⟩ := hR
          rw [hr] at hb
          cases hb)
        have hlk := run_lookup_P (P := Tryz.prog) Tryz.underlying37 Tryz.underlying3 (zeroInt w1) h2' a
        rw [rdM_lookup] at hlk
        have HF := Lib.hid (And.intro hR1 (And.intro hP (And.intro hD (And.intro h2' (And.intro (hC.trans' hC1 (fun k hk => by simp at hk; subst hk; exact .inr (Nat.le_refl _))) (And.intro hl1 (And.intro hrl hr0)))))))
        simp only at hnx hen
        obtain ⟨n, hn⟩ : ∃ n, n = cntC C a := ⟨_, rfl⟩
        obtain ⟨m, hm⟩ : ∃ m, m = cntC D a := ⟨_, rfl⟩
        rw [← hn] at hnx hen
        rw [← hm] at hlk
        have HE := Lib.hid (And.intro hn (And.intro hm (And.intro han hin)))
        clear hR1 hP hD h2' hC hC1 hl1 hrl hr0 hR h2 hn hm ha0 hsz1
        by_cases hmp : 0 < m
        · rw [if_pos hmp] at hlk
          simp only [Option.getD_some, Option.isSome_some] at hlk
          by_cases hnm : n = m
          · have hb2 : (n != m) = false := by simp [hnm]
            have HN := Lib.hid hnm
            clear hmp hnm han hin
            go_wp2
            go_roundw
            case rel =>
              obtain ⟨hR1, hP, hD, h2', hC, hl1, hrl, hr0⟩ := HF.out
              refine ⟨done ++ [(a, .int .i64 (cntC C a))], q1 ++ q2, hR1, ?_, ?_, h2', hC⟩
              · rw [hr0] at hP
                refine hP.trans ?_
                simp only [List.append_assoc, List.singleton_append]
                exact List.Perm.append_left done List.perm_middle
              · intro x hx
                rcases List.mem_append.1 hx with hx | hx
                · exact hD x hx
                · simp at hx
                  subst hx
                  exact ⟨_, rfl, by rw [← HE.out.2.1, ← HE.out.1]; exact HN.out.symm⟩
            case measure =>
              obtain ⟨hR1, hP, hD, h2', hC, hl1, hrl, hr0⟩ := HF.out
              rw [hR1.left, hl1]
              omega
          · have hb2 : (n != m) = true := by simp [hnm]
            have HN := Lib.hid hnm
            clear hmp hnm han hin
            go_wp2
            go_ret
            refine ⟨?_, HF.out.2.2.2.2.1⟩
            rw [decide_eq_false (fun e => HN.out (by rw [HE.out.1, HE.out.2.1, e]))]
            rfl
        · rw [if_neg hmp] at hlk
          simp only [Option.getD_none, Option.isSome_none] at hlk
          have HN := Lib.hid hmp
          clear hmp han hin
          go_wp2
          go_ret
          refine ⟨?_, HF.out.2.2.2.2.1⟩
          rw [decide_eq_false (fun e => by have h1 := HN.out; rw [HE.out.2.1, ← e] at h1; have h2 := HE.out.2.2.1; omega)]
          rfl
  · have hb : ((n1 : Int) != (n2 : Int)) = true := by simp; omega
    have HN := Lib.hid (show ¬ C = D from fun e => hl (by rw [hn1, hn2, e]))
    clear h1 h2 hc hd pc pd hn1 hn2 hl
    go_enter Tryz.func38, Tryz.ntmps38
    go_wp2
    go_ret
    exact ⟨by rw [decide_eq_false HN.out]; rfl, Chg.refl _ _⟩

set_option maxRecDepth 100000 in
theorem mclonec (b : Nat) (M : List (Int × Value)) (w : World) (h : MapP w b M) :
    Calls Tryz.prog 56 #[.map (some b)] w fun e w' => e = .returned (.map (some w.heap.size)) ∧ MapP w' w.heap.size M ∧ Chg [] w w' := by
  obtain ⟨M', ⟨es, clock, hb, hE⟩, hp⟩ := h
  have hq := fun w => run_eql_map_nil_sl (P := Tryz.prog) w 37 _ _ (some b) Tryz.underlying37
  have H := Lib.hid (And.intro hE hp)
  clear hE hp
  go_enter Tryz.func56, Tryz.ntmps56
  go_wp2
  rw [run_callFunc_extern Tryz.func79 (by kernel_rfl) (by kernel_rfl) (by kernel_rfl) (e := Extern.MapsClone.clone) (by kernel_rfl), run_maps_clone_sl w 37 hb]
  simp only [Result.andThen]
  rw [Oper.upon_value]
  go_wp2
  rw [run_typeAssert_map_sl _ 37 20 _ _ _ Tryz.underlying37]
  simp only [Result.andThen]
  rw [Oper.upon_value]
  go_wp2
  go_ret
  exact ⟨rfl, ⟨M', ⟨es, clock, heap_alloc_eq w _, H.out.1⟩, H.out.2⟩, (Chg.refl _ _).alloc _⟩

def LCopyP (N : Int) (s : LS) (w : World) (e : Ending) (w' : World) : Prop := ∃ cb rb a0 m0 a1 m1, e = .returned (.pointer (some ⟨cb, 0, none⟩)) ∧ (∀ k ∈ [cb, rb, a0, m0, a1, m1], w.heap.size ≤ k) ∧ LAt w' cb rb a0 m0 a1 m1 N s ∧ Chg [] w w'

set_option maxRecDepth 100000 in
set_option maxHeartbeats 4000000 in
theorem lcopyc (cb rb a0 m0 a1 m1 : Nat) (N : Int) (s : LS) (w : World) (h : LAt w cb rb a0 m0 a1 m1 N s) :
    Calls Tryz.prog 27 #[.pointer (some ⟨cb, 0, none⟩)] w (LCopyP N s w) := by
  have c0 := cellB h.head (i := 0) (v := .int .i64 s.wr) rfl
  have c1 := cellB h.head (i := 1) (v := .map (some rb)) rfl
  have c2 := cellB h.head (i := 2) (v := .pointer (some ⟨a0, 0, none⟩)) rfl
  have c3 := cellB h.head (i := 3) (v := .pointer (some ⟨a1, 0, none⟩)) rfl
  have HT := Lib.hid (ltherec cb rb a0 m0 a1 m1 N s w h)
  have HL := Lib.hid h
  have HM := Lib.hid (mclonec rb (rdM s.C) w.drew (h.calm (Chg.refl [] w).drew).reads)
  clear h
  go_enter Tryz.func27, Tryz.ntmps27
  go_wp2_with (go_at_call 37; refine HT.out.mono ?_; rintro e w' ⟨rfl, rfl⟩)
  go_region_held3 (fun w' => w'.cell? ⟨cb, 0, none⟩ = some (.int .i64 s.wr) ∧ w'.cell? ⟨cb, 1, none⟩ = some (.map (some rb)) ∧ w'.cell? ⟨cb, 2, none⟩ = some (.pointer (some ⟨a0, 0, none⟩)) ∧ w'.cell? ⟨cb, 3, none⟩ = some (.pointer (some ⟨a1, 0, none⟩))) (first | exact ⟨c0, c1, c2, c3⟩ | exact ⟨x0, x1, x2, x3⟩ | exact ⟨y0, y1, y2, y3⟩ | exact ⟨z0, z1, z2, z3⟩ | exact ⟨cellB (blk_alloc hb3 _) (i := 0) rfl, cellB (blk_alloc hb3 _) (i := 1) rfl, cellB (blk_alloc hb3 _) (i := 2) rfl, cellB (blk_alloc hb3 _) (i := 3) rfl⟩)
    (first
    | (go_at_call 56; (with_reducible refine HM.out.mono ?_); rintro e w1 ⟨rfl, hM, hC⟩; have H1 := Lib.hid (And.intro hM (show Chg [] w w1 from ⟨hC.os, hC.tape, hC.output, hC.size, hC.block⟩)); clear hM hC; have x0 := cellB (HL.out.calm H1.out.2).head (i := 0) (v := .int .i64 s.wr) rfl; have x1 := cellB (HL.out.calm H1.out.2).head (i := 1) (v := .map (some rb)) rfl; have x2 := cellB (HL.out.calm H1.out.2).head (i := 2) (v := .pointer (some ⟨a0, 0, none⟩)) rfl; have x3 := cellB (HL.out.calm H1.out.2).head (i := 3) (v := .pointer (some ⟨a1, 0, none⟩)) rfl; have HW1 := Lib.hid (copyc a0 m0 N s.R w1 (HL.out.calm H1.out.2).lr))
    | (go_at_call 57; (with_reducible refine HW1.out.mono ?_); rintro e w2 ⟨a2, m2, rfl, ha2, hm2, hW, hC⟩; have H2 := Lib.hid (And.intro hW (And.intro (H1.out.2.trans hC) (And.intro hC (And.intro ha2 hm2)))); clear hW hC ha2 hm2; have y0 := cellB (HL.out.calm H2.out.2.1).head (i := 0) (v := .int .i64 s.wr) rfl; have y1 := cellB (HL.out.calm H2.out.2.1).head (i := 1) (v := .map (some rb)) rfl; have y2 := cellB (HL.out.calm H2.out.2.1).head (i := 2) (v := .pointer (some ⟨a0, 0, none⟩)) rfl; have y3 := cellB (HL.out.calm H2.out.2.1).head (i := 3) (v := .pointer (some ⟨a1, 0, none⟩)) rfl; have HW2 := Lib.hid (copyc a1 m1 N s.W w2 (HL.out.calm H2.out.2.1).lw))
    | (go_at_call 57; (with_reducible refine HW2.out.mono ?_); rintro e w3 ⟨a3, m3, rfl, ha3, hm3, hW, hC⟩; have H3 := Lib.hid (And.intro hW (And.intro (H2.out.2.1.trans hC) (And.intro hC (And.intro ha3 hm3)))); clear hW hC ha3 hm3; have hb3 := (HL.out.calm H3.out.2.1).head; have z0 := cellB (HL.out.calm H3.out.2.1).head (i := 0) (v := .int .i64 s.wr) rfl; have z1 := cellB (HL.out.calm H3.out.2.1).head (i := 1) (v := .map (some rb)) rfl; have z2 := cellB (HL.out.calm H3.out.2.1).head (i := 2) (v := .pointer (some ⟨a0, 0, none⟩)) rfl; have z3 := cellB (HL.out.calm H3.out.2.1).head (i := 3) (v := .pointer (some ⟨a1, 0, none⟩)) rfl))
  clear c0 c1 c2 c3 x0 x1 x2 x3 y0 y1 y2 y3 z0 z1 z2 z3 hb3
  go_wp2
  go_ret
  have hA : Chg [] w3 (w3.alloc (.cells #[.int .i64 s.wr, .map (some w.heap.size), .pointer (some ⟨a2, 0, none⟩), .pointer (some ⟨a3, 0, none⟩)] 42)) := (Chg.refl _ _).alloc _
  have g0 := H1.out.1.lt
  have g1 := H2.out.1.lt
  have g2 := H3.out.1.lt
  have s0 := H1.out.2.size
  have s1 := H2.out.2.2.1.size
  have s2 := H3.out.2.2.1.size
  have p1 := H2.out.2.2.2.1
  have p2 := H2.out.2.2.2.2
  have p3 := H3.out.2.2.2.1
  have p4 := H3.out.2.2.2.2
  have g0 : w.heap.size < w1.heap.size := g0
  refine ⟨w3.heap.size, w.heap.size, a2, m2, a3, m3, rfl, ?_, ⟨heap_alloc_eq w3 _, ((H1.out.1.kept H2.out.2.2.1 (by simp)).kept H3.out.2.2.1 (by simp)).kept hA (by simp), (H2.out.1.kept H3.out.2.2.1 (by simp) (by simp)).kept hA (by simp) (by simp), H3.out.1.kept hA (by simp) (by simp), HL.out.inv, ?_⟩, H3.out.2.1.trans hA⟩
  · intro k hk
    simp only [List.mem_cons, List.not_mem_nil, or_false] at hk
    omega
  · simp only [List.nodup_cons, List.mem_cons, List.not_mem_nil, or_false, not_or, List.nodup_nil, not_false_eq_true, and_true]
    omega

def LS.eqv (s t : LS) : Bool := decide (s.wr = t.wr) && decide (s.C = t.C) && decide (s.R = t.R) && decide (s.W = t.W)
theorem LS.eqv_refl (s : LS) : s.eqv s = true := by unfold LS.eqv; simp
theorem LS.eqv_ways (s t : LS) : ((s.wr == t.wr) = false ∧ s.eqv t = false) ∨ ((s.wr == t.wr) = true ∧ decide (s.C = t.C) = false ∧ s.eqv t = false) ∨ ((s.wr == t.wr) = true ∧ decide (s.C = t.C) = true ∧ decide (s.R = t.R) = false ∧ s.eqv t = false) ∨
    ((s.wr == t.wr) = true ∧ decide (s.C = t.C) = true ∧ decide (s.R = t.R) = true ∧ s.eqv t = decide (s.W = t.W)) := by
  unfold LS.eqv
  by_cases h1 : s.wr = t.wr
  · cases decide (s.C = t.C) <;> cases decide (s.R = t.R) <;> simp [h1]
  · simp [h1]

set_option maxRecDepth 100000 in
set_option maxHeartbeats 8000000 in
theorem lsameW (c1 r1 a1 m1 b1 n1 c2 r2 a2 m2 b2 n2 : Nat) (N1 N2 : Int) (s t : LS) (w : World) (h : LAt w c1 r1 a1 m1 b1 n1 N1 s) (g : LAt w c2 r2 a2 m2 b2 n2 N2 t) (e1 : (s.wr == t.wr) = true) (e2 : decide (s.C = t.C) = true) (e3 : decide (s.R = t.R) = true) (e4 : s.eqv t = decide (s.W = t.W)) :
    Calls Tryz.prog 10 #[.pointer (some ⟨c1, 0, none⟩), .pointer (some ⟨c2, 0, none⟩)] w fun e w' => e = .returned (.bool (s.eqv t)) ∧ Chg [] w w' := by
  have hT : ∀ r : Nat, r = c1 ∨ r = c2 → Calls Tryz.prog 37 #[.pointer (some ⟨r, 0, none⟩)] w fun e w' => e = .returned (.bool true) ∧ w = w' := by
    rintro r (rfl | rfl)
    · exact ltherec _ r1 a1 m1 b1 n1 N1 s w h
    · exact ltherec _ r2 a2 m2 b2 n2 N2 t w g
  have HT := Lib.hid hT
  have HL := Lib.hid (And.intro h g)
  have c0 := cellB h.head (i := 0) (v := .int .i64 s.wr) rfl
  have c1' := cellB h.head (i := 1) (v := .map (some r1)) rfl
  have c2' := cellB h.head (i := 2) (v := .pointer (some ⟨a1, 0, none⟩)) rfl
  have c3 := cellB h.head (i := 3) (v := .pointer (some ⟨b1, 0, none⟩)) rfl
  have d0 := cellB g.head (i := 0) (v := .int .i64 t.wr) rfl
  have d1 := cellB g.head (i := 1) (v := .map (some r2)) rfl
  have d2 := cellB g.head (i := 2) (v := .pointer (some ⟨a2, 0, none⟩)) rfl
  have d3 := cellB g.head (i := 3) (v := .pointer (some ⟨b2, 0, none⟩)) rfl
  have hE := mequalc r1 r2 s.C t.C w.drew (h.calm (Chg.refl [] w).drew).reads (g.calm (Chg.refl [] w).drew).reads h.inv.ok.len g.inv.ok.len (fun k => (h.inv.ok.pos k).1) (fun k => (g.inv.ok.pos k).1)
  have hR := fun (W : World) (hW : Chg [] w W) => samec a1 m1 a2 m2 N1 N2 s.R t.R W (h.calm hW).lr (g.calm hW).lr
  have hW := fun (W : World) (hW : Chg [] w W) => samec b1 n1 b2 n2 N1 N2 s.W t.W W (h.calm hW).lw (g.calm hW).lw
  clear h g hT
  rw [e4]
  rw [e2] at hE
  rw [e3] at hR
  generalize decide (s.W = t.W) = bw at *
  have HE := Lib.hid hE
  have HR := Lib.hid hR
  have HW := Lib.hid hW
  clear hE hR hW e2 e3 e4
  go_enter Tryz.func10, Tryz.ntmps10
  go_wp2_with (go_at_call 37; refine (HT.out _ (by first | exact .inl rfl | exact .inr rfl)).mono ?_; rintro e w' ⟨rfl, rfl⟩)
  go_region_held3 (fun w' => w'.cell? ⟨c1, 0, none⟩ = some (.int .i64 s.wr) ∧ w'.cell? ⟨c1, 1, none⟩ = some (.map (some r1)) ∧ w'.cell? ⟨c1, 2, none⟩ = some (.pointer (some ⟨a1, 0, none⟩)) ∧ w'.cell? ⟨c1, 3, none⟩ = some (.pointer (some ⟨b1, 0, none⟩)) ∧ w'.cell? ⟨c2, 0, none⟩ = some (.int .i64 t.wr) ∧ w'.cell? ⟨c2, 1, none⟩ = some (.map (some r2)) ∧ w'.cell? ⟨c2, 2, none⟩ = some (.pointer (some ⟨a2, 0, none⟩)) ∧ w'.cell? ⟨c2, 3, none⟩ = some (.pointer (some ⟨b2, 0, none⟩))) (first | exact ⟨c0, c1', c2', c3, d0, d1, d2, d3⟩ | exact xx | exact yy | exact zz)
    (first
    | (go_at_call 38; (with_reducible refine HE.out.mono ?_); rintro e w1 ⟨rfl, hC⟩; have H1 := Lib.hid (show Chg [] w w1 from ⟨hC.os, hC.tape, hC.output, hC.size, hC.block⟩); clear hC; have xx := show _ ∧ _ ∧ _ ∧ _ ∧ _ ∧ _ ∧ _ ∧ _ from ⟨cellB (HL.out.1.calm H1.out).head (i := 0) (v := .int .i64 s.wr) rfl, cellB (HL.out.1.calm H1.out).head (i := 1) (v := .map (some r1)) rfl, cellB (HL.out.1.calm H1.out).head (i := 2) (v := .pointer (some ⟨a1, 0, none⟩)) rfl, cellB (HL.out.1.calm H1.out).head (i := 3) (v := .pointer (some ⟨b1, 0, none⟩)) rfl, cellB (HL.out.2.calm H1.out).head (i := 0) (v := .int .i64 t.wr) rfl, cellB (HL.out.2.calm H1.out).head (i := 1) (v := .map (some r2)) rfl, cellB (HL.out.2.calm H1.out).head (i := 2) (v := .pointer (some ⟨a2, 0, none⟩)) rfl, cellB (HL.out.2.calm H1.out).head (i := 3) (v := .pointer (some ⟨b2, 0, none⟩)) rfl⟩; have HR1 := Lib.hid (HR.out w1 H1.out))
    | (go_at_call 39; (with_reducible refine HR1.out.mono ?_); rintro e w2 ⟨rfl, hC⟩; have H2 := Lib.hid (H1.out.trans hC); clear hC; have yy := show _ ∧ _ ∧ _ ∧ _ ∧ _ ∧ _ ∧ _ ∧ _ from ⟨cellB (HL.out.1.calm H2.out).head (i := 0) (v := .int .i64 s.wr) rfl, cellB (HL.out.1.calm H2.out).head (i := 1) (v := .map (some r1)) rfl, cellB (HL.out.1.calm H2.out).head (i := 2) (v := .pointer (some ⟨a1, 0, none⟩)) rfl, cellB (HL.out.1.calm H2.out).head (i := 3) (v := .pointer (some ⟨b1, 0, none⟩)) rfl, cellB (HL.out.2.calm H2.out).head (i := 0) (v := .int .i64 t.wr) rfl, cellB (HL.out.2.calm H2.out).head (i := 1) (v := .map (some r2)) rfl, cellB (HL.out.2.calm H2.out).head (i := 2) (v := .pointer (some ⟨a2, 0, none⟩)) rfl, cellB (HL.out.2.calm H2.out).head (i := 3) (v := .pointer (some ⟨b2, 0, none⟩)) rfl⟩; have HW1 := Lib.hid (HW.out w2 H2.out))
    | (go_at_call 39; (with_reducible refine HW1.out.mono ?_); rintro e w3 ⟨rfl, hC⟩; have H3 := Lib.hid (H2.out.trans hC); clear hC; have zz := show _ ∧ _ ∧ _ ∧ _ ∧ _ ∧ _ ∧ _ ∧ _ from ⟨cellB (HL.out.1.calm H3.out).head (i := 0) (v := .int .i64 s.wr) rfl, cellB (HL.out.1.calm H3.out).head (i := 1) (v := .map (some r1)) rfl, cellB (HL.out.1.calm H3.out).head (i := 2) (v := .pointer (some ⟨a1, 0, none⟩)) rfl, cellB (HL.out.1.calm H3.out).head (i := 3) (v := .pointer (some ⟨b1, 0, none⟩)) rfl, cellB (HL.out.2.calm H3.out).head (i := 0) (v := .int .i64 t.wr) rfl, cellB (HL.out.2.calm H3.out).head (i := 1) (v := .map (some r2)) rfl, cellB (HL.out.2.calm H3.out).head (i := 2) (v := .pointer (some ⟨a2, 0, none⟩)) rfl, cellB (HL.out.2.calm H3.out).head (i := 3) (v := .pointer (some ⟨b2, 0, none⟩)) rfl⟩)
    | fail)
  go_wp2
  go_ret
  exact ⟨rfl, H3.out⟩

end Go.Proofs.YtpdfeinbbjfcaaaGreat
