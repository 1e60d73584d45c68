
/- metronomelaw13.MutexCopies answers true, whatever the steps. -/
import Derived.Test.YtagnobmdcchcaaaMPl
import Derived.Test.YtagnobmdcchcaaaMSb
import Derived.Deep.CutBlock
namespace Go.Proofs.Ytagnobmdcchcaaa
open Go.RowKit

def Dis (A B : List Nat) : Prop := ∀ x ∈ A, ∀ y ∈ B, x ≠ y
theorem Dis.symm {A B : List Nat} (h : Dis A B) : Dis B A := fun x hx y hy => (h y hy x hx).symm

theorem PM.lt {w0 w : World} {cb ab mb rc : Nat} {gs : List Nat} {N : Int} {s : MS} (h : PM w0 w cb ab mb rc gs N s) : ∀ k ∈ cb :: ab :: mb :: rc :: gs, k < w.heap.size := by
  have h1 := h.m.lt
  have h2 := h.q.lt
  intro k hk
  simp only [List.mem_cons] at hk
  rcases hk with rfl | rfl | rfl | hk
  · exact h1.1
  · exact h1.2.1
  · exact h1.2.2
  · exact h2 k (by simpa using hk)
theorem PM.other {A : List Nat} {w0 w w' : World} {cb ab mb rc : Nat} {gs : List Nat} {N : Int} {s : MS} (h : PM w0 w cb ab mb rc gs N s) (hC : Chg A w w') (hd : Dis A (cb :: ab :: mb :: rc :: gs)) (hA : ∀ k ∈ A, w0.heap.size ≤ k) : PM w0 w' cb ab mb rc gs N s :=
  ⟨h.m.kept hC (fun hm => hd _ hm cb (by simp) rfl) (fun hm => hd _ hm ab (by simp) rfl) (fun hm => hd _ hm mb (by simp) rfl), h.q.kept hC (fun k hk => ⟨hd k hk rc (by simp), fun hm => hd k hk k (by simp [hm]) rfl⟩), h.c.trans' hC (fun k hk => .inr (hA k hk)), h.g, h.ok⟩
theorem DoP13.chg {cb ab mb rc : Nat} {gs : List Nat} {N : Int} {s : MS} {w w' : World} (h : DoP13 cb ab mb rc gs N s w w') : Chg (cb :: ab :: mb :: rc :: gs) w w' := by
  obtain ⟨_, _, _, _, h⟩ := h
  exact h
/-- A step of a pair, beside blocks that are apart from it. -/
theorem PM.step2 {w0 w w' : World} {cb ab mb rc : Nat} {gs : List Nat} {N N' : Int} {s s' : MS} {B : List Nat} (h : PM w0 w cb ab mb rc gs N s) (hok : MOk s') (hD : DoP13 cb ab mb rc gs N' s' w w') (hd : Dis (cb :: ab :: mb :: rc :: gs) B) (hB : ∀ y ∈ B, y < w.heap.size) : ∃ gs', PM w0 w' cb ab mb rc gs' N' s' ∧ Dis (cb :: ab :: mb :: rc :: gs') B := by
  obtain ⟨gs', h1, h2, h3, h4⟩ := hD
  have hg : ∀ k ∈ gs', (∀ y ∈ B, k ≠ y) ∧ w0.heap.size ≤ k := fun k hk => by
    rcases h3 with rfl | h3
    · exact ⟨fun y hy => hd k (by simp [hk]) y hy, h.g k (by simp [hk])⟩
    · have := h3 k hk
      have := h.c.size
      exact ⟨fun y hy => by have := hB y hy; omega, by omega⟩
  refine ⟨gs', ⟨h1, h2, h.c.trans' h4 (fun k hk => .inr (h.g k hk)), ?_, hok⟩, ?_⟩
  · intro k hk
    simp only [List.mem_cons] at hk
    rcases hk with rfl | rfl | rfl | rfl | hk
    · exact h.g _ (by simp)
    · exact h.g _ (by simp)
    · exact h.g _ (by simp)
    · exact h.g _ (by simp)
    · exact (hg k hk).2
  · intro x hx y hy
    simp only [List.mem_cons] at hx
    rcases hx with rfl | rfl | rfl | rfl | hx
    · exact hd _ (by simp) y hy
    · exact hd _ (by simp) y hy
    · exact hd _ (by simp) y hy
    · exact hd _ (by simp) y hy
    · exact (hg x hx).1 y hy

def Kin (s t : MS) : Prop := s.k = t.k ∧ s.p = t.p ∧ s.rob = t.rob
theorem Kin.trans {s t u : MS} (h : Kin s t) (g : Kin t u) : Kin s u := ⟨h.1.trans g.1, h.2.1.trans g.2.1, h.2.2.trans g.2.2⟩
theorem next_kin (s : MS) : Kin s.nextS s := by unfold MS.nextS; split <;> exact ⟨rfl, rfl, rfl⟩
theorem step_kin (s : MS) (kd t q b : Int) : Kin (s.stepS kd t q b) s := by
  unfold MS.stepS
  split
  · unfold MS.lockS MS.askS MS.took
    repeat' split
    all_goals exact ⟨rfl, rfl, rfl⟩
  · split
    · unfold MS.tryS MS.askS MS.took
      repeat' split
      all_goals exact ⟨rfl, rfl, rfl⟩
    · split
      · unfold MS.unS
        repeat' split
        all_goals first | exact ⟨rfl, rfl, rfl⟩ | exact next_kin s
      · split
        · unfold MS.csS
          repeat' split
          all_goals exact ⟨rfl, rfl, rfl⟩
        · split
          · unfold MS.enS
            repeat' split
            all_goals first | exact ⟨rfl, rfl, rfl⟩ | exact (next_kin { s with st := 1 }).trans ⟨rfl, rfl, rfl⟩
          · split
            · exact ⟨rfl, rfl, rfl⟩
            · split
              · exact ⟨rfl, rfl, rfl⟩
              · split
                · unfold MS.ceS
                  repeat' split
                  all_goals exact ⟨rfl, rfl, rfl⟩
                · exact ⟨rfl, rfl, rfl⟩
theorem eqv_refl (s : MS) : s.eqv s = true := by unfold MS.eqv; simp
theorem eqv_eqL (s t : MS) : t.eqv s = (eqL s.own s.cnt s.st s.c t.own t.cnt t.st t.c && decide (s.L = t.L)) := by
  rw [Bool.eq_iff_iff]
  unfold MS.eqv eqL
  simp
  constructor
  · rintro ⟨⟨⟨⟨h1, h2⟩, h3⟩, h4⟩, h5⟩
    exact ⟨⟨h2.symm, h3.symm, h4.symm, h1.symm⟩, h5.symm⟩
  · rintro ⟨⟨h1, h2, h3, h4⟩, h5⟩
    exact ⟨⟨⟨⟨h4.symm, h1.symm⟩, h2.symm⟩, h3.symm⟩, h5.symm⟩

theorem undW13 : Try.prog.underlying 67 = some (.struct (Try.prog.fieldsOf 67)) := by kernel_rfl
theorem heldW13 : Try.prog.stoodInHeld 67 = false := by kernel_rfl
theorem guardW13 : Try.prog.eqGuardType Try.prog.depth 67 = false := by kernel_rfl
theorem fieldsW13 : (Try.prog.fieldsOf 67).toList.map (fun f => (f.name == "_", f.type, f.offset)) = [(false, 3, 0), (false, 3, 1)] := by kernel_rfl
theorem eqFields_w13 (w : World) (a b c d : Int) : (Op.eqFields 9999 #[.int .i64 a, .int .i64 b] #[.int .i64 c, .int .i64 d] (Try.prog.fieldsOf 67).toList).run Try.prog w = .ok (decide (a = c ∧ b = d)) w := by
  have hf := fieldsW13
  generalize (Try.prog.fieldsOf 67).toList = fs at hf
  obtain ⟨f, g, rfl⟩ : ∃ f g, fs = [f, g] := by
    have hl := congrArg List.length hf
    simp at hl
    exact (match fs, hl with | [f, g], _ => ⟨f, g, rfl⟩)
  simp only [List.map_cons, List.map_nil, List.cons.injEq, Prod.mk.injEq, and_true] at hf
  obtain ⟨⟨f1, f2, f3⟩, g1, g2, g3⟩ := hf
  rw [eqFields_oneT w 3 Try.underlying3 _ _ f [g] a c (by simpa using f1) f2 (by rw [f3]; exact part_int0 w a b) (by rw [f3]; exact part_int0 w c d),
    eqFields_oneT w 3 Try.underlying3 _ _ g [] b d (by simpa using g1) g2 (by rw [g3]; exact part_int1 w a b) (by rw [g3]; exact part_int1 w c d)]
  by_cases h1 : a = c
  · by_cases h2 : b = d
    · simp [h1, h2, Op.eqFields]
    · simp [h1, h2]
  · simp [h1]
def eqP (a b c d : Int) : Bool := decide (a = c ∧ b = d)
@[go_sem high] theorem eql_w13 (w : World) (a b c d : Int) : (binOp .eql 67 (.agg #[.int .i64 a, .int .i64 b]) (.agg #[.int .i64 c, .int .i64 d])).run Try.prog w = .ok (.bool (eqP a b c d)) w := by
  unfold eqP
  rw [run_eql_struct, show (10000 : Nat) = 9999 + 1 from rfl, run_equalIn_struct w 9999 _ _ _ undW13 heldW13, eqFields_w13]
  simp [Result.andThen]
@[go_sem high] theorem eql_guard_w13 (x y : Operand) (w : World) (xs ys : Array Value) : (eqGuard .eql 67 x y (.agg xs) (.agg ys)).run Try.prog w = .ok () w := run_eqGuard_agg w _ _ _ _ _ _ guardW13

set_option maxRecDepth 100000 in
set_option maxHeartbeats 16000000 in
theorem mutexCopies_any (k0 p0 c0 : Int) (r0 : Bool) (v u : Value) (R S : List (Nat → Int)) (w : World) (hv : IsRows 4 w v R) (hu : IsRows 4 w u S) :
    Calls Try.prog 8 #[.int .i64 k0, .int .i64 p0, .int .i64 c0, .bool r0, v, u] w fun e w' => e = .returned (.bool true) ∧ Chg [] w w' := by
  obtain ⟨a, cap, rfl⟩ := hv.slice
  obtain ⟨a2, cap2, rfl⟩ := hu.slice
  have HV := Lib.hid hv
  have HU := Lib.hid hu
  clear hv hu
  obtain ⟨n, hn⟩ : ∃ n, n = R.length := ⟨_, rfl⟩
  obtain ⟨m, hm⟩ : ∃ m, m = S.length := ⟨_, rfl⟩
  rw [← hn, ← hm]
  have HN := Lib.hid hn
  have HMm := Lib.hid hm
  clear hn hm
  have hb : mnewB k0 p0 c0 = false ∨ (mnewB k0 p0 c0 = true ∧ 100 < n) ∨ (mnewB k0 p0 c0 = true ∧ ¬ 100 < n ∧ 100 < m) ∨ (mnewB k0 p0 c0 = true ∧ ¬ 100 < n ∧ ¬ 100 < m) := by cases mnewB k0 p0 c0 <;> simp; omega
  rcases hb with hb | ⟨hb, hl⟩ | ⟨hb, hl, hl2⟩ | ⟨hb, hl, hl2⟩
  · have HB := Lib.hid hb
    clear hb
    go_enter Try.func8, Try.ntmps8
    go_wp2_with fail
    refine (mnew_no k0 p0 c0 r0 w HB.out).mono ?_
    rintro e w0 ⟨rfl, rfl⟩
    go_wp2_with fail
    refine (known13 w).mono ?_
    rintro e wk ⟨rfl, hC⟩
    have HKk := Lib.hid ((Chg.refl [] w).trans hC)
    clear hC
    go_wp2
    go_ret
    exact ⟨rfl, HKk.out⟩
  · have HB := Lib.hid hb
    have q1 : (100 : Int) < (n : Int) := by omega
    clear hb hl
    go_enter Try.func8, Try.ntmps8
    go_wp2_with fail
    refine (fnewF k0 p0 c0 r0 w w (Chg.refl _ _) HB.out).mono ?_
    rintro e w0 ⟨cb, ab, mb, rfl, hF, hC⟩
    have H0 := Lib.hid hC
    clear hF hC
    go_wp2_with fail
    refine (known13 w0).mono ?_
    rintro e wk ⟨rfl, hC⟩
    have HKk := Lib.hid (H0.out.trans hC)
    clear hC
    go_wp2
    go_ret
    exact ⟨rfl, HKk.out⟩
  · have HB := Lib.hid hb
    have q1 : ¬ (100 : Int) < (n : Int) := by omega
    have q2 : (100 : Int) < (m : Int) := by omega
    clear hb hl hl2
    go_enter Try.func8, Try.ntmps8
    go_wp2_with fail
    refine (fnewF k0 p0 c0 r0 w w (Chg.refl _ _) HB.out).mono ?_
    rintro e w0 ⟨cb, ab, mb, rfl, hF, hC⟩
    have H0 := Lib.hid hC
    clear hF hC
    go_wp2_with fail
    refine (known13 w0).mono ?_
    rintro e wk ⟨rfl, hC⟩
    have HKk := Lib.hid (H0.out.trans hC)
    clear hC
    go_wp2
    go_ret
    exact ⟨rfl, HKk.out⟩
  · have HB := Lib.hid hb
    have q1 : ¬ (100 : Int) < (n : Int) := by omega
    have q2 : ¬ (100 : Int) < (m : Int) := by omega
    clear hb
    go_enter Try.func8, Try.ntmps8
    go_wp2_with fail
    refine (mnewc k0 p0 c0 r0 w HB.out).mono ?_
    rintro e w0 ⟨cb, ab, mb, rfl, hg, hM, hC⟩
    have H0 := Lib.hid (And.intro hM (And.intro hC hg))
    clear hM hC hg
    go_wp2_with fail
    refine (mnewc k0 p0 c0 r0 w0 HB.out).mono ?_
    rintro e w1 ⟨ob, oa, om, rfl, hg, hM, hC⟩
    have H1 := Lib.hid (And.intro hM (And.intro hC hg))
    clear hM hC hg
    go_wp2_with fail
    refine (qnewc k0 p0 c0 r0 w1 HB.out).mono ?_
    rintro e w2 ⟨rc, rfl, hrc, hQ, hC⟩
    have H2 := Lib.hid (And.intro hQ (And.intro hC hrc))
    clear hQ hC hrc
    go_wp2_with fail
    refine (qnewc k0 p0 c0 r0 w2 HB.out).mono ?_
    rintro e w3 ⟨qc, rfl, hqc, hQ, hC⟩
    have H3 := Lib.hid (show PM w w3 cb ab mb rc [] 0 (mnew k0 p0 c0 r0) ∧ PM w w3 ob oa om qc [] 0 (mnew k0 p0 c0 r0) ∧ Dis [cb, ab, mb, rc] [ob, oa, om, qc] from by
      have h1 := H0.out.1.lt
      have h2 := H1.out.1.lt
      have h3 := H2.out.1.lt rc (by simp)
      have h4 := H0.out.2.2
      have h5 := H1.out.2.2
      have h6 := H2.out.2.2
      have s0 := H0.out.2.1.size
      have s1 := H1.out.2.1.size
      have s2 := H2.out.2.1.size
      refine ⟨⟨((H0.out.1.calm H1.out.2.1).calm H2.out.2.1).calm hC, H2.out.1.calm hC, ((H0.out.2.1.trans H1.out.2.1).trans H2.out.2.1).trans hC, fun k hk => by simp at hk; omega, MOk.new ..⟩,
        ⟨(H1.out.1.calm H2.out.2.1).calm hC, hQ, ((H0.out.2.1.trans H1.out.2.1).trans H2.out.2.1).trans hC, fun k hk => by simp at hk; omega, MOk.new ..⟩, fun x hx y hy => by simp at hx hy; omega⟩)
    clear hqc hQ hC H0 H1 H2
    go_wp2
    clear q1 q2
    go_loopw [19] (fun i wr => ∃ (k : Nat) (gs hs : List Nat) (s : MS), k ≤ n ∧ i = .int .i64 k ∧ PM w wr cb ab mb rc gs k s ∧ PM w wr ob oa om qc hs k s ∧ Dis (cb :: ab :: mb :: rc :: gs) (ob :: oa :: om :: qc :: hs)) (fun i _ => n - (intOf i).toNat)
    case atStart => exact ⟨0, [], [], _, by omega, rfl, H3.out.1, H3.out.2.1, H3.out.2.2⟩
    case round =>
      obtain ⟨k, gs, hs, s, hk, rfl, hP, hO, hD⟩ := hrel
      have HK := Lib.hid (And.intro hP (And.intro hO hD))
      clear hP hO hD H3
      by_cases hlt : k < n
      · as_aux_lemma =>
        have hne : R ≠ [] := fun e => by have := HN.out; rw [e] at this; simp at this; omega
        obtain ⟨g, o, cap', hsl, hcells⟩ := HV.out.addr hne
        cases hsl
        obtain ⟨x, hx⟩ : ∃ x, R[k]? = some x := ⟨_, List.getElem?_eq_getElem (by have := HN.out; omega)⟩
        have hrow := fun (W : World) (hW : Chg [] w W) => IsRows.row hcells hW hx
        have hR0 := fun (W : World) (hW : Chg [] w W) => hrow W hW 0 (by omega)
        have hR1 := fun (W : World) (hW : Chg [] w W) => hrow W hW 1 (by omega)
        have hR2 := fun (W : World) (hW : Chg [] w W) => hrow W hW 2 (by omega)
        have hR3 := fun (W : World) (hW : Chg [] w W) => hrow W hW 3 (by omega)
        simp only [Nat.add_zero] at hR0
        clear hcells hrow hx hne
        generalize x 0 = kd at *
        generalize x 1 = t0 at *
        generalize x 2 = q at *
        generalize x 3 = b at *
        have HRr := Lib.hid (And.intro hR0 (And.intro hR1 (And.intro hR2 hR3)))
        clear hR0 hR1 hR2 hR3
        have d0 := HRr.out.1 wr HK.out.1.c
        have d1 := HRr.out.2.1 wr HK.out.1.c
        have d2 := HRr.out.2.2.1 wr HK.out.1.c
        have d3 := HRr.out.2.2.2 wr HK.out.1.c
        go_wp2_with fail
        refine (does13 cb ab mb rc gs k s kd t0 q b wr HK.out.1.m HK.out.1.q HK.out.1.ok (by omega)).mono ?_
        rintro e w4 ⟨rfl, hD⟩
        have hok := HK.out.1.ok.stepS HK.out.1.m.list.lok kd (s.thr t0) q b
        obtain ⟨gs', hP1, hDis⟩ := HK.out.1.step2 hok hD HK.out.2.2 HK.out.2.1.lt
        have hO1 := HK.out.2.1.other hD.chg HK.out.2.2 HK.out.1.g
        have H4 := Lib.hid (And.intro hP1 (And.intro hO1 (And.intro hDis hok)))
        clear hD hok hP1 hDis hO1 d0 d1 d2 d3
        have d0 := HRr.out.1 w4 H4.out.1.c
        have d1 := HRr.out.2.1 w4 H4.out.1.c
        have d2 := HRr.out.2.2.1 w4 H4.out.1.c
        have d3 := HRr.out.2.2.2 w4 H4.out.1.c
        go_wp2_with fail
        refine (does13 ob oa om qc hs k s kd t0 q b w4 H4.out.2.1.m H4.out.2.1.q HK.out.1.ok (by omega)).mono ?_
        rintro e w5 ⟨rfl, hD⟩
        obtain ⟨hs', hO2, hDis2⟩ := H4.out.2.1.step2 H4.out.2.2.2 hD H4.out.2.2.1.symm H4.out.1.lt
        have hP2 := H4.out.1.other hD.chg H4.out.2.2.1.symm H4.out.2.1.g
        have H5 := Lib.hid (And.intro hP2 (And.intro hO2 hDis2.symm))
        clear hD hP2 hO2 hDis2
        go_wp2
        go_roundw
        case rel => exact ⟨k + 1, gs', hs', _, by omega, by go_num, H5.out.1, H5.out.2.1, H5.out.2.2⟩
        case measure => simp [intOf]; omega
      · have hkn : k = n := by omega
        subst hkn
        clear hk hlt
        go_wp2_with fail
        refine (mcopyc cb ab mb _ s wr HK.out.1.m).mono ?_
        rintro e w4 ⟨c2, a3, m2, rfl, hg, hM, hC⟩
        have H4 := Lib.hid (And.intro hM (And.intro hC hg))
        clear hM hC hg
        go_wp2_with fail
        refine (msamec cb ab mb c2 a3 m2 _ _ s s w4 (HK.out.1.m.calm H4.out.2.1) H4.out.1 rfl rfl rfl).mono ?_
        rintro e w5 ⟨rfl, hC⟩
        rw [eqv_refl]
        have H5 := Lib.hid (H4.out.2.1.trans hC)
        have H5b := Lib.hid (H4.out.1.calm hC)
        clear hC
        go_wp2_with fail
        refine (msamec cb ab mb ob oa om _ _ s s w5 (HK.out.1.m.calm H5.out) (HK.out.2.1.m.calm H5.out) rfl rfl rfl).mono ?_
        rintro e w6 ⟨rfl, hC⟩
        rw [eqv_refl]
        have H6 := Lib.hid (show PM w w6 c2 a3 m2 qc hs k s ∧ MAt w6 cb ab mb k s ∧ QM w6 rc gs s ∧ MAt w6 ob oa om k s ∧ Dis (c2 :: a3 :: m2 :: qc :: hs) ([cb, ab, mb, rc] ++ gs ++ [ob, oa, om]) ∧ Chg [] w w6 from by
          have hCC := H5.out.trans hC
          have l1 := HK.out.1.lt
          have l2 := HK.out.2.1.lt
          have hgg := H4.out.2.2
          have hsz := HK.out.1.c.size
          have hsep := HK.out.2.1.m.sepQ HK.out.2.1.q
          refine ⟨⟨H5b.out.calm hC, HK.out.2.1.q.calm hCC, HK.out.1.c.trans hCC, fun k hk => ?_, HK.out.1.ok⟩, HK.out.1.m.calm hCC, HK.out.1.q.calm hCC, HK.out.2.1.m.calm hCC, fun x hx y hy => ?_, HK.out.1.c.trans hCC⟩
          · simp only [List.mem_cons] at hk
            rcases hk with rfl | rfl | rfl | rfl | hk
            · omega
            · omega
            · omega
            · exact HK.out.2.1.g _ (by simp)
            · exact HK.out.2.1.g _ (by simp [hk])
          · have hylt : y < wr.heap.size := by
              simp only [List.mem_append] at hy
              rcases hy with (hy | hy) | hy
              · exact l1 y (by simp only [List.mem_cons, List.not_mem_nil, or_false] at hy ⊢; rcases hy with h | h | h | h <;> simp [h])
              · exact l1 y (by simp [hy])
              · exact l2 y (by simp only [List.mem_cons, List.not_mem_nil, or_false] at hy ⊢; rcases hy with h | h | h <;> simp [h])
            simp only [List.mem_cons] at hx
            have hx2 : x = qc ∨ x ∈ hs → x ≠ y := fun hx => by
              simp only [List.mem_append] at hy
              have hxb : x ∈ ob :: oa :: om :: qc :: hs := by rcases hx with h | h <;> simp [h]
              rcases hy with (hy | hy) | hy
              · exact (HK.out.2.2 y (by simp only [List.mem_cons, List.not_mem_nil, or_false] at hy ⊢; rcases hy with h | h | h | h <;> simp [h]) x hxb).symm
              · exact (HK.out.2.2 y (by simp [hy]) x hxb).symm
              · have := hsep y hy
                rcases hx with rfl | hx
                · exact this.1.symm
                · exact fun e => this.2 (by rw [← e]; exact hx)
            rcases hx with rfl | rfl | rfl | hx
            · omega
            · omega
            · omega
            · exact hx2 hx)
        clear hC
        go_wp2
        go_loopw [21] (fun i wr2 => ∃ (j : Nat) (hs2 : List Nat) (s2 : MS), j ≤ m ∧ i = .int .i64 j ∧ PM w wr2 c2 a3 m2 qc hs2 ((k : Int) + j) s2 ∧ Kin s2 s ∧ MAt wr2 cb ab mb k s ∧ QM wr2 rc gs s ∧ MAt wr2 ob oa om k s ∧ Dis (c2 :: a3 :: m2 :: qc :: hs2) ([cb, ab, mb, rc] ++ gs ++ [ob, oa, om])) (fun i _ => m - (intOf i).toNat)
        case atStart => exact ⟨0, hs, s, by omega, rfl, by simpa using H6.out.1, ⟨rfl, rfl, rfl⟩, H6.out.2.1, H6.out.2.2.1, H6.out.2.2.2.1, H6.out.2.2.2.2.1⟩
        case round =>
          obtain ⟨j, hs2, s2, hj, rfl, hP, hkin, hM, hQ, hO, hD⟩ := hrel
          have HJ := Lib.hid (And.intro hP (And.intro hkin (And.intro hM (And.intro hQ (And.intro hO hD)))))
          clear hP hkin hM hQ hO hD H6
          by_cases hlt : j < m
          · as_aux_lemma =>
            have hne : S ≠ [] := fun e => by have := HMm.out; rw [e] at this; simp at this; omega
            obtain ⟨g, o, cap', hsl, hcells⟩ := HU.out.addr hne
            cases hsl
            obtain ⟨x, hx⟩ : ∃ x, S[j]? = some x := ⟨_, List.getElem?_eq_getElem (by have := HMm.out; omega)⟩
            have hrow := IsRows.row hcells HJ.out.1.c hx
            have d0 := hrow 0 (by omega)
            have d1 := hrow 1 (by omega)
            have d2 := hrow 2 (by omega)
            have d3 := hrow 3 (by omega)
            rw [Nat.add_zero] at d0
            clear hcells hrow hx hne
            generalize x 0 = kd at *
            generalize x 1 = t0 at *
            generalize x 2 = q at *
            generalize x 3 = b at *
            have hlj : ∀ y ∈ [cb, ab, mb, rc] ++ gs ++ [ob, oa, om], y < wr.heap.size := by
              have l1 := HJ.out.2.2.1.lt
              have l2 := HJ.out.2.2.2.1.lt
              have l3 := HJ.out.2.2.2.2.1.lt
              intro y hy
              simp only [List.mem_append, List.mem_cons, List.not_mem_nil, or_false] at hy
              rcases hy with ((rfl | rfl | rfl | rfl) | hy) | (rfl | rfl | rfl)
              · exact l1.1
              · exact l1.2.1
              · exact l1.2.2
              · exact l2 _ (by simp)
              · exact l2 _ (by simp [hy])
              · exact l3.1
              · exact l3.2.1
              · exact l3.2.2
            have HLj := Lib.hid hlj
            clear hlj
            go_wp2_with fail
            refine (does13 c2 a3 m2 qc hs2 ((k : Int) + j) s2 kd t0 q b wr HJ.out.1.m HJ.out.1.q HJ.out.1.ok (by omega)).mono ?_
            rintro e w7 ⟨rfl, hD⟩
            have hok := HJ.out.1.ok.stepS HJ.out.1.m.list.lok kd (s2.thr t0) q b
            obtain ⟨hs3, hP1, hDis⟩ := HJ.out.1.step2 hok hD HJ.out.2.2.2.2.2 HLj.out
            have hdj := HJ.out.2.2.2.2.2
            have hchg := hD.chg
            have hn : ∀ y ∈ [cb, ab, mb, rc] ++ gs ++ [ob, oa, om], y ∉ c2 :: a3 :: m2 :: qc :: hs2 := fun y hy hm => hdj y hm y hy rfl
            have hM1 := HJ.out.2.2.1.kept hchg (hn _ (by simp)) (hn _ (by simp)) (hn _ (by simp))
            have hO1 := HJ.out.2.2.2.2.1.kept hchg (hn _ (by simp)) (hn _ (by simp)) (hn _ (by simp))
            have hQ1 := HJ.out.2.2.2.1.kept hchg (fun x hx => ⟨hdj x hx rc (by simp), fun hg => hdj x hx x (by simp [hg]) rfl⟩)
            have H7 := Lib.hid (And.intro hP1 (And.intro ((step_kin s2 kd (s2.thr t0) q b).trans HJ.out.2.1) (And.intro hM1 (And.intro hQ1 (And.intro hO1 hDis)))))
            clear hD hok hP1 hDis hdj hchg hn hM1 hO1 hQ1
            go_wp2
            go_roundw
            case rel => exact ⟨j + 1, hs3, _, by omega, by go_num, by have := H7.out.1; rw [show (k : Int) + ((j + 1 : Nat) : Int) = (k : Int) + j + 1 from by omega]; exact this, H7.out.2⟩
            case measure => simp [intOf]; omega
          · have hjm : j = m := by omega
            subst hjm
            clear hj hlt
            have hsep0 := HJ.out.2.2.2.2.2
            obtain ⟨alk, halk⟩ : ∃ b, b = (eqL s.own s.cnt s.st s.c s2.own s2.cnt s2.st s2.c && decide (s.L.length = s2.L.length)) := ⟨_, rfl⟩
            have HA := Lib.hid halk
            clear halk hsep0
            go_upto_region 21 with fail
            go_cut [22] from 115 to 177 (fun b wc => b = .bool alk ∧ Chg [] wr wc)
            case first => as_aux_lemma =>
              obtain ⟨v1, cp1, hb1, -⟩ := HJ.out.2.2.2.1.open
              obtain ⟨v2, cp2, hb2, -⟩ := HJ.out.1.q.open
              have c1 := cellB hb1 (i := 7) (v := .slice v1 s.L.length cp1) rfl
              have c2' := cellB hb2 (i := 7) (v := .slice v2 s2.L.length cp2) rfl
              have HP := Lib.hid (HJ.out.2.2.2.1.calm (Chg.refl [] wr).drew)
              have HBB := Lib.hid (And.intro hb1 hb2)
              have hw : (eqL s.own s.cnt s.st s.c s2.own s2.cnt s2.st s2.c = false ∧ alk = false) ∨ (eqL s.own s.cnt s.st s.c s2.own s2.cnt s2.st s2.c = true ∧ ((s.L.length : Int) == (s2.L.length : Int)) = false ∧ alk = false) ∨ (eqL s.own s.cnt s.st s.c s2.own s2.cnt s2.st s2.c = true ∧ ((s.L.length : Int) == (s2.L.length : Int)) = true ∧ alk = true) := by
                have ha := HA.out
                by_cases hl : s.L.length = s2.L.length
                · cases h : eqL s.own s.cnt s.st s.c s2.own s2.cnt s2.st s2.c <;> simp [h, hl] at ha ⊢ <;> exact ha
                · have hl2 : ¬ ((s.L.length : Int) = (s2.L.length : Int)) := by omega
                  cases h : eqL s.own s.cnt s.st s.c s2.own s2.cnt s2.st s2.c <;> simp [h, hl] at ha ⊢ 
                  all_goals first | exact ha | exact .inl ⟨hl2, ha⟩ | (simp [hl2]; exact ha)
              clear hb1 hb2
              rcases hw with ⟨e1, rfl⟩ | ⟨e1, e2, rfl⟩ | ⟨e1, e2, rfl⟩
              · refine wp_region_noPanic ?_
                refine wp_region_held_drew (S := fun w' => w'.cell? ⟨rc, 7, none⟩ = some (.slice v1 s.L.length cp1) ∧ w'.cell? ⟨qc, 7, none⟩ = some (.slice v2 s2.L.length cp2)) (by kernel_rfl) ⟨c1, c2'⟩ (fun hHeld => ?_)
                refine' wpAnyH_take (i := 0) (oi := ?oi0) (v := ?v0) ?hi0 (by kernel_rfl) (by kernel_rfl) (by kernel_rfl) ?hQ0 ?hy0 ?hS0 ?rest0
                case hi0 => simp only [List.getElem?_toArray, List.getElem?_cons_zero]; rfl
                case hS0 => assumption
                case hQ0 => exact (fun _ _ _ h => h)
                case hy0 => (refine Or.inl ⟨by rfl, ?_⟩; intro w hSw; (try dsimp only at hSw); go_simp <;> with_reducible rfl)
                try simp only [Act.put, List.setIfInBounds_toArray, List.set_cons_zero, List.set_cons_succ]
                refine' wpAnyH_take (i := 2) (oi := ?oi2) (v := ?v2) ?hi2 (by kernel_rfl) (by kernel_rfl) (by kernel_rfl) ?hQ2 ?hy2 ?hS2 ?rest2
                case hi2 => simp only [List.getElem?_toArray, List.getElem?_cons_zero, List.getElem?_cons_succ]; rfl
                case hS2 => assumption
                case hQ2 => exact (fun _ _ _ h => h)
                case hy2 => (refine Or.inl ⟨by rfl, ?_⟩; intro w hSw; (try dsimp only at hSw); go_simp <;> with_reducible rfl)
                try simp only [Act.put, List.setIfInBounds_toArray, List.set_cons_zero, List.set_cons_succ]
                refine wpAnyH_ready (rs := [1]) (by kernel_rfl) (by simp) ?_
                refine AllReadyH.cons rfl (fun K hK => ?_) AllReadyH.nil
                go_simp
                go_at_call 26
                refine (qstandsc rc gs s _ HP.out).mono ?_
                rintro e w5 ⟨rfl, hC⟩
                have H5 := Lib.hid (show Chg [] wr w5 from ⟨hC.os, hC.tape, hC.output, hC.size, hC.block⟩)
                clear hC
                have x1 := cellB (H5.out.blk HBB.out.1 (by simp)) (i := 7) (v := .slice v1 s.L.length cp1) rfl
                have x2 := cellB (H5.out.blk HBB.out.2 (by simp)) (i := 7) (v := .slice v2 s2.L.length cp2) rfl
                refine hK.out _ _ ⟨x1, x2⟩ (fun hHeld => ?_)
                clear hK K
                try simp only [Act.put, List.setIfInBounds_toArray, List.set_cons_zero, List.set_cons_succ]
                refine wpAnyH_ready (rs := [3]) (by kernel_rfl) (by simp) ?_
                refine AllReadyH.cons rfl (fun K hK => ?_) AllReadyH.nil
                go_simp
                go_at_call 26
                refine (qstandsc qc hs2 s2 w5 (HJ.out.1.q.calm H5.out)).mono ?_
                rintro e w6 ⟨rfl, hC⟩
                have H6 := Lib.hid (H5.out.trans hC)
                clear hC
                have y1 := cellB (H6.out.blk HBB.out.1 (by simp)) (i := 7) (v := .slice v1 s.L.length cp1) rfl
                have y2 := cellB (H6.out.blk HBB.out.2 (by simp)) (i := 7) (v := .slice v2 s2.L.length cp2) rfl
                refine hK.out _ _ ⟨y1, y2⟩ (fun hHeld => ?_)
                clear hK K
                try simp only [Act.put, List.setIfInBounds_toArray, List.set_cons_zero, List.set_cons_succ]
                refine' wpAnyH_take (i := 4) (oi := ?oi4) (v := ?v4) ?hi4 (by kernel_rfl) (by kernel_rfl) (by kernel_rfl) ?hQ4 ?hy4 ?hS4 ?rest4
                case hi4 => simp only [List.getElem?_toArray, List.getElem?_cons_zero, List.getElem?_cons_succ]; rfl
                case hS4 => assumption
                case hQ4 => exact (fun _ _ _ h => h)
                case hy4 => (refine Or.inl ⟨by rfl, ?_⟩; intro w hSw; (try dsimp only at hSw); go_simp <;> with_reducible rfl)
                try simp only [Act.put, List.setIfInBounds_toArray, List.set_cons_zero, List.set_cons_succ]
                refine' wpAnyH_take (i := 5) (oi := ?oi5) (v := ?v5) ?hi5 (by kernel_rfl) (by kernel_rfl) (by kernel_rfl) ?hQ5 ?hy5 ?hS5 ?rest5
                case hi5 => simp only [List.getElem?_toArray, List.getElem?_cons_zero, List.getElem?_cons_succ]; rfl
                case hS5 => assumption
                case hQ5 => exact (fun _ _ _ h => h)
                case hy5 => (refine Or.inl ⟨by rfl, ?_⟩; intro w hSw; (try dsimp only at hSw); go_simp <;> with_reducible rfl)
                try simp only [Act.put, List.setIfInBounds_toArray, List.set_cons_zero, List.set_cons_succ]
                refine' wpAnyH_take (i := 6) (oi := ?oi6) (v := undef) ?hi6 (by kernel_rfl) (by kernel_rfl) (by kernel_rfl) ?hQ6 ?hy6 ?hS6 ?rest6
                case hi6 => simp only [List.getElem?_toArray, List.getElem?_cons_zero, List.getElem?_cons_succ]; rfl
                case hS6 => assumption
                case hQ6 => exact (fun _ _ _ h => h)
                case hy6 => exact Or.inr ⟨by rfl, rfl⟩
                try simp only [Act.put, List.setIfInBounds_toArray, List.set_cons_zero, List.set_cons_succ]
                refine' wpAnyH_take (i := 7) (oi := ?oi7) (v := undef) ?hi7 (by kernel_rfl) (by kernel_rfl) (by kernel_rfl) ?hQ7 ?hy7 ?hS7 ?rest7
                case hi7 => simp only [List.getElem?_toArray, List.getElem?_cons_zero, List.getElem?_cons_succ]; rfl
                case hS7 => assumption
                case hQ7 => exact (fun _ _ _ h => h)
                case hy7 => exact Or.inr ⟨by rfl, rfl⟩
                try simp only [Act.put, List.setIfInBounds_toArray, List.set_cons_zero, List.set_cons_succ]
                refine' wpAnyH_take (i := 8) (oi := ?oi8) (v := undef) ?hi8 (by kernel_rfl) (by kernel_rfl) (by kernel_rfl) ?hQ8 ?hy8 ?hS8 ?rest8
                case hi8 => simp only [List.getElem?_toArray, List.getElem?_cons_zero, List.getElem?_cons_succ]; rfl
                case hS8 => assumption
                case hQ8 => exact (fun _ _ _ h => h)
                case hy8 => exact Or.inr ⟨by rfl, rfl⟩
                try simp only [Act.put, List.setIfInBounds_toArray, List.set_cons_zero, List.set_cons_succ]
                refine' wpAnyH_take (i := 9) (oi := ?oi9) (v := undef) ?hi9 (by kernel_rfl) (by kernel_rfl) (by kernel_rfl) ?hQ9 ?hy9 ?hS9 ?rest9
                case hi9 => simp only [List.getElem?_toArray, List.getElem?_cons_zero, List.getElem?_cons_succ]; rfl
                case hS9 => assumption
                case hQ9 => exact (fun _ _ _ h => h)
                case hy9 => exact Or.inr ⟨by rfl, rfl⟩
                try simp only [Act.put, List.setIfInBounds_toArray, List.set_cons_zero, List.set_cons_succ]
                refine' wpAnyH_take (i := 10) (oi := ?oi10) (v := undef) ?hi10 (by kernel_rfl) (by kernel_rfl) (by kernel_rfl) ?hQ10 ?hy10 ?hS10 ?rest10
                case hi10 => simp only [List.getElem?_toArray, List.getElem?_cons_zero, List.getElem?_cons_succ]; rfl
                case hS10 => assumption
                case hQ10 => exact (fun _ _ _ h => h)
                case hy10 => exact Or.inr ⟨by rfl, rfl⟩
                try simp only [Act.put, List.setIfInBounds_toArray, List.set_cons_zero, List.set_cons_succ]
                refine' wpAnyH_take (i := 11) (oi := ?oi11) (v := undef) ?hi11 (by kernel_rfl) (by kernel_rfl) (by kernel_rfl) ?hQ11 ?hy11 ?hS11 ?rest11
                case hi11 => simp only [List.getElem?_toArray, List.getElem?_cons_zero, List.getElem?_cons_succ]; rfl
                case hS11 => assumption
                case hQ11 => exact (fun _ _ _ h => h)
                case hy11 => exact Or.inr ⟨by rfl, rfl⟩
                try simp only [Act.put, List.setIfInBounds_toArray, List.set_cons_zero, List.set_cons_succ]
                refine' wpAnyH_take (i := 12) (oi := ?oi12) (v := undef) ?hi12 (by kernel_rfl) (by kernel_rfl) (by kernel_rfl) ?hQ12 ?hy12 ?hS12 ?rest12
                case hi12 => simp only [List.getElem?_toArray, List.getElem?_cons_zero, List.getElem?_cons_succ]; rfl
                case hS12 => assumption
                case hQ12 => exact (fun _ _ _ h => h)
                case hy12 => exact Or.inr ⟨by rfl, rfl⟩
                try simp only [Act.put, List.setIfInBounds_toArray, List.set_cons_zero, List.set_cons_succ]
                refine' wpAnyH_take (i := 13) (oi := ?oi13) (v := undef) ?hi13 (by kernel_rfl) (by kernel_rfl) (by kernel_rfl) ?hQ13 ?hy13 ?hS13 ?rest13
                case hi13 => simp only [List.getElem?_toArray, List.getElem?_cons_zero, List.getElem?_cons_succ]; rfl
                case hS13 => assumption
                case hQ13 => exact (fun _ _ _ h => h)
                case hy13 => exact Or.inr ⟨by rfl, rfl⟩
                try simp only [Act.put, List.setIfInBounds_toArray, List.set_cons_zero, List.set_cons_succ]
                refine' wpAnyH_take (i := 14) (oi := ?oi14) (v := undef) ?hi14 (by kernel_rfl) (by kernel_rfl) (by kernel_rfl) ?hQ14 ?hy14 ?hS14 ?rest14
                case hi14 => simp only [List.getElem?_toArray, List.getElem?_cons_zero, List.getElem?_cons_succ]; rfl
                case hS14 => assumption
                case hQ14 => exact (fun _ _ _ h => h)
                case hy14 => exact Or.inr ⟨by rfl, rfl⟩
                try simp only [Act.put, List.setIfInBounds_toArray, List.set_cons_zero, List.set_cons_succ]
                refine' wpAnyH_take (i := 15) (oi := ?oi15) (v := undef) ?hi15 (by kernel_rfl) (by kernel_rfl) (by kernel_rfl) ?hQ15 ?hy15 ?hS15 ?rest15
                case hi15 => simp only [List.getElem?_toArray, List.getElem?_cons_zero, List.getElem?_cons_succ]; rfl
                case hS15 => assumption
                case hQ15 => exact (fun _ _ _ h => h)
                case hy15 => exact Or.inr ⟨by rfl, rfl⟩
                try simp only [Act.put, List.setIfInBounds_toArray, List.set_cons_zero, List.set_cons_succ]
                refine' wpAnyH_take (i := 16) (oi := ?oi16) (v := undef) ?hi16 (by kernel_rfl) (by kernel_rfl) (by kernel_rfl) ?hQ16 ?hy16 ?hS16 ?rest16
                case hi16 => simp only [List.getElem?_toArray, List.getElem?_cons_zero, List.getElem?_cons_succ]; rfl
                case hS16 => assumption
                case hQ16 => exact (fun _ _ _ h => h)
                case hy16 => exact Or.inr ⟨by rfl, rfl⟩
                try simp only [Act.put, List.setIfInBounds_toArray, List.set_cons_zero, List.set_cons_succ]
                refine' wpAnyH_take (i := 17) (oi := ?oi17) (v := ?v17) ?hi17 (by kernel_rfl) (by kernel_rfl) (by kernel_rfl) ?hQ17 ?hy17 ?hS17 ?rest17
                case hi17 => simp only [List.getElem?_toArray, List.getElem?_cons_zero, List.getElem?_cons_succ]; rfl
                case hS17 => assumption
                case hQ17 => exact (fun _ _ _ h => h)
                case hy17 => (refine Or.inl ⟨by rfl, ?_⟩; intro w hSw; (try dsimp only at hSw); go_simp <;> with_reducible rfl)
                try simp only [Act.put, List.setIfInBounds_toArray, List.set_cons_zero, List.set_cons_succ]
                refine' wpAnyH_take (i := 18) (oi := ?oi18) (v := ?v18) ?hi18 (by kernel_rfl) (by kernel_rfl) (by kernel_rfl) ?hQ18 ?hy18 ?hS18 ?rest18
                case hi18 => simp only [List.getElem?_toArray, List.getElem?_cons_zero, List.getElem?_cons_succ]; rfl
                case hS18 => assumption
                case hQ18 => exact (fun _ _ _ h => h)
                case hy18 => (refine Or.inl ⟨by rfl, ?_⟩; intro w hSw; (try dsimp only at hSw); go_simp <;> with_reducible rfl)
                try simp only [Act.put, List.setIfInBounds_toArray, List.set_cons_zero, List.set_cons_succ]
                refine wpAnyH_done (by kernel_rfl) ?_ _
                refine NoPanic.normal ?_
                go_wp2
                go_meet
                case rel => exact ⟨rfl, H6.out⟩
              all_goals
                go_region_held3 (fun w' => w'.cell? ⟨rc, 7, none⟩ = some (.slice v1 s.L.length cp1) ∧ w'.cell? ⟨qc, 7, none⟩ = some (.slice v2 s2.L.length cp2)) (first | exact ⟨c1, c2'⟩ | exact ⟨x1, x2⟩ | exact ⟨y1, y2⟩)
                  (first
                  | (go_at_call 26; refine (qstandsc qc hs2 s2 w5 (HJ.out.1.q.calm H5.out)).mono ?_; rintro e w6 ⟨rfl, hC⟩; have H6 := Lib.hid (H5.out.trans hC); clear hC; have y1 := cellB (H6.out.blk HBB.out.1 (by simp)) (i := 7) (v := .slice v1 s.L.length cp1) rfl; have y2 := cellB (H6.out.blk HBB.out.2 (by simp)) (i := 7) (v := .slice v2 s2.L.length cp2) rfl)
                  | (go_at_call 26; refine (qstandsc rc gs s _ HP.out).mono ?_; rintro e w5 ⟨rfl, hC⟩; have H5 := Lib.hid (show Chg [] wr w5 from ⟨hC.os, hC.tape, hC.output, hC.size, hC.block⟩); clear hC; have x1 := cellB (H5.out.blk HBB.out.1 (by simp)) (i := 7) (v := .slice v1 s.L.length cp1) rfl; have x2 := cellB (H5.out.blk HBB.out.2 (by simp)) (i := 7) (v := .slice v2 s2.L.length cp2) rfl))
                go_wp2
                go_meet
                case rel => exact ⟨rfl, H6.out⟩
            case rest => as_aux_lemma =>
              obtain ⟨rfl, hC⟩ := hcut
              have HW0 := Lib.hid hC
              have hbd : s.L.length ≤ 16 := HJ.out.2.2.1.list.facts.2.2
              clear hC hl hl2
              go_wp2
              go_loopw [22, 23] (fun al i wr3 => ∃ (t : Nat), t ≤ s.L.length ∧ i = .int .i64 t ∧ al = .bool (alk && decide (s.L.take t = s2.L.take t)) ∧ Chg [] wc wr3) (fun _ i _ => s.L.length - (intOf i).toNat)
              case atStart => exact ⟨0, by omega, rfl, by simp, Chg.refl _ _⟩
              case round =>
                obtain ⟨t, ht, rfl, rfl, hC⟩ := hrel
                have HC3 := Lib.hid (HW0.out.trans hC)
                have HC0 := Lib.hid hC
                clear hC
                obtain ⟨b, hb⟩ : ∃ b, b = (alk && decide (s.L.take t = s2.L.take t)) := ⟨_, rfl⟩
                rw [← hb]
                have HBt := Lib.hid hb
                clear hb
                obtain ⟨v1, cp1, hb1, hx1⟩ := (HJ.out.2.2.2.1.calm HC3.out).open
                obtain ⟨v2, cp2, hb2, hx2⟩ := (HJ.out.1.q.calm HC3.out).open
                have c1 := cellB hb1 (i := 7) (v := .slice v1 s.L.length cp1) rfl
                have c2' := cellB hb2 (i := 7) (v := .slice v2 s2.L.length cp2) rfl
                clear hb1 hb2
                have hw3 : (t < s.L.length ∧ b = true) ∨ (t < s.L.length ∧ b = false ∧ s2.eqv s = false) ∨ (¬ t < s.L.length ∧ b = true ∧ s2.eqv s = true) ∨ (¬ t < s.L.length ∧ b = false ∧ s2.eqv s = false) := by
                  have he := eqv_eqL s s2
                  have h1 := HBt.out
                  have h2 := HA.out
                  have h3 : b = false → s2.eqv s = false := fun hb => by
                    rw [hb] at h1
                    rw [he]
                    cases hal : alk
                    · rw [hal] at h2
                      cases hE : eqL s.own s.cnt s.st s.c s2.own s2.cnt s2.st s2.c
                      · rfl
                      · rw [hE] at h2
                        simp at h2
                        have : s.L ≠ s2.L := fun e => h2 (by rw [e])
                        simp [this]
                    · rw [hal] at h1
                      simp at h1
                      have : s.L ≠ s2.L := fun e => h1 (by rw [e])
                      simp [this]
                  by_cases hlt : t < s.L.length
                  · cases b
                    · exact .inr (.inl ⟨hlt, rfl, h3 rfl⟩)
                    · exact .inl ⟨hlt, rfl⟩
                  · cases b
                    · exact .inr (.inr (.inr ⟨hlt, rfl, h3 rfl⟩))
                    · refine .inr (.inr (.inl ⟨hlt, rfl, ?_⟩))
                      have htl : t = s.L.length := by omega
                      rw [h2] at h1
                      simp only [Bool.true_eq, Bool.and_eq_true, decide_eq_true_eq] at h1
                      obtain ⟨⟨hE, hll⟩, htk⟩ := h1
                      rw [htl, List.take_length, hll, List.take_length] at htk
                      rw [he, hE, htk]
                      simp
                rcases hw3 with ⟨hlt, rfl⟩ | ⟨hlt, rfl, hE⟩ | ⟨hlt, rfl, hE⟩ | ⟨hlt, rfl, hE⟩
                · as_aux_lemma =>
                  have hf := HBt.out
                  rw [HA.out] at hf
                  simp only [Bool.true_eq, Bool.and_eq_true, decide_eq_true_eq] at hf
                  obtain ⟨⟨-, hll⟩, htk⟩ := hf
                  have hne1 : s.L ≠ [] := fun e => by rw [e] at hlt; simp at hlt
                  have hne2 : s2.L ≠ [] := fun e => by rw [e] at hll; simp at hll; exact hne1 hll
                  obtain ⟨g1, rfl, hz1⟩ := hx1.resolve_left hne1
                  obtain ⟨g2, rfl, hz2⟩ := hx2.resolve_left hne2
                  obtain ⟨y1, hy1⟩ : ∃ y, s.L[t]? = some y := ⟨_, List.getElem?_eq_getElem hlt⟩
                  obtain ⟨y2, hy2⟩ : ∃ y, s2.L[t]? = some y := ⟨_, List.getElem?_eq_getElem (by omega)⟩
                  obtain ⟨r1, r2⟩ := hz1 t y1 hy1
                  obtain ⟨r3, r4⟩ := hz2 t y2 hy2
                  have hnx : (alk && decide (s.L.take (t + 1) = s2.L.take (t + 1))) = eqP y1.1 y1.2 y2.1 y2.2 := by
                    have ha : alk = true := by have := HBt.out; simp at this; exact this.1
                    rw [ha, List.take_add_one, List.take_add_one, hy1, hy2, htk]
                    unfold eqP
                    simp [Prod.ext_iff]
                  have HNx := Lib.hid hnx
                  have hlt2 : t < s2.L.length := by omega
                  clear hx1 hx2 hz1 hz2 hy1 hy2 htk hnx hne1 hne2
                  obtain ⟨p1, p2⟩ := y1
                  obtain ⟨p3, p4⟩ := y2
                  simp only at r1 r2 r3 r4 HNx
                  go_wp2
                  go_quiet (fail)
                  go_wp2
                  go_roundw
                  case rel => exact ⟨t + 1, by omega, by go_num, by rw [HNx.out], HC0.out.drewN _⟩
                  case measure => simp [intOf]; omega
                all_goals as_aux_lemma =>
                  have HEq := Lib.hid hE
                  have HP := Lib.hid ((HJ.out.1.calm HC3.out))
                  have HM := Lib.hid ((HJ.out.2.2.1.calm HC3.out))
                  have HO := Lib.hid ((HJ.out.2.2.2.2.1.calm HC3.out))
                  have HQ := Lib.hid ((HJ.out.2.2.2.1.calm HC3.out))
                  have HCd := Lib.hid (HJ.out.1.c.trans HC3.out)
                  have HKin := Lib.hid HJ.out.2.1
                  clear hE hx1 hx2
                  go_wp2_with fail
                  refine (msamec cb ab mb ob oa om _ _ s s wr HM.out HO.out rfl rfl rfl).mono ?_
                  rintro e wq1 ⟨rfl, hC⟩
                  rw [eqv_refl]
                  have Hq1 := Lib.hid hC
                  clear hC
                  go_wp2_with fail
                  refine (msamec c2 a3 m2 cb ab mb _ _ s2 s wq1 (HP.out.m.calm Hq1.out) (HM.out.calm Hq1.out) HKin.out.1 HKin.out.2.1 HKin.out.2.2).mono ?_
                  rintro e wq2 ⟨rfl, hC⟩
                  rw [HEq.out]
                  have Hq2 := Lib.hid (Hq1.out.trans hC)
                  clear hC
                  go_wp2_with fail
                  refine (stands13 cb ab mb rc gs _ _ wq2 (HM.out.calm Hq2.out) (HQ.out.calm Hq2.out)).mono ?_
                  rintro e wq3 ⟨rfl, hC⟩
                  have Hq3 := Lib.hid (Hq2.out.trans hC)
                  clear hC
                  go_wp2_with fail
                  refine (known13 wq3).mono ?_
                  rintro e wq4 ⟨rfl, hC⟩
                  have Hq4 := Lib.hid (Hq3.out.trans hC)
                  clear hC
                  go_wp2
                  go_ret
                  exact ⟨rfl, HCd.out.trans Hq4.out⟩

end Go.Proofs.Ytagnobmdcchcaaa
