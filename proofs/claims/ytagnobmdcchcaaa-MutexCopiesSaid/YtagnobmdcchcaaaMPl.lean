
/- metronomelaw13.MutexPlays answers true, whatever the steps. -/
import Derived.Test.YtagnobmdcchcaaaQg
namespace Go.Proofs.Ytagnobmdcchcaaa
open Go.RowKit

/-- Both, made behind w0. -/
structure PM (w0 w : World) (cb ab mb rc : Nat) (gs : List Nat) (N : Int) (s : MS) : Prop where
  m : MAt w cb ab mb N s
  q : QM w rc gs s
  c : Chg [] w0 w
  g : ∀ k ∈ cb :: ab :: mb :: rc :: gs, w0.heap.size ≤ k
  ok : MOk s
theorem PM.calm {w0 w w' : World} {cb ab mb rc : Nat} {gs : List Nat} {N : Int} {s : MS} (h : PM w0 w cb ab mb rc gs N s) (hC : Chg [] w w') : PM w0 w' cb ab mb rc gs N s := ⟨h.m.calm hC, h.q.calm hC, h.c.trans hC, h.g, h.ok⟩
theorem PM.step {w0 w w' : World} {cb ab mb rc : Nat} {gs : List Nat} {N N' : Int} {s s' : MS} (h : PM w0 w cb ab mb rc gs N s) (hok : MOk s') (hD : DoP13 cb ab mb rc gs N' s' w w') : ∃ gs', PM w0 w' cb ab mb rc gs' N' s' := by
  obtain ⟨gs', h1, h2, h3, h4⟩ := hD
  refine ⟨gs', h1, h2, h.c.trans' h4 (fun k hk => .inr (h.g k hk)), ?_, hok⟩
  intro k hk
  rcases h3 with rfl | h3
  · exact h.g k hk
  · simp only [List.mem_cons] at hk
    rcases hk with rfl | rfl | rfl | rfl | hk
    · exact h.g _ (by simp)
    · exact h.g _ (by simp)
    · exact h.g _ (by simp)
    · exact h.g _ (by simp)
    · exact Nat.le_trans h.c.size (h3 k hk)

set_option maxRecDepth 100000 in
set_option maxHeartbeats 8000000 in
theorem mutexPlays_any (k0 p0 c0 : Int) (r0 : Bool) (v : Value) (R : List (Nat → Int)) (w : World) (hv : IsRows 4 w v R) :
    Calls Try.prog 7 #[.int .i64 k0, .int .i64 p0, .int .i64 c0, .bool r0, v] w fun e w' => e = .returned (.bool true) ∧ Chg [] w w' := by
  obtain ⟨a, cap, rfl⟩ := hv.slice
  have HV := Lib.hid hv
  clear hv
  obtain ⟨n, hn⟩ : ∃ n, n = R.length := ⟨_, rfl⟩
  rw [← hn]
  have HN := Lib.hid hn
  clear hn
  have hb : mnewB k0 p0 c0 = false ∨ (mnewB k0 p0 c0 = true ∧ 150 < n) ∨ (mnewB k0 p0 c0 = true ∧ ¬ 150 < n) := by cases mnewB k0 p0 c0 <;> simp; omega
  rcases hb with hb | ⟨hb, hl⟩ | ⟨hb, hl⟩
  · have HB := Lib.hid hb
    clear hb
    go_enter Try.func7, Try.ntmps7
    go_wp2_with fail
    refine (mnew_no k0 p0 c0 r0 w HB.out).mono ?_
    rintro e w0 ⟨rfl, rfl⟩
    go_wp2_with fail
    refine (qnew_no k0 p0 c0 r0 w HB.out).mono ?_
    rintro e w0 ⟨rfl, rfl⟩
    go_wp2_with fail
    refine (known13 w).mono ?_
    rintro e w1 ⟨rfl, hC⟩
    have H1 := Lib.hid hC
    clear hC
    go_wp2
    go_ret
    exact ⟨rfl, H1.out⟩
  · have HB := Lib.hid hb
    have q1 : (150 : Int) < (n : Int) := by omega
    clear hb hl
    go_enter Try.func7, Try.ntmps7
    go_wp2_with fail
    refine (fnewF k0 p0 c0 r0 w w (Chg.refl _ _) HB.out).mono ?_
    rintro e w0 ⟨cb, ab, mb, rfl, hF, hC⟩
    have H0 := Lib.hid hC
    clear hF hC
    go_wp2_with fail
    refine (qnewc k0 p0 c0 r0 w0 HB.out).mono ?_
    rintro e w1 ⟨rc, rfl, hrc, hQ, hC⟩
    have H1 := Lib.hid (H0.out.trans hC)
    clear hrc hQ hC
    go_wp2_with fail
    refine (known13 w1).mono ?_
    rintro e w2 ⟨rfl, hC⟩
    have H2 := Lib.hid (H1.out.trans hC)
    clear hC
    go_wp2
    go_ret
    exact ⟨rfl, H2.out⟩
  · have HB := Lib.hid hb
    have q1 : ¬ (150 : Int) < (n : Int) := by omega
    clear hb
    go_enter Try.func7, Try.ntmps7
    go_wp2_with fail
    refine (fnewF k0 p0 c0 r0 w w (Chg.refl _ _) HB.out).mono ?_
    rintro e w0 ⟨cb, ab, mb, rfl, hF, hC⟩
    have H0 := Lib.hid hF
    clear hF hC
    go_wp2_with fail
    refine (qnewc k0 p0 c0 r0 w0 HB.out).mono ?_
    rintro e w1 ⟨rc, rfl, hrc, hQ, hC⟩
    have H1 := Lib.hid (show PM w w1 cb ab mb rc [] 0 (mnew k0 p0 c0 r0) from ⟨H0.out.m.calm hC, hQ, H0.out.c.trans hC, fun k hk => by
      have h3 := H0.out.g
      have h4 := H0.out.c.size
      simp at hk
      omega, MOk.new ..⟩)
    clear hrc hQ hC H0
    go_wp2
    clear q1
    go_loopw [14] (fun i wr => ∃ (k : Nat) (gs : List Nat) (s : MS), k ≤ n ∧ i = .int .i64 k ∧ PM w wr cb ab mb rc gs k s) (fun i _ => n - (intOf i).toNat)
    case atStart => exact ⟨0, [], _, by omega, rfl, H1.out⟩
    case round =>
      obtain ⟨k, gs, s, hk, rfl, hP⟩ := hrel
      have HK := Lib.hid hP
      clear hP H1
      by_cases hlt : k < n
      · have hne : R ≠ [] := fun e => by have := HN.out; rw [e] at this; simp at this; omega
        obtain ⟨g, o, cap', hsl, hcells⟩ := HV.out.addr hne
        cases hsl
        obtain ⟨x, hx⟩ : ∃ x, R[k]? = some x := ⟨_, List.getElem?_eq_getElem (by have := HN.out; omega)⟩
        have hrow := IsRows.row hcells HK.out.c hx
        have d0 := hrow 0 (by omega)
        have d1 := hrow 1 (by omega)
        have d2 := hrow 2 (by omega)
        have d3 := hrow 3 (by omega)
        rw [Nat.add_zero] at d0
        clear hcells hrow hx hne
        generalize x 0 = kd at *
        generalize x 1 = t0 at *
        generalize x 2 = q at *
        generalize x 3 = b at *
        go_wp2_with fail
        refine (does13 cb ab mb rc gs k s kd t0 q b wr HK.out.m HK.out.q HK.out.ok (by omega)).mono ?_
        rintro e w2 ⟨rfl, hD⟩
        obtain ⟨gs', hP⟩ := HK.out.step (HK.out.ok.stepS HK.out.m.list.lok kd (s.thr t0) q b) hD
        have H2 := Lib.hid hP
        clear hD hP
        go_wp2_with fail
        refine (stands13 cb ab mb rc gs' _ _ w2 H2.out.m H2.out.q).mono ?_
        rintro e w3 ⟨rfl, hC⟩
        have H3 := Lib.hid (H2.out.calm hC)
        clear hC
        go_wp2
        go_roundw
        case rel => exact ⟨k + 1, gs', _, by omega, by go_num, H3.out⟩
        case measure => simp [intOf]; omega
      · clear hk
        go_wp2_with fail
        refine (known13 wr).mono ?_
        rintro e w1 ⟨rfl, hC⟩
        have H1 := Lib.hid (HK.out.c.trans hC)
        clear hC
        go_wp2
        go_ret
        exact ⟨rfl, H1.out⟩

end Go.Proofs.Ytagnobmdcchcaaa
