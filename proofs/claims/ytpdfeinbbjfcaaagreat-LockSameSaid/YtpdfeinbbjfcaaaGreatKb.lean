
/- Package rwlock: ask, want, Read, Write, TryRead, TryWrite: contracts. -/
import Derived.Test.YtpdfeinbbjfcaaaGreatKa
namespace Go.Proofs.YtpdfeinbbjfcaaaGreat
open Go.RowKit


set_option maxRecDepth 100000 in
theorem lask_no (f : Value) (cb rb a0 m0 a1 m1 : Nat) (N : Int) (s : LS) (t p : Int) (w : World) (h : LAt w cb rb a0 m0 a1 m1 N s) (hb : ¬ (thB t = true ∧ prB p = true)) :
    Calls Tryz.prog 45 #[.pointer (some ⟨cb, 0, none⟩), .int .i64 t, .int .i64 p, f] w fun e w' => e = .returned (.int .i64 2) ∧ w = w' := by
  have HT := Lib.hid (ltherec cb rb a0 m0 a1 m1 N s w h)
  clear h
  have hc : decide (t < 0) = true ∨ (decide (t < 0) = false ∧ decide (16 ≤ t) = true) ∨ (decide (t < 0) = false ∧ decide (16 ≤ t) = false ∧ decide (p < 1) = true) ∨ (decide (t < 0) = false ∧ decide (16 ≤ t) = false ∧ decide (p < 1) = false ∧ decide (31 < p) = true) := by
    rw [thB_iff, prB_iff] at hb
    unfold okT okP at hb
    simp only [decide_eq_true_eq, decide_eq_false_iff_not]
    omega
  clear hb
  rcases hc with h1 | ⟨h1, h2⟩ | ⟨h1, h2, h3⟩ | ⟨h1, h2, h3, h4⟩
  all_goals
    go_enter Tryz.func45, Tryz.ntmps45
    go_wp2_with (go_at_call 37; refine HT.out.mono ?_; rintro e w' ⟨rfl, rfl⟩)
    go_ret
    exact ⟨rfl, rfl⟩

set_option maxRecDepth 100000 in
theorem lask_yes (g : Nat) (eg : ∀ args w, (callFunc g args).run Tryz.prog w = .ok (.enter g args) w) (cap : Array Value) (r : Int) (P : World → Prop) (cb rb a0 m0 a1 m1 : Nat) (N : Int) (s : LS) (t p : Int) (w : World) (h : LAt w cb rb a0 m0 a1 m1 N s) (hb : thB t = true ∧ prB p = true)
    (hg : Calls Tryz.prog g cap w fun e w' => e = .returned (.int .i64 r) ∧ P w') :
    Calls Tryz.prog 45 #[.pointer (some ⟨cb, 0, none⟩), .int .i64 t, .int .i64 p, .func (.func g) #[] cap] w fun e w' => e = .returned (.int .i64 r) ∧ P w' := by
  have HT := Lib.hid (ltherec cb rb a0 m0 a1 m1 N s w h)
  have HG := Lib.hid hg
  clear h hg
  rw [thB_iff, prB_iff] at hb
  unfold okT okP at hb
  have h1 : decide (t < 0) = false := by simp; omega
  have h2 : decide (16 ≤ t) = false := by simp; omega
  have h3 : decide (p < 1) = false := by simp; omega
  have h4 : decide (31 < p) = false := by simp; omega
  clear hb
  go_enter Tryz.func45, Tryz.ntmps45
  go_wp2_with (go_at_call 37; refine HT.out.mono ?_; rintro e w' ⟨rfl, rfl⟩)
  refine HG.out.mono ?_
  rintro e w1 ⟨rfl, hP⟩
  have HP := Lib.hid hP
  clear hP
  go_wp2
  go_ret
  exact ⟨rfl, HP.out⟩

/-- A box with one value. -/
def BoxAt (w : World) (b : Nat) (v : Value) (T : TypeId) : Prop := w.heap[b]? = some (.cells #[v] T (0, 0))
theorem BoxAt.kept {S : List Nat} {w w' : World} {b : Nat} {v : Value} {T : TypeId} (h : BoxAt w b v T) (hC : Chg S w w') (hn : b ∉ S) : BoxAt w' b v T := hC.blk h hn
theorem BoxAt.cell {w : World} {b : Nat} {v : Value} {T : TypeId} (h : BoxAt w b v T) : w.cell? ⟨b, 0, none⟩ = some v := cellB h rfl

set_option maxRecDepth 100000 in
set_option maxHeartbeats 2000000 in
theorem lwant1c (wr : Bool) (bl bt bw cb rb a0 m0 a1 m1 : Nat) (N : Int) (s : LS) (t : Int) (w : World) (h : LAt w cb rb a0 m0 a1 m1 N s)
    (hl : BoxAt w bl (.pointer (some ⟨cb, 0, none⟩)) 23) (ht : BoxAt w bt (.int .i64 t) 3) (hw : BoxAt w bw (.int .i64 (if wr = true then 1 else 0)) 3) :
    Calls Tryz.prog 70 #[.pointer (some ⟨bl, 0, none⟩), .pointer (some ⟨bt, 0, none⟩), .pointer (some ⟨bw, 0, none⟩)] w fun e w' => e = .returned (.int .i64 (s.badE wr t)) ∧ Chg [] w w' := by
  have d0 := hl.cell
  have d1 := ht.cell
  have HW := Lib.hid (lwaitingc cb rb a0 m0 a1 m1 N s t w h)
  have HB := Lib.hid (And.intro h (And.intro hl (And.intro ht hw)))
  obtain ⟨r, hr⟩ : ∃ r, r = s.badE wr t := ⟨_, rfl⟩
  have hc : (s.is t = true ∧ r = 7) ∨ (s.is t = false ∧ (s.wr == t) = true ∧ r = 7) ∨ (s.is t = false ∧ (s.wr == t) = false ∧ wr = true ∧ decide (0 < s.cnt t) = true ∧ r = 7) ∨ (s.is t = false ∧ (s.wr == t) = false ∧ wr = true ∧ decide (0 < s.cnt t) = false ∧ r = 0) ∨
      (s.is t = false ∧ (s.wr == t) = false ∧ wr = false ∧ decide (32767 ≤ s.cnt t) = true ∧ r = 5) ∨ (s.is t = false ∧ (s.wr == t) = false ∧ wr = false ∧ decide (32767 ≤ s.cnt t) = false ∧ r = 0) := by
    rw [hr]
    unfold LS.badE
    cases s.is t <;> cases wr <;> by_cases h1 : s.wr = t <;> by_cases h2 : 0 < s.cnt t <;> by_cases h3 : 32767 ≤ s.cnt t <;> simp [h1, h2, h3]
  rw [← hr]
  clear h hl ht hw hr
  obtain ⟨n, hn⟩ : ∃ n, n = s.cnt t := ⟨_, rfl⟩
  rw [← hn] at hc
  have HN := Lib.hid hn
  clear hn
  generalize hws : s.is t = ws at *
  have HWS := Lib.hid hws
  clear hws
  rcases hc with ⟨rfl, rfl⟩ | ⟨rfl, e1, rfl⟩ | ⟨rfl, e1, rfl, e2, rfl⟩ | ⟨rfl, e1, rfl, e2, rfl⟩ | ⟨rfl, e1, rfl, e2, rfl⟩ | ⟨rfl, e1, rfl, e2, rfl⟩
  all_goals
    go_enter Tryz.func70, Tryz.ntmps70
    go_wp2_with fail
    refine HW.out.mono ?_
    rintro e w1 ⟨rfl, hC⟩
    have d0' := cell_kept' d0 hC (by simp)
    have d1' := cell_kept' d1 hC (by simp)
    have d2' := cell_kept' HB.out.2.2.2.cell hC (by simp)
    have c0 := cellB (HB.out.1.calm hC).head (i := 0) (v := .int .i64 s.wr) rfl
    have c1 := cellB (HB.out.1.calm hC).head (i := 1) (v := .map (some rb)) rfl
    have hlk := fun n : Nat => (HB.out.1.calm (hC.drewN n)).look t
    have HC := Lib.hid hC
    have HL := Lib.hid (HB.out.1.calm hC)
    rw [← HN.out] at hlk
    clear hC
    try simp only [Bool.false_eq_true, if_false, if_true] at d2'
    go_wp2
    go_quiet (fail)
    go_wp2
  · go_ret
    exact ⟨rfl, HC.out.drewN _⟩
  · go_ret
    exact ⟨rfl, HC.out.drewN _⟩
  · go_ret
    exact ⟨rfl, HC.out.drewN _⟩
  all_goals
    go_quiet (fail)
    go_wp2
    go_ret
    exact ⟨rfl, (HC.out.drewN _).drewN _⟩

theorem box_new (w : World) (v : Value) (T : TypeId) : BoxAt (w.alloc (.cells #[v] T)) w.heap.size v T := heap_alloc_eq w _
theorem BoxAt.alloc {w : World} {b : Nat} {v : Value} {T : TypeId} (h : BoxAt w b v T) (o : Obj) : BoxAt (w.alloc o) b v T := blk_alloc h o
theorem boxes3 (w : World) (u v x : Value) (T U X : TypeId) : BoxAt (((w.alloc (.cells #[u] T)).alloc (.cells #[v] U)).alloc (.cells #[x] X)) w.heap.size u T ∧ BoxAt (((w.alloc (.cells #[u] T)).alloc (.cells #[v] U)).alloc (.cells #[x] X)) (w.heap.size + 1) v U ∧
    BoxAt (((w.alloc (.cells #[u] T)).alloc (.cells #[v] U)).alloc (.cells #[x] X)) (w.heap.size + 1 + 1) x X ∧ Chg [] w (((w.alloc (.cells #[u] T)).alloc (.cells #[v] U)).alloc (.cells #[x] X)) := by
  have h2 := box_new (w.alloc (.cells #[u] T)) v U
  have h3 := box_new ((w.alloc (.cells #[u] T)).alloc (.cells #[v] U)) x X
  simp only [World.size_alloc] at h2 h3
  exact ⟨((box_new w u T).alloc _).alloc _, h2.alloc _, h3, (((Chg.refl _ _).alloc _).alloc _).alloc _⟩

theorem LS.want_cases (s : LS) (wr : Bool) (t p : Int) (wait : Bool) :
    (¬ (thB t = true ∧ prB p = true) ∧ s.wantE wr t p = 2 ∧ s.wantB wr t p = false ∧ s.wantS wr t p wait = s) ∨
    ((thB t = true ∧ prB p = true) ∧ s.wantE wr t p = s.badE wr t ∧ (s.badE wr t != 0) = true ∧ s.wantB wr t p = false ∧ s.wantS wr t p wait = s) ∨
    ((thB t = true ∧ prB p = true) ∧ s.wantE wr t p = 0 ∧ s.badE wr t = 0 ∧ s.may wr t p = true ∧ s.wantB wr t p = true ∧ s.wantS wr t p wait = s.hold wr t) ∨
    ((thB t = true ∧ prB p = true) ∧ s.wantE wr t p = 0 ∧ s.badE wr t = 0 ∧ s.may wr t p = false ∧ wait = true ∧ s.wantB wr t p = false ∧ s.wantS wr t p wait = s.putW wr t p) ∨
    ((thB t = true ∧ prB p = true) ∧ s.wantE wr t p = 0 ∧ s.badE wr t = 0 ∧ s.may wr t p = false ∧ wait = false ∧ s.wantB wr t p = false ∧ s.wantS wr t p wait = s) := by
  unfold LS.wantS LS.wantB
  by_cases hb : thB t = true ∧ prB p = true
  · have he : s.wantE wr t p = s.badE wr t := by unfold LS.wantE; rw [if_pos hb]
    rw [he]
    right
    by_cases h0 : s.badE wr t = 0
    · right
      rw [h0]
      cases s.may wr t p <;> cases wait <;> simp [hb]
    · left
      simp [h0, hb]
  · have he : s.wantE wr t p = 2 := by unfold LS.wantE; rw [if_neg hb]
    left
    rw [he]
    simp [hb]

def LPost (r : Array Value) (cb rb a0 m0 a1 m1 : Nat) (N : Int) (s' : LS) (w : World) (e : Ending) (w' : World) : Prop :=
  e = .returned (.tuple r) ∧ LAt w' cb rb a0 m0 a1 m1 N s' ∧ Chg [cb, rb, a0, m0, a1, m1] w w'

set_option maxRecDepth 100000 in
set_option maxHeartbeats 4000000 in
theorem lwantRc (wait : Bool) (cb rb a0 m0 a1 m1 : Nat) (N : Int) (s : LS) (t p : Int) (w : World) (h : LAt w cb rb a0 m0 a1 m1 N s) (hN : N < 4611686018427387904) :
    Calls Tryz.prog 41 #[.pointer (some ⟨cb, 0, none⟩), .int .i64 0, .int .i64 t, .int .i64 p, .bool wait] w (LPost #[.bool (s.wantB false t p), .int .i64 (s.wantE false t p)] cb rb a0 m0 a1 m1 (N + 1) (s.wantS false t p wait) w) := by
  have eg : ∀ args w, (callFunc 70 args).run Tryz.prog w = .ok (.enter 70 args) w := enters_of Tryz.func70 (by kernel_rfl) rfl
  have HBX := Lib.hid (boxes3 w (.pointer (some ⟨cb, 0, none⟩)) (.int .i64 0) (.int .i64 t) 23 3 3)
  have h3 := h.calm HBX.out.2.2.2
  have hask := fun hb => lask_yes 70 eg #[.pointer (some ⟨w.heap.size, 0, none⟩), .pointer (some ⟨w.heap.size + 1 + 1, 0, none⟩), .pointer (some ⟨w.heap.size + 1, 0, none⟩)] (s.badE false t) (fun w' => Chg [] (((w.alloc (.cells #[.pointer (some ⟨cb, 0, none⟩)] 23)).alloc (.cells #[.int .i64 0] 3)).alloc (.cells #[.int .i64 t] 3)) w') cb rb a0 m0 a1 m1 N s t p _ h3 hb (lwant1c false w.heap.size (w.heap.size + 1 + 1) (w.heap.size + 1) cb rb a0 m0 a1 m1 N s t _ h3 HBX.out.1 HBX.out.2.2.1 HBX.out.2.1)
  have hano := fun hb => lask_no (.func (.func 70) #[] #[.pointer (some ⟨w.heap.size, 0, none⟩), .pointer (some ⟨w.heap.size + 1 + 1, 0, none⟩), .pointer (some ⟨w.heap.size + 1, 0, none⟩)]) cb rb a0 m0 a1 m1 N s t p (((w.alloc (.cells #[.pointer (some ⟨cb, 0, none⟩)] 23)).alloc (.cells #[.int .i64 0] 3)).alloc (.cells #[.int .i64 t] 3)) h3 hb
  have HL := Lib.hid h3
  have hI := fun (he : s.wantE false t p = 0) (hm : s.may false t p = true) => h.inv.hold he hm
  have hJ := fun (he : s.wantE false t p = 0) (hm : s.may false t p = false) => h.inv.putW he hm
  have hlt := h.lt
  have HLT := Lib.hid hlt
  clear h h3 eg hlt
  rcases LS.want_cases s false t p wait with ⟨hb, e1, e2, e3⟩ | ⟨hb, e1, eb, e2, e3⟩ | ⟨hb, e1, eb, em, e2, e3⟩ | ⟨hb, e1, eb, em, rfl, e2, e3⟩ | ⟨hb, e1, eb, em, rfl, e2, e3⟩
  · have HA := Lib.hid (hano hb)
    rw [e1, e2, e3]
    clear hano hask hI hJ e1 e2 e3 hb
    go_enter Tryz.func41, Tryz.ntmps41
    go_wp2_with fail
    refine HA.out.mono ?_
    rintro e w1 ⟨rfl, rfl⟩
    go_wp2
    go_ret2
    exact ⟨rfl, HL.out.mono (by omega), HBX.out.2.2.2.mono (by simp)⟩
  · have HA := Lib.hid (hask hb)
    rw [e1, e2, e3]
    generalize s.badE false t = q at *
    clear hano hask hI hJ e1 e2 e3 hb
    go_enter Tryz.func41, Tryz.ntmps41
    go_wp2_with fail
    refine HA.out.mono ?_
    rintro e w1 ⟨rfl, hC⟩
    have HC := Lib.hid hC
    clear hC
    go_wp2
    go_ret2
    exact ⟨rfl, (HL.out.calm HC.out).mono (by omega), (HBX.out.2.2.2.trans HC.out).mono (by simp)⟩
  · have HA := Lib.hid (hask hb)
    have HI := Lib.hid (hI e1 em)
    have HM := Lib.hid em
    have HT := Lib.hid (thB_iff.1 hb.1)
    rw [eb] at HA
    rw [e1, e2, e3]
    clear hano hask hI hJ e1 e2 e3 hb eb em
    go_enter Tryz.func41, Tryz.ntmps41
    go_wp2_with fail
    refine HA.out.mono ?_
    rintro e w1 ⟨rfl, hC⟩
    have d0 := (HBX.out.1.kept hC (by simp)).cell
    have d1 := (HBX.out.2.1.kept hC (by simp)).cell
    have d2 := (HBX.out.2.2.1.kept hC (by simp)).cell
    have HC := Lib.hid hC
    clear hC
    go_wp2_with fail
    refine (lmayc false cb rb a0 m0 a1 m1 N s t p w1 (HL.out.calm HC.out)).mono ?_
    rintro e w2 ⟨rfl, hC⟩
    rw [HM.out]
    have d0' := cell_kept' d0 hC (by simp)
    have d1' := cell_kept' d1 hC (by simp)
    have d2' := cell_kept' d2 hC (by simp)
    have HC2 := Lib.hid (HC.out.trans hC)
    clear hC
    go_wp2_with fail
    refine (lholdc false cb rb a0 m0 a1 m1 N s t w2 (HL.out.calm HC2.out) HT.out HI.out).mono ?_
    rintro e w3 ⟨rfl, hL, hC⟩
    have HC3 := Lib.hid (And.intro hL (((HBX.out.2.2.2.trans HC2.out).mono (by simp)).trans (hC.mono (S2 := [cb, rb, a0, m0, a1, m1]) (by simp))))
    clear hL hC
    go_wp2
    go_ret2
    exact ⟨rfl, HC3.out.1.mono (by omega), HC3.out.2⟩
  · have HA := Lib.hid (hask hb)
    have HJ := Lib.hid (hJ e1 em)
    have HM := Lib.hid em
    rw [eb] at HA
    rw [e1, e2, e3]
    clear hano hask hI hJ e1 e2 e3 hb eb em
    go_enter Tryz.func41, Tryz.ntmps41
    go_wp2_with fail
    refine HA.out.mono ?_
    rintro e w1 ⟨rfl, hC⟩
    have d0 := (HBX.out.1.kept hC (by simp)).cell
    have d1 := (HBX.out.2.1.kept hC (by simp)).cell
    have d2 := (HBX.out.2.2.1.kept hC (by simp)).cell
    have HC := Lib.hid hC
    clear hC
    go_wp2_with fail
    refine (lmayc false cb rb a0 m0 a1 m1 N s t p w1 (HL.out.calm HC.out)).mono ?_
    rintro e w2 ⟨rfl, hC⟩
    rw [HM.out]
    have d0' := cell_kept' d0 hC (by simp)
    have d1' := cell_kept' d1 hC (by simp)
    have d2' := cell_kept' d2 hC (by simp)
    have c2 := cellB ((HL.out.calm HC.out).calm hC).head (i := 2) (v := .pointer (some ⟨a0, 0, none⟩)) rfl
    have c3 := cellB ((HL.out.calm HC.out).calm hC).head (i := 3) (v := .pointer (some ⟨a1, 0, none⟩)) rfl
    have HC2 := Lib.hid (HC.out.trans hC)
    clear hC d0 d1 d2
    go_wp2
    refine region_still_tail 8 (by kernel_rfl) (by kernel_rfl) ?_
    simp only [List.take_succ_cons, List.take_zero, List.drop_succ_cons, List.drop_zero]
    repeat still_step
    refine wpStill_nil ?_
    go_wp2_with fail
    refine (putc a0 m0 N s.R t p _ (((HL.out.calm HC2.out).calm (Chg.refl [] w2).drew)).lr hN).mono ?_
    rintro e w3 ⟨rfl, hW, hC⟩
    have HC3 := Lib.hid (show LAt w3 cb rb a0 m0 a1 m1 (N + 1) (s.putW false t p) ∧ Chg [cb, rb, a0, m0, a1, m1] w w3 from
      ⟨((HL.out.calm HC2.out).calm (Chg.refl [] w2).drew).stepR hW hC (by omega) HJ.out, (((HBX.out.2.2.2.trans HC2.out).drew).mono (by simp)).trans (hC.mono (by simp))⟩)
    clear hW hC
    go_wp2
    go_ret2
    exact ⟨rfl, HC3.out.1, HC3.out.2⟩
  · have HA := Lib.hid (hask hb)
    have HM := Lib.hid em
    rw [eb] at HA
    rw [e1, e2, e3]
    clear hano hask hI hJ e1 e2 e3 hb eb em
    go_enter Tryz.func41, Tryz.ntmps41
    go_wp2_with fail
    refine HA.out.mono ?_
    rintro e w1 ⟨rfl, hC⟩
    have d0 := (HBX.out.1.kept hC (by simp)).cell
    have d1 := (HBX.out.2.1.kept hC (by simp)).cell
    have d2 := (HBX.out.2.2.1.kept hC (by simp)).cell
    have HC := Lib.hid hC
    clear hC
    go_wp2_with fail
    refine (lmayc false cb rb a0 m0 a1 m1 N s t p w1 (HL.out.calm HC.out)).mono ?_
    rintro e w2 ⟨rfl, hC⟩
    rw [HM.out]
    have HC2 := Lib.hid (HC.out.trans hC)
    clear hC d0 d1 d2
    go_wp2
    go_ret2
    exact ⟨rfl, (HL.out.calm HC2.out).mono (by omega), (HBX.out.2.2.2.trans HC2.out).mono (by simp)⟩

set_option maxRecDepth 100000 in
set_option maxHeartbeats 4000000 in
theorem lwantWc (wait : Bool) (cb rb a0 m0 a1 m1 : Nat) (N : Int) (s : LS) (t p : Int) (w : World) (h : LAt w cb rb a0 m0 a1 m1 N s) (hN : N < 4611686018427387904) :
    Calls Tryz.prog 41 #[.pointer (some ⟨cb, 0, none⟩), .int .i64 1, .int .i64 t, .int .i64 p, .bool wait] w (LPost #[.bool (s.wantB true t p), .int .i64 (s.wantE true t p)] cb rb a0 m0 a1 m1 (N + 1) (s.wantS true t p wait) w) := by
  have eg : ∀ args w, (callFunc 70 args).run Tryz.prog w = .ok (.enter 70 args) w := enters_of Tryz.func70 (by kernel_rfl) rfl
  have HBX := Lib.hid (boxes3 w (.pointer (some ⟨cb, 0, none⟩)) (.int .i64 1) (.int .i64 t) 23 3 3)
  have h3 := h.calm HBX.out.2.2.2
  have hask := fun hb => lask_yes 70 eg #[.pointer (some ⟨w.heap.size, 0, none⟩), .pointer (some ⟨w.heap.size + 1 + 1, 0, none⟩), .pointer (some ⟨w.heap.size + 1, 0, none⟩)] (s.badE true t) (fun w' => Chg [] (((w.alloc (.cells #[.pointer (some ⟨cb, 0, none⟩)] 23)).alloc (.cells #[.int .i64 1] 3)).alloc (.cells #[.int .i64 t] 3)) w') cb rb a0 m0 a1 m1 N s t p _ h3 hb (lwant1c true w.heap.size (w.heap.size + 1 + 1) (w.heap.size + 1) cb rb a0 m0 a1 m1 N s t _ h3 HBX.out.1 HBX.out.2.2.1 HBX.out.2.1)
  have hano := fun hb => lask_no (.func (.func 70) #[] #[.pointer (some ⟨w.heap.size, 0, none⟩), .pointer (some ⟨w.heap.size + 1 + 1, 0, none⟩), .pointer (some ⟨w.heap.size + 1, 0, none⟩)]) cb rb a0 m0 a1 m1 N s t p (((w.alloc (.cells #[.pointer (some ⟨cb, 0, none⟩)] 23)).alloc (.cells #[.int .i64 1] 3)).alloc (.cells #[.int .i64 t] 3)) h3 hb
  have HL := Lib.hid h3
  have hI := fun (he : s.wantE true t p = 0) (hm : s.may true t p = true) => h.inv.hold he hm
  have hJ := fun (he : s.wantE true t p = 0) (hm : s.may true t p = false) => h.inv.putW he hm
  have hlt := h.lt
  have HLT := Lib.hid hlt
  clear h h3 eg hlt
  rcases LS.want_cases s true t p wait with ⟨hb, e1, e2, e3⟩ | ⟨hb, e1, eb, e2, e3⟩ | ⟨hb, e1, eb, em, e2, e3⟩ | ⟨hb, e1, eb, em, rfl, e2, e3⟩ | ⟨hb, e1, eb, em, rfl, e2, e3⟩
  · have HA := Lib.hid (hano hb)
    rw [e1, e2, e3]
    clear hano hask hI hJ e1 e2 e3 hb
    go_enter Tryz.func41, Tryz.ntmps41
    go_wp2_with fail
    refine HA.out.mono ?_
    rintro e w1 ⟨rfl, rfl⟩
    go_wp2
    go_ret2
    exact ⟨rfl, HL.out.mono (by omega), HBX.out.2.2.2.mono (by simp)⟩
  · have HA := Lib.hid (hask hb)
    rw [e1, e2, e3]
    generalize s.badE true t = q at *
    clear hano hask hI hJ e1 e2 e3 hb
    go_enter Tryz.func41, Tryz.ntmps41
    go_wp2_with fail
    refine HA.out.mono ?_
    rintro e w1 ⟨rfl, hC⟩
    have HC := Lib.hid hC
    clear hC
    go_wp2
    go_ret2
    exact ⟨rfl, (HL.out.calm HC.out).mono (by omega), (HBX.out.2.2.2.trans HC.out).mono (by simp)⟩
  · have HA := Lib.hid (hask hb)
    have HI := Lib.hid (hI e1 em)
    have HM := Lib.hid em
    have HT := Lib.hid (thB_iff.1 hb.1)
    rw [eb] at HA
    rw [e1, e2, e3]
    clear hano hask hI hJ e1 e2 e3 hb eb em
    go_enter Tryz.func41, Tryz.ntmps41
    go_wp2_with fail
    refine HA.out.mono ?_
    rintro e w1 ⟨rfl, hC⟩
    have d0 := (HBX.out.1.kept hC (by simp)).cell
    have d1 := (HBX.out.2.1.kept hC (by simp)).cell
    have d2 := (HBX.out.2.2.1.kept hC (by simp)).cell
    have HC := Lib.hid hC
    clear hC
    go_wp2_with fail
    refine (lmayc true cb rb a0 m0 a1 m1 N s t p w1 (HL.out.calm HC.out)).mono ?_
    rintro e w2 ⟨rfl, hC⟩
    rw [HM.out]
    have d0' := cell_kept' d0 hC (by simp)
    have d1' := cell_kept' d1 hC (by simp)
    have d2' := cell_kept' d2 hC (by simp)
    have HC2 := Lib.hid (HC.out.trans hC)
    clear hC
    go_wp2_with fail
    refine (lholdc true cb rb a0 m0 a1 m1 N s t w2 (HL.out.calm HC2.out) HT.out HI.out).mono ?_
    rintro e w3 ⟨rfl, hL, hC⟩
    have HC3 := Lib.hid (And.intro hL (((HBX.out.2.2.2.trans HC2.out).mono (by simp)).trans (hC.mono (S2 := [cb, rb, a0, m0, a1, m1]) (by simp))))
    clear hL hC
    go_wp2
    go_ret2
    exact ⟨rfl, HC3.out.1.mono (by omega), HC3.out.2⟩
  · have HA := Lib.hid (hask hb)
    have HJ := Lib.hid (hJ e1 em)
    have HM := Lib.hid em
    rw [eb] at HA
    rw [e1, e2, e3]
    clear hano hask hI hJ e1 e2 e3 hb eb em
    go_enter Tryz.func41, Tryz.ntmps41
    go_wp2_with fail
    refine HA.out.mono ?_
    rintro e w1 ⟨rfl, hC⟩
    have d0 := (HBX.out.1.kept hC (by simp)).cell
    have d1 := (HBX.out.2.1.kept hC (by simp)).cell
    have d2 := (HBX.out.2.2.1.kept hC (by simp)).cell
    have HC := Lib.hid hC
    clear hC
    go_wp2_with fail
    refine (lmayc true cb rb a0 m0 a1 m1 N s t p w1 (HL.out.calm HC.out)).mono ?_
    rintro e w2 ⟨rfl, hC⟩
    rw [HM.out]
    have d0' := cell_kept' d0 hC (by simp)
    have d1' := cell_kept' d1 hC (by simp)
    have d2' := cell_kept' d2 hC (by simp)
    have c2 := cellB ((HL.out.calm HC.out).calm hC).head (i := 2) (v := .pointer (some ⟨a0, 0, none⟩)) rfl
    have c3 := cellB ((HL.out.calm HC.out).calm hC).head (i := 3) (v := .pointer (some ⟨a1, 0, none⟩)) rfl
    have HC2 := Lib.hid (HC.out.trans hC)
    clear hC d0 d1 d2
    go_wp2
    refine region_still_tail 8 (by kernel_rfl) (by kernel_rfl) ?_
    simp only [List.take_succ_cons, List.take_zero, List.drop_succ_cons, List.drop_zero]
    repeat still_step
    refine wpStill_nil ?_
    go_wp2_with fail
    refine (putc a1 m1 N s.W t p _ (((HL.out.calm HC2.out).calm (Chg.refl [] w2).drew)).lw hN).mono ?_
    rintro e w3 ⟨rfl, hW, hC⟩
    have HC3 := Lib.hid (show LAt w3 cb rb a0 m0 a1 m1 (N + 1) (s.putW true t p) ∧ Chg [cb, rb, a0, m0, a1, m1] w w3 from
      ⟨((HL.out.calm HC2.out).calm (Chg.refl [] w2).drew).stepW hW hC (by omega) HJ.out, (((HBX.out.2.2.2.trans HC2.out).drew).mono (by simp)).trans (hC.mono (by simp))⟩)
    clear hW hC
    go_wp2
    go_ret2
    exact ⟨rfl, HC3.out.1, HC3.out.2⟩
  · have HA := Lib.hid (hask hb)
    have HM := Lib.hid em
    rw [eb] at HA
    rw [e1, e2, e3]
    clear hano hask hI hJ e1 e2 e3 hb eb em
    go_enter Tryz.func41, Tryz.ntmps41
    go_wp2_with fail
    refine HA.out.mono ?_
    rintro e w1 ⟨rfl, hC⟩
    have d0 := (HBX.out.1.kept hC (by simp)).cell
    have d1 := (HBX.out.2.1.kept hC (by simp)).cell
    have d2 := (HBX.out.2.2.1.kept hC (by simp)).cell
    have HC := Lib.hid hC
    clear hC
    go_wp2_with fail
    refine (lmayc true cb rb a0 m0 a1 m1 N s t p w1 (HL.out.calm HC.out)).mono ?_
    rintro e w2 ⟨rfl, hC⟩
    rw [HM.out]
    have HC2 := Lib.hid (HC.out.trans hC)
    clear hC d0 d1 d2
    go_wp2
    go_ret2
    exact ⟨rfl, (HL.out.calm HC2.out).mono (by omega), (HBX.out.2.2.2.trans HC2.out).mono (by simp)⟩

set_option maxRecDepth 100000 in
theorem lreadc (cb rb a0 m0 a1 m1 : Nat) (N : Int) (s : LS) (t p : Int) (w : World) (h : LAt w cb rb a0 m0 a1 m1 N s) (hN : N < 4611686018427387904) :
    Calls Tryz.prog 13 #[.pointer (some ⟨cb, 0, none⟩), .int .i64 t, .int .i64 p] w (LPost #[.bool (s.wantB false t p), .int .i64 (s.wantE false t p)] cb rb a0 m0 a1 m1 (N + 1) (s.wantS false t p true) w) := by
  have H := Lib.hid (lwantRc true cb rb a0 m0 a1 m1 N s t p w h hN)
  generalize s.wantB false t p = u at *
  generalize s.wantE false t p = v at *
  clear h
  go_enter Tryz.func13, Tryz.ntmps13
  go_wp2_with fail
  refine H.out.mono ?_
  rintro e w1 ⟨rfl, hL, hC⟩
  have H1 := Lib.hid (And.intro hL hC)
  clear hL hC
  go_wp2
  go_ret2
  exact ⟨rfl, H1.out.1, H1.out.2⟩

set_option maxRecDepth 100000 in
theorem lwritec (cb rb a0 m0 a1 m1 : Nat) (N : Int) (s : LS) (t p : Int) (w : World) (h : LAt w cb rb a0 m0 a1 m1 N s) (hN : N < 4611686018427387904) :
    Calls Tryz.prog 16 #[.pointer (some ⟨cb, 0, none⟩), .int .i64 t, .int .i64 p] w (LPost #[.bool (s.wantB true t p), .int .i64 (s.wantE true t p)] cb rb a0 m0 a1 m1 (N + 1) (s.wantS true t p true) w) := by
  have H := Lib.hid (lwantWc true cb rb a0 m0 a1 m1 N s t p w h hN)
  generalize s.wantB true t p = u at *
  generalize s.wantE true t p = v at *
  clear h
  go_enter Tryz.func16, Tryz.ntmps16
  go_wp2_with fail
  refine H.out.mono ?_
  rintro e w1 ⟨rfl, hL, hC⟩
  have H1 := Lib.hid (And.intro hL hC)
  clear hL hC
  go_wp2
  go_ret2
  exact ⟨rfl, H1.out.1, H1.out.2⟩

set_option maxRecDepth 100000 in
theorem ltryreadc (cb rb a0 m0 a1 m1 : Nat) (N : Int) (s : LS) (t p : Int) (w : World) (h : LAt w cb rb a0 m0 a1 m1 N s) (hN : N < 4611686018427387904) :
    Calls Tryz.prog 18 #[.pointer (some ⟨cb, 0, none⟩), .int .i64 t, .int .i64 p] w (LPost #[.bool (s.wantB false t p), .int .i64 (s.wantE false t p)] cb rb a0 m0 a1 m1 (N + 1) (s.wantS false t p false) w) := by
  have H := Lib.hid (lwantRc false cb rb a0 m0 a1 m1 N s t p w h hN)
  generalize s.wantB false t p = u at *
  generalize s.wantE false t p = v at *
  clear h
  go_enter Tryz.func18, Tryz.ntmps18
  go_wp2_with fail
  refine H.out.mono ?_
  rintro e w1 ⟨rfl, hL, hC⟩
  have H1 := Lib.hid (And.intro hL hC)
  clear hL hC
  go_wp2
  go_ret2
  exact ⟨rfl, H1.out.1, H1.out.2⟩

set_option maxRecDepth 100000 in
theorem ltrywritec (cb rb a0 m0 a1 m1 : Nat) (N : Int) (s : LS) (t p : Int) (w : World) (h : LAt w cb rb a0 m0 a1 m1 N s) (hN : N < 4611686018427387904) :
    Calls Tryz.prog 19 #[.pointer (some ⟨cb, 0, none⟩), .int .i64 t, .int .i64 p] w (LPost #[.bool (s.wantB true t p), .int .i64 (s.wantE true t p)] cb rb a0 m0 a1 m1 (N + 1) (s.wantS true t p false) w) := by
  have H := Lib.hid (lwantWc false cb rb a0 m0 a1 m1 N s t p w h hN)
  generalize s.wantB true t p = u at *
  generalize s.wantE true t p = v at *
  clear h
  go_enter Tryz.func19, Tryz.ntmps19
  go_wp2_with fail
  refine H.out.mono ?_
  rintro e w1 ⟨rfl, hL, hC⟩
  have H1 := Lib.hid (And.intro hL hC)
  clear hL hC
  go_wp2
  go_ret2
  exact ⟨rfl, H1.out.1, H1.out.2⟩

end Go.Proofs.YtpdfeinbbjfcaaaGreat
