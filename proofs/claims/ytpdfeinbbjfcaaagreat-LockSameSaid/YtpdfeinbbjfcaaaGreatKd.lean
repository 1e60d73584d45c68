
/- Package rwlock: Unlock, Leave, Change: contracts (written by wip/unk.py). -/
import Derived.Test.YtpdfeinbbjfcaaaGreatKc
import Derived.IntWalk
namespace Go.Proofs.YtpdfeinbbjfcaaaGreat
open Go.RowKit

theorem LInv.setR {s : LS} (h : LInv s) {R : WL} (hr : ListOk R) (hk : ∀ x ∈ R, ∃ y ∈ s.R, y.1 = x.1) : LInv { s with R := R } :=
  ⟨h.ok.lists _ _, hr, h.w, h.alone, fun x hx => by
    obtain ⟨y, hy, e⟩ := hk x hx
    have h1 : s.cnt y.1 = 0 := h.none y hy
    show s.cnt x.1 = 0
    rw [← e]
    exact h1⟩
theorem LInv.setW {s : LS} (h : LInv s) {W : WL} (hw : ListOk W) : LInv { s with W := W } := ⟨h.ok.lists _ _, h.r, hw, h.alone, h.none⟩

def UnP (cb rb a0 m0 a1 m1 : Nat) (N : Int) (s' : LS) (w : World) (w' : World) : Prop := LAt w' cb rb a0 m0 a1 m1 N s' ∧ Chg [cb, rb] w w'

theorem LS.un_ways (s : LS) (t : Int) (ht : thB t = true) : (s.unE t = 0 ∧ (s.wr == t) = true ∧ s.un1 t = { s with wr := -1 }) ∨ (s.unE t = 6 ∧ (s.wr == t) = false ∧ (s.cnt t == 0) = true) ∨
    (s.unE t = 0 ∧ (s.wr == t) = false ∧ (s.cnt t == 0) = false ∧ (s.cnt t == 1) = true ∧ s.un1 t = { s with C := s.C.set t.toNat 0 }) ∨
    (s.unE t = 0 ∧ (s.wr == t) = false ∧ (s.cnt t == 0) = false ∧ (s.cnt t == 1) = false ∧ s.un1 t = { s with C := s.C.set t.toNat (s.cnt t - 1) }) := by
  unfold LS.unE LS.un1
  rw [if_pos ht]
  by_cases h1 : s.wr = t
  · simp [h1]
  · by_cases h2 : s.cnt t = 0
    · simp [h1, h2]
    · by_cases h3 : s.cnt t = 1
      · simp [h1, h3]
      · simp [h1, h2, h3]

set_option maxRecDepth 100000 in
set_option maxHeartbeats 4000000 in
theorem lunlock1c (bl bt cb rb a0 m0 a1 m1 : Nat) (N : Int) (s : LS) (t : Int) (w : World) (h : LAt w cb rb a0 m0 a1 m1 N s) (ht : thB t = true)
    (hl : BoxAt w bl (.pointer (some ⟨cb, 0, none⟩)) 23) (hbt : BoxAt w bt (.int .i64 t) 3) :
    Calls Tryz.prog 46 #[.pointer (some ⟨bl, 0, none⟩), .pointer (some ⟨bt, 0, none⟩)] w fun e w' => e = .returned (.int .i64 (s.unE t)) ∧ UnP cb rb a0 m0 a1 m1 N (if s.unE t = 0 then s.un1 t else s) w w' := by
  have hI := fun (he : s.unE t = 0) => h.inv.un1 he
  have hcnt := h.inv.ok.cnt t
  have HL := Lib.hid (And.intro h (And.intro hl hbt))
  have hok := thB_iff.1 ht
  have HOK := Lib.hid hok
  have hw := s.un_ways t ht
  have hlook := fun (W : World) (hW : Chg [] w W) => (h.calm hW).look t
  obtain ⟨n, hn⟩ : ∃ n, n = s.cnt t := ⟨_, rfl⟩
  rw [← hn] at hw hlook hcnt
  have HLK := Lib.hid hlook
  have HN := Lib.hid hn
  clear h hl hbt hok ht hlook hn
  rcases hw with ⟨e1, e2, e3⟩ | ⟨e1, e2, e3⟩ | ⟨e1, e2, e3, e4, e5⟩ | ⟨e1, e2, e3, e4, e5⟩
  · as_aux_lemma =>
    have hI := hI e1
    rw [e3] at hI
    rw [e1, if_pos rfl, e3]
    have HI := Lib.hid hI
    clear hI e1 e3 hcnt
    have H0 := Lib.hid (Chg.refl [] w)
    have d0 := cell_kept' HL.out.2.1.cell H0.out (by simp)
    have d1 := cell_kept' HL.out.2.2.cell H0.out (by simp)
    have c0 := cellB (HL.out.1.calm H0.out).head (i := 0) (v := .int .i64 s.wr) rfl
    have c1 := cellB (HL.out.1.calm H0.out).head (i := 1) (v := .map (some rb)) rfl
    go_enter Tryz.func46, Tryz.ntmps46
    go_wp2
    go_quiet (fail)
    obtain ⟨W1, hW⟩ : ∃ W, W = w.drewN nq := ⟨_, rfl⟩
    rw [← hW]
    have HW1 := Lib.hid (show Chg [] w W1 from hW ▸ H0.out.drewN nq)
    clear hW d0 d1 c0 c1
    have d0 := cell_kept' HL.out.2.1.cell HW1.out (by simp)
    have d1 := cell_kept' HL.out.2.2.cell HW1.out (by simp)
    have c0 := cellB (HL.out.1.calm HW1.out).head (i := 0) (v := .int .i64 s.wr) rfl
    have c1 := cellB (HL.out.1.calm HW1.out).head (i := 1) (v := .map (some rb)) rfl
    have f0 := frozenB (HL.out.1.calm HW1.out).head 0
    have HP := Lib.hid ((HL.out.1.calm HW1.out).putWr (-1) HI.out)
    go_wp2
    go_ret
    exact ⟨rfl, HP.out.1, (HW1.out.mono (by simp)).trans (HP.out.2.mono (by simp))⟩
  · as_aux_lemma =>
    rw [e1, if_neg (by omega)]
    clear hI e1 hcnt
    have H0 := Lib.hid (Chg.refl [] w)
    have d0 := cell_kept' HL.out.2.1.cell H0.out (by simp)
    have d1 := cell_kept' HL.out.2.2.cell H0.out (by simp)
    have c0 := cellB (HL.out.1.calm H0.out).head (i := 0) (v := .int .i64 s.wr) rfl
    have c1 := cellB (HL.out.1.calm H0.out).head (i := 1) (v := .map (some rb)) rfl
    go_enter Tryz.func46, Tryz.ntmps46
    go_wp2
    go_quiet (fail)
    obtain ⟨W1, hW⟩ : ∃ W, W = w.drewN nq := ⟨_, rfl⟩
    rw [← hW]
    have HW1 := Lib.hid (show Chg [] w W1 from hW ▸ H0.out.drewN nq)
    clear hW d0 d1 c0 c1
    have d0 := cell_kept' HL.out.2.1.cell HW1.out (by simp)
    have d1 := cell_kept' HL.out.2.2.cell HW1.out (by simp)
    have c0 := cellB (HL.out.1.calm HW1.out).head (i := 0) (v := .int .i64 s.wr) rfl
    have c1 := cellB (HL.out.1.calm HW1.out).head (i := 1) (v := .map (some rb)) rfl
    have hlk := fun k : Nat => HLK.out _ (HW1.out.drewN k)
    go_wp2
    go_quiet (fail)
    obtain ⟨W2, hW⟩ : ∃ W, W = W1.drewN nq := ⟨_, rfl⟩
    rw [← hW]
    have HW2 := Lib.hid (show Chg [] w W2 from hW ▸ HW1.out.drewN nq)
    clear hW d0 d1 c0 c1
    go_wp2
    go_ret
    exact ⟨rfl, HL.out.1.calm HW2.out, HW2.out.mono (by simp)⟩
  · as_aux_lemma =>
    have hI := hI e1
    rw [e5] at hI
    rw [e1, if_pos rfl, e5]
    have HI := Lib.hid hI
    clear hI e1 e5
    have H0 := Lib.hid (Chg.refl [] w)
    have d0 := cell_kept' HL.out.2.1.cell H0.out (by simp)
    have d1 := cell_kept' HL.out.2.2.cell H0.out (by simp)
    have c0 := cellB (HL.out.1.calm H0.out).head (i := 0) (v := .int .i64 s.wr) rfl
    have c1 := cellB (HL.out.1.calm H0.out).head (i := 1) (v := .map (some rb)) rfl
    go_enter Tryz.func46, Tryz.ntmps46
    go_wp2
    go_quiet (fail)
    obtain ⟨W1, hW⟩ : ∃ W, W = w.drewN nq := ⟨_, rfl⟩
    rw [← hW]
    have HW1 := Lib.hid (show Chg [] w W1 from hW ▸ H0.out.drewN nq)
    clear hW d0 d1 c0 c1
    have d0 := cell_kept' HL.out.2.1.cell HW1.out (by simp)
    have d1 := cell_kept' HL.out.2.2.cell HW1.out (by simp)
    have c0 := cellB (HL.out.1.calm HW1.out).head (i := 0) (v := .int .i64 s.wr) rfl
    have c1 := cellB (HL.out.1.calm HW1.out).head (i := 1) (v := .map (some rb)) rfl
    have hlk := fun k : Nat => HLK.out _ (HW1.out.drewN k)
    go_wp2
    go_quiet (fail)
    obtain ⟨W2, hW⟩ : ∃ W, W = W1.drewN nq := ⟨_, rfl⟩
    rw [← hW]
    have HW2 := Lib.hid (show Chg [] w W2 from hW ▸ HW1.out.drewN nq)
    clear hW hlk d0 d1 c0 c1
    have d0 := cell_kept' HL.out.2.1.cell HW2.out (by simp)
    have d1 := cell_kept' HL.out.2.2.cell HW2.out (by simp)
    have c0 := cellB (HL.out.1.calm HW2.out).head (i := 0) (v := .int .i64 s.wr) rfl
    have c1 := cellB (HL.out.1.calm HW2.out).head (i := 1) (v := .map (some rb)) rfl
    have hlk := fun k : Nat => HLK.out _ (HW2.out.drewN k)
    go_wp2
    go_quiet (fail)
    obtain ⟨W3, hW⟩ : ∃ W, W = W2.drewN nq := ⟨_, rfl⟩
    rw [← hW]
    have HW3 := Lib.hid (show Chg [] w W3 from hW ▸ HW2.out.drewN nq)
    clear hW hlk d0 d1 c0 c1
    have d0 := cell_kept' HL.out.2.1.cell HW3.out (by simp)
    have d1 := cell_kept' HL.out.2.2.cell HW3.out (by simp)
    have c0 := cellB (HL.out.1.calm HW3.out).head (i := 0) (v := .int .i64 s.wr) rfl
    have c1 := cellB (HL.out.1.calm HW3.out).head (i := 1) (v := .map (some rb)) rfl
    have hlk := fun k : Nat => HLK.out _ (HW3.out.drewN k)
    have hlk1 := HLK.out _ HW3.out.drew
    obtain ⟨w4, hrun, hM, hC⟩ := run_delete_P (P := Tryz.prog) Tryz.underlying37 Tryz.underlying3 (show MapP W3.drew rb (rdM s.C) from (HL.out.1.calm HW3.out.drew).reads) t 3 0
    have H4 := Lib.hid (show LAt w4 cb rb a0 m0 a1 m1 N { s with C := s.C.set t.toNat 0 } ∧ Chg [cb, rb] w w4 from
      ⟨(HL.out.1.calm HW3.out.drew).putRd (hM.perm (rdM_del HOK.out HL.out.1.inv.ok.len)) hC HI.out, (HW3.out.drew.mono (by simp)).trans (hC.mono (by simp))⟩)
    clear hM hC hcnt
    go_wp2
    refine region_still_tail 5 (by kernel_rfl) (by kernel_rfl) ?_
    simp only [List.take_succ_cons, List.take_zero, List.drop_succ_cons, List.drop_zero]
    repeat still_step
    refine wpStill_nil ?_
    go_wp2
    go_ret
    exact ⟨rfl, H4.out.1, H4.out.2⟩
  · as_aux_lemma =>
    have hI := hI e1
    rw [e5] at hI
    rw [e1, if_pos rfl, e5]
    have HI := Lib.hid hI
    clear hI e1 e5
    have H0 := Lib.hid (Chg.refl [] w)
    have d0 := cell_kept' HL.out.2.1.cell H0.out (by simp)
    have d1 := cell_kept' HL.out.2.2.cell H0.out (by simp)
    have c0 := cellB (HL.out.1.calm H0.out).head (i := 0) (v := .int .i64 s.wr) rfl
    have c1 := cellB (HL.out.1.calm H0.out).head (i := 1) (v := .map (some rb)) rfl
    go_enter Tryz.func46, Tryz.ntmps46
    go_wp2
    go_quiet (fail)
    obtain ⟨W1, hW⟩ : ∃ W, W = w.drewN nq := ⟨_, rfl⟩
    rw [← hW]
    have HW1 := Lib.hid (show Chg [] w W1 from hW ▸ H0.out.drewN nq)
    clear hW d0 d1 c0 c1
    have d0 := cell_kept' HL.out.2.1.cell HW1.out (by simp)
    have d1 := cell_kept' HL.out.2.2.cell HW1.out (by simp)
    have c0 := cellB (HL.out.1.calm HW1.out).head (i := 0) (v := .int .i64 s.wr) rfl
    have c1 := cellB (HL.out.1.calm HW1.out).head (i := 1) (v := .map (some rb)) rfl
    have hlk := fun k : Nat => HLK.out _ (HW1.out.drewN k)
    go_wp2
    go_quiet (fail)
    obtain ⟨W2, hW⟩ : ∃ W, W = W1.drewN nq := ⟨_, rfl⟩
    rw [← hW]
    have HW2 := Lib.hid (show Chg [] w W2 from hW ▸ HW1.out.drewN nq)
    clear hW hlk d0 d1 c0 c1
    have d0 := cell_kept' HL.out.2.1.cell HW2.out (by simp)
    have d1 := cell_kept' HL.out.2.2.cell HW2.out (by simp)
    have c0 := cellB (HL.out.1.calm HW2.out).head (i := 0) (v := .int .i64 s.wr) rfl
    have c1 := cellB (HL.out.1.calm HW2.out).head (i := 1) (v := .map (some rb)) rfl
    have hlk := fun k : Nat => HLK.out _ (HW2.out.drewN k)
    go_wp2
    go_quiet (fail)
    obtain ⟨W3, hW⟩ : ∃ W, W = W2.drewN nq := ⟨_, rfl⟩
    rw [← hW]
    have HW3 := Lib.hid (show Chg [] w W3 from hW ▸ HW2.out.drewN nq)
    clear hW hlk d0 d1 c0 c1
    have d0 := cell_kept' HL.out.2.1.cell HW3.out (by simp)
    have d1 := cell_kept' HL.out.2.2.cell HW3.out (by simp)
    have c0 := cellB (HL.out.1.calm HW3.out).head (i := 0) (v := .int .i64 s.wr) rfl
    have c1 := cellB (HL.out.1.calm HW3.out).head (i := 1) (v := .map (some rb)) rfl
    have hlk := fun k : Nat => HLK.out _ (HW3.out.drewN k)
    have hlk1 := HLK.out _ HW3.out.drew
    have hn2 : 0 < n - 1 := by
      have h3 := e3
      have h4 := e4
      simp at h3 h4
      omega
    obtain ⟨w4, hrun, hM, hC⟩ := run_update_P (P := Tryz.prog) Tryz.underlying37 Tryz.underlying3 (show MapP W3.drew rb (rdM s.C) from (HL.out.1.calm HW3.out.drew).reads) t (.int .i64 (n - 1))
    have H4 := Lib.hid (show LAt w4 cb rb a0 m0 a1 m1 N { s with C := s.C.set t.toNat (n - 1) } ∧ Chg [cb, rb] w w4 from
      ⟨(HL.out.1.calm HW3.out.drew).putRd (hM.perm (rdM_put HOK.out HL.out.1.inv.ok.len hn2)) hC HI.out, (HW3.out.drew.mono (by simp)).trans (hC.mono (by simp))⟩)
    clear hM hC hn2
    have hwr : IntKind.i64.wrap (n - 1) = n - 1 := IntWalk.i64_in _ (by omega)
    go_wp2
    refine region_still_tail 7 (by kernel_rfl) (by kernel_rfl) ?_
    simp only [List.take_succ_cons, List.take_zero, List.drop_succ_cons, List.drop_zero]
    repeat still_step
    refine wpStill_nil ?_
    go_wp2
    go_ret
    exact ⟨rfl, H4.out.1, H4.out.2⟩

def LetE (l : List Int) (r : Int) (cb rb a0 m0 a1 m1 : Nat) (N : Int) (s' : LS) (w : World) (e : Ending) (w' : World) : Prop :=
  ∃ v, e = .returned (.tuple #[v, .int .i64 r]) ∧ w'.ownsRow w.heap.size 3 1 v l.length (l.map (Value.int .i64)) ∧ LAt w' cb rb a0 m0 a1 m1 N s' ∧ Chg [cb, rb, a0, m0, a1, m1] w w'


theorem boxes2 (w : World) (u v : Value) (T U : TypeId) : BoxAt ((w.alloc (.cells #[u] T)).alloc (.cells #[v] U)) w.heap.size u T ∧ BoxAt ((w.alloc (.cells #[u] T)).alloc (.cells #[v] U)) (w.heap.size + 1) v U ∧ Chg [] w ((w.alloc (.cells #[u] T)).alloc (.cells #[v] U)) := by
  have h2 := box_new (w.alloc (.cells #[u] T)) v U
  simp only [World.size_alloc] at h2
  exact ⟨(box_new w u T).alloc _, h2, ((Chg.refl _ _).alloc _).alloc _⟩
theorem LetE.nil {r : Int} {cb rb a0 m0 a1 m1 : Nat} {N : Int} {s' : LS} {w w' : World} (h : LAt w' cb rb a0 m0 a1 m1 N s') (hC : Chg [cb, rb, a0, m0, a1, m1] w w') : LetE [] r cb rb a0 m0 a1 m1 N s' w (.returned (.tuple #[.slice none 0 0, .int .i64 r])) w' :=
  ⟨_, rfl, World.ownsRow_nil .., h, hC⟩

set_option maxRecDepth 100000 in
set_option maxHeartbeats 4000000 in
theorem lunlockc (cb rb a0 m0 a1 m1 : Nat) (N : Int) (s : LS) (t : Int) (w : World) (h : LAt w cb rb a0 m0 a1 m1 N s) :
    Calls Tryz.prog 20 #[.pointer (some ⟨cb, 0, none⟩), .int .i64 t] w (LetE (s.unL t) (s.unE t) cb rb a0 m0 a1 m1 N (s.unS t) w) := by
  have eg : ∀ args w, (callFunc 46 args).run Tryz.prog w = .ok (.enter 46 args) w := enters_of Tryz.func46 (by kernel_rfl) rfl
  have HBX := Lib.hid (boxes2 w (.pointer (some ⟨cb, 0, none⟩)) (.int .i64 t) 23 3)
  have h3 := h.calm HBX.out.2.2
  have hask := fun (hb : thB t = true ∧ prB 1 = true) => lask_yes 46 eg #[.pointer (some ⟨w.heap.size, 0, none⟩), .pointer (some ⟨w.heap.size + 1, 0, none⟩)] (s.unE t) (UnP cb rb a0 m0 a1 m1 N (if s.unE t = 0 then s.un1 t else s) _) cb rb a0 m0 a1 m1 N s t 1 _ h3 hb (lunlock1c w.heap.size (w.heap.size + 1) cb rb a0 m0 a1 m1 N s t _ h3 hb.1 HBX.out.1 HBX.out.2.1)
  have hano := fun hb => lask_no (.func (.func 46) #[] #[.pointer (some ⟨w.heap.size, 0, none⟩), .pointer (some ⟨w.heap.size + 1, 0, none⟩)]) cb rb a0 m0 a1 m1 N s t 1 _ h3 hb
  have HL := Lib.hid (And.intro h3 h.lt)
  have hp1 : prB 1 = true := by decide
  have hw : (¬ (thB t = true ∧ prB 1 = true) ∧ s.unE t = 2 ∧ s.unL t = [] ∧ s.unS t = s) ∨ ((thB t = true ∧ prB 1 = true) ∧ (s.unE t != 0) = true ∧ (if s.unE t = 0 then s.un1 t else s) = s ∧ s.unL t = [] ∧ s.unS t = s) ∨
      ((thB t = true ∧ prB 1 = true) ∧ s.unE t = 0 ∧ (if s.unE t = 0 then s.un1 t else s) = s.un1 t ∧ s.unL t = (s.un1 t).let_.1 ∧ s.unS t = (s.un1 t).let_.2) := by
    unfold LS.unL LS.unS
    by_cases hb : thB t = true
    · by_cases h0 : s.unE t = 0
      · simp [hb, h0, hp1]
      · simp [hb, h0, hp1]
    · have : s.unE t = 2 := by unfold LS.unE; rw [if_neg hb]
      simp [hb, this]
  clear h h3 eg hp1
  rcases hw with ⟨hb, e1, e2, e3⟩ | ⟨hb, e1, e2, e3, e4⟩ | ⟨hb, e1, e2, e3, e4⟩
  · have HA := Lib.hid (hano hb)
    rw [e1, e2, e3]
    clear hano hask e1 e2 e3 hb
    go_enter Tryz.func20, Tryz.ntmps20
    go_wp2_with fail
    refine HA.out.mono ?_
    rintro e w1 ⟨rfl, rfl⟩
    go_wp2
    go_ret2
    exact LetE.nil HL.out.1 (HBX.out.2.2.mono (by simp))
  · have hA := hask hb
    rw [e2] at hA
    rw [e3, e4]
    generalize s.unE t = q at *
    have HA := Lib.hid hA
    clear hano hask hA e2 e3 e4 hb
    go_enter Tryz.func20, Tryz.ntmps20
    go_wp2_with fail
    refine HA.out.mono ?_
    rintro e w1 ⟨rfl, hL, hC⟩
    have HC := Lib.hid (And.intro hL hC)
    clear hL hC
    go_wp2
    go_ret2
    exact LetE.nil HC.out.1 ((HBX.out.2.2.mono (by simp)).trans (HC.out.2.mono (by simp)))
  · have hA := hask hb
    rw [e2, e1] at hA
    rw [e1, e3, e4]
    have HA := Lib.hid hA
    generalize s.un1 t = s1 at *
    clear hano hask hA e1 e2 e3 e4 hb
    go_enter Tryz.func20, Tryz.ntmps20
    go_wp2_with fail
    refine HA.out.mono ?_
    rintro e w1 ⟨rfl, hL, hC⟩
    have d0 := (HBX.out.1.kept hC (by have := HL.out.2 cb (by simp); have := HL.out.2 rb (by simp); simp; omega)).cell
    have HC := Lib.hid (And.intro hL ((HBX.out.2.2.mono (by simp)).trans (hC.mono (S2 := [cb, rb, a0, m0, a1, m1]) (by simp))))
    clear hL hC
    go_wp2_with fail
    refine (lletc cb rb a0 m0 a1 m1 N s1 w1 HC.out.1).mono ?_
    rintro e w2 ⟨v, rfl, ho, hL, hC⟩
    have HC2 := Lib.hid (And.intro (own_mono ho HC.out.2.size) (And.intro hL (HC.out.2.trans hC)))
    clear ho hL hC
    go_wp2
    go_ret2
    exact ⟨v, rfl, HC2.out.1, HC2.out.2.1, HC2.out.2.2⟩

set_option maxRecDepth 100000 in
set_option maxHeartbeats 2000000 in
theorem lchange1c (bl bt cb rb a0 m0 a1 m1 : Nat) (N : Int) (s : LS) (t : Int) (w : World) (h : LAt w cb rb a0 m0 a1 m1 N s)
    (hl : BoxAt w bl (.pointer (some ⟨cb, 0, none⟩)) 23) (hbt : BoxAt w bt (.int .i64 t) 3) :
    Calls Tryz.prog 77 #[.pointer (some ⟨bl, 0, none⟩), .pointer (some ⟨bt, 0, none⟩)] w fun e w' => e = .returned (.int .i64 (if s.is t = true then 0 else 6)) ∧ Chg [] w w' := by
  have d0 := hl.cell
  have d1 := hbt.cell
  have HW := Lib.hid (lwaitingc cb rb a0 m0 a1 m1 N s t w h)
  clear h hl hbt
  generalize s.is t = b at *
  cases b
  all_goals
    go_enter Tryz.func77, Tryz.ntmps77
    go_wp2_with fail
    refine HW.out.mono ?_
    rintro e w1 ⟨rfl, hC⟩
    have HC := Lib.hid hC
    clear hC
    go_wp2
    go_ret
    exact ⟨rfl, HC.out⟩


theorem llvF {L : WL} (h : ListOk L) (t : Int) : ListOk (lvL L t) ∧ ∀ x ∈ lvL L t, ∃ y ∈ L, y.1 = x.1 := ⟨h.sub (lvL_sub h t), fun x hx => ⟨x, (lvL_sub h t).subset hx, rfl⟩⟩
theorem llvN {L : WL} {t : Int} (h : hasR L t = false) : lvL L t = L := by
  unfold lvL
  rw [if_neg (fun e => by have := (askR_ok e).2.2; rw [h] at this; cases this)]
set_option maxRecDepth 100000 in
theorem lLeave1c (b0 ab mb : Nat) (N : Int) (L : WL) (t : Int) (w : World) (h : WAt w ab mb N L) (h0 : BoxAt w b0 (.int .i64 t) 3) :
    Calls Tryz.prog 50 #[.pointer (some ⟨ab, 0, none⟩), .pointer (some ⟨b0, 0, none⟩)] w fun e w' => e = .returned (.tuple #[]) ∧ WAt w' ab mb N (lvL L t) ∧ Chg [ab, mb] w w' := by
  have d0 := h0.cell
  have HL := Lib.hid (leavec ab mb N L t w h)
  clear h h0
  go_enter Tryz.func50, Tryz.ntmps50
  go_wp2_with fail
  refine HL.out.mono ?_
  rintro e w1 ⟨rfl, hW, hC⟩
  have HC := Lib.hid (And.intro hW hC)
  clear hW hC
  go_wp2
  go_end0
  exact ⟨rfl, HC.out.1, HC.out.2⟩


def llvK (s : LS) (t : Int) : Nat → LS
  | 0 => s
  | 1 => { s with R := lvL s.R t }
  | _ => { s with R := lvL s.R t, W := lvL s.W t }

set_option maxRecDepth 100000 in
set_option maxHeartbeats 8000000 in
theorem llvic (b0 cb rb a0 m0 a1 m1 : Nat) (N : Int) (s : LS) (t : Int) (w : World) (h : LAt w cb rb a0 m0 a1 m1 N s) (h0 : BoxAt w b0 (.int .i64 t) 3) (hn : b0 ∉ [cb, rb, a0, m0, a1, m1]) :
    Calls Tryz.prog 49 #[.pointer (some ⟨cb, 0, none⟩), .int .i64 t, .int .i64 1, .func (.func 50) #[] #[.pointer (some ⟨b0, 0, none⟩)]] w (LetE (if s.chE t 1 = 0 then (llvK s t 2).let_.1 else []) (s.chE t 1) cb rb a0 m0 a1 m1 N (if s.chE t 1 = 0 then (llvK s t 2).let_.2 else s) w) := by
  have eg : ∀ args w, (callFunc 77 args).run Tryz.prog w = .ok (.enter 77 args) w := enters_of Tryz.func77 (by kernel_rfl) rfl
  have egc : ∀ args w, (callFunc 50 args).run Tryz.prog w = .ok (.enter 50 args) w := enters_of Tryz.func50 (by kernel_rfl) rfl
  have i0 : ∀ w, (Instr.index 40 (.agg #[.pointer (some ⟨a0, 0, none⟩), .pointer (some ⟨a1, 0, none⟩)]) (.int .i64 0)).run Tryz.prog w = .ok (.pointer (some ⟨a0, 0, none⟩)) w := fun _ => by kernel_rfl
  have i1 : ∀ w, (Instr.index 40 (.agg #[.pointer (some ⟨a0, 0, none⟩), .pointer (some ⟨a1, 0, none⟩)]) (.int .i64 1)).run Tryz.prog w = .ok (.pointer (some ⟨a1, 0, none⟩)) w := fun _ => by kernel_rfl
  have hx := boxes2 w (.pointer (some ⟨cb, 0, none⟩)) (.int .i64 t) 23 3
  have hlt := h.lt
  have HLT := Lib.hid hlt
  have h3 := h.calm hx.2.2
  have HB := Lib.hid (And.intro hx.1 (And.intro hx.2.1 (And.intro (h0.kept hx.2.2 (by simp)) (And.intro trivial hx.2.2))))
  have hask := fun hb => lask_yes 77 eg #[.pointer (some ⟨w.heap.size, 0, none⟩), .pointer (some ⟨w.heap.size + 1, 0, none⟩)] (if s.is t = true then 0 else 6) (fun w' => Chg [] _ w') cb rb a0 m0 a1 m1 N s t 1 _ h3 hb (lchange1c w.heap.size (w.heap.size + 1) cb rb a0 m0 a1 m1 N s t _ h3 hx.1 hx.2.1)
  have hano := fun hb => lask_no (.func (.func 77) #[] #[.pointer (some ⟨w.heap.size, 0, none⟩), .pointer (some ⟨w.heap.size + 1, 0, none⟩)]) cb rb a0 m0 a1 m1 N s t 1 _ h3 hb
  have HX := Lib.hid h3
  have HN := Lib.hid hn
  have hw : (¬ (thB t = true ∧ prB 1 = true) ∧ s.chE t 1 = 2) ∨ ((thB t = true ∧ prB 1 = true) ∧ s.is t = false ∧ s.chE t 1 = 6) ∨ ((thB t = true ∧ prB 1 = true) ∧ s.is t = true ∧ s.chE t 1 = 0) := by
    unfold LS.chE
    by_cases hb : thB t = true ∧ prB 1 = true
    · rw [if_pos hb]
      cases s.is t <;> simp [hb]
    · rw [if_neg hb]
      exact .inl ⟨hb, rfl⟩
  clear h h3 eg hx hlt hn h0
  rcases hw with ⟨hb, e1⟩ | ⟨hb, e1, e2⟩ | ⟨hb, e1, e2⟩
  · have HA := Lib.hid (hano hb)
    rw [e1, if_neg (by omega), if_neg (by omega)]
    clear hano hask e1 hb egc i0 i1
    go_enter Tryz.func49, Tryz.ntmps49
    go_wp2_with fail
    refine HA.out.mono ?_
    rintro e w1 ⟨rfl, rfl⟩
    go_wp2
    go_ret2
    exact LetE.nil HX.out (HB.out.2.2.2.2.mono (by simp))
  · have hA := hask hb
    rw [e1] at hA
    rw [e2, if_neg (by omega), if_neg (by omega)]
    have HA := Lib.hid hA
    clear hano hask hA e1 e2 hb egc i0 i1
    go_enter Tryz.func49, Tryz.ntmps49
    go_wp2_with fail
    refine HA.out.mono ?_
    rintro e w1 ⟨rfl, hC⟩
    have HC := Lib.hid hC
    clear hC
    go_wp2
    go_ret2
    exact LetE.nil (HX.out.calm HC.out) ((HB.out.2.2.2.2.trans HC.out).mono (by simp))
  · have hA := hask hb
    rw [e1, if_pos rfl] at hA
    rw [e2, if_pos rfl, if_pos rfl]
    have HA := Lib.hid hA
    clear hano hask hA e1 e2 hb
    go_enter Tryz.func49, Tryz.ntmps49
    go_wp2_with fail
    refine HA.out.mono ?_
    rintro e w2 ⟨rfl, hC⟩
    have c2 := cellB (HX.out.calm hC).head (i := 2) (v := .pointer (some ⟨a0, 0, none⟩)) rfl
    have c3 := cellB (HX.out.calm hC).head (i := 3) (v := .pointer (some ⟨a1, 0, none⟩)) rfl
    have d0 := (HB.out.1.kept hC (by simp)).cell
    have hlt2 := Nat.le_trans HB.out.2.2.2.2.size hC.size
    have HL := Lib.hid (And.intro (HX.out.calm hC) (HB.out.2.2.2.2.trans hC))
    have HB2 := Lib.hid (And.intro (HB.out.1.kept hC (by simp)) (And.intro (HB.out.2.1.kept hC (by simp)) (And.intro (HB.out.2.2.1.kept hC (by simp)) trivial)))
    clear hC hlt2
    go_wp2
    go_loopw [25] (fun i wr => ∃ k : Nat, k ≤ 2 ∧ i = .int .i64 k ∧ LAt wr cb rb a0 m0 a1 m1 N (llvK s t k) ∧ Chg [cb, rb, a0, m0, a1, m1] w2 wr) (fun i _ => 2 - (intOf i).toNat)
    case atStart => exact ⟨0, by omega, rfl, HL.out.1, Chg.refl _ _⟩
    case round =>
    obtain ⟨k, hk, rfl, hA, hC⟩ := hrel
    have HBW := Lib.hid (And.intro (HB2.out.1.kept hC (fun hm => by have := HLT.out _ hm; omega)) (And.intro (HB2.out.2.1.kept hC (fun hm => by have := HLT.out _ hm; omega)) (And.intro (HB2.out.2.2.1.kept hC HN.out) trivial)))
    have d0 := HBW.out.1.cell
    have d1 := HBW.out.2.1.cell
    have HO := Lib.hid (And.intro hA hC)
    clear hA hC
    have hk3 : k = 0 ∨ k = 1 ∨ k = 2 := by omega
    rcases hk3 with rfl | rfl | rfl
    · as_aux_lemma =>
      have hh := fun (W : World) (hW : Chg [] wr W) => hasc a0 m0 N s.R t W (HO.out.1.calm hW).lr
      have hN := llvN (L := s.R) (t := t)
      cases hb : hasR s.R t with
      | false =>
        rw [hb] at hh
        have HH := Lib.hid (And.intro hh (hN hb))
        clear hh hN hb
        go_wp2_with fail
        refine (HH.out.1 wr (Chg.refl _ _)).mono ?_
        rintro e w3 ⟨rfl, hC⟩
        have HC3 := Lib.hid hC
        clear hC
        go_wp2
        go_roundw
        case rel => exact ⟨1, by omega, rfl, by
          have h1 := HO.out.1.calm HC3.out
          have h2 : (llvK s t 1) = (llvK s t 0) := by show ({ wr := _, C := _, R := _, W := _ } : LS) = { wr := _, C := _, R := _, W := _ }; congr 1; exact HH.out.2
          rw [h2]
          exact h1, HO.out.2.trans (HC3.out.mono (by simp))⟩
        case measure => simp [intOf]
      | true =>
        rw [hb] at hh
        have HH := Lib.hid hh
        clear hh hN hb
        go_wp2_with fail
        refine (HH.out wr (Chg.refl _ _)).mono ?_
        rintro e w3 ⟨rfl, hC⟩
        have HC3 := Lib.hid hC
        clear hC
        go_wp2_with fail
        refine (lLeave1c b0 a0 m0 N s.R t w3 (HO.out.1.calm HC3.out).lr (HBW.out.2.2.1.kept HC3.out (by simp))).mono ?_
        rintro e w4 ⟨rfl, hW, hC⟩
        have HC4 := Lib.hid (show LAt w4 cb rb a0 m0 a1 m1 N (llvK s t 1) ∧ Chg [cb, rb, a0, m0, a1, m1] w2 w4 from
          ⟨(HO.out.1.calm HC3.out).stepR hW hC (Int.le_refl _) (by have hf := llvF HL.out.1.inv.r t; exact HL.out.1.inv.setR hf.1 hf.2), (HO.out.2.trans (HC3.out.mono (by simp))).trans (hC.mono (by simp))⟩)
        clear hW hC
        go_wp2
        go_roundw
        case rel => exact ⟨1, by omega, rfl, HC4.out.1, HC4.out.2⟩
        case measure => simp [intOf]
    · as_aux_lemma =>
      have hh := fun (W : World) (hW : Chg [] wr W) => hasc a1 m1 N s.W t W (HO.out.1.calm hW).lw
      have hN := llvN (L := s.W) (t := t)
      cases hb : hasR s.W t with
      | false =>
        rw [hb] at hh
        have HH := Lib.hid (And.intro hh (hN hb))
        clear hh hN hb
        go_wp2_with fail
        refine (HH.out.1 wr (Chg.refl _ _)).mono ?_
        rintro e w3 ⟨rfl, hC⟩
        have HC3 := Lib.hid hC
        clear hC
        go_wp2
        go_roundw
        case rel => exact ⟨2, by omega, rfl, by
          have h1 := HO.out.1.calm HC3.out
          have h2 : (llvK s t 2) = (llvK s t 1) := by show ({ wr := _, C := _, R := _, W := _ } : LS) = { wr := _, C := _, R := _, W := _ }; congr 1; exact HH.out.2
          rw [h2]
          exact h1, HO.out.2.trans (HC3.out.mono (by simp))⟩
        case measure => simp [intOf]
      | true =>
        rw [hb] at hh
        have HH := Lib.hid hh
        clear hh hN hb
        go_wp2_with fail
        refine (HH.out wr (Chg.refl _ _)).mono ?_
        rintro e w3 ⟨rfl, hC⟩
        have HC3 := Lib.hid hC
        clear hC
        go_wp2_with fail
        refine (lLeave1c b0 a1 m1 N s.W t w3 (HO.out.1.calm HC3.out).lw (HBW.out.2.2.1.kept HC3.out (by simp))).mono ?_
        rintro e w4 ⟨rfl, hW, hC⟩
        have HC4 := Lib.hid (show LAt w4 cb rb a0 m0 a1 m1 N (llvK s t 2) ∧ Chg [cb, rb, a0, m0, a1, m1] w2 w4 from
          ⟨(HO.out.1.calm HC3.out).stepW hW hC (Int.le_refl _) (by have hf := llvF HL.out.1.inv.r t; exact (HL.out.1.inv.setR hf.1 hf.2).setW (llvF HL.out.1.inv.w t).1), (HO.out.2.trans (HC3.out.mono (by simp))).trans (hC.mono (by simp))⟩)
        clear hW hC
        go_wp2
        go_roundw
        case rel => exact ⟨2, by omega, rfl, HC4.out.1, HC4.out.2⟩
        case measure => simp [intOf]
    · go_wp2_with fail
      refine (lletc cb rb a0 m0 a1 m1 N (llvK s t 2) wr HO.out.1).mono ?_
      rintro e w3 ⟨v, rfl, ho, hL, hC⟩
      have hg := (HL.out.2.mono (S2 := [cb, rb, a0, m0, a1, m1]) (by simp)).trans HO.out.2
      have HC3 := Lib.hid (And.intro (own_mono ho hg.size) (And.intro hL (hg.trans hC)))
      clear ho hL hC hg
      go_wp2
      go_ret2
      exact ⟨v, rfl, HC3.out.1, HC3.out.2.1, HC3.out.2.2⟩


theorem lchF {L : WL} (h : ListOk L) (t p : Int) : ListOk (chgL L t p) ∧ ∀ x ∈ chgL L t p, ∃ y ∈ L, y.1 = x.1 := by
  refine ⟨h.chg t p, fun x hx => ?_⟩
  have hm : x.1 ∈ (chgL L t p).map (·.1) := List.mem_map.2 ⟨x, hx, rfl⟩
  rw [chgL_keys h] at hm
  obtain ⟨y, hy, e⟩ := List.mem_map.1 hm
  exact ⟨y, hy, e⟩
theorem lchN {L : WL} {t p : Int} (h : hasR L t = false) : chgL L t p = L := by
  unfold chgL
  rw [if_neg (fun e => by have := (askR_ok e).2.2; rw [h] at this; cases this)]
set_option maxRecDepth 100000 in
theorem lChange1c (b0 b1 ab mb : Nat) (N : Int) (L : WL) (t p : Int) (w : World) (h : WAt w ab mb N L) (h0 : BoxAt w b0 (.int .i64 t) 3) (h1 : BoxAt w b1 (.int .i64 p) 3) :
    Calls Tryz.prog 53 #[.pointer (some ⟨ab, 0, none⟩), .pointer (some ⟨b0, 0, none⟩), .pointer (some ⟨b1, 0, none⟩)] w fun e w' => e = .returned (.tuple #[]) ∧ WAt w' ab mb N (chgL L t p) ∧ Chg [ab, mb] w w' := by
  have d0 := h0.cell
  have d1 := h1.cell
  have HL := Lib.hid (changec ab mb N L t p w h)
  clear h h0 h1
  go_enter Tryz.func53, Tryz.ntmps53
  go_wp2_with fail
  refine HL.out.mono ?_
  rintro e w1 ⟨rfl, hW, hC⟩
  have HC := Lib.hid (And.intro hW hC)
  clear hW hC
  go_wp2
  go_end0
  exact ⟨rfl, HC.out.1, HC.out.2⟩


def lchK (s : LS) (t p : Int) : Nat → LS
  | 0 => s
  | 1 => { s with R := chgL s.R t p }
  | _ => { s with R := chgL s.R t p, W := chgL s.W t p }

set_option maxRecDepth 100000 in
set_option maxHeartbeats 8000000 in
theorem lchic (b0 b1 cb rb a0 m0 a1 m1 : Nat) (N : Int) (s : LS) (t p : Int) (w : World) (h : LAt w cb rb a0 m0 a1 m1 N s) (h0 : BoxAt w b0 (.int .i64 t) 3) (h1 : BoxAt w b1 (.int .i64 p) 3) (hn : b0 ∉ [cb, rb, a0, m0, a1, m1] ∧ b1 ∉ [cb, rb, a0, m0, a1, m1]) :
    Calls Tryz.prog 49 #[.pointer (some ⟨cb, 0, none⟩), .int .i64 t, .int .i64 p, .func (.func 53) #[] #[.pointer (some ⟨b0, 0, none⟩), .pointer (some ⟨b1, 0, none⟩)]] w (LetE (if s.chE t p = 0 then (lchK s t p 2).let_.1 else []) (s.chE t p) cb rb a0 m0 a1 m1 N (if s.chE t p = 0 then (lchK s t p 2).let_.2 else s) w) := by
  have eg : ∀ args w, (callFunc 77 args).run Tryz.prog w = .ok (.enter 77 args) w := enters_of Tryz.func77 (by kernel_rfl) rfl
  have egc : ∀ args w, (callFunc 53 args).run Tryz.prog w = .ok (.enter 53 args) w := enters_of Tryz.func53 (by kernel_rfl) rfl
  have i0 : ∀ w, (Instr.index 40 (.agg #[.pointer (some ⟨a0, 0, none⟩), .pointer (some ⟨a1, 0, none⟩)]) (.int .i64 0)).run Tryz.prog w = .ok (.pointer (some ⟨a0, 0, none⟩)) w := fun _ => by kernel_rfl
  have i1 : ∀ w, (Instr.index 40 (.agg #[.pointer (some ⟨a0, 0, none⟩), .pointer (some ⟨a1, 0, none⟩)]) (.int .i64 1)).run Tryz.prog w = .ok (.pointer (some ⟨a1, 0, none⟩)) w := fun _ => by kernel_rfl
  have hx := boxes2 w (.pointer (some ⟨cb, 0, none⟩)) (.int .i64 t) 23 3
  have hlt := h.lt
  have HLT := Lib.hid hlt
  have h3 := h.calm hx.2.2
  have HB := Lib.hid (And.intro hx.1 (And.intro hx.2.1 (And.intro (h0.kept hx.2.2 (by simp)) (And.intro (h1.kept hx.2.2 (by simp)) hx.2.2))))
  have hask := fun hb => lask_yes 77 eg #[.pointer (some ⟨w.heap.size, 0, none⟩), .pointer (some ⟨w.heap.size + 1, 0, none⟩)] (if s.is t = true then 0 else 6) (fun w' => Chg [] _ w') cb rb a0 m0 a1 m1 N s t p _ h3 hb (lchange1c w.heap.size (w.heap.size + 1) cb rb a0 m0 a1 m1 N s t _ h3 hx.1 hx.2.1)
  have hano := fun hb => lask_no (.func (.func 77) #[] #[.pointer (some ⟨w.heap.size, 0, none⟩), .pointer (some ⟨w.heap.size + 1, 0, none⟩)]) cb rb a0 m0 a1 m1 N s t p _ h3 hb
  have HX := Lib.hid h3
  have HN := Lib.hid hn
  have hw : (¬ (thB t = true ∧ prB p = true) ∧ s.chE t p = 2) ∨ ((thB t = true ∧ prB p = true) ∧ s.is t = false ∧ s.chE t p = 6) ∨ ((thB t = true ∧ prB p = true) ∧ s.is t = true ∧ s.chE t p = 0) := by
    unfold LS.chE
    by_cases hb : thB t = true ∧ prB p = true
    · rw [if_pos hb]
      cases s.is t <;> simp [hb]
    · rw [if_neg hb]
      exact .inl ⟨hb, rfl⟩
  clear h h3 eg hx hlt hn h0 h1
  rcases hw with ⟨hb, e1⟩ | ⟨hb, e1, e2⟩ | ⟨hb, e1, e2⟩
  · have HA := Lib.hid (hano hb)
    rw [e1, if_neg (by omega), if_neg (by omega)]
    clear hano hask e1 hb egc i0 i1
    go_enter Tryz.func49, Tryz.ntmps49
    go_wp2_with fail
    refine HA.out.mono ?_
    rintro e w1 ⟨rfl, rfl⟩
    go_wp2
    go_ret2
    exact LetE.nil HX.out (HB.out.2.2.2.2.mono (by simp))
  · have hA := hask hb
    rw [e1] at hA
    rw [e2, if_neg (by omega), if_neg (by omega)]
    have HA := Lib.hid hA
    clear hano hask hA e1 e2 hb egc i0 i1
    go_enter Tryz.func49, Tryz.ntmps49
    go_wp2_with fail
    refine HA.out.mono ?_
    rintro e w1 ⟨rfl, hC⟩
    have HC := Lib.hid hC
    clear hC
    go_wp2
    go_ret2
    exact LetE.nil (HX.out.calm HC.out) ((HB.out.2.2.2.2.trans HC.out).mono (by simp))
  · have hA := hask hb
    rw [e1, if_pos rfl] at hA
    rw [e2, if_pos rfl, if_pos rfl]
    have HA := Lib.hid hA
    clear hano hask hA e1 e2 hb
    go_enter Tryz.func49, Tryz.ntmps49
    go_wp2_with fail
    refine HA.out.mono ?_
    rintro e w2 ⟨rfl, hC⟩
    have c2 := cellB (HX.out.calm hC).head (i := 2) (v := .pointer (some ⟨a0, 0, none⟩)) rfl
    have c3 := cellB (HX.out.calm hC).head (i := 3) (v := .pointer (some ⟨a1, 0, none⟩)) rfl
    have d0 := (HB.out.1.kept hC (by simp)).cell
    have hlt2 := Nat.le_trans HB.out.2.2.2.2.size hC.size
    have HL := Lib.hid (And.intro (HX.out.calm hC) (HB.out.2.2.2.2.trans hC))
    have HB2 := Lib.hid (And.intro (HB.out.1.kept hC (by simp)) (And.intro (HB.out.2.1.kept hC (by simp)) (And.intro (HB.out.2.2.1.kept hC (by simp)) (HB.out.2.2.2.1.kept hC (by simp)))))
    clear hC hlt2
    go_wp2
    go_loopw [25] (fun i wr => ∃ k : Nat, k ≤ 2 ∧ i = .int .i64 k ∧ LAt wr cb rb a0 m0 a1 m1 N (lchK s t p k) ∧ Chg [cb, rb, a0, m0, a1, m1] w2 wr) (fun i _ => 2 - (intOf i).toNat)
    case atStart => exact ⟨0, by omega, rfl, HL.out.1, Chg.refl _ _⟩
    case round =>
    obtain ⟨k, hk, rfl, hA, hC⟩ := hrel
    have HBW := Lib.hid (And.intro (HB2.out.1.kept hC (fun hm => by have := HLT.out _ hm; omega)) (And.intro (HB2.out.2.1.kept hC (fun hm => by have := HLT.out _ hm; omega)) (And.intro (HB2.out.2.2.1.kept hC HN.out.1) (HB2.out.2.2.2.kept hC HN.out.2))))
    have d0 := HBW.out.1.cell
    have d1 := HBW.out.2.1.cell
    have HO := Lib.hid (And.intro hA hC)
    clear hA hC
    have hk3 : k = 0 ∨ k = 1 ∨ k = 2 := by omega
    rcases hk3 with rfl | rfl | rfl
    · as_aux_lemma =>
      have hh := fun (W : World) (hW : Chg [] wr W) => hasc a0 m0 N s.R t W (HO.out.1.calm hW).lr
      have hN := lchN (L := s.R) (t := t) (p := p)
      cases hb : hasR s.R t with
      | false =>
        rw [hb] at hh
        have HH := Lib.hid (And.intro hh (hN hb))
        clear hh hN hb
        go_wp2_with fail
        refine (HH.out.1 wr (Chg.refl _ _)).mono ?_
        rintro e w3 ⟨rfl, hC⟩
        have HC3 := Lib.hid hC
        clear hC
        go_wp2
        go_roundw
        case rel => exact ⟨1, by omega, rfl, by
          have h1 := HO.out.1.calm HC3.out
          have h2 : (lchK s t p 1) = (lchK s t p 0) := by show ({ wr := _, C := _, R := _, W := _ } : LS) = { wr := _, C := _, R := _, W := _ }; congr 1; exact HH.out.2
          rw [h2]
          exact h1, HO.out.2.trans (HC3.out.mono (by simp))⟩
        case measure => simp [intOf]
      | true =>
        rw [hb] at hh
        have HH := Lib.hid hh
        clear hh hN hb
        go_wp2_with fail
        refine (HH.out wr (Chg.refl _ _)).mono ?_
        rintro e w3 ⟨rfl, hC⟩
        have HC3 := Lib.hid hC
        clear hC
        go_wp2_with fail
        refine (lChange1c b0 b1 a0 m0 N s.R t p w3 (HO.out.1.calm HC3.out).lr (HBW.out.2.2.1.kept HC3.out (by simp)) (HBW.out.2.2.2.kept HC3.out (by simp))).mono ?_
        rintro e w4 ⟨rfl, hW, hC⟩
        have HC4 := Lib.hid (show LAt w4 cb rb a0 m0 a1 m1 N (lchK s t p 1) ∧ Chg [cb, rb, a0, m0, a1, m1] w2 w4 from
          ⟨(HO.out.1.calm HC3.out).stepR hW hC (Int.le_refl _) (by have hf := lchF HL.out.1.inv.r t p; exact HL.out.1.inv.setR hf.1 hf.2), (HO.out.2.trans (HC3.out.mono (by simp))).trans (hC.mono (by simp))⟩)
        clear hW hC
        go_wp2
        go_roundw
        case rel => exact ⟨1, by omega, rfl, HC4.out.1, HC4.out.2⟩
        case measure => simp [intOf]
    · as_aux_lemma =>
      have hh := fun (W : World) (hW : Chg [] wr W) => hasc a1 m1 N s.W t W (HO.out.1.calm hW).lw
      have hN := lchN (L := s.W) (t := t) (p := p)
      cases hb : hasR s.W t with
      | false =>
        rw [hb] at hh
        have HH := Lib.hid (And.intro hh (hN hb))
        clear hh hN hb
        go_wp2_with fail
        refine (HH.out.1 wr (Chg.refl _ _)).mono ?_
        rintro e w3 ⟨rfl, hC⟩
        have HC3 := Lib.hid hC
        clear hC
        go_wp2
        go_roundw
        case rel => exact ⟨2, by omega, rfl, by
          have h1 := HO.out.1.calm HC3.out
          have h2 : (lchK s t p 2) = (lchK s t p 1) := by show ({ wr := _, C := _, R := _, W := _ } : LS) = { wr := _, C := _, R := _, W := _ }; congr 1; exact HH.out.2
          rw [h2]
          exact h1, HO.out.2.trans (HC3.out.mono (by simp))⟩
        case measure => simp [intOf]
      | true =>
        rw [hb] at hh
        have HH := Lib.hid hh
        clear hh hN hb
        go_wp2_with fail
        refine (HH.out wr (Chg.refl _ _)).mono ?_
        rintro e w3 ⟨rfl, hC⟩
        have HC3 := Lib.hid hC
        clear hC
        go_wp2_with fail
        refine (lChange1c b0 b1 a1 m1 N s.W t p w3 (HO.out.1.calm HC3.out).lw (HBW.out.2.2.1.kept HC3.out (by simp)) (HBW.out.2.2.2.kept HC3.out (by simp))).mono ?_
        rintro e w4 ⟨rfl, hW, hC⟩
        have HC4 := Lib.hid (show LAt w4 cb rb a0 m0 a1 m1 N (lchK s t p 2) ∧ Chg [cb, rb, a0, m0, a1, m1] w2 w4 from
          ⟨(HO.out.1.calm HC3.out).stepW hW hC (Int.le_refl _) (by have hf := lchF HL.out.1.inv.r t p; exact (HL.out.1.inv.setR hf.1 hf.2).setW (lchF HL.out.1.inv.w t p).1), (HO.out.2.trans (HC3.out.mono (by simp))).trans (hC.mono (by simp))⟩)
        clear hW hC
        go_wp2
        go_roundw
        case rel => exact ⟨2, by omega, rfl, HC4.out.1, HC4.out.2⟩
        case measure => simp [intOf]
    · go_wp2_with fail
      refine (lletc cb rb a0 m0 a1 m1 N (lchK s t p 2) wr HO.out.1).mono ?_
      rintro e w3 ⟨v, rfl, ho, hL, hC⟩
      have hg := (HL.out.2.mono (S2 := [cb, rb, a0, m0, a1, m1]) (by simp)).trans HO.out.2
      have HC3 := Lib.hid (And.intro (own_mono ho hg.size) (And.intro hL (hg.trans hC)))
      clear ho hL hC hg
      go_wp2
      go_ret2
      exact ⟨v, rfl, HC3.out.1, HC3.out.2.1, HC3.out.2.2⟩


set_option maxRecDepth 100000 in
set_option maxHeartbeats 2000000 in
theorem lleavec (cb rb a0 m0 a1 m1 : Nat) (N : Int) (s : LS) (t : Int) (w : World) (h : LAt w cb rb a0 m0 a1 m1 N s) :
    Calls Tryz.prog 23 #[.pointer (some ⟨cb, 0, none⟩), .int .i64 t] w (LetE (s.lvT t) (s.chE t 1) cb rb a0 m0 a1 m1 N (s.lvS t) w) := by
  have hb := box_new w (.int .i64 t) 3
  have hA : Chg [] w (w.alloc (.cells #[.int .i64 t] 3)) := (Chg.refl _ _).alloc _
  have hc := llvic w.heap.size cb rb a0 m0 a1 m1 N s t _ (h.calm hA) hb (fun hm => by have := h.lt _ hm; omega)
  have H := Lib.hid (And.intro hc hA)
  clear h hb hA hc
  go_enter Tryz.func23, Tryz.ntmps23
  go_wp2_with fail
  refine H.out.1.mono ?_
  rintro e w1 ⟨v, rfl, ho, hL, hC⟩
  have H1 := Lib.hid (And.intro (own_mono ho H.out.2.size) (And.intro hL ((H.out.2.mono (S2 := [cb, rb, a0, m0, a1, m1]) (by simp)).trans hC)))
  clear ho hL hC
  go_wp2
  go_ret2
  exact ⟨v, rfl, H1.out.1, H1.out.2.1, H1.out.2.2⟩

set_option maxRecDepth 100000 in
set_option maxHeartbeats 2000000 in
theorem lchangec (cb rb a0 m0 a1 m1 : Nat) (N : Int) (s : LS) (t p : Int) (w : World) (h : LAt w cb rb a0 m0 a1 m1 N s) :
    Calls Tryz.prog 25 #[.pointer (some ⟨cb, 0, none⟩), .int .i64 t, .int .i64 p] w (LetE (s.chT t p) (s.chE t p) cb rb a0 m0 a1 m1 N (s.chS t p) w) := by
  have hx := boxes2 w (.int .i64 t) (.int .i64 p) 3 3
  have hc := lchic w.heap.size (w.heap.size + 1) cb rb a0 m0 a1 m1 N s t p _ (h.calm hx.2.2) hx.1 hx.2.1 ⟨fun hm => by have := h.lt _ hm; omega, fun hm => by have := h.lt _ hm; omega⟩
  have H := Lib.hid (And.intro hc hx.2.2)
  clear h hx hc
  go_enter Tryz.func25, Tryz.ntmps25
  go_wp2_with fail
  refine H.out.1.mono ?_
  rintro e w1 ⟨v, rfl, ho, hL, hC⟩
  have H1 := Lib.hid (And.intro (own_mono ho H.out.2.size) (And.intro hL ((H.out.2.mono (S2 := [cb, rb, a0, m0, a1, m1]) (by simp)).trans hC)))
  clear ho hL hC
  go_wp2
  go_ret2
  exact ⟨v, rfl, H1.out.1, H1.out.2.1, H1.out.2.2⟩


end Go.Proofs.YtpdfeinbbjfcaaaGreat
