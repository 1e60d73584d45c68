
/- Package rwlock: let: contract (written by wip/letk.py). -/
import Derived.Test.YtpdfeinbbjfcaaaGreatKb
namespace Go.Proofs.YtpdfeinbbjfcaaaGreat
open Go.RowKit

def lenOf : Value → Nat
  | .slice _ n _ => n
  | _ => 0

def LetP (l : List Int) (cb rb a0 m0 a1 m1 : Nat) (N : Int) (s' : LS) (w : World) (e : Ending) (w' : World) : Prop :=
  ∃ v, e = .returned v ∧ w'.ownsRow w.heap.size 3 1 v l.length (l.map (Value.int .i64)) ∧ LAt w' cb rb a0 m0 a1 m1 N s' ∧ Chg [cb, rb, a0, m0, a1, m1] w w'

theorem letN_W {s : LS} {k : Nat} (h : s.letW = true) : s.letN (k + 1) = (fT s.W :: (s.inW.letN k).1, (s.inW.letN k).2) := by
  rw [LS.letN, if_pos h]
theorem letN_R {s : LS} {k : Nat} (h : s.letW = false) (h2 : s.letR = true) : s.letN (k + 1) = (fT s.R :: (s.inR.letN k).1, (s.inR.letN k).2) := by
  rw [LS.letN, if_neg (by simp [h]), if_pos h2]
theorem letN_no {s : LS} {k : Nat} (h : s.letW = false) (h2 : s.letR = false) : s.letN k = ([], s) := by
  cases k with
  | zero => rfl
  | succ k => rw [LS.letN, if_neg (by simp [h]), if_neg (by simp [h2])]

/-- What holds in let's loop: the rest is to be let in by s. -/
structure LetK (s0 : LS) (pre : List Int) (k : Nat) (s : LS) : Prop where
  fuel : s.R.length + s.W.length ≤ k
  rest : s0.let_ = (pre ++ (s.letN k).1, (s.letN k).2)
  sum : pre.length + k = s0.R.length + s0.W.length
theorem LetK.start (s : LS) : LetK s [] (s.R.length + s.W.length) s := ⟨Nat.le_refl _, rfl, by simp⟩
theorem LetK.done {s0 s : LS} {pre : List Int} {k : Nat} (h : LetK s0 pre k s) (h1 : s.letW = false) (h2 : s.letR = false) : s0.let_ = (pre, s) := by
  rw [h.rest, letN_no h1 h2]
  simp
theorem LetK.w {s0 s : LS} {pre : List Int} {k : Nat} (h : LetK s0 pre k s) (hI : LInv s) (h1 : s.letW = true) : ∃ k', k = k' + 1 ∧ LetK s0 (pre ++ [fT s.W]) k' s.inW := by
  have hl := takeL_len hI.w (LS.letW_yes h1).1
  have hf := h.fuel
  obtain ⟨k', rfl⟩ : ∃ k', k = k' + 1 := ⟨k - 1, by omega⟩
  refine ⟨k', rfl, ?_, ?_, ?_⟩
  · show s.R.length + (takeL s.W).length ≤ k'
    omega
  · rw [h.rest, letN_W h1]
    simp
  · have := h.sum
    simp
    omega
theorem LetK.r {s0 s : LS} {pre : List Int} {k : Nat} (h : LetK s0 pre k s) (hI : LInv s) (h1 : s.letW = false) (h2 : s.letR = true) : ∃ k', k = k' + 1 ∧ LetK s0 (pre ++ [fT s.R]) k' s.inR := by
  have hl := takeL_len hI.r (LS.letR_yes h2).1
  have hf := h.fuel
  obtain ⟨k', rfl⟩ : ∃ k', k = k' + 1 := ⟨k - 1, by omega⟩
  refine ⟨k', rfl, ?_, ?_, ?_⟩
  · show (takeL s.R).length + s.W.length ≤ k'
    omega
  · rw [h.rest, letN_R h1 h2]
    simp
  · have := h.sum
    simp
    omega
theorem LS.let_ways (s : LS) : (s.letW = true ∧ (fT s.W != -1) = true ∧ s.held = false ∧ decide (fP s.R ≤ fP s.W) = true) ∨
    ((s.letW = false) ∧ ((fT s.W != -1) = false ∨ ((fT s.W != -1) = true ∧ s.held = true) ∨ ((fT s.W != -1) = true ∧ s.held = false ∧ decide (fP s.R ≤ fP s.W) = false)) ∧
      ((s.letR = false ∧ (fT s.R != -1) = false) ∨ (s.letR = false ∧ (fT s.R != -1) = true ∧ s.mayR (fT s.R) (fP s.R) = false) ∨ (s.letR = true ∧ (fT s.R != -1) = true ∧ s.mayR (fT s.R) (fP s.R) = true))) := by
  have e : ∀ x : Int, (x != -1) = !decide (x = -1) := fun x => by by_cases h : x = -1 <;> simp [h]
  unfold LS.letW LS.letR
  rw [e, e]
  cases decide (fT s.W = -1) <;> cases s.held <;> cases decide (fP s.R ≤ fP s.W) <;> cases decide (fT s.R = -1) <;> cases s.mayR (fT s.R) (fP s.R) <;> simp

set_option maxRecDepth 100000 in
set_option maxHeartbeats 8000000 in
theorem lletc (cb rb a0 m0 a1 m1 : Nat) (N : Int) (s : LS) (w : World) (h : LAt w cb rb a0 m0 a1 m1 N s) :
    Calls Tryz.prog 47 #[.pointer (some ⟨cb, 0, none⟩)] w (LetP s.let_.1 cb rb a0 m0 a1 m1 N s.let_.2 w) := by
  obtain ⟨i0, hi, hz0, hz1, hz2⟩ := info_parts infoInt
  obtain ⟨K0, hK⟩ : ∃ K0, K0 = s.R.length + s.W.length := ⟨_, rfl⟩
  have hK32 : K0 ≤ 32 := by
    have h1 := h.lr.facts.2.2
    have h2 := h.lw.facts.2.2
    omega
  have HK0 := Lib.hid hK
  have HL0 := Lib.hid h
  clear h hK
  go_enter Tryz.func47, Tryz.ntmps47
  go_wp2
  go_step3
  go_wp2
  go_step3
  go_wp2
  go_loopw [3] (fun v wr => ∃ (k : Nat) (pre : List Int) (s' : LS), LetK s pre k s' ∧ (∃ a c, v = .slice a pre.length c) ∧ wr.ownsRow w.heap.size 3 1 v pre.length (pre.map (Value.int .i64)) ∧ LAt wr cb rb a0 m0 a1 m1 N s' ∧ Chg [cb, rb, a0, m0, a1, m1] w wr) (fun v _ => K0 - lenOf v)
  case atStart => exact ⟨_, [], s, LetK.start s, ⟨none, 0, rfl⟩, World.ownsRow_nil .., HL0.out, Chg.refl _ _⟩
  case round =>
    obtain ⟨k, pre, s', hk, ⟨va, vc, rfl⟩, ho, hL, hC⟩ := hrel
    have hB : w.heap.size ≤ wr.heap.size := hC.size
    have hsum : pre.length + k = K0 := by rw [HK0.out]; exact hk.sum
    have hI := hL.inv
    have HK := Lib.hid hk
    have HO := Lib.hid (And.intro ho (And.intro hL hC))
    have hF0 := fun (W : World) (hW : Chg [] wr W) => lfirstc false cb rb a0 m0 a1 m1 N s' W (hL.calm hW)
    have hF1 := fun (W : World) (hW : Chg [] wr W) => lfirstc true cb rb a0 m0 a1 m1 N s' W (hL.calm hW)
    have hH := fun (W : World) (hW : Chg [] wr W) => lheldc cb rb a0 m0 a1 m1 N s' W (hL.calm hW)
    have hM := fun (W : World) (hW : Chg [] wr W) => lmayc false cb rb a0 m0 a1 m1 N s' (fT s'.R) (fP s'.R) W (hL.calm hW)
    simp only [LS.line, LS.may, Bool.false_eq_true, if_false, if_true] at hF0 hF1 hM
    have hw := s'.let_ways
    obtain ⟨tr, htr⟩ : ∃ x, x = fT s'.R := ⟨_, rfl⟩
    obtain ⟨pr, hpr⟩ : ∃ x, x = fP s'.R := ⟨_, rfl⟩
    obtain ⟨tw, htw⟩ : ∃ x, x = fT s'.W := ⟨_, rfl⟩
    obtain ⟨pw, hpw⟩ : ∃ x, x = fP s'.W := ⟨_, rfl⟩
    rw [← htr, ← hpr] at hF0 hM
    rw [← htw, ← hpw] at hF1
    rw [← htr, ← hpr, ← htw, ← hpw] at hw
    have HE := Lib.hid (And.intro htr (And.intro hpr (And.intro htw hpw)))
    have HF0 := Lib.hid hF0
    have HF1 := Lib.hid hF1
    have HI := Lib.hid hI
    clear ho hL hC hk hF0 hF1 htr hpr htw hpw hI
    rcases hw with ⟨e1, e2, e3, e4⟩ | ⟨e1, e2 | ⟨e2, e3⟩ | ⟨e2, e3, e4⟩, ⟨g1, g2⟩ | ⟨g1, g2, g3⟩ | ⟨g1, g2, g3⟩⟩
    · as_aux_lemma =>
      rw [e3] at hH
      have HY := Lib.hid e1
      clear e1 e3
      have HH := Lib.hid hH
      have HM := Lib.hid hM
      clear hH hM
      go_wp2_with fail
      refine (HF0.out wr (Chg.refl _ _)).mono ?_
      rintro e w1 ⟨rfl, hC⟩
      have HC1 := Lib.hid hC
      clear hC
      go_wp2_with fail
      refine (HF1.out w1 HC1.out).mono ?_
      rintro e w2 ⟨rfl, hC⟩
      have HC2 := Lib.hid (HC1.out.trans hC)
      clear hC
      go_wp2_with fail
      refine (HH.out w2 HC2.out).mono ?_
      rintro e w3 ⟨rfl, hC⟩
      have HC3 := Lib.hid (HC2.out.trans hC)
      clear hC
      have c3 := cellB (HO.out.2.1.calm HC3.out).head (i := 3) (v := .pointer (some ⟨a1, 0, none⟩)) rfl
      go_wp2_with fail
      refine (leavec a1 m1 N s'.W tw w3 (HO.out.2.1.calm HC3.out).lw).mono ?_
      rintro e w5 ⟨rfl, hW, hC⟩
      have H5 := Lib.hid (show LAt w5 cb rb a0 m0 a1 m1 N { s' with W := takeL s'.W } ∧ Chg [cb, rb, a0, m0, a1, m1] wr w5 from by
        have hl := (lvL_take HI.out.w (LS.letW_yes HY.out).1).1
        rw [HE.out.2.2.1, hl] at hW
        exact ⟨(HO.out.2.1.calm HC3.out).stepW hW hC (Int.le_refl _) (by
          have hh := HI.out
          exact ⟨hh.ok.lists _ _, hh.r, hh.w.sub (takeL_sub hh.w), hh.alone, hh.none⟩), (HC3.out.mono (by simp)).trans (hC.mono (by simp))⟩)
      clear hW hC
      generalize askR s'.W tw 1 true = ra
      go_wp2_with fail
      refine (lholdc true cb rb a0 m0 a1 m1 N { s' with W := takeL s'.W } tw w5 H5.out.1 (by rw [HE.out.2.2.1]; exact (fT_mem HI.out.w (LS.letW_yes HY.out).1).1) (by rw [HE.out.2.2.1]; exact HI.out.inW HY.out)).mono ?_
      rintro e w6 ⟨rfl, hL, hC⟩
      have H6 := Lib.hid (show LAt w6 cb rb a0 m0 a1 m1 N s'.inW ∧ Chg [cb, rb, a0, m0, a1, m1] wr w6 from by
        rw [HE.out.2.2.1] at hL
        exact ⟨hL, H5.out.2.trans (hC.mono (by simp))⟩)
      clear hL hC
      obtain ⟨k', hkk, hK'⟩ := HK.out.w HI.out HY.out
      rw [← HE.out.2.2.1] at hK'
      have HK' := Lib.hid hK'
      have ho6 := own_kept HO.out.1 H6.out.2 (fun j hj => own_notin HO.out.1 (HL0.out.lt j hj))
      have hB6 : w.heap.size ≤ w6.heap.size := Nat.le_trans hB H6.out.2.size
      have HO6 := Lib.hid ho6
      have hd1 : pre.length + 1 ≤ maxLen := by unfold maxLen; omega
      have hd2 : (pre.length + 1) * 8 ≤ 140737488355328 := by omega
      clear ho6 hK' hB
      go_wp2_with (at_builtin; refine wpList_push rfl _ _ 56 rfl w.heap.size 3 i0 (.int .i64 0) 1 8 Tryz.underlying56 hi hz0 hz1 hz2 rfl (by decide) (.slice va pre.length vc) pre.length _ rfl HO6.out [.int .i64 tw] rfl rfl (by simp [Value.oneCell']) hd1 hd2 hB6 ?_; intro v2 w7 ho2 hC2 hloc hnn; obtain ⟨va2, vc2, rfl⟩ := own_slice ho2)
      have H7 := Lib.hid (show w7.ownsRow w.heap.size 3 1 (.slice va2 (pre.length + 1) vc2) (pre ++ [tw]).length ((pre ++ [tw]).map (Value.int .i64)) ∧ LAt w7 cb rb a0 m0 a1 m1 N s'.inW ∧ Chg [cb, rb, a0, m0, a1, m1] w w7 from by
        refine ⟨by simpa using ho2, H6.out.1.kept hC2 (fun j hj hm => ?_), ((HO.out.2.2.trans H6.out.2).trans' hC2 (fun j hj => .inr (own_ge HO6.out j hj)))⟩
        have := own_ge HO6.out j hj
        have := HL0.out.lt j hm
        omega)
      clear ho2 hC2 hloc hnn
      go_wp2
      go_roundw
      case rel => exact ⟨k', pre ++ [tw], s'.inW, HK'.out, ⟨va2, vc2, by simp⟩, H7.out.1, H7.out.2.1, H7.out.2.2⟩
      case measure => simp [lenOf]; omega
    · as_aux_lemma =>
      have HY := Lib.hid (And.intro e1 g1)
      clear e1 g1
      have HH := Lib.hid hH
      have HM := Lib.hid hM
      clear hH hM
      go_wp2_with fail
      refine (HF0.out wr (Chg.refl _ _)).mono ?_
      rintro e w1 ⟨rfl, hC⟩
      have HC1 := Lib.hid hC
      clear hC
      go_wp2_with fail
      refine (HF1.out w1 HC1.out).mono ?_
      rintro e w2 ⟨rfl, hC⟩
      have HC2 := Lib.hid (HC1.out.trans hC)
      clear hC
      have HC3 := Lib.hid HC2.out
      have HC4 := Lib.hid HC3.out
      go_wp2
      rw [Exit.noGoto_ret]
      go_ret
      have hd := HK.out.done HY.out.1 HY.out.2
      rw [hd]
      exact ⟨_, rfl, own_kept HO.out.1 HC4.out (by simp), HO.out.2.1.calm HC4.out, HO.out.2.2.trans (HC4.out.mono (by simp))⟩
    · as_aux_lemma =>
      rw [g3] at hM
      clear g3
      have HY := Lib.hid (And.intro e1 g1)
      clear e1 g1
      have HH := Lib.hid hH
      have HM := Lib.hid hM
      clear hH hM
      go_wp2_with fail
      refine (HF0.out wr (Chg.refl _ _)).mono ?_
      rintro e w1 ⟨rfl, hC⟩
      have HC1 := Lib.hid hC
      clear hC
      go_wp2_with fail
      refine (HF1.out w1 HC1.out).mono ?_
      rintro e w2 ⟨rfl, hC⟩
      have HC2 := Lib.hid (HC1.out.trans hC)
      clear hC
      have HC3 := Lib.hid HC2.out
      go_wp2_with fail
      refine (HM.out w2 HC3.out).mono ?_
      rintro e w4 ⟨rfl, hC⟩
      have HC4 := Lib.hid (HC3.out.trans hC)
      clear hC
      go_wp2
      rw [Exit.noGoto_ret]
      go_ret
      have hd := HK.out.done HY.out.1 HY.out.2
      rw [hd]
      exact ⟨_, rfl, own_kept HO.out.1 HC4.out (by simp), HO.out.2.1.calm HC4.out, HO.out.2.2.trans (HC4.out.mono (by simp))⟩
    · as_aux_lemma =>
      rw [g3] at hM
      clear g3
      have HY := Lib.hid (And.intro e1 g1)
      clear e1 g1
      have HH := Lib.hid hH
      have HM := Lib.hid hM
      clear hH hM
      go_wp2_with fail
      refine (HF0.out wr (Chg.refl _ _)).mono ?_
      rintro e w1 ⟨rfl, hC⟩
      have HC1 := Lib.hid hC
      clear hC
      go_wp2_with fail
      refine (HF1.out w1 HC1.out).mono ?_
      rintro e w2 ⟨rfl, hC⟩
      have HC2 := Lib.hid (HC1.out.trans hC)
      clear hC
      have HC3 := Lib.hid HC2.out
      go_wp2_with fail
      refine (HM.out w2 HC3.out).mono ?_
      rintro e w4 ⟨rfl, hC⟩
      have HC4 := Lib.hid (HC3.out.trans hC)
      clear hC
      have c2 := cellB (HO.out.2.1.calm HC4.out).head (i := 2) (v := .pointer (some ⟨a0, 0, none⟩)) rfl
      go_wp2_with fail
      refine (leavec a0 m0 N s'.R tr w4 (HO.out.2.1.calm HC4.out).lr).mono ?_
      rintro e w5 ⟨rfl, hW, hC⟩
      have H5 := Lib.hid (show LAt w5 cb rb a0 m0 a1 m1 N { s' with R := takeL s'.R } ∧ Chg [cb, rb, a0, m0, a1, m1] wr w5 from by
        have hl := (lvL_take HI.out.r (LS.letR_yes HY.out.2).1).1
        rw [HE.out.1, hl] at hW
        exact ⟨(HO.out.2.1.calm HC4.out).stepR hW hC (Int.le_refl _) (by
          have hh := HI.out
          exact ⟨hh.ok.lists _ _, hh.r.sub (takeL_sub hh.r), hh.w, hh.alone, fun x hx => hh.none x ((takeL_sub hh.r).subset hx)⟩), (HC4.out.mono (by simp)).trans (hC.mono (by simp))⟩)
      clear hW hC
      generalize askR s'.R tr 1 true = ra
      go_wp2_with fail
      refine (lholdc false cb rb a0 m0 a1 m1 N { s' with R := takeL s'.R } tr w5 H5.out.1 (by rw [HE.out.1]; exact (fT_mem HI.out.r (LS.letR_yes HY.out.2).1).1) (by rw [HE.out.1]; exact HI.out.inR HY.out.2)).mono ?_
      rintro e w6 ⟨rfl, hL, hC⟩
      have H6 := Lib.hid (show LAt w6 cb rb a0 m0 a1 m1 N s'.inR ∧ Chg [cb, rb, a0, m0, a1, m1] wr w6 from by
        rw [HE.out.1] at hL
        exact ⟨hL, H5.out.2.trans (hC.mono (by simp))⟩)
      clear hL hC
      obtain ⟨k', hkk, hK'⟩ := HK.out.r HI.out HY.out.1 HY.out.2
      rw [← HE.out.1] at hK'
      have HK' := Lib.hid hK'
      have ho6 := own_kept HO.out.1 H6.out.2 (fun j hj => own_notin HO.out.1 (HL0.out.lt j hj))
      have hB6 : w.heap.size ≤ w6.heap.size := Nat.le_trans hB H6.out.2.size
      have HO6 := Lib.hid ho6
      have hd1 : pre.length + 1 ≤ maxLen := by unfold maxLen; omega
      have hd2 : (pre.length + 1) * 8 ≤ 140737488355328 := by omega
      clear ho6 hK' hB
      go_wp2_with (at_builtin; refine wpList_push rfl _ _ 56 rfl w.heap.size 3 i0 (.int .i64 0) 1 8 Tryz.underlying56 hi hz0 hz1 hz2 rfl (by decide) (.slice va pre.length vc) pre.length _ rfl HO6.out [.int .i64 tr] rfl rfl (by simp [Value.oneCell']) hd1 hd2 hB6 ?_; intro v2 w7 ho2 hC2 hloc hnn; obtain ⟨va2, vc2, rfl⟩ := own_slice ho2)
      have H7 := Lib.hid (show w7.ownsRow w.heap.size 3 1 (.slice va2 (pre.length + 1) vc2) (pre ++ [tr]).length ((pre ++ [tr]).map (Value.int .i64)) ∧ LAt w7 cb rb a0 m0 a1 m1 N s'.inR ∧ Chg [cb, rb, a0, m0, a1, m1] w w7 from by
        refine ⟨by simpa using ho2, H6.out.1.kept hC2 (fun j hj hm => ?_), ((HO.out.2.2.trans H6.out.2).trans' hC2 (fun j hj => .inr (own_ge HO6.out j hj)))⟩
        have := own_ge HO6.out j hj
        have := HL0.out.lt j hm
        omega)
      clear ho2 hC2 hloc hnn
      go_wp2
      go_roundw
      case rel => exact ⟨k', pre ++ [tr], s'.inR, HK'.out, ⟨va2, vc2, by simp⟩, H7.out.1, H7.out.2.1, H7.out.2.2⟩
      case measure => simp [lenOf]; omega
    · as_aux_lemma =>
      rw [e3] at hH
      clear e3
      have HY := Lib.hid (And.intro e1 g1)
      clear e1 g1
      have HH := Lib.hid hH
      have HM := Lib.hid hM
      clear hH hM
      go_wp2_with fail
      refine (HF0.out wr (Chg.refl _ _)).mono ?_
      rintro e w1 ⟨rfl, hC⟩
      have HC1 := Lib.hid hC
      clear hC
      go_wp2_with fail
      refine (HF1.out w1 HC1.out).mono ?_
      rintro e w2 ⟨rfl, hC⟩
      have HC2 := Lib.hid (HC1.out.trans hC)
      clear hC
      go_wp2_with fail
      refine (HH.out w2 HC2.out).mono ?_
      rintro e w3 ⟨rfl, hC⟩
      have HC3 := Lib.hid (HC2.out.trans hC)
      clear hC
      have HC4 := Lib.hid HC3.out
      go_wp2
      rw [Exit.noGoto_ret]
      go_ret
      have hd := HK.out.done HY.out.1 HY.out.2
      rw [hd]
      exact ⟨_, rfl, own_kept HO.out.1 HC4.out (by simp), HO.out.2.1.calm HC4.out, HO.out.2.2.trans (HC4.out.mono (by simp))⟩
    · as_aux_lemma =>
      rw [e3] at hH
      clear e3
      rw [g3] at hM
      clear g3
      have HY := Lib.hid (And.intro e1 g1)
      clear e1 g1
      have HH := Lib.hid hH
      have HM := Lib.hid hM
      clear hH hM
      go_wp2_with fail
      refine (HF0.out wr (Chg.refl _ _)).mono ?_
      rintro e w1 ⟨rfl, hC⟩
      have HC1 := Lib.hid hC
      clear hC
      go_wp2_with fail
      refine (HF1.out w1 HC1.out).mono ?_
      rintro e w2 ⟨rfl, hC⟩
      have HC2 := Lib.hid (HC1.out.trans hC)
      clear hC
      go_wp2_with fail
      refine (HH.out w2 HC2.out).mono ?_
      rintro e w3 ⟨rfl, hC⟩
      have HC3 := Lib.hid (HC2.out.trans hC)
      clear hC
      go_wp2_with fail
      refine (HM.out w3 HC3.out).mono ?_
      rintro e w4 ⟨rfl, hC⟩
      have HC4 := Lib.hid (HC3.out.trans hC)
      clear hC
      go_wp2
      rw [Exit.noGoto_ret]
      go_ret
      have hd := HK.out.done HY.out.1 HY.out.2
      rw [hd]
      exact ⟨_, rfl, own_kept HO.out.1 HC4.out (by simp), HO.out.2.1.calm HC4.out, HO.out.2.2.trans (HC4.out.mono (by simp))⟩
    · as_aux_lemma =>
      rw [e3] at hH
      clear e3
      rw [g3] at hM
      clear g3
      have HY := Lib.hid (And.intro e1 g1)
      clear e1 g1
      have HH := Lib.hid hH
      have HM := Lib.hid hM
      clear hH hM
      go_wp2_with fail
      refine (HF0.out wr (Chg.refl _ _)).mono ?_
      rintro e w1 ⟨rfl, hC⟩
      have HC1 := Lib.hid hC
      clear hC
      go_wp2_with fail
      refine (HF1.out w1 HC1.out).mono ?_
      rintro e w2 ⟨rfl, hC⟩
      have HC2 := Lib.hid (HC1.out.trans hC)
      clear hC
      go_wp2_with fail
      refine (HH.out w2 HC2.out).mono ?_
      rintro e w3 ⟨rfl, hC⟩
      have HC3 := Lib.hid (HC2.out.trans hC)
      clear hC
      go_wp2_with fail
      refine (HM.out w3 HC3.out).mono ?_
      rintro e w4 ⟨rfl, hC⟩
      have HC4 := Lib.hid (HC3.out.trans hC)
      clear hC
      have c2 := cellB (HO.out.2.1.calm HC4.out).head (i := 2) (v := .pointer (some ⟨a0, 0, none⟩)) rfl
      go_wp2_with fail
      refine (leavec a0 m0 N s'.R tr w4 (HO.out.2.1.calm HC4.out).lr).mono ?_
      rintro e w5 ⟨rfl, hW, hC⟩
      have H5 := Lib.hid (show LAt w5 cb rb a0 m0 a1 m1 N { s' with R := takeL s'.R } ∧ Chg [cb, rb, a0, m0, a1, m1] wr w5 from by
        have hl := (lvL_take HI.out.r (LS.letR_yes HY.out.2).1).1
        rw [HE.out.1, hl] at hW
        exact ⟨(HO.out.2.1.calm HC4.out).stepR hW hC (Int.le_refl _) (by
          have hh := HI.out
          exact ⟨hh.ok.lists _ _, hh.r.sub (takeL_sub hh.r), hh.w, hh.alone, fun x hx => hh.none x ((takeL_sub hh.r).subset hx)⟩), (HC4.out.mono (by simp)).trans (hC.mono (by simp))⟩)
      clear hW hC
      generalize askR s'.R tr 1 true = ra
      go_wp2_with fail
      refine (lholdc false cb rb a0 m0 a1 m1 N { s' with R := takeL s'.R } tr w5 H5.out.1 (by rw [HE.out.1]; exact (fT_mem HI.out.r (LS.letR_yes HY.out.2).1).1) (by rw [HE.out.1]; exact HI.out.inR HY.out.2)).mono ?_
      rintro e w6 ⟨rfl, hL, hC⟩
      have H6 := Lib.hid (show LAt w6 cb rb a0 m0 a1 m1 N s'.inR ∧ Chg [cb, rb, a0, m0, a1, m1] wr w6 from by
        rw [HE.out.1] at hL
        exact ⟨hL, H5.out.2.trans (hC.mono (by simp))⟩)
      clear hL hC
      obtain ⟨k', hkk, hK'⟩ := HK.out.r HI.out HY.out.1 HY.out.2
      rw [← HE.out.1] at hK'
      have HK' := Lib.hid hK'
      have ho6 := own_kept HO.out.1 H6.out.2 (fun j hj => own_notin HO.out.1 (HL0.out.lt j hj))
      have hB6 : w.heap.size ≤ w6.heap.size := Nat.le_trans hB H6.out.2.size
      have HO6 := Lib.hid ho6
      have hd1 : pre.length + 1 ≤ maxLen := by unfold maxLen; omega
      have hd2 : (pre.length + 1) * 8 ≤ 140737488355328 := by omega
      clear ho6 hK' hB
      go_wp2_with (at_builtin; refine wpList_push rfl _ _ 56 rfl w.heap.size 3 i0 (.int .i64 0) 1 8 Tryz.underlying56 hi hz0 hz1 hz2 rfl (by decide) (.slice va pre.length vc) pre.length _ rfl HO6.out [.int .i64 tr] rfl rfl (by simp [Value.oneCell']) hd1 hd2 hB6 ?_; intro v2 w7 ho2 hC2 hloc hnn; obtain ⟨va2, vc2, rfl⟩ := own_slice ho2)
      have H7 := Lib.hid (show w7.ownsRow w.heap.size 3 1 (.slice va2 (pre.length + 1) vc2) (pre ++ [tr]).length ((pre ++ [tr]).map (Value.int .i64)) ∧ LAt w7 cb rb a0 m0 a1 m1 N s'.inR ∧ Chg [cb, rb, a0, m0, a1, m1] w w7 from by
        refine ⟨by simpa using ho2, H6.out.1.kept hC2 (fun j hj hm => ?_), ((HO.out.2.2.trans H6.out.2).trans' hC2 (fun j hj => .inr (own_ge HO6.out j hj)))⟩
        have := own_ge HO6.out j hj
        have := HL0.out.lt j hm
        omega)
      clear ho2 hC2 hloc hnn
      go_wp2
      go_roundw
      case rel => exact ⟨k', pre ++ [tr], s'.inR, HK'.out, ⟨va2, vc2, by simp⟩, H7.out.1, H7.out.2.1, H7.out.2.2⟩
      case measure => simp [lenOf]; omega
    · as_aux_lemma =>
      rw [e3] at hH
      clear e3
      have HY := Lib.hid (And.intro e1 g1)
      clear e1 g1
      have HH := Lib.hid hH
      have HM := Lib.hid hM
      clear hH hM
      go_wp2_with fail
      refine (HF0.out wr (Chg.refl _ _)).mono ?_
      rintro e w1 ⟨rfl, hC⟩
      have HC1 := Lib.hid hC
      clear hC
      go_wp2_with fail
      refine (HF1.out w1 HC1.out).mono ?_
      rintro e w2 ⟨rfl, hC⟩
      have HC2 := Lib.hid (HC1.out.trans hC)
      clear hC
      go_wp2_with fail
      refine (HH.out w2 HC2.out).mono ?_
      rintro e w3 ⟨rfl, hC⟩
      have HC3 := Lib.hid (HC2.out.trans hC)
      clear hC
      have HC4 := Lib.hid HC3.out
      go_wp2
      rw [Exit.noGoto_ret]
      go_ret
      have hd := HK.out.done HY.out.1 HY.out.2
      rw [hd]
      exact ⟨_, rfl, own_kept HO.out.1 HC4.out (by simp), HO.out.2.1.calm HC4.out, HO.out.2.2.trans (HC4.out.mono (by simp))⟩
    · as_aux_lemma =>
      rw [e3] at hH
      clear e3
      rw [g3] at hM
      clear g3
      have HY := Lib.hid (And.intro e1 g1)
      clear e1 g1
      have HH := Lib.hid hH
      have HM := Lib.hid hM
      clear hH hM
      go_wp2_with fail
      refine (HF0.out wr (Chg.refl _ _)).mono ?_
      rintro e w1 ⟨rfl, hC⟩
      have HC1 := Lib.hid hC
      clear hC
      go_wp2_with fail
      refine (HF1.out w1 HC1.out).mono ?_
      rintro e w2 ⟨rfl, hC⟩
      have HC2 := Lib.hid (HC1.out.trans hC)
      clear hC
      go_wp2_with fail
      refine (HH.out w2 HC2.out).mono ?_
      rintro e w3 ⟨rfl, hC⟩
      have HC3 := Lib.hid (HC2.out.trans hC)
      clear hC
      go_wp2_with fail
      refine (HM.out w3 HC3.out).mono ?_
      rintro e w4 ⟨rfl, hC⟩
      have HC4 := Lib.hid (HC3.out.trans hC)
      clear hC
      go_wp2
      rw [Exit.noGoto_ret]
      go_ret
      have hd := HK.out.done HY.out.1 HY.out.2
      rw [hd]
      exact ⟨_, rfl, own_kept HO.out.1 HC4.out (by simp), HO.out.2.1.calm HC4.out, HO.out.2.2.trans (HC4.out.mono (by simp))⟩
    · as_aux_lemma =>
      rw [e3] at hH
      clear e3
      rw [g3] at hM
      clear g3
      have HY := Lib.hid (And.intro e1 g1)
      clear e1 g1
      have HH := Lib.hid hH
      have HM := Lib.hid hM
      clear hH hM
      go_wp2_with fail
      refine (HF0.out wr (Chg.refl _ _)).mono ?_
      rintro e w1 ⟨rfl, hC⟩
      have HC1 := Lib.hid hC
      clear hC
      go_wp2_with fail
      refine (HF1.out w1 HC1.out).mono ?_
      rintro e w2 ⟨rfl, hC⟩
      have HC2 := Lib.hid (HC1.out.trans hC)
      clear hC
      go_wp2_with fail
      refine (HH.out w2 HC2.out).mono ?_
      rintro e w3 ⟨rfl, hC⟩
      have HC3 := Lib.hid (HC2.out.trans hC)
      clear hC
      go_wp2_with fail
      refine (HM.out w3 HC3.out).mono ?_
      rintro e w4 ⟨rfl, hC⟩
      have HC4 := Lib.hid (HC3.out.trans hC)
      clear hC
      have c2 := cellB (HO.out.2.1.calm HC4.out).head (i := 2) (v := .pointer (some ⟨a0, 0, none⟩)) rfl
      go_wp2_with fail
      refine (leavec a0 m0 N s'.R tr w4 (HO.out.2.1.calm HC4.out).lr).mono ?_
      rintro e w5 ⟨rfl, hW, hC⟩
      have H5 := Lib.hid (show LAt w5 cb rb a0 m0 a1 m1 N { s' with R := takeL s'.R } ∧ Chg [cb, rb, a0, m0, a1, m1] wr w5 from by
        have hl := (lvL_take HI.out.r (LS.letR_yes HY.out.2).1).1
        rw [HE.out.1, hl] at hW
        exact ⟨(HO.out.2.1.calm HC4.out).stepR hW hC (Int.le_refl _) (by
          have hh := HI.out
          exact ⟨hh.ok.lists _ _, hh.r.sub (takeL_sub hh.r), hh.w, hh.alone, fun x hx => hh.none x ((takeL_sub hh.r).subset hx)⟩), (HC4.out.mono (by simp)).trans (hC.mono (by simp))⟩)
      clear hW hC
      generalize askR s'.R tr 1 true = ra
      go_wp2_with fail
      refine (lholdc false cb rb a0 m0 a1 m1 N { s' with R := takeL s'.R } tr w5 H5.out.1 (by rw [HE.out.1]; exact (fT_mem HI.out.r (LS.letR_yes HY.out.2).1).1) (by rw [HE.out.1]; exact HI.out.inR HY.out.2)).mono ?_
      rintro e w6 ⟨rfl, hL, hC⟩
      have H6 := Lib.hid (show LAt w6 cb rb a0 m0 a1 m1 N s'.inR ∧ Chg [cb, rb, a0, m0, a1, m1] wr w6 from by
        rw [HE.out.1] at hL
        exact ⟨hL, H5.out.2.trans (hC.mono (by simp))⟩)
      clear hL hC
      obtain ⟨k', hkk, hK'⟩ := HK.out.r HI.out HY.out.1 HY.out.2
      rw [← HE.out.1] at hK'
      have HK' := Lib.hid hK'
      have ho6 := own_kept HO.out.1 H6.out.2 (fun j hj => own_notin HO.out.1 (HL0.out.lt j hj))
      have hB6 : w.heap.size ≤ w6.heap.size := Nat.le_trans hB H6.out.2.size
      have HO6 := Lib.hid ho6
      have hd1 : pre.length + 1 ≤ maxLen := by unfold maxLen; omega
      have hd2 : (pre.length + 1) * 8 ≤ 140737488355328 := by omega
      clear ho6 hK' hB
      go_wp2_with (at_builtin; refine wpList_push rfl _ _ 56 rfl w.heap.size 3 i0 (.int .i64 0) 1 8 Tryz.underlying56 hi hz0 hz1 hz2 rfl (by decide) (.slice va pre.length vc) pre.length _ rfl HO6.out [.int .i64 tr] rfl rfl (by simp [Value.oneCell']) hd1 hd2 hB6 ?_; intro v2 w7 ho2 hC2 hloc hnn; obtain ⟨va2, vc2, rfl⟩ := own_slice ho2)
      have H7 := Lib.hid (show w7.ownsRow w.heap.size 3 1 (.slice va2 (pre.length + 1) vc2) (pre ++ [tr]).length ((pre ++ [tr]).map (Value.int .i64)) ∧ LAt w7 cb rb a0 m0 a1 m1 N s'.inR ∧ Chg [cb, rb, a0, m0, a1, m1] w w7 from by
        refine ⟨by simpa using ho2, H6.out.1.kept hC2 (fun j hj hm => ?_), ((HO.out.2.2.trans H6.out.2).trans' hC2 (fun j hj => .inr (own_ge HO6.out j hj)))⟩
        have := own_ge HO6.out j hj
        have := HL0.out.lt j hm
        omega)
      clear ho2 hC2 hloc hnn
      go_wp2
      go_roundw
      case rel => exact ⟨k', pre ++ [tr], s'.inR, HK'.out, ⟨va2, vc2, by simp⟩, H7.out.1, H7.out.2.1, H7.out.2.2⟩
      case measure => simp [lenOf]; omega

end Go.Proofs.YtpdfeinbbjfcaaaGreat
