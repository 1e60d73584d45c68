
/- metronomeref13: Consistent, Ended, Leave, Change, Ceil, Stands, Unlock: contracts. -/
import Derived.Test.YtagnobmdcchcaaaQb
import Derived.StillTailTactics
namespace Go.Proofs.Ytagnobmdcchcaaa
open Go.RowKit

set_option maxRecDepth 100000 in
theorem qconsistc (rc : Nat) (gs : List Nat) (s : MS) (t : Int) (w : World) (h : QM w rc gs s) (hok : MOk s) :
    Calls Try.prog 45 #[.pointer (some ⟨rc, 0, none⟩), .int .i64 t] w fun e w' => e = .returned (.int .i64 (if s.csB t = true then 0 else 22)) ∧ QP rc gs (s.csS t) w w' := by
  have HQ := Lib.hid h
  have HP := Lib.hid (h.putSt 0)
  have hways : (s.csB t = false ∧ s.st ≠ 1) ∨ (s.csB t = false ∧ s.st = 1 ∧ s.own ≠ t) ∨ (s.csB t = false ∧ s.st = 1 ∧ s.own = t ∧ t < 0) ∨ (s.csB t = true ∧ s.st = 1 ∧ s.own = t ∧ ¬ t < 0) := by
    by_cases h1 : s.st = 1
    · by_cases h2 : s.own = t
      · by_cases h3 : t < 0
        · right; right; left
          refine ⟨?_, h1, h2, h3⟩
          unfold MS.csB
          rw [thB_no.2 (by unfold okT; omega)]; rfl
        · right; right; right
          refine ⟨?_, h1, h2, h3⟩
          have hot : okT s.own := hok.own.resolve_left (by omega)
          have hr := hok.rob (by omega)
          unfold MS.csB
          rw [thB_iff.2 (by rw [← h2]; exact hot), hr, h1, h2]
          simp
      · right; left
        exact ⟨by unfold MS.csB; rw [decide_eq_false h2, Bool.and_false], h1, h2⟩
    · left
      exact ⟨by unfold MS.csB; rw [decide_eq_false h1, Bool.and_false, Bool.false_and], h1⟩
  obtain ⟨v, hb, -⟩ := h
  have c4 := cellB hb (i := 4) (v := .int .i64 s.own) rfl
  have c6 := cellB hb (i := 6) (v := .int .i64 s.st) rfl
  have f6 := frozenB hb 6
  clear hb hok
  unfold MS.csS
  rcases hways with ⟨h0, h1⟩ | ⟨h0, h1, h2⟩ | ⟨h0, h1, h2, h3⟩ | ⟨h0, h1, h2, h3⟩
  · rw [h0, if_neg (by simp), if_neg (by simp)]
    have q1 : (s.st != 1) = true := by simpa using h1
    clear h0 h1
    go_enter Try.func45, Try.ntmps45
    go_wp2
    go_ret
    exact ⟨rfl, .same HQ.out (Chg.refl _ _)⟩
  · rw [h0, if_neg (by simp), if_neg (by simp)]
    have q1 : (s.st != 1) = false := by simpa using h1
    have q2 : (s.own != t) = true := by simpa using h2
    clear h0 h1 h2
    go_enter Try.func45, Try.ntmps45
    go_wp2
    go_ret
    exact ⟨rfl, .same HQ.out (Chg.refl _ _)⟩
  · rw [h0, if_neg (by simp), if_neg (by simp)]
    have q1 : (s.st != 1) = false := by simpa using h1
    have q2 : (s.own != t) = false := by simpa using h2
    have q3 : decide (t < 0) = true := decide_eq_true h3
    clear h0 h1 h2 h3
    go_enter Try.func45, Try.ntmps45
    go_wp2
    go_ret
    exact ⟨rfl, .same HQ.out (Chg.refl _ _)⟩
  · rw [if_pos h0, if_pos h0]
    have q1 : (s.st != 1) = false := by simpa using h1
    have q2 : (s.own != t) = false := by simpa using h2
    have q3 : decide (t < 0) = false := decide_eq_false h3
    clear h0 h1 h2 h3
    go_enter Try.func45, Try.ntmps45
    go_wp2
    go_ret
    exact ⟨rfl, .same HP.out.1 (HP.out.2.mono (by simp))⟩

set_option maxRecDepth 100000 in
set_option maxHeartbeats 1000000 in
theorem qendedc (rc : Nat) (gs : List Nat) (s : MS) (t : Int) (w : World) (h : QM w rc gs s) (hok : MOk s) (hL : ListOk s.L) (hl : s.L.length ≤ 16) :
    Calls Try.prog 46 #[.pointer (some ⟨rc, 0, none⟩), .int .i64 t] w (QWok rc gs (s.enS t) (s.enW t) w) := by
  have HQ := Lib.hid h
  have HP := Lib.hid (((h.putOwn (-1)).1.putCnt 0).1.putSt 3)
  have HC := Lib.hid (((h.putOwn (-1)).2.trans ((h.putOwn (-1)).1.putCnt 0).2).trans HP.out.2)
  have HN := Lib.hid (And.intro (qnextc rc gs _ _ (h.putSt 1).1 hL hl) (h.putSt 1).2)
  have hways : ((s.enS t = s ∧ s.enW t = []) ∧ (t < 0 ∨ (¬ t < 0 ∧ s.own ≠ t))) ∨ (¬ t < 0 ∧ s.own = t ∧ ((s.rob = false ∧ s.enS t = { s with own := -1, cnt := 0, st := 3 } ∧ s.enW t = []) ∨ (s.rob = true ∧ s.enS t = ({ s with st := 1 } : MS).nextS ∧ s.enW t = ({ s with st := 1 } : MS).nextW))) := by
    by_cases h3 : t < 0
    · left
      have hb : ¬ (thB t = true ∧ s.own = t) := fun e => by have := (thB_iff.1 e.1).1; omega
      exact ⟨⟨by unfold MS.enS; rw [if_neg hb], by unfold MS.enW; rw [if_neg (fun e => hb ⟨e.1, e.2.1⟩)]⟩, .inl h3⟩
    · by_cases h2 : s.own = t
      · right
        have hot : okT s.own := hok.own.resolve_left (by omega)
        have ht : thB t = true := thB_iff.2 (by rw [← h2]; exact hot)
        refine ⟨h3, h2, ?_⟩
        by_cases hr : s.rob = true
        · exact .inr ⟨hr, by unfold MS.enS; rw [if_pos ⟨ht, h2⟩, if_pos hr], by unfold MS.enW; rw [if_pos ⟨ht, h2, hr⟩]⟩
        · exact .inl ⟨by simpa using hr, by unfold MS.enS; rw [if_pos ⟨ht, h2⟩, if_neg hr], by unfold MS.enW; rw [if_neg (fun e => hr e.2.2)]⟩
      · left
        have hb : ¬ (thB t = true ∧ s.own = t) := fun e => h2 e.2
        exact ⟨⟨by unfold MS.enS; rw [if_neg hb], by unfold MS.enW; rw [if_neg (fun e => hb ⟨e.1, e.2.1⟩)]⟩, .inr ⟨h3, h2⟩⟩
  obtain ⟨v, hb, -⟩ := h
  have c3 := cellB hb (i := 3) (v := .bool s.rob) rfl
  have c4 := cellB hb (i := 4) (v := .int .i64 s.own) rfl
  have c5 := cellB hb (i := 5) (v := .int .i64 s.cnt) rfl
  have c6 := cellB hb (i := 6) (v := .int .i64 s.st) rfl
  have f4 := frozenB hb 4
  have f5 := frozenB hb 5
  have f6 := frozenB hb 6
  clear hb hok hL hl
  rcases hways with ⟨⟨e1, e2⟩, h3 | ⟨h3, h2⟩⟩ | ⟨h3, h2, ⟨hr, e1, e2⟩ | ⟨hr, e1, e2⟩⟩
  · rw [e1, e2]
    have q3 : decide (t < 0) = true := decide_eq_true h3
    clear e1 e2 h3
    go_enter Try.func46, Try.ntmps46
    go_wp2
    go_ret
    exact ⟨_, rfl, World.ownsRow_nil .., .same HQ.out (Chg.refl _ _)⟩
  · rw [e1, e2]
    have q3 : decide (t < 0) = false := decide_eq_false h3
    have q2 : (s.own != t) = true := by simpa using h2
    clear e1 e2 h3 h2
    go_enter Try.func46, Try.ntmps46
    go_wp2
    go_ret
    exact ⟨_, rfl, World.ownsRow_nil .., .same HQ.out (Chg.refl _ _)⟩
  · rw [e1, e2]
    have q3 : decide (t < 0) = false := decide_eq_false h3
    have q2 : (s.own != t) = false := by simpa using h2
    rw [hr] at c3
    clear e1 e2 h3 h2 hr
    go_enter Try.func46, Try.ntmps46
    go_wp2
    go_ret
    exact ⟨_, rfl, World.ownsRow_nil .., .same HP.out.1 (HC.out.mono (by simp))⟩
  · rw [e1, e2]
    have q3 : decide (t < 0) = false := decide_eq_false h3
    have q2 : (s.own != t) = false := by simpa using h2
    rw [hr] at c3
    clear e1 e2 h3 h2 hr
    go_enter Try.func46, Try.ntmps46
    go_wp2_with fail
    refine HN.out.1.mono ?_
    rintro e w1 ⟨v1, rfl, hO, hQ⟩
    have H1 := Lib.hid (And.intro (own_mono hO HN.out.2.size) (QP.pre (HN.out.2.mono (by simp)) hQ))
    clear hO hQ
    go_wp2
    go_ret
    exact ⟨v1, rfl, H1.out.1, H1.out.2⟩

theorem askR_has {L : WL} (hL : ListOk L) (t : Int) : (askR L t 1 true = 0) ↔ hasR L t = true := by
  constructor
  · intro h
    unfold askR at h
    split at h
    · omega
    · unfold hasR
      split at h
      · assumption
      · simp at h
  · intro h
    obtain ⟨p, hp⟩ := hasR_mem.1 h
    have ht := (hL.ok _ hp).1
    unfold okT at ht
    unfold hasR at h
    unfold askR
    rw [if_neg (by simp at ht; omega), if_pos h, if_pos rfl]

set_option maxRecDepth 100000 in
set_option maxHeartbeats 1000000 in
theorem qleavec (rc : Nat) (gs : List Nat) (s : MS) (t : Int) (w : World) (h : QM w rc gs s) (hL : ListOk s.L) (hl : s.L.length ≤ 16) :
    Calls Try.prog 47 #[.pointer (some ⟨rc, 0, none⟩), .int .i64 t] w fun e w' => e = .returned (.bool (s.lvB t)) ∧ QP rc gs (s.lvS t) w w' := by
  have HQ := Lib.hid h
  have hA := qatc rc gs s t w h (by omega)
  cases hh : hasR s.L t with
  | false =>
    have ha : ¬ askR s.L t 1 true = 0 := fun e => by rw [(askR_has hL t).1 e] at hh; cases hh
    rw [show s.lvB t = false from decide_eq_false ha, show s.lvS t = s by unfold MS.lvS lvL; rw [if_neg ha]]
    rw [findL_none hh] at hA
    have HA := Lib.hid hA
    clear hA ha hh h hL hl
    go_enter Try.func47, Try.ntmps47
    go_wp2_with (go_at_call 66; refine HA.out.mono ?_; rintro e w' ⟨rfl, rfl⟩)
    go_ret
    exact ⟨rfl, .same HQ.out (Chg.refl _ _)⟩
  | true =>
    have ha := (askR_has hL t).2 hh
    obtain ⟨i, h1, h2, h3, h4⟩ := findL_some hh
    rw [show s.lvB t = true from decide_eq_true ha, show s.lvS t = { s with L := s.L.take i ++ s.L.drop (i + 1) } by unfold MS.lvS lvL; rw [if_pos ha, wdel_cut h3 h4]]
    rw [h1] at hA
    have HR := Lib.hid (qremovec rc gs s i w h (by omega) h2)
    have HA := Lib.hid hA
    have q1 : decide ((0 : Int) ≤ (i : Int)) = true := decide_eq_true (by omega)
    clear hA ha hh h hL hl h1 h2 h3 h4
    go_enter Try.func47, Try.ntmps47
    go_wp2_with (go_at_call 66; refine HA.out.mono ?_; rintro e w' ⟨rfl, rfl⟩)
    refine HR.out.mono ?_
    rintro e w1 ⟨rfl, hQ⟩
    have H1 := Lib.hid hQ
    clear hQ
    go_wp2
    go_ret
    exact ⟨rfl, H1.out⟩

set_option maxRecDepth 100000 in
set_option maxHeartbeats 1000000 in
theorem qchangec (rc : Nat) (gs : List Nat) (s : MS) (t q : Int) (w : World) (h : QM w rc gs s) (hL : ListOk s.L) (hl : s.L.length ≤ 16) :
    Calls Try.prog 48 #[.pointer (some ⟨rc, 0, none⟩), .int .i64 t, .int .i64 q] w fun e w' => e = .returned (.bool (s.chB t q)) ∧ QP rc gs (s.chS t q) w w' := by
  have HQ := Lib.hid h
  have hA := qatc rc gs s t w h (by omega)
  have hno : ¬ askR s.L t q true = 0 → s.chB t q = false ∧ s.chS t q = s := fun ha => ⟨decide_eq_false ha, by unfold MS.chS chgL; rw [if_neg ha]⟩
  cases hh : hasR s.L t with
  | false =>
    have ha : ¬ askR s.L t q true = 0 := fun e => by
      unfold askR at e
      unfold hasR at hh
      split at e
      · omega
      · rw [hh] at e; simp at e
    obtain ⟨e1, e2⟩ := hno ha
    rw [e1, e2]
    rw [findL_none hh] at hA
    have HA := Lib.hid hA
    clear hA ha hh h hL hl hno e1 e2
    go_enter Try.func48, Try.ntmps48
    go_wp2_with (go_at_call 66; refine HA.out.mono ?_; rintro e w' ⟨rfl, rfl⟩)
    go_ret
    exact ⟨rfl, .same HQ.out (Chg.refl _ _)⟩
  | true =>
    obtain ⟨i, h1, h2, h3, h4⟩ := findL_some hh
    rw [h1] at hA
    have HA := Lib.hid hA
    have q1 : decide ((i : Int) < 0) = false := decide_eq_false (by omega)
    cases hq : prB q with
    | false =>
      have ha : ¬ askR s.L t q true = 0 := fun e => by
        have := prB_no.1 hq
        unfold askR at e
        unfold okP at this
        rw [if_pos (by omega)] at e
        omega
      obtain ⟨e1, e2⟩ := hno ha
      rw [e1, e2]
      have HP := Lib.hid hq
      clear hA ha hh h hL hl hno e1 e2 h1 h2 h3 h4 hq
      go_enter Try.func48, Try.ntmps48
      go_wp2_with (first | (go_at_call 66; refine HA.out.mono ?_; rintro e w' ⟨rfl, rfl⟩) | (go_at_call 65; refine (qprioc q _).mono ?_; rintro e w' ⟨rfl, rfl⟩; rw [HP.out]))
      go_ret
      exact ⟨rfl, .same HQ.out (Chg.refl _ _)⟩
    | true =>
      have ha : askR s.L t q true = 0 := by
        have hp := prB_iff.1 hq
        have ht := (hL.ok _ (List.mem_of_getElem? h3)).1
        unfold okP at hp
        unfold okT at ht
        unfold hasR at hh
        unfold askR
        rw [if_neg (by simp at ht; omega), if_pos hh, if_pos rfl]
      rw [show s.chB t q = true from decide_eq_true ha, show s.chS t q = { s with L := s.L.set i (t, q) } by unfold MS.chS chgL; rw [if_pos ha, wupd_set h3 h4]]
      have HP := Lib.hid hq
      obtain ⟨a, cap, hb, hs⟩ := h.src
      have c0 := cellB hb (i := 7) (v := .slice a s.L.length cap) rfl
      have f0 := frozenB hb 7
      obtain ⟨v1, w1, hr, ho, hC⟩ := run_fresh13 hs (by omega)
      obtain ⟨g, cap1, cur, rfl, hg, hgb, _, _, _, hcur⟩ := own_blk ho (by omega)
      have hlt := h.lt rc (by simp)
      have hb1 := hC.blk hb (by simp)
      have f1 := frozenB hb1 7
      have hb2 := blk_setCell (i := 7) hb1 (.slice (some ⟨g, 0, none⟩) s.L.length cap1)
      have hne : g ≠ rc := by omega
      have hgb2 := blk_setCell_ne (p := ⟨rc, 7, none⟩) hgb hne (.slice (some ⟨g, 0, none⟩) s.L.length cap1)
      have hx := own_take hcur _ _ (flatW_at h3).2
      have cg := cellB hgb hx
      have fg := frozenB hgb (i * 2 + 1)
      have cr := cellB hb1 (i := 7) (v := .slice a s.L.length cap) rfl
      have hS7 : Chg [rc] w1 (w1.setCell ⟨rc, 7, none⟩ (.slice (some ⟨g, 0, none⟩) s.L.length cap1)) := (Chg.refl _ _).setCell _ _ (by simp)
      have ho7 := own_kept ho hS7 (fun k hk => by simp at hk; subst hk; exact own_notin ho hlt)
      have ho8 := own_set ho7 (i * 2 + 1) (.int .i64 q)
      rw [flatW_set h3] at ho8
      have hfin : QP rc gs { s with L := s.L.set i (t, q) } w ((w1.setCell ⟨rc, 7, none⟩ (.slice (some ⟨g, 0, none⟩) s.L.length cap1)).setCell ⟨g, i * 2 + 1, none⟩ (.int .i64 q)) :=
        ⟨[g], ⟨_, blk_setCell_ne hb2 hne.symm _, by rw [List.length_set]; exact own_mono ho8 (Nat.zero_le _), by simp [Value.ownBlock]⟩, .inr (fun k hk => by simp at hk; omega), ((hC.mono (by simp)).setCell ⟨rc, 7, none⟩ _ (.inl (by simp))).setCell ⟨g, i * 2 + 1, none⟩ _ (.inr hg)⟩
      have H1 := Lib.hid (And.intro hr hfin)
      clear hA ha hh h hL hl hno h1 h3 h4 hq hb hs hr ho hC hgb hcur hb1 hx hS7 ho7 ho8 hfin hb2 hgb2
      generalize s.L.length = n at *
      go_enter Try.func48, Try.ntmps48
      go_wp2_with (first | (go_at_call 66; refine HA.out.mono ?_; rintro e w' ⟨rfl, rfl⟩) | (go_at_call 65; refine (qprioc q _).mono ?_; rintro e w' ⟨rfl, rfl⟩; rw [HP.out]) | (at_builtin; refine wpList_run rfl _ _ 63 63 rfl rfl (.slice none 0 0) (.slice a n cap) (.slice (some ⟨g, 0, none⟩) n cap1) rfl rfl w1 H1.out.1 ?_))
      go_ret
      exact ⟨rfl, H1.out.2⟩

set_option maxRecDepth 100000 in
set_option maxHeartbeats 1000000 in
theorem qceilc (rc : Nat) (gs : List Nat) (s : MS) (t q : Int) (w : World) (h : QM w rc gs s) (hok : MOk s) :
    Calls Try.prog 49 #[.pointer (some ⟨rc, 0, none⟩), .int .i64 t, .int .i64 q] w fun e w' => e = .returned (.tuple #[.int .i64 (s.ceV t q), .int .i64 (s.ceE t q)]) ∧ QP rc gs (s.ceS t q) w w' := by
  have HM := Lib.hid h
  have HS := Lib.hid (h.putC q)
  have hown : (0 ≤ s.own) ↔ s.own ≠ -1 := ⟨fun _ => by omega, fun e => (hok.own.resolve_left e).1⟩
  obtain ⟨v, hb, -⟩ := h
  have c1 := cellB hb (i := 1) (v := .int .i64 s.p) rfl
  have c2 := cellB hb (i := 2) (v := .int .i64 s.c) rfl
  have c4 := cellB hb (i := 4) (v := .int .i64 s.own) rfl
  have f2 := frozenB hb 2
  clear hb hok
  unfold MS.ceV MS.ceS
  have hE : s.ceE t q = if thB t = true ∧ (s.p == 2) = true ∧ prB q = true then (if decide (0 ≤ s.own) = true ∧ (s.own == t) = false then 16 else 0) else 22 := by
    unfold MS.ceE
    have e1 : (s.own ≠ -1 ∧ s.own ≠ t) ↔ (decide (0 ≤ s.own) = true ∧ (s.own == t) = false) := by simp [hown]
    simp only [e1, beq_iff_eq]
  rw [hE]
  clear hE hown
  obtain ⟨bt, ht⟩ : ∃ x, x = thB t := ⟨_, rfl⟩
  obtain ⟨bp, hp⟩ : ∃ x, x = (s.p == 2) := ⟨_, rfl⟩
  obtain ⟨bq, hq⟩ : ∃ x, x = prB q := ⟨_, rfl⟩
  obtain ⟨bn, hn⟩ : ∃ x, x = decide (0 ≤ s.own) := ⟨_, rfl⟩
  obtain ⟨bo, ho⟩ : ∃ x, x = (s.own == t) := ⟨_, rfl⟩
  rw [← ht, ← hp, ← hq, ← hn, ← ho]
  have HT := Lib.hid ht.symm
  have HP := Lib.hid hq.symm
  have q1 : (s.p != 2) = !bp := by rw [hp]; rfl
  have q3 : (s.own != t) = !bo := by rw [ho]; rfl
  have q4 := hp.symm
  have q5 := hn.symm
  have q6 := ho.symm
  clear ht hp hq hn ho
  have hc : bt = false ∨ (bt = true ∧ bp = false) ∨ (bt = true ∧ bp = true ∧ bq = false) ∨ (bt = true ∧ bp = true ∧ bq = true) := by cases bt <;> cases bp <;> cases bq <;> simp
  rcases hc with rfl | ⟨rfl, rfl⟩ | ⟨rfl, rfl, rfl⟩ | ⟨rfl, rfl, rfl⟩
  case' inr.inr.inr => rcases bn with _ | _ <;> rcases bo with _ | _ <;> simp only [Bool.not_true, Bool.not_false] at q3
  all_goals
    (try simp only [Bool.not_true, Bool.not_false] at q1)
    simp only [Bool.false_eq_true, Bool.true_eq_false, false_and, and_false, and_true, and_self, if_false, if_true, Int.reduceEq]
    go_enter Try.func49, Try.ntmps49
    go_wp2_with (first | (go_at_call 64; refine (qthreadc t _).mono ?_; rintro e w' ⟨rfl, rfl⟩; rw [HT.out]) | (go_at_call 65; refine (qprioc q _).mono ?_; rintro e w' ⟨rfl, rfl⟩; rw [HP.out]))
    go_ret2
    first | exact ⟨rfl, .same HM.out (Chg.refl _ _)⟩ | exact ⟨rfl, .same HS.out.1 (HS.out.2.mono (by simp))⟩

set_option maxRecDepth 100000 in
theorem qstandsc (rc : Nat) (gs : List Nat) (s : MS) (w : World) (h : QM w rc gs s) :
    Calls Try.prog 26 #[.pointer (some ⟨rc, 0, none⟩)] w fun e w' => e = .returned (.agg #[.int .i64 s.own, .int .i64 s.cnt, .int .i64 s.st, .int .i64 s.c]) ∧ Chg [] w w' := by
  have hlt := h.lt rc (by simp)
  obtain ⟨v, hb, -⟩ := h
  have c2 := cellB hb (i := 2) (v := .int .i64 s.c) rfl
  have c4 := cellB hb (i := 4) (v := .int .i64 s.own) rfl
  have c5 := cellB hb (i := 5) (v := .int .i64 s.cnt) rfl
  have c6 := cellB hb (i := 6) (v := .int .i64 s.st) rfl
  clear hb
  go_enter Try.func26, Try.ntmps26
  go_wp2
  refine region_still_tail 17 (by kernel_rfl) (by kernel_rfl) ?_
  simp only [List.take_succ_cons, List.take_zero, List.drop_succ_cons, List.drop_zero]
  repeat still_step
  refine wpStill_nil ?_
  go_wp2
  refine bodyPost_ret (v := .agg #[.int .i64 s.own, .int .i64 s.cnt, .int .i64 s.st, .int .i64 s.c]) (by simp [results, Try.results26, go_sem]) rfl ⟨rfl, ?_⟩
  exact ((Chg.refl [] w).alloc _).drew

def QUn (rc : Nat) (gs : List Nat) (s' : MS) (l : WL) (r : Int) (w : World) (e : Ending) (w' : World) : Prop :=
  ∃ v, e = .returned (.tuple #[v, .int .i64 r]) ∧ OwnK w' w.heap.size v l ∧ QP rc gs s' w w'

set_option maxRecDepth 100000 in
set_option maxHeartbeats 2000000 in
theorem qlostc (rc : Nat) (gs : List Nat) (s : MS) (t : Int) (w : World) (h : QM w rc gs s) (hL : ListOk s.L) (hl : s.L.length ≤ 16) (ht : thB t = true) (ho : s.own = t) (hc : ¬ 1 < s.cnt) (hs : s.st = 1) :
    Calls Try.prog 44 #[.pointer (some ⟨rc, 0, none⟩), .int .i64 t] w (QUn rc gs { s with own := -1, cnt := 0, st := 2, L := [] } (lostW (ordT s.L)) 0 w) := by
  have HW := Lib.hid (qwaitingc rc gs s w h hL hl)
  have hn16 : (ordT s.L).length ≤ 16 := by unfold ordT; rw [List.length_map, (ordL_perm hL).length_eq]; exact hl
  have HQ := Lib.hid h
  have HT := Lib.hid ht
  obtain ⟨v, hb, -⟩ := h
  have c4 := cellB hb (i := 4) (v := .int .i64 s.own) rfl
  have c5 := cellB hb (i := 5) (v := .int .i64 s.cnt) rfl
  have c6 := cellB hb (i := 6) (v := .int .i64 s.st) rfl
  have q1 : (s.own != t) = false := by simpa using ho
  have q3 : decide (1 < s.cnt) = false := decide_eq_false hc
  have q4 : (s.st != 1) = false := by simpa using hs
  obtain ⟨i0, hi, hz0, hz1, hz2⟩ := info_parts infoWoken
  clear hb ht ho hc hs hL hl
  go_enter Try.func44, Try.ntmps44
  go_wp2_with (go_at_call 64; refine (qthreadc t _).mono ?_; rintro e w' ⟨rfl, rfl⟩; rw [HT.out])
  refine HW.out.mono ?_
  rintro e w1 ⟨v1, rfl, ho1, hC1⟩
  have hQ1 := HQ.out.calm hC1
  have hP1 := ((hQ1.putOwn (-1)).1.putCnt 0).1.putSt 2
  have hP2 : QM ((((w1.setCell ⟨rc, 4, none⟩ (.int .i64 (-1))).setCell ⟨rc, 5, none⟩ (.int .i64 0)).setCell ⟨rc, 6, none⟩ (.int .i64 2)).setCell ⟨rc, 7, none⟩ (.slice none 0 0)) rc [] { s with own := -1, cnt := 0, st := 2, L := [] } := by
    obtain ⟨v2, h1, -⟩ := hP1.1
    exact ⟨_, blk_setCell (i := 7) h1 (.slice none 0 0), World.ownsRow_nil .., rfl⟩
  have hC2 : Chg [rc] w1 ((((w1.setCell ⟨rc, 4, none⟩ (.int .i64 (-1))).setCell ⟨rc, 5, none⟩ (.int .i64 0)).setCell ⟨rc, 6, none⟩ (.int .i64 2)).setCell ⟨rc, 7, none⟩ (.slice none 0 0)) := ((((hQ1.putOwn (-1)).2.trans ((hQ1.putOwn (-1)).1.putCnt 0).2).trans hP1.2).setCell ⟨rc, 7, none⟩ _ (.inl (by simp)))
  have hlt := HQ.out.lt rc (by simp)
  have ho2 := own_kept ho1 hC2 (fun k hk => by simp at hk; subst hk; exact own_notin ho1 hlt)
  obtain ⟨v0, hb1, -⟩ := hQ1
  have d4 := cellB hb1 (i := 4) (v := .int .i64 s.own) rfl
  have d5 := cellB hb1 (i := 5) (v := .int .i64 s.cnt) rfl
  have d6 := cellB hb1 (i := 6) (v := .int .i64 s.st) rfl
  have d7 := cellB hb1 (i := 7) (v := v0) rfl
  have g4 := frozenB hb1 4
  have g5 := frozenB hb1 5
  have g6 := frozenB hb1 6
  have g7 := frozenB hb1 7
  obtain ⟨va, vc, rfl⟩ := own_slice ho1
  have hI := IsInts.of_own ho2
  obtain ⟨n, hn⟩ : ∃ n, n = (ordT s.L).length := ⟨_, rfl⟩
  rw [← hn] at hn16 hI ⊢
  have HI := Lib.hid (And.intro hI hn)
  have H2 := Lib.hid (And.intro hP2 (And.intro ((hC1.mono (by simp)).trans (hC2.mono (show ∀ k ∈ [rc], k ∈ rc :: gs ∨ _ by simp))) ho2))
  clear ho1 hC1 hP1 hP2 hC2 ho2 hb1 hn c4 c5 c6 hlt hI
  go_wp2
  generalize ((((w1.setCell ⟨rc, 4, none⟩ (.int .i64 (-1))).setCell ⟨rc, 5, none⟩ (.int .i64 0)).setCell ⟨rc, 6, none⟩ (.int .i64 2)).setCell ⟨rc, 7, none⟩ (.slice none 0 0)) = W2 at H2 HI ⊢
  clear d4 d5 d6 d7 g4 g5 g6 g7
  go_loopw [7, 8] (fun o i wr => ∃ j : Nat, j ≤ n ∧ i = .int .i64 j ∧ (∃ a c, o = .slice a j c) ∧ wr.ownsRow W2.heap.size 38 2 o j (flatW ((lostW (ordT s.L)).take j)) ∧ Chg [] W2 wr) (fun _ i _ => n - (intOf i).toNat)
  case atStart => exact ⟨0, by omega, rfl, ⟨none, 0, rfl⟩, World.ownsRow_nil .., Chg.refl _ _⟩
  case round =>
    obtain ⟨j, hj, rfl, ⟨oa, oc, rfl⟩, ho, hC⟩ := hrel
    have HK := Lib.hid (And.intro ho hC)
    clear ho hC
    by_cases hjl : j < n
    · obtain ⟨y, hy⟩ : ∃ y, (ordT s.L)[j]? = some y := ⟨_, List.getElem?_eq_getElem (by have := HI.out.2; omega)⟩
      obtain ⟨b, o, bc, hsl, hc⟩ := HI.out.1.addr (fun e => by have := HI.out.2; rw [e] at this; simp at this; omega)
      cases hsl
      have d1 := SrcAt.calm.cell_calm (hc j y hy) HK.out.2
      have HX := Lib.hid (show flatW ((lostW (ordT s.L)).take (j + 1)) = flatW ((lostW (ordT s.L)).take j) ++ [.int .i64 y, .int .i64 131] by
        rw [List.take_add_one]
        have : (lostW (ordT s.L))[j]?.toList = [(y, 131)] := by unfold lostW; rw [List.getElem?_map, hy]; rfl
        rw [this, flatW_snoc])
      have hd1 : j + 1 ≤ maxLen := by unfold maxLen; omega
      have hd2 : (j + 1) * 16 ≤ 140737488355328 := by omega
      have hB2 : W2.heap.size ≤ wr.heap.size := HK.out.2.size
      clear hy hc
      go_wp2_with (at_builtin; refine wpList_push rfl _ _ 34 rfl W2.heap.size 38 i0 (.agg #[.int .i64 0, .int .i64 0]) 2 16 Try.underlying34 hi hz0 hz1 hz2 rfl (by decide) (.slice oa j oc) j _ rfl HK.out.1 [.int .i64 y, .int .i64 131] rfl rfl (by simp [Value.oneCell']) hd1 hd2 hB2 ?_; intro v3 w3 ho3 hC3 hloc hnn; obtain ⟨va3, vc3, rfl⟩ := own_slice ho3)
      go_roundw
      case rel => exact ⟨j + 1, by omega, by go_num, ⟨_, _, rfl⟩, by rw [HX.out]; exact ho3, HK.out.2.trans' hC3 (fun m hm => .inr (own_ge HK.out.1 m hm))⟩
      case measure => simp [intOf]; omega
    · have hjn : j = n := by omega
      subst hjn
      have HA := Lib.hid (show (lostW (ordT s.L)).take j = lostW (ordT s.L) from List.take_of_length_le (by unfold lostW; rw [List.length_map]; have := HI.out.2; omega))
      clear hj hjl
      go_wp2
      go_ret2
      refine ⟨_, rfl, ?_, .thn (.inr (by simp)) H2.out.2.1 (.calm (.same H2.out.1 (Chg.refl _ _)) HK.out.2)⟩
      have h5 := HK.out.1
      rw [HA.out] at h5
      unfold OwnK
      rw [show (lostW (ordT s.L)).length = j by unfold lostW; rw [List.length_map]; exact HI.out.2.symm]
      exact own_mono h5 H2.out.2.1.size

set_option maxRecDepth 100000 in
set_option maxHeartbeats 2000000 in
theorem qunlockc (rc : Nat) (gs : List Nat) (s : MS) (t : Int) (w : World) (h : QM w rc gs s) (hok : MOk s) (hL : ListOk s.L) (hl : s.L.length ≤ 16) :
    Calls Try.prog 44 #[.pointer (some ⟨rc, 0, none⟩), .int .i64 t] w (QUn rc gs (s.unS t) (s.unW t) (s.unE t) w) := by
  have hM := hok.cntM
  by_cases h1 : thB t = true
  · by_cases h2 : s.own = t
    · rw [show s.unE t = 0 by unfold MS.unE; simp [h1, h2]]
      by_cases h3 : 1 < s.cnt
      · rw [show s.unS t = { s with cnt := s.cnt - 1 } by unfold MS.unS; simp [h1, h2, h3], show s.unW t = [] by unfold MS.unW; simp [h1, h2, h3]]
        have HP := Lib.hid (h.putCnt (s.cnt - 1))
        have HT := Lib.hid h1
        obtain ⟨v, hb, -⟩ := h
        have c4 := cellB hb (i := 4) (v := .int .i64 s.own) rfl
        have c5 := cellB hb (i := 5) (v := .int .i64 s.cnt) rfl
        have f5 := frozenB hb 5
        have q1 : (s.own != t) = false := by simpa using h2
        have q3 : decide (1 < s.cnt) = true := decide_eq_true h3
        have hw : IntKind.i64.wrap (s.cnt - 1) = s.cnt - 1 := by simp [IntKind.wrap, IntKind.signed, IntKind.bits]; omega
        have q5 : 1 < s.cnt := h3
        clear hb h1 h2 h3 hok hL hl
        go_enter Try.func44, Try.ntmps44
        go_wp2_with (go_at_call 64; refine (qthreadc t _).mono ?_; rintro e w' ⟨rfl, rfl⟩; rw [HT.out])
        go_ret2
        exact ⟨_, rfl, World.ownsRow_nil .., .same HP.out.1 (HP.out.2.mono (by simp))⟩
      · by_cases h4 : s.st = 1
        · rw [show s.unS t = { s with own := -1, cnt := 0, st := 2, L := [] } by unfold MS.unS; simp [h1, h2, h3, h4], show s.unW t = lostW (ordT s.L) by unfold MS.unW lostW; simp [h1, h2, h3, h4]]
          exact qlostc rc gs s t w h hL hl h1 h2 h3 h4
        · rw [show s.unS t = s.nextS by unfold MS.unS; simp [h1, h2, h3, h4], show s.unW t = s.nextW by unfold MS.unW; simp [h1, h2, h3, h4]]
          have HN := Lib.hid (qnextc rc gs s w h hL hl)
          have HT := Lib.hid h1
          obtain ⟨v, hb, -⟩ := h
          have c4 := cellB hb (i := 4) (v := .int .i64 s.own) rfl
          have c5 := cellB hb (i := 5) (v := .int .i64 s.cnt) rfl
          have c6 := cellB hb (i := 6) (v := .int .i64 s.st) rfl
          have q1 : (s.own != t) = false := by simpa using h2
          have q3 : decide (1 < s.cnt) = false := decide_eq_false h3
          have q4 : (s.st != 1) = true := by simpa using h4
          clear hb h1 h2 h3 h4 hok hL hl
          go_enter Try.func44, Try.ntmps44
          go_wp2_with (go_at_call 64; refine (qthreadc t _).mono ?_; rintro e w' ⟨rfl, rfl⟩; rw [HT.out])
          refine HN.out.mono ?_
          rintro e w1 ⟨v1, rfl, hO, hQ⟩
          have H1 := Lib.hid (And.intro hO hQ)
          clear hO hQ
          go_wp2
          go_ret2
          exact ⟨v1, rfl, H1.out.1, H1.out.2⟩
    · rw [show s.unE t = 1 by unfold MS.unE; simp [h1, h2], show s.unS t = s by unfold MS.unS; simp [h2], show s.unW t = [] by unfold MS.unW; simp [h2]]
      have HQ := Lib.hid h
      have HT := Lib.hid h1
      obtain ⟨v, hb, -⟩ := h
      have c4 := cellB hb (i := 4) (v := .int .i64 s.own) rfl
      have q1 : (s.own != t) = true := by simpa using h2
      clear hb h1 h2 hok hL hl
      go_enter Try.func44, Try.ntmps44
      go_wp2_with (go_at_call 64; refine (qthreadc t _).mono ?_; rintro e w' ⟨rfl, rfl⟩; rw [HT.out])
      go_ret2
      exact ⟨_, rfl, World.ownsRow_nil .., .same HQ.out (Chg.refl _ _)⟩
  · have h1' : thB t = false := by simpa using h1
    rw [show s.unE t = 22 by unfold MS.unE; simp [h1'], show s.unS t = s by unfold MS.unS; simp [h1'], show s.unW t = [] by unfold MS.unW; simp [h1']]
    have HQ := Lib.hid h
    have HT := Lib.hid h1'
    clear h h1 h1' hok hL hl
    go_enter Try.func44, Try.ntmps44
    go_wp2_with (go_at_call 64; refine (qthreadc t _).mono ?_; rintro e w' ⟨rfl, rfl⟩; rw [HT.out])
    go_ret2
    exact ⟨_, rfl, World.ownsRow_nil .., .same HQ.out (Chg.refl _ _)⟩

end Go.Proofs.Ytagnobmdcchcaaa
