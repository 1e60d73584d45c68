
/- metronomelaw19: does: contract. -/
import Derived.Test.YtonahpilmchnkaaGd
import Derived.Deep.RegionHeld3
namespace Go.Proofs.Ytonahpilmchnkaa
open Go.RowKit

theorem armZ_le (s : TS) (id c t v : Int) (Z : List Int) (nw : Int) : (s.armZ id c t v Z nw).2 ≤ nw + 1 := by
  unfold TS.armZ
  split
  · exact Int.le_refl _
  · exact Int.le_add_one (Int.le_refl _)
theorem rduec (b : Nat) (s : TS) (Z : List Int) (nw c now : Int) (w : World) (h : RAt w b s.n s.L Z nw) (hI : TInv s) (hL : LinkT s Z nw) (hq : nw < 4611686018427387000) :
    Calls Try.prog 18 #[.pointer (some ⟨b, 0, none⟩), .int .i64 c, .int .i64 now] w fun e w' => RDueP b (s.dueS c now) (s.dueL c now) (nw + 64) w e w' := by
  by_cases hok : isC c ∧ okAt now
  · rw [show s.dueS c now = (s.dueF c now ((s.W c).dueL now)).1 from if_pos hok, show s.dueL c now = (s.dueF c now ((s.W c).dueL now)).2 from if_pos hok]
    exact rduegood b s Z nw c now w h hI hL hok.1 hok.2 hq
  · rw [show s.dueS c now = s from if_neg hok, show s.dueL c now = [] from if_neg hok]
    refine (rduebad b c now w hok).mono ?_
    rintro e w' ⟨rfl, rfl⟩
    exact ⟨.slice none 0 0, rfl, World.ownsRow_nil .., ⟨Z, nw, h, hL, by omega⟩, Chg.refl _ _⟩

def stepB (kd id c t v : Int) : Obj := .cells #[.int .i64 kd, .int .i64 id, .int .i64 c, .int .i64 t, .int .i64 v] 43 (0, 0)
set_option maxRecDepth 100000 in
set_option maxHeartbeats 4000000 in
theorem doesc (b : Nat) (bs : Int → Nat) (vs : Int → List Value) (rb : Nat) (s : TS) (kd id c t v q : Int) (w : World) (h : PB w b bs vs rb s q) (hq : q < 4611686018427380000) :
    Calls Try.prog 15 #[.pointer (some ⟨b, 0, none⟩), .pointer (some ⟨rb, 0, none⟩), .agg #[.int .i64 kd, .int .i64 id, .int .i64 c, .int .i64 t, .int .i64 v]] w fun e w' => e = .returned (.bool true) ∧ StT b bs vs rb (s.stepS kd id c t v) (q + 64) w w' := by
  obtain ⟨bx, hbx⟩ : ∃ bx, bx = w.heap.size := ⟨_, rfl⟩
  obtain ⟨w1, hw1⟩ : ∃ w1, w1 = w.alloc (stepB kd id c t v) := ⟨_, rfl⟩
  have hC1 : Chg [] w w1 := by rw [hw1]; exact (Chg.refl _ _).alloc _
  have hnew : w1.heap[bx]? = some (stepB kd id c t v) := by rw [hw1, hbx]; exact heap_alloc_eq w _
  have h1 := h.calm hC1
  have h2 : PB w1.drew b bs vs rb s q := h1.calm (Chg.refl _ _).drew
  have hnb : bx ∉ blocksT b bs vs := fun hm => by have := h.p.lt bx hm; omega
  obtain ⟨Z, nw, hR, hL, hnq⟩ := h2.r
  have hnr : bx ≠ rb := by obtain ⟨Z0, n0, hR0, _⟩ := h.r; have := lt_of_blk hR0.head; omega
  have c0 := cellB hnew (i := 0) (v := .int .i64 kd) rfl
  have c1 := cellB hnew (i := 1) (v := .int .i64 id) rfl
  have c2 := cellB hnew (i := 2) (v := .int .i64 c) rfl
  have c3 := cellB hnew (i := 3) (v := .int .i64 t) rfl
  have c4 := cellB hnew (i := 4) (v := .int .i64 v) rfl
  have hon : ∀ (i : Nat) e, s.L[i]? = some e → e.armed = true → isC e.clock := fun i e he ha => (h.inv.on i e he ha).2.1
  have hcc : ∀ k, isC k → (s.W k).c < 4611686018427387000 := fun k hk => by have := h.cnt k hk; omega
  have H := Lib.hid (And.intro h2 (And.intro hC1 (And.intro hnew (And.intro hnb (And.intro hnr (And.intro hR (And.intro hL (And.intro hnq (And.intro hon (And.intro hcc hq))))))))))
  have HP1 := Lib.hid h1
  have hne := h.ne
  -- what is kept behind the program's half
  have hKN : ∀ (s' : TS) (W W2 : World), Chg [] w1 W → NextT b bs vs s' W W2 → W2.heap[bx]? = some (stepB kd id c t v) ∧ RAt W2 rb s.n s.L Z nw := fun s' W W2 hC hN => by
    obtain ⟨vs2, hA2, hC2, hB2⟩ := hN
    have hR0 : w1.heap[rb]? = _ := hR.head
    exact ⟨hC2.blk (hC.blk hnew (by simp)) hnb, ⟨hC2.blk (hC.blk hR0 (by simp)) hne, hR.len, hR.zen⟩⟩
  have HK := Lib.hid hKN
  clear h h1 h2 hne hC1 hnew hnb hnr hR hL hnq hon hcc hq hKN
  unfold stepB at hw1
  by_cases hk1 : kd = 1
  · subst hk1
    have hS := parmc b bs vs s id c t v w1.drew H.out.1.p H.out.2.2.2.2.2.2.2.2.1 (cc3 H.out.2.2.2.2.2.2.2.2.2.1)
    have hQ : ∀ W, RAt W rb s.n s.L Z nw → _ := fun W hW => rarmc rb s Z nw id c t v W hW H.out.1.inv.n8 H.out.2.2.2.2.2.2.1.n0 (by have := H.out.2.2.2.2.2.2.2.1; have := H.out.2.2.2.2.2.2.2.2.2.2; omega)
    have e1 : s.stepS 1 id c t v = s.armS id c t v := rfl
    rw [e1]
    have hfin : ∀ w2 w3, NextT b bs vs (s.armS id c t v) w1.drew w2 → RAt w3 rb (s.armS id c t v).n (s.armS id c t v).L (s.armZ id c t v Z nw).1 (s.armZ id c t v Z nw).2 → Chg [rb] w2 w3 → StT b bs vs rb (s.armS id c t v) (q + 64) w w3 := fun w2 w3 g1 g2 g3 =>
      (H.out.1.both g1 g2 (H.out.2.2.2.2.2.2.1.armS H.out.1.inv id c t v) (by have := armZ_le s id c t v Z nw; have := H.out.2.2.2.2.2.2.2.1; omega) g3 (H.out.1.inv.armS _ _ _ _) (fun k hk => by have := armS_c s id c t v k; have := H.out.1.cnt k hk; omega)).from_ ((H.out.2.1.drew))
    have HF := Lib.hid hfin
    have HS1 := Lib.hid (And.intro hS hQ)
    clear hS hQ e1 hfin
    go_enter Try.func15, Try.ntmps15
    go_wp2
    rw [← hbx, ← hw1]
    clear hbx hw1
    go_region_held3 (fun w' => w'.cell? ⟨bx, 1, none⟩ = some (.int .i64 id) ∧ w'.cell? ⟨bx, 2, none⟩ = some (.int .i64 c) ∧ w'.cell? ⟨bx, 3, none⟩ = some (.int .i64 t) ∧ w'.cell? ⟨bx, 4, none⟩ = some (.int .i64 v)) (first | exact ⟨c1, c2, c3, c4⟩ | exact ⟨x1, x2, x3, x4⟩ | exact ⟨y1, y2, y3, y4⟩ | exact ⟨z1, z2, z3, z4⟩)
      (first
      | (go_at_call 10; refine HS1.out.1.mono ?_; rintro e w2 ⟨rfl, hN2⟩; obtain ⟨hb2, hR2⟩ := HK.out _ _ _ (Chg.refl _ _).drew hN2; have x1 := cellB hb2 (i := 1) (v := .int .i64 id) rfl; have x2 := cellB hb2 (i := 2) (v := .int .i64 c) rfl; have x3 := cellB hb2 (i := 3) (v := .int .i64 t) rfl; have x4 := cellB hb2 (i := 4) (v := .int .i64 v) rfl; have H2 := Lib.hid (And.intro hN2 (And.intro hb2 hR2)); clear hN2 hb2 hR2)
      | (go_at_call 32; refine (HS1.out.2 w2 H2.out.2.2).mono ?_; rintro e w3 ⟨rfl, hR3, hC3⟩; have hb3 := hC3.blk H2.out.2.1 (by simpa using H.out.2.2.2.2.1); have y1 := cellB hb3 (i := 1) (v := .int .i64 id) rfl; have y2 := cellB hb3 (i := 2) (v := .int .i64 c) rfl; have y3 := cellB hb3 (i := 3) (v := .int .i64 t) rfl; have y4 := cellB hb3 (i := 4) (v := .int .i64 v) rfl; have H3 := Lib.hid (And.intro hR3 hC3); clear hR3 hC3 hb3))
    have eE : (s.armE id c t v == s.armE id c t v) = true := by simp
    go_wp2
    go_ret
    exact ⟨by simp, HF.out _ _ H2.out.1 H3.out.1 H3.out.2⟩
  · have e1 : (kd == 1) = false := by simpa using hk1
    by_cases hk2 : kd = 2
    · subst hk2
      have hS := pstopc b bs vs s id w1.drew H.out.1.p H.out.2.2.2.2.2.2.2.2.1
      have hQ : ∀ W, RAt W rb s.n s.L Z nw → _ := fun W hW => rstopc rb s Z nw id W hW H.out.1.inv.n8
      have e3 : s.stepS 2 id c t v = s.stopS id := rfl
      rw [e3]
      have hfin : ∀ w2 w3, NextT b bs vs (s.stopS id) w1.drew w2 → RAt w3 rb (s.stopS id).n (s.stopS id).L Z nw → Chg [rb] w2 w3 → StT b bs vs rb (s.stopS id) (q + 64) w w3 := fun w2 w3 g1 g2 g3 =>
        (H.out.1.both g1 g2 (H.out.2.2.2.2.2.2.1.stopS H.out.1.inv id) (by have := H.out.2.2.2.2.2.2.2.1; omega) g3 (H.out.1.inv.stopS _) (fun k hk => by have := stopS_c s id k; have := H.out.1.cnt k hk; omega)).from_ ((H.out.2.1.drew))
      have HF := Lib.hid hfin
      have HS1 := Lib.hid (And.intro hS hQ)
      clear hS hQ e3 hfin
      go_enter Try.func15, Try.ntmps15
      go_wp2
      rw [← hbx, ← hw1]
      clear hbx hw1
      go_region_held3 (fun w' => w'.cell? ⟨bx, 1, none⟩ = some (.int .i64 id) ∧ w'.cell? ⟨bx, 2, none⟩ = some (.int .i64 c) ∧ w'.cell? ⟨bx, 3, none⟩ = some (.int .i64 t) ∧ w'.cell? ⟨bx, 4, none⟩ = some (.int .i64 v)) (first | exact ⟨c1, c2, c3, c4⟩ | exact ⟨x1, x2, x3, x4⟩ | exact ⟨y1, y2, y3, y4⟩ | exact ⟨z1, z2, z3, z4⟩)
        (first
        | (go_at_call 17; refine HS1.out.1.mono ?_; rintro e w2 ⟨rfl, hN2⟩; obtain ⟨hb2, hR2⟩ := HK.out _ _ _ (Chg.refl _ _).drew hN2; have x1 := cellB hb2 (i := 1) (v := .int .i64 id) rfl; have x2 := cellB hb2 (i := 2) (v := .int .i64 c) rfl; have x3 := cellB hb2 (i := 3) (v := .int .i64 t) rfl; have x4 := cellB hb2 (i := 4) (v := .int .i64 v) rfl; have H2 := Lib.hid (And.intro hN2 (And.intro hb2 hR2)); clear hN2 hb2 hR2)
        | (go_at_call 33; refine (HS1.out.2 w2 H2.out.2.2).mono ?_; rintro e w3 ⟨rfl, hR3, hC3⟩; have hb3 := hC3.blk H2.out.2.1 (by simpa using H.out.2.2.2.2.1); have y1 := cellB hb3 (i := 1) (v := .int .i64 id) rfl; have y2 := cellB hb3 (i := 2) (v := .int .i64 c) rfl; have y3 := cellB hb3 (i := 3) (v := .int .i64 t) rfl; have y4 := cellB hb3 (i := 4) (v := .int .i64 v) rfl; have H3 := Lib.hid (And.intro hR3 hC3); clear hR3 hC3 hb3))
      have eE : (s.stopE id == s.stopE id) = true := by simp
      go_wp2
      go_ret
      exact ⟨by simp, HF.out _ _ H2.out.1 H3.out.1 H3.out.2⟩
    · have e2 : (kd == 2) = false := by simpa using hk2
      by_cases hk3 : kd = 3
      · subst hk3
        have hS := pduec b bs vs s c t w1.drew H.out.1.p H.out.1.inv H.out.2.2.2.2.2.2.2.2.2.1
        have hQ : ∀ W, RAt W rb s.n s.L Z nw → _ := fun W hW => rduec rb s Z nw c t W hW H.out.1.inv H.out.2.2.2.2.2.2.1 (by have := H.out.2.2.2.2.2.2.2.1; have := H.out.2.2.2.2.2.2.2.2.2.2; omega)
        have e3 : s.stepS 3 id c t v = s.dueS c t := rfl
        rw [e3]
        have hl64 := dueL_len H.out.1.inv c t
        have hrbl : rb < w1.drew.heap.size := lt_of_blk H.out.2.2.2.2.2.1.head
        have hfin : ∀ w2 w3 Z' nw', NextT b bs vs (s.dueS c t) w1.drew w2 → RAt w3 rb (s.dueS c t).n (s.dueS c t).L Z' nw' → LinkT (s.dueS c t) Z' nw' → nw' ≤ nw + 64 → Chg [rb] w2 w3 → StT b bs vs rb (s.dueS c t) (q + 64) w w3 := fun w2 w3 Z' nw' g1 g2 g4 g5 g3 =>
          (H.out.1.both g1 g2 g4 (by have := H.out.2.2.2.2.2.2.2.1; omega) g3 (H.out.1.inv.dueS _ _) (fun k hk => by have := dueS_c H.out.1.inv c t k; have := H.out.1.cnt k hk; omega)).from_ ((H.out.2.1.drew))
        have HF := Lib.hid hfin
        have HS1 := Lib.hid (And.intro hS (And.intro hQ (And.intro hl64 hrbl)))
        clear hS hQ e3 hfin hl64 hrbl
        go_enter Try.func15, Try.ntmps15
        go_wp2
        rw [← hbx, ← hw1]
        clear hbx hw1
        go_region_held3 (fun w' => w'.cell? ⟨bx, 1, none⟩ = some (.int .i64 id) ∧ w'.cell? ⟨bx, 2, none⟩ = some (.int .i64 c) ∧ w'.cell? ⟨bx, 3, none⟩ = some (.int .i64 t) ∧ w'.cell? ⟨bx, 4, none⟩ = some (.int .i64 v)) (first | exact ⟨c1, c2, c3, c4⟩ | exact ⟨x1, x2, x3, x4⟩ | exact ⟨y1, y2, y3, y4⟩ | exact ⟨z1, z2, z3, z4⟩)
          (first
          | (go_at_call 11; refine HS1.out.1.mono ?_; rintro e w2 ⟨v2, vs2, rfl, ho2, hA2, hC2, hB2, hsep2⟩; obtain ⟨a2, cap2, rfl, hI2⟩ := IntsAt.of_own ho2 rfl; obtain ⟨hb2, hR2⟩ := HK.out _ _ _ (Chg.refl _ _).drew (⟨vs2, hA2, hC2, hB2⟩ : NextT b bs vs (s.dueS c t) w1.drew w2); have x1 := cellB hb2 (i := 1) (v := .int .i64 id) rfl; have x2 := cellB hb2 (i := 2) (v := .int .i64 c) rfl; have x3 := cellB hb2 (i := 3) (v := .int .i64 t) rfl; have x4 := cellB hb2 (i := 4) (v := .int .i64 v) rfl; have H2 := Lib.hid (And.intro (⟨vs2, hA2, hC2, hB2⟩ : NextT b bs vs (s.dueS c t) w1.drew w2) (And.intro hb2 (And.intro hR2 (And.intro ho2 hI2)))); clear hA2 hC2 hB2 hb2 hR2 ho2 hI2 hsep2)
          | (go_at_call 18; refine (HS1.out.2.1 w2 H2.out.2.2.1).mono ?_; rintro e w3 ⟨v3, rfl, ho3, ⟨Z3, nw3, hR3, hL3, hq3⟩, hC3⟩; obtain ⟨a3, cap3, rfl, hI3⟩ := IntsAt.of_own ho3 rfl; have hb3 := hC3.blk H2.out.2.1 (by simpa using H.out.2.2.2.2.1); have y1 := cellB hb3 (i := 1) (v := .int .i64 id) rfl; have y2 := cellB hb3 (i := 2) (v := .int .i64 c) rfl; have y3 := cellB hb3 (i := 3) (v := .int .i64 t) rfl; have y4 := cellB hb3 (i := 4) (v := .int .i64 v) rfl; have hI2' := H2.out.2.2.2.2.kept hC3 (fun g e hm => by subst e; have h1 := own_ge H2.out.2.2.2.1 g (by simp [Value.ownBlock]); have h2 := HS1.out.2.2.2; simp at hm; omega); have H3 := Lib.hid (And.intro (HF.out w2 w3 Z3 nw3 H2.out.1 hR3 hL3 hq3 hC3) (And.intro hI2' (And.intro hI3 hb3))); clear hR3 hL3 hq3 hC3 hb3 hI2' hI3 ho3)
          | (go_at_call 19; refine (lsamec _ _ _ _ (s.dueL c t) (s.dueL c t) w3 H3.out.2.1 H3.out.2.2.1 (by have := HS1.out.2.2.1; omega)).mono ?_; rintro e w4 ⟨rfl, hC4⟩; rw [show decide (s.dueL c t = s.dueL c t) = true from decide_eq_true rfl]; have hb4 := hC4.blk H3.out.2.2.2 (by simp); have z1 := cellB hb4 (i := 1) (v := .int .i64 id) rfl; have z2 := cellB hb4 (i := 2) (v := .int .i64 c) rfl; have z3 := cellB hb4 (i := 3) (v := .int .i64 t) rfl; have z4 := cellB hb4 (i := 4) (v := .int .i64 v) rfl; have H4 := Lib.hid hC4; clear hC4 hb4))
        go_wp2
        go_ret
        exact ⟨rfl, H3.out.1.calm H4.out⟩
      · have e3 : (kd == 3) = false := by simpa using hk3
        by_cases hk4 : kd = 4
        · subst hk4
          have hS := ptakenc b bs vs s id w1 HP1.out.p
          have hQ : ∀ W, RAt W rb s.n s.L Z nw → _ := fun W hW => rtakenc rb s Z nw id W hW H.out.1.inv.n8
          have e4 : s.stepS 4 id c t v = s.takenS id := rfl
          rw [e4]
          have hfin : ∀ w2 w3, NextT b bs vs (s.takenS id) w1 w2 → RAt w3 rb (s.takenS id).n (s.takenS id).L Z nw → Chg [rb] w2 w3 → StT b bs vs rb (s.takenS id) (q + 64) w w3 := fun w2 w3 g1 g2 g3 =>
            (HP1.out.both g1 g2 (H.out.2.2.2.2.2.2.1.takenS id) (by have := H.out.2.2.2.2.2.2.2.1; omega) g3 (H.out.1.inv.takenS _) (fun k hk => by have := takenS_c s id k; have := H.out.1.cnt k hk; omega)).from_ H.out.2.1
          have HF := Lib.hid hfin
          have HS1 := Lib.hid (And.intro hS hQ)
          clear hS hQ e4 hfin
          generalize (s.takenV id).1 = E1 at *
          generalize (s.takenV id).2 = E2 at *
          have eE1 : (E1 == E1) = true := by simp
          have eE2 : (E2 == E2) = true := by simp
          go_enter Try.func15, Try.ntmps15
          go_wp2_with fail
          rw [← hbx, ← hw1]
          clear hbx hw1
          refine HS1.out.1.mono ?_
          rintro e w2 ⟨rfl, hN2⟩
          obtain ⟨hb2, hR2⟩ := HK.out _ _ _ (Chg.refl _ _) hN2
          have x1 := cellB hb2 (i := 1) (v := .int .i64 id) rfl
          have H2 := Lib.hid (And.intro hN2 (And.intro hb2 hR2))
          clear hN2 hb2 hR2
          go_wp2_with fail
          refine (HS1.out.2 w2 H2.out.2.2).mono ?_
          rintro e w3 ⟨rfl, hR3, hC3⟩
          have H3 := Lib.hid (And.intro hR3 hC3)
          clear hR3 hC3
          go_wp2
          go_ret
          exact ⟨rfl, HF.out _ _ H2.out.1 H3.out.1 H3.out.2⟩
        · have e4 : (kd == 4) = false := by simpa using hk4
          by_cases hk5 : kd = 5
          · subst hk5
            have hS := pclearc b bs vs s id w1.drew H.out.1.p H.out.2.2.2.2.2.2.2.2.1
            have hQ : ∀ W, RAt W rb s.n s.L Z nw → _ := fun W hW => rclearc rb s Z nw id W hW H.out.1.inv.n8
            have e5 : s.stepS 5 id c t v = s.clearS id := rfl
            rw [e5]
            have hfin : ∀ w2 w3, NextT b bs vs (s.clearS id) w1.drew w2 → RAt w3 rb (s.clearS id).n (s.clearS id).L Z nw → Chg [rb] w2 w3 → StT b bs vs rb (s.clearS id) (q + 64) w w3 := fun w2 w3 g1 g2 g3 =>
              (H.out.1.both g1 g2 (H.out.2.2.2.2.2.2.1.clearS H.out.1.inv id) (by have := H.out.2.2.2.2.2.2.2.1; omega) g3 (H.out.1.inv.clearS _) (fun k hk => by have := clearS_c s id k; have := H.out.1.cnt k hk; omega)).from_ ((H.out.2.1.drew))
            have HF := Lib.hid hfin
            have HS1 := Lib.hid (And.intro hS hQ)
            clear hS hQ e5 hfin
            go_enter Try.func15, Try.ntmps15
            go_wp2
            rw [← hbx, ← hw1]
            clear hbx hw1
            go_region_held3 (fun w' => w'.cell? ⟨bx, 1, none⟩ = some (.int .i64 id) ∧ w'.cell? ⟨bx, 2, none⟩ = some (.int .i64 c) ∧ w'.cell? ⟨bx, 3, none⟩ = some (.int .i64 t) ∧ w'.cell? ⟨bx, 4, none⟩ = some (.int .i64 v)) (first | exact ⟨c1, c2, c3, c4⟩ | exact ⟨x1, x2, x3, x4⟩ | exact ⟨y1, y2, y3, y4⟩ | exact ⟨z1, z2, z3, z4⟩)
              (first
              | (go_at_call 16; refine HS1.out.1.mono ?_; rintro e w2 ⟨rfl, hN2⟩; obtain ⟨hb2, hR2⟩ := HK.out _ _ _ (Chg.refl _ _).drew hN2; have x1 := cellB hb2 (i := 1) (v := .int .i64 id) rfl; have x2 := cellB hb2 (i := 2) (v := .int .i64 c) rfl; have x3 := cellB hb2 (i := 3) (v := .int .i64 t) rfl; have x4 := cellB hb2 (i := 4) (v := .int .i64 v) rfl; have H2 := Lib.hid (And.intro hN2 (And.intro hb2 hR2)); clear hN2 hb2 hR2)
              | (go_at_call 35; refine (HS1.out.2 w2 H2.out.2.2).mono ?_; rintro e w3 ⟨rfl, hR3, hC3⟩; have hb3 := hC3.blk H2.out.2.1 (by simpa using H.out.2.2.2.2.1); have y1 := cellB hb3 (i := 1) (v := .int .i64 id) rfl; have y2 := cellB hb3 (i := 2) (v := .int .i64 c) rfl; have y3 := cellB hb3 (i := 3) (v := .int .i64 t) rfl; have y4 := cellB hb3 (i := 4) (v := .int .i64 v) rfl; have H3 := Lib.hid (And.intro hR3 hC3); clear hR3 hC3 hb3))
            have eE : (s.stopE id == s.stopE id) = true := by simp
            go_wp2
            go_ret
            exact ⟨by simp, HF.out _ _ H2.out.1 H3.out.1 H3.out.2⟩
          · have e5 : (kd == 5) = false := by simpa using hk5
            have e6 : s.stepS kd id c t v = s := by unfold TS.stepS; rw [if_neg hk1, if_neg hk2, if_neg hk3, if_neg hk4, if_neg hk5]
            rw [e6]
            clear e6 hk1 hk2 hk3 hk4 hk5
            go_enter Try.func15, Try.ntmps15
            go_wp2
            rw [← hw1]
            clear hbx hw1
            go_ret
            exact ⟨rfl, (StT.refl (HP1.out.more (by omega))).from_ H.out.2.1⟩

end Go.Proofs.Ytonahpilmchnkaa
