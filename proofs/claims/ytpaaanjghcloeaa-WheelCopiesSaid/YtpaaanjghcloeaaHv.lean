
/- metronomelaw07: does: contract. -/
import Derived.Test.YtpaaanjghcloeaaHt
import Derived.Deep.RegionHeld3
namespace Go.Proofs.Ytpaaanjghcloeaa
open Go.RowKit

def HS.stepS (s : HS) (kd id tm : Int) : HS := if kd = 1 then s.setS id tm else if kd = 2 then s.canS id else if kd = 3 then s.dueS tm else s
theorem HInv.stepS {s : HS} (h : HInv s) (kd id tm : Int) : HInv (s.stepS kd id tm) := by
  unfold HS.stepS
  split
  · exact h.setS id tm
  · split
    · exact h.canS id
    · split
      · exact h.dueS tm
      · exact h
theorem stepS_c (s : HS) (kd id tm : Int) : (s.stepS kd id tm).c ≤ s.c + 1 := by
  unfold HS.stepS
  split
  · exact setS_c s id tm
  · split
    · exact Int.le_of_lt (Int.lt_add_one_iff.2 (Int.le_refl _))
    · split
      · exact Int.le_of_lt (Int.lt_add_one_iff.2 (Int.le_refl _))
      · exact Int.le_of_lt (Int.lt_add_one_iff.2 (Int.le_refl _))

/-- Both, the program's wheel at b and the document's at rb, stand so. -/
structure PH (w : World) (b : Nat) (vs : List Value) (rb : Nat) (s : HS) : Prop where
  p : HAt w b vs s
  q : QAt w rb (dOf s)
/-- Behind a step of both. -/
def DoH (b : Nat) (vs : List Value) (rb : Nat) (s' : HS) (w : World) (e : Ending) (w' : World) : Prop :=
  e = .returned (.bool true) ∧ ∃ vs', PH w' b vs' rb s' ∧ Chg (rb :: blocksH b vs) w w' ∧ (∀ x ∈ blocksH b vs', x ∈ blocksH b vs ∨ w.heap.size ≤ x)
theorem PH.kept {S : List Nat} {w w' : World} {b : Nat} {vs : List Value} {rb : Nat} {s : HS} (h : PH w b vs rb s) (hC : Chg S w w') (hS : ∀ x ∈ S, x ∉ blocksH b vs ∧ x ≠ rb ∧ NotD w x) : PH w' b vs rb s :=
  ⟨h.p.kept hC (fun x hx => (hS x hx).1), h.q.kept hC (fun x hx => (hS x hx).2)⟩
theorem PH.calm {w w' : World} {b : Nat} {vs : List Value} {rb : Nat} {s : HS} (h : PH w b vs rb s) (hC : Chg [] w w') : PH w' b vs rb s := h.kept hC (by simp)
theorem QAt.notH {w : World} {rb : Nat} {l : DL} (h : QAt w rb l) {b : Nat} {vs : List Value} {s : HS} (hA : HAt w b vs s) : ∀ x ∈ [rb], x ∉ blocksH b vs := fun x hx => by
  simp at hx
  subst hx
  exact h.ne hA

/-- The program's half, then the document's. -/
theorem PH.both {w w1 w2 : World} {b : Nat} {vs vs1 : List Value} {rb : Nat} {s s' : HS} (h : PH w b vs rb s) (hA : HAt w1 b vs1 s') (hC : Chg (blocksH b vs) w w1) (hB : ∀ x ∈ blocksH b vs1, x ∈ blocksH b vs ∨ w.heap.size ≤ x) (hQ : QAt w2 rb (dOf s')) (hC2 : Chg [rb] w1 w2) :
    ∃ vs', PH w2 b vs' rb s' ∧ Chg (rb :: blocksH b vs) w w2 ∧ (∀ x ∈ blocksH b vs', x ∈ blocksH b vs ∨ w.heap.size ≤ x) := by
  have hq1 := h.q.step h.p hC
  exact ⟨vs1, ⟨hA.kept hC2 (hq1.notH hA), hQ⟩, (hC.mono (fun x hx => .inl (List.mem_cons_of_mem _ hx))).trans (hC2.mono (by simp)), hB⟩

set_option maxRecDepth 100000 in
set_option maxHeartbeats 4000000 in
theorem doesc (b : Nat) (vs : List Value) (rb : Nat) (s : HS) (kd id tm : Int) (w : World) (h : PH w b vs rb s) (hc : s.c < 4611686018427387904) :
    Calls Try.prog 12 #[.pointer (some ⟨b, 0, none⟩), .pointer (some ⟨rb, 0, none⟩), .agg #[.int .i64 kd, .int .i64 id, .int .i64 tm]] w (DoH b vs rb (s.stepS kd id tm) w) := by
  obtain ⟨bx, hbx⟩ : ∃ bx, bx = w.heap.size := ⟨_, rfl⟩
  obtain ⟨w1, hw1⟩ : ∃ w1, w1 = w.alloc (.cells #[.int .i64 kd, .int .i64 id, .int .i64 tm] 29 (0, 0)) := ⟨_, rfl⟩
  have hC1 : Chg [] w w1 := by rw [hw1]; exact (Chg.refl _ _).alloc _
  have hnew : w1.heap[bx]? = some (.cells #[.int .i64 kd, .int .i64 id, .int .i64 tm] 29 (0, 0)) := by rw [hw1, hbx]; exact heap_alloc_eq w _
  have h1 := h.calm hC1
  have h2 : PH w1.drew b vs rb s := h1.calm (Chg.refl _ _).drew
  have hfew := dOf_few h.p.inv
  have hnb : bx ∉ blocksH b vs := fun hm => by have := h.p.lt bx hm; omega
  have hnr : bx ≠ rb := by have := h.q.lt; omega
  have c0 := cellB hnew (i := 0) (v := .int .i64 kd) rfl
  have c1 := cellB hnew (i := 1) (v := .int .i64 id) rfl
  have c2 := cellB hnew (i := 2) (v := .int .i64 tm) rfl
  have hI := h.p.inv
  have H := Lib.hid (And.intro h2 (And.intro hC1 (And.intro hnew (And.intro hnb (And.intro hnr (And.intro hfew (And.intro hI hc)))))))
  have HP1 := Lib.hid h1
  clear h h1 h2 hC1 hnew hnb hnr hfew hI hc
  by_cases hk1 : kd = 1
  · subst hk1
    have hS := setc b vs s id tm w1.drew H.out.1.p H.out.2.2.2.2.2.2.2
    have hQ : ∀ W, QAt W rb (dOf s) → Calls Try.prog 26 #[.pointer (some ⟨rb, 0, none⟩), .int .i64 id, .int .i64 tm] W (SetQ rb (dOf (s.setS id tm)) (HS.setE id tm) W) := fun W hW => by
      have := qsetc rb (dOf s) id tm W hW (by have := H.out.2.2.2.2.2.1; omega)
      rwa [dOf_set H.out.2.2.2.2.2.2.1] at this
    have e1 : s.stepS 1 id tm = s.setS id tm := rfl
    rw [e1]
    generalize HS.setE id tm = E at *
    have eE : (E == E) = true := by simp
    have HS1 := Lib.hid (And.intro hS hQ)
    clear hS hQ e1
    go_enter Try.func12, Try.ntmps12
    go_wp2
    rw [← hbx, ← hw1]
    clear hbx hw1
    go_region_held3 (fun w' => w'.cell? ⟨bx, 1, none⟩ = some (.int .i64 id) ∧ w'.cell? ⟨bx, 2, none⟩ = some (.int .i64 tm)) (first | exact ⟨c1, c2⟩ | exact ⟨x1, x2⟩ | exact ⟨y1, y2⟩)
      (first
      | (go_at_call 9; refine HS1.out.1.mono ?_; rintro e w2 ⟨rfl, vs2, hA2, hC2, hB2⟩; have hb2 := hC2.blk (show w1.drew.heap[bx]? = _ from H.out.2.2.1) H.out.2.2.2.1; have x1 := cellB hb2 (i := 1) (v := .int .i64 id) rfl; have x2 := cellB hb2 (i := 2) (v := .int .i64 tm) rfl; have H2 := Lib.hid (And.intro hA2 (And.intro hC2 (And.intro hB2 hb2))); clear hA2 hC2 hB2 hb2)
      | (go_at_call 26; refine (HS1.out.2 w2 (H.out.1.q.step H.out.1.p H2.out.2.1)).mono ?_; rintro e w3 ⟨rfl, hQ3, hC3⟩; have hb3 := hC3.blk H2.out.2.2.2 (by simpa using H.out.2.2.2.2.1); have y1 := cellB hb3 (i := 1) (v := .int .i64 id) rfl; have y2 := cellB hb3 (i := 2) (v := .int .i64 tm) rfl; have H3 := Lib.hid (And.intro hQ3 hC3); clear hQ3 hC3 hb3))
    go_wp2
    go_ret
    obtain ⟨vs', hP, hC, hB⟩ := H.out.1.both H2.out.1 H2.out.2.1 H2.out.2.2.1 H3.out.1 H3.out.2
    exact ⟨rfl, vs', hP, (H.out.2.1.drew.mono (by simp)).trans hC, fun x hx => (hB x hx).imp (fun h => h) (fun h => Nat.le_trans H.out.2.1.size h)⟩
  · have e1 : (kd == 1) = false := by simpa using hk1
    by_cases hk2 : kd = 2
    · subst hk2
      have hS := cancelc b vs s id w1.drew H.out.1.p
      have hQ : ∀ W, QAt W rb (dOf s) → Calls Try.prog 27 #[.pointer (some ⟨rb, 0, none⟩), .int .i64 id] W (CanQ rb (dOf (s.canS id)) (s.canE id) W) := fun W hW => by
        have := qcanc rb (dOf s) id W hW (by have := H.out.2.2.2.2.2.1; omega)
        rwa [dOf_canS H.out.2.2.2.2.2.2.1, dOf_canE H.out.2.2.2.2.2.2.1] at this
      have e3 : s.stepS 2 id tm = s.canS id := rfl
      rw [e3]
      generalize s.canE id = E at *
      have eE : (E == E) = true := by simp
      have HS1 := Lib.hid (And.intro hS hQ)
      clear hS hQ e3
      go_enter Try.func12, Try.ntmps12
      go_wp2
      rw [← hbx, ← hw1]
      clear hbx hw1
      go_region_held3 (fun w' => w'.cell? ⟨bx, 1, none⟩ = some (.int .i64 id)) (first | exact c1 | exact x1 | exact y1)
        (first
        | (go_at_call 10; refine HS1.out.1.mono ?_; rintro e w2 ⟨rfl, vs2, hA2, hC2, hB2⟩; have hb2 := hC2.blk (show w1.drew.heap[bx]? = _ from H.out.2.2.1) H.out.2.2.2.1; have x1 := cellB hb2 (i := 1) (v := .int .i64 id) rfl; have H2 := Lib.hid (And.intro hA2 (And.intro hC2 (And.intro hB2 hb2))); clear hA2 hC2 hB2 hb2)
        | (go_at_call 27; refine (HS1.out.2 w2 (H.out.1.q.step H.out.1.p H2.out.2.1)).mono ?_; rintro e w3 ⟨rfl, hQ3, hC3⟩; have hb3 := hC3.blk H2.out.2.2.2 (by simpa using H.out.2.2.2.2.1); have y1 := cellB hb3 (i := 1) (v := .int .i64 id) rfl; have H3 := Lib.hid (And.intro hQ3 hC3); clear hQ3 hC3 hb3))
      go_wp2
      go_ret
      obtain ⟨vs', hP, hC, hB⟩ := H.out.1.both H2.out.1 H2.out.2.1 H2.out.2.2.1 H3.out.1 H3.out.2
      exact ⟨rfl, vs', hP, (H.out.2.1.drew.mono (by simp)).trans hC, fun x hx => (hB x hx).imp (fun h => h) (fun h => Nat.le_trans H.out.2.1.size h)⟩
    · have e2 : (kd == 2) = false := by simpa using hk2
      by_cases hk3 : kd = 3
      · subst hk3
        have hS := duec b vs s tm w1.drew H.out.1.p
        have hQ : ∀ W, QAt W rb (dOf s) → Calls Try.prog 28 #[.pointer (some ⟨rb, 0, none⟩), .int .i64 tm] W (DueQ W.heap.size rb (dOf s) tm W) := fun W hW => qduec rb (dOf s) tm W hW (by have := H.out.2.2.2.2.2.1; omega)
        have e3 : s.stepS 3 id tm = s.dueS tm := rfl
        rw [e3]
        have hl64 : (s.dueL tm).length ≤ 64 := by
          have h1 := dOf_cut H.out.2.2.2.2.2.2.1 tm
          have h2 := cutD_le (dOf s) tm
          have h3 := H.out.2.2.2.2.2.1
          omega
        have HS1 := Lib.hid (And.intro hS (And.intro hQ hl64))
        clear hS hQ e3 hl64
        go_enter Try.func12, Try.ntmps12
        go_wp2
        rw [← hbx, ← hw1]
        clear hbx hw1
        go_region_held3 (fun w' => w'.cell? ⟨bx, 2, none⟩ = some (.int .i64 tm)) (first | exact c2 | exact x2 | exact y2 | exact z2)
          (first
          | (go_at_call 11; refine HS1.out.1.mono ?_; rintro e w2 ⟨v2, vs2, rfl, ho2, hA2, hC2, hB2, hsep2⟩; obtain ⟨a2, cap2, rfl, hI2⟩ := IntsAt.of_own ho2 rfl; have hb2 := hC2.blk (show w1.drew.heap[bx]? = _ from H.out.2.2.1) H.out.2.2.2.1; have x2 := cellB hb2 (i := 2) (v := .int .i64 tm) rfl; have H2 := Lib.hid (And.intro hA2 (And.intro hC2 (And.intro hB2 (And.intro hb2 ho2)))); clear hA2 hC2 hB2 hb2 ho2 hI2 hsep2)
          | (go_at_call 28; refine (HS1.out.2.1 w2 (H.out.1.q.step H.out.1.p H2.out.2.1)).mono ?_; rintro e w3 ⟨v3, rfl, ho3, hQ3, hC3⟩; rw [dOf_dueS H.out.2.2.2.2.2.2.1] at hQ3; rw [show ((dOf s).take (cutD (dOf s) tm)).map (fun x => Value.int .i64 x.1) = (s.dueL tm).map (Value.int .i64) from by rw [← dOf_dueL H.out.2.2.2.2.2.2.1, List.map_map]; rfl, dOf_cut H.out.2.2.2.2.2.2.1] at ho3; obtain ⟨a3, cap3, rfl, hI3⟩ := IntsAt.of_own ho3 rfl; have hb3 := hC3.blk H2.out.2.2.2.1 (by simpa using H.out.2.2.2.2.1); have y2 := cellB hb3 (i := 2) (v := .int .i64 tm) rfl; have hrb := H.out.1.q.lt; obtain ⟨a2', cap2', e2', hI2'⟩ := IntsAt.of_own (own_kept H2.out.2.2.2.2 hC3 (fun q hq => by simp at hq; subst hq; exact own_notin H2.out.2.2.2.2 hrb)) rfl; simp only [Value.slice.injEq] at e2'; obtain ⟨rfl, _, rfl⟩ := e2'; have H3 := Lib.hid (And.intro hQ3 (And.intro hC3 (And.intro hI2' (And.intro hI3 hb3)))); clear hQ3 hC3 hb3 hI2' hI3 ho3 hrb)
          | (go_at_call 20; refine (lsamec _ _ _ _ (s.dueL tm) (s.dueL tm) w3 H3.out.2.2.1 H3.out.2.2.2.1 (by have := HS1.out.2.2; omega)).mono ?_; rintro e w4 ⟨rfl, hC4⟩; rw [show decide (s.dueL tm = s.dueL tm) = true from decide_eq_true rfl]; have z2 := cellB (hC4.blk H3.out.2.2.2.2 (by simp)) (i := 2) (v := .int .i64 tm) rfl; have H4 := Lib.hid hC4; clear hC4))
        go_wp2
        go_ret
        obtain ⟨vs', hP, hC, hB⟩ := H.out.1.both H2.out.1 H2.out.2.1 H2.out.2.2.1 H3.out.1 H3.out.2.1
        exact ⟨rfl, vs', hP.calm H4.out, ((H.out.2.1.drew.mono (by simp)).trans hC).trans (H4.out.mono (by simp)), fun x hx => (hB x hx).imp (fun h => h) (fun h => Nat.le_trans H.out.2.1.size h)⟩
      · have e3 : (kd == 3) = false := by simpa using hk3
        have e4 : s.stepS kd id tm = s := by unfold HS.stepS; rw [if_neg hk1, if_neg hk2, if_neg hk3]
        rw [e4]
        clear e4 hk1 hk2 hk3
        go_enter Try.func12, Try.ntmps12
        go_wp2
        rw [← hw1]
        clear hbx hw1
        go_ret
        exact ⟨rfl, vs, HP1.out, H.out.2.1.mono (by simp), fun x hx => .inl hx⟩

end Go.Proofs.Ytpaaanjghcloeaa
