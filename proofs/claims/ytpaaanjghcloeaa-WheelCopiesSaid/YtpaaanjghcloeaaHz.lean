
/- metronomelaw07.WheelCopies: two wheels of both kinds, then three; the walk. -/
import Derived.Test.YtpaaanjghcloeaaHy
import Derived.Test.YtpaaanjghcloeaaHl
import Derived.BigQuiet
import Derived.Laws.StructEq
namespace Go.Proofs.Ytpaaanjghcloeaa
open Go.RowKit

/-- Two wheels, each with the document's, apart. -/
structure Two (w : World) (b : Nat) (vs : List Value) (rb : Nat) (s : HS) (c : Nat) (us : List Value) (qb : Nat) (t : HS) (W : World) : Prop where
  p : PH W b vs rb s
  q : PH W c us qb t
  chg : Chg [] w W
  op : ∀ x ∈ blocksH b vs, w.heap.size ≤ x
  oq : ∀ x ∈ blocksH c us, w.heap.size ≤ x
  rp : w.heap.size ≤ rb
  rq : w.heap.size ≤ qb
  sep : ∀ x ∈ blocksH b vs, x ∉ blocksH c us
  ne : rb ≠ qb
theorem Two.swap {w : World} {b : Nat} {vs : List Value} {rb : Nat} {s : HS} {c : Nat} {us : List Value} {qb : Nat} {t : HS} {W : World} (h : Two w b vs rb s c us qb t W) : Two w c us qb t b vs rb s W :=
  ⟨h.q, h.p, h.chg, h.oq, h.op, h.rq, h.rp, fun x hx hm => h.sep x hm hx, fun e => h.ne e.symm⟩
theorem Two.calm {w : World} {b : Nat} {vs : List Value} {rb : Nat} {s : HS} {c : Nat} {us : List Value} {qb : Nat} {t : HS} {W W' : World} (h : Two w b vs rb s c us qb t W) (hC : Chg [] W W') : Two w b vs rb s c us qb t W' :=
  ⟨h.p.calm hC, h.q.calm hC, h.chg.trans hC, h.op, h.oq, h.rp, h.rq, h.sep, h.ne⟩
/-- What a step of the first one may change does not touch a wheel that stands apart. -/
theorem stepNot {W : World} {b : Nat} {vs : List Value} {rb : Nat} {s : HS} (h : PH W b vs rb s) {c : Nat} {us : List Value} {t : HS} (hc : HAt W c us t) (hs : ∀ x ∈ blocksH b vs, x ∉ blocksH c us) : ∀ x ∈ rb :: blocksH b vs, x ∉ blocksH c us := fun x hx => by
  rcases List.mem_cons.1 hx with rfl | hx
  · exact h.q.ne hc
  · exact hs x hx
theorem stepNotQ {W : World} {b : Nat} {vs : List Value} {rb : Nat} {s : HS} (h : PH W b vs rb s) {qb : Nat} {l : DL} (hq : QAt W qb l) (hn : rb ≠ qb) : ∀ x ∈ rb :: blocksH b vs, x ≠ qb ∧ NotD W x := fun x hx => by
  rcases List.mem_cons.1 hx with rfl | hx
  · obtain ⟨a, cap, hb, _⟩ := h.q.open
    exact ⟨hn, NotD.of hb (fun cs fr e => by cases e)⟩
  · exact ⟨fun e => hq.ne h.p (by rw [← e]; exact hx), h.p.notD x hx⟩
theorem Two.next {w : World} {b : Nat} {vs : List Value} {rb : Nat} {s s' : HS} {c : Nat} {us : List Value} {qb : Nat} {t : HS} {W W' : World} {e : Ending} (h : Two w b vs rb s c us qb t W) (hN : DoH b vs rb s' W e W') : ∃ vs', Two w b vs' rb s' c us qb t W' := by
  obtain ⟨_, vs', hP, hC, hB⟩ := hN
  refine ⟨vs', hP, ⟨h.q.p.kept hC (stepNot h.p h.q.p h.sep), h.q.q.kept hC (stepNotQ h.p h.q.q h.ne)⟩, h.chg.trans' hC (fun x hx => .inr ?_), fun x hx => ?_, h.oq, h.rp, h.rq, fun x hx hm => ?_, h.ne⟩
  · rcases List.mem_cons.1 hx with rfl | hx
    · exact h.rp
    · exact h.op x hx
  · rcases hB x hx with h1 | h1
    · exact h.op x h1
    · exact Nat.le_trans h.chg.size h1
  · rcases hB x hx with h1 | h1
    · exact h.sep x h1 hm
    · have := h.q.p.lt x hm
      omega
/-- And a third one of the program's. -/
structure Three (w : World) (b : Nat) (vs : List Value) (rb : Nat) (s : HS) (c : Nat) (us : List Value) (qb : Nat) (t : HS) (o : Nat) (xs : List Value) (W : World) : Prop where
  two : Two w b vs rb s c us qb t W
  ow : HAt W o xs s
  so : ∀ x ∈ blocksH c us, x ∉ blocksH o xs
theorem Three.calm {w : World} {b : Nat} {vs : List Value} {rb : Nat} {s : HS} {c : Nat} {us : List Value} {qb : Nat} {t : HS} {o : Nat} {xs : List Value} {W W' : World} (h : Three w b vs rb s c us qb t o xs W) (hC : Chg [] W W') : Three w b vs rb s c us qb t o xs W' :=
  ⟨h.two.calm hC, h.ow.calm hC, h.so⟩
theorem Three.next {w : World} {b : Nat} {vs : List Value} {rb : Nat} {s t' : HS} {c : Nat} {us : List Value} {qb : Nat} {t : HS} {o : Nat} {xs : List Value} {W W' : World} {e : Ending} (h : Three w b vs rb s c us qb t o xs W) (hN : DoH c us qb t' W e W') : ∃ us', Three w b vs rb s c us' qb t' o xs W' := by
  obtain ⟨us', h2⟩ : ∃ us', Two w c us' qb t' b vs rb s W' ∧ ∀ x ∈ blocksH c us', x ∈ blocksH c us ∨ W.heap.size ≤ x := by
    have hN' := hN
    obtain ⟨e1, us', hP, hC, hB⟩ := hN
    -- the row is the one that the step tells of
    refine ⟨us', ?_, hB⟩
    have h2 := h.two.swap
    refine ⟨hP, ⟨h2.q.p.kept hC (stepNot h2.p h2.q.p h2.sep), h2.q.q.kept hC (stepNotQ h2.p h2.q.q h2.ne)⟩, h2.chg.trans' hC (fun x hx => .inr ?_), fun x hx => ?_, h2.oq, h2.rp, h2.rq, fun x hx hm => ?_, h2.ne⟩
    · rcases List.mem_cons.1 hx with rfl | hx
      · exact h2.rp
      · exact h2.op x hx
    · rcases hB x hx with h1 | h1
      · exact h2.op x h1
      · exact Nat.le_trans h2.chg.size h1
    · rcases hB x hx with h1 | h1
      · exact h2.sep x h1 hm
      · have := h2.q.p.lt x hm
        omega
  obtain ⟨_, _, _, hC, _⟩ := hN
  refine ⟨us', h2.1.swap, h.ow.kept hC (stepNot h.two.q h.ow h.so), fun x hx hm => ?_⟩
  rcases h2.2 x hx with h1 | h1
  · exact h.so x h1 hm
  · have := h.ow.lt x hm
    omega
theorem Two.copied {w : World} {b : Nat} {vs : List Value} {rb : Nat} {s : HS} {o : Nat} {xs : List Value} {qb : Nat} {W W' : World} {e : Ending} (h : Two w b vs rb s o xs qb s W) (hN : CopyP W s e W') : ∃ c us, e = .returned (.pointer (some ⟨c, 0, none⟩)) ∧ Three w b vs rb s c us qb s o xs W' := by
  obtain ⟨c, us, e1, hA, hB, hC⟩ := hN
  refine ⟨c, us, e1, ⟨h.p.calm hC, ⟨hA, h.q.q.calm hC⟩, h.chg.trans hC, h.op, fun x hx => Nat.le_trans h.chg.size (hB x hx), h.rp, h.rq, fun x hx hm => ?_, h.ne⟩, h.q.p.calm hC, fun x hx hm => ?_⟩
  · have h1 := h.p.p.lt x hx
    have h2 := hB x hm
    omega
  · have h1 := h.q.p.lt x hm
    have h2 := hB x hx
    omega
theorem eqlOne (x1 x2 y1 y2 : Int) (w : World) : (binOp .eql 45 (.agg #[.int .i64 x1, .int .i64 x2]) (.agg #[.int .i64 y1, .int .i64 y2])).run Try.prog w = .ok (.bool (decide ((x1, x2) = (y1, y2)))) w := by
  rw [run_eql_struct, show (10000 : Nat) = 9998 + 1 + 1 from rfl, run_equalIn_struct w 9999 45 _ _ (by kernel_rfl) (by kernel_rfl)]
  have hf : (Try.prog.fieldsOf 45).toList = [(Try.prog.fieldsOf 45)[0]!, (Try.prog.fieldsOf 45)[1]!] := by kernel_rfl
  rw [hf]
  have h0 : (part ((Try.prog.fieldsOf 45)[0]!).type #[.int .i64 x1, .int .i64 x2] ((Try.prog.fieldsOf 45)[0]!).offset).run Try.prog w = .ok (.int .i64 x1) w := by kernel_rfl
  have h1 : (part ((Try.prog.fieldsOf 45)[1]!).type #[.int .i64 x1, .int .i64 x2] ((Try.prog.fieldsOf 45)[1]!).offset).run Try.prog w = .ok (.int .i64 x2) w := by kernel_rfl
  have h2 : (part ((Try.prog.fieldsOf 45)[0]!).type #[.int .i64 y1, .int .i64 y2] ((Try.prog.fieldsOf 45)[0]!).offset).run Try.prog w = .ok (.int .i64 y1) w := by kernel_rfl
  have h3 : (part ((Try.prog.fieldsOf 45)[1]!).type #[.int .i64 y1, .int .i64 y2] ((Try.prog.fieldsOf 45)[1]!).offset).run Try.prog w = .ok (.int .i64 y2) w := by kernel_rfl
  have n0 : ((Try.prog.fieldsOf 45)[0]!).name ≠ "_" := by decide +kernel
  have n1 : ((Try.prog.fieldsOf 45)[1]!).name ≠ "_" := by decide +kernel
  have u0 : Try.prog.underlying ((Try.prog.fieldsOf 45)[0]!).type = some (.int .i64) := by kernel_rfl
  have u1 : Try.prog.underlying ((Try.prog.fieldsOf 45)[1]!).type = some (.int .i64) := by kernel_rfl
  have e0 := run_equalIn_int (P := Try.prog) w 9998 _ .i64 .i64 x1 y1 u0
  have e1 := run_equalIn_int (P := Try.prog) w 9998 _ .i64 .i64 x2 y2 u1
  unfold Op.eqFields Op.eqFields Op.eqFields
  rw [if_pos n0, if_pos n1]
  simp only [Sem.run_bind, Sem.run_ite, Sem.run_pure, h0, h1, h2, h3, e0, e1, Result.andThen_ok]
  cases hx : x1 == y1 <;> cases hy : x2 == y2 <;> simp_all
theorem sameH_rfl (l : HL) : sameH l l = true := decide_eq_true rfl

/-- How far two rows were seen to be the same. -/
def Seen (l m : DL) (k : Nat) (A : Bool) : Prop := k ≤ l.length ∧ (A = true → l.length = m.length ∧ ∀ j : Nat, j < k → l[j]? = m[j]?) ∧ (A = false → l ≠ m)
theorem Seen.start (l m : DL) : Seen l m 0 (decide (l.length = m.length)) :=
  ⟨Nat.zero_le _, fun h => ⟨of_decide_eq_true h, fun j hj => absurd hj (Nat.not_lt_zero j)⟩, fun h e => of_decide_eq_false h (by rw [e])⟩
theorem Seen.step {l m : DL} {k : Nat} (h : Seen l m k true) {x y : Int × Int} (hx : l[k]? = some x) (hy : m[k]? = some y) : Seen l m (k + 1) (decide (x = y)) := by
  have hk := (List.getElem?_eq_some_iff.1 hx).1
  refine ⟨hk, fun e => ⟨(h.2.1 rfl).1, fun j hj => ?_⟩, fun e1 e2 => of_decide_eq_false e1 ?_⟩
  · by_cases hjk : j = k
    · subst hjk
      rw [hx, hy, of_decide_eq_true e]
    · exact (h.2.1 rfl).2 j (by omega)
  · subst e2
    rw [hx] at hy
    exact Option.some.inj hy
theorem Seen.done {l m : DL} {k : Nat} {A : Bool} (h : Seen l m k A) (he : A = false ∨ ¬ k < l.length) : A = decide (l = m) := by
  cases A with
  | false => exact (decide_eq_false (h.2.2 rfl)).symm
  | true =>
    refine (decide_eq_true ?_).symm
    obtain ⟨h1, h2⟩ := h.2.1 rfl
    have hk : ¬ k < l.length := he.resolve_left (by simp)
    apply List.ext_getElem?
    intro j
    by_cases hj : j < k
    · exact h2 j hj
    · rw [List.getElem?_eq_none (by omega), List.getElem?_eq_none (by omega)]

set_option maxRecDepth 100000 in
set_option maxHeartbeats 8000000 in
theorem wheelCopies_any (v0 v1 : Value) (R0 R1 : List (Nat → Int)) (w : World) (h0 : IsRows 3 w v0 R0) (h1 : IsRows 3 w v1 R1) :
    Calls Try.prog 5 #[v0, v1] w fun e w' => e = .returned (.bool true) ∧ Chg [] w w' := by
  obtain ⟨a0, cap0, rfl⟩ := h0.slice
  obtain ⟨a1, cap1, rfl⟩ := h1.slice
  obtain ⟨N, hN⟩ : ∃ N, N = R0.length := ⟨_, rfl⟩
  obtain ⟨M, hM⟩ : ∃ M, M = R1.length := ⟨_, rfl⟩
  rw [← hN] at h0 ⊢
  rw [← hM] at h1 ⊢
  have H0 := Lib.hid (And.intro h0 hN)
  have H1 := Lib.hid (And.intro h1 hM)
  clear h0 hN h1 hM
  have hways : decide ((100 : Int) < (N : Int)) = true ∨ (decide ((100 : Int) < (N : Int)) = false ∧ decide ((100 : Int) < (M : Int)) = true) ∨ (decide ((100 : Int) < (N : Int)) = false ∧ decide ((100 : Int) < (M : Int)) = false) := by
    simp only [decide_eq_true_eq, decide_eq_false_iff_not]
    omega
  rcases hways with d1 | ⟨d1, d2⟩ | ⟨d1, d2⟩
  iterate 2
    · go_enter Try.func5, Try.ntmps5
      go_wp2_with fail
      refine (knownc w).mono ?_
      rintro e w' ⟨rfl, hC⟩
      have HC := Lib.hid hC
      clear hC
      go_wp2
      go_ret
      exact ⟨rfl, HC.out⟩
  · have hN1 : N ≤ 100 := by simp at d1; omega
    have hM1 : M ≤ 100 := by simp at d2; omega
    go_enter Try.func5, Try.ntmps5
    go_wp2_with fail
    refine (newc w).mono ?_
    rintro e w1 ⟨b, rfl, hb, hA, hC⟩
    have HA := Lib.hid (And.intro hb (And.intro hA hC))
    clear hb hA hC
    go_wp2_with fail
    refine (newc w1).mono ?_
    rintro e w2 ⟨o, rfl, ho, hA2, hC2⟩
    obtain ⟨rb, hrb⟩ : ∃ rb, rb = w2.heap.size := ⟨_, rfl⟩
    obtain ⟨w4, hw4⟩ : ∃ w4, w4 = (w2.alloc (.cells #[.slice none 0 0] 39 (0, 0))).alloc (.cells #[.slice none 0 0] 39 (0, 0)) := ⟨_, rfl⟩
    have hT0 : Two w b vs0 rb hs0 o vs0 (rb + 1) hs0 w4 := by
      obtain ⟨hb, hA, hC⟩ := HA.out
      have hC24 : Chg [] w2 w4 := by rw [hw4]; exact ((Chg.refl _ _).alloc _).alloc _
      have z1 := hC.size
      have z2 := hC2.size
      have z3 := hA.lt b (mem_blocks.2 (.inl rfl))
      refine ⟨⟨(hA.calm hC2).calm hC24, QAt.new ?_⟩, ⟨hA2.calm hC24, QAt.new ?_⟩, (hC.trans hC2).trans hC24, fun x hx => ?_, fun x hx => ?_, by omega, by omega, fun x hx hm => ?_, by omega⟩
      · rw [hw4, hrb]; exact blk_alloc (heap_alloc_eq w2 _) _
      · rw [hw4, hrb]
        have := heap_alloc_eq (w2.alloc (.cells #[.slice none 0 0] 39 (0, 0))) (.cells #[.slice none 0 0] 39 (0, 0))
        rwa [World.size_alloc] at this
      · rw [blocks0] at hx; simp at hx; omega
      · rw [blocks0] at hx; simp at hx; omega
      · rw [blocks0] at hx hm; simp at hx hm; omega
    have HT0 := Lib.hid hT0
    clear hA2 hC2 hT0 ho
    go_wp2_with (refine wpList_build00 (P := Try.prog) rfl 39 rfl _ (buildR _) ?_)
    rw [← hw4, ← hrb]
    clear hw4 hrb HA
    go_loopw [9] (fun i wr => ∃ k : Nat, k ≤ N ∧ i = .int .i64 k ∧ ∃ vs xs s, Two w b vs rb s o xs (rb + 1) s wr ∧ s.c ≤ k) (fun i _ => N - (intOf i).toNat)
    case atStart => exact ⟨0, by omega, rfl, vs0, vs0, hs0, HT0.out, by simp [hs0]⟩
    case round =>
      obtain ⟨k, hk, rfl, vs, xs, s, hT, hc⟩ := hrel
      by_cases hlt : k < N
      · obtain ⟨x, hx⟩ : ∃ x, R0[k]? = some x := ⟨_, List.getElem?_eq_getElem (by have := H0.out.2; omega)⟩
        obtain ⟨g, of, cp, hg, hd⟩ := (show IsRows 3 w (.slice a0 R0.length cap0) R0 from by rw [← H0.out.2]; exact H0.out.1).addr (fun e => by rw [e] at hx; simp at hx)
        cases hg
        have HR := Lib.hid (And.intro hd hx)
        have hrow := IsRows.row hd hT.chg hx
        have d0 := hrow 0 (by omega)
        have d1' := hrow 1 (by omega)
        have d2' := hrow 2 (by omega)
        rw [Nat.add_zero] at d0
        obtain ⟨kd, hkd⟩ : ∃ kd, kd = x 0 := ⟨_, rfl⟩
        obtain ⟨id, hid⟩ : ∃ id, id = x 1 := ⟨_, rfl⟩
        obtain ⟨tm, htm⟩ : ∃ tm, tm = x 2 := ⟨_, rfl⟩
        rw [← hkd] at d0
        rw [← hid] at d1'
        rw [← htm] at d2'
        have HX := Lib.hid (And.intro hT (And.intro hc (And.intro hkd (And.intro hid htm))))
        clear hx hd hT hc hrow hkd hid htm
        go_wp2_with fail
        refine (doesc b vs rb s kd id tm _ HX.out.1.p (by have := HX.out.2.1; omega)).mono ?_
        intro e w5 hD
        obtain ⟨vs5, hT5⟩ := HX.out.1.next hD
        obtain ⟨rfl, _⟩ := hD
        have hrow := IsRows.row HR.out.1 hT5.chg HR.out.2
        have d0 := hrow 0 (by omega)
        have d1' := hrow 1 (by omega)
        have d2' := hrow 2 (by omega)
        rw [Nat.add_zero, ← HX.out.2.2.1] at d0
        rw [← HX.out.2.2.2.1] at d1'
        rw [← HX.out.2.2.2.2] at d2'
        have H5 := Lib.hid hT5
        clear hT5 hrow
        go_wp2_with fail
        refine (doesc o xs (rb + 1) s kd id tm _ H5.out.q (by have := HX.out.2.1; omega)).mono ?_
        intro e w6 hD
        obtain ⟨xs6, hT6⟩ := H5.out.swap.next hD
        obtain ⟨rfl, _⟩ := hD
        have H6 := Lib.hid hT6.swap
        clear hT6
        go_wp2
        go_roundw
        case measure => simp [intOf]; omega
        refine ⟨k + 1, by omega, by simp [go_sem], vs5, xs6, _, H6.out, ?_⟩
        have h1 := stepS_c s kd id tm
        have h2 := HX.out.2.1
        omega
      · obtain rfl : N = k := by omega
        have HX := Lib.hid (And.intro hT hc)
        clear hT hc H0
        go_wp2_with fail
        refine (copyc b vs s _ HX.out.1.p.p).mono ?_
        intro e w2 hD
        obtain ⟨c, us, rfl, hT⟩ := HX.out.1.copied hD
        have H2 := Lib.hid hT
        clear hT hD
        go_wp2_with fail
        refine (samec b c vs us s s _ H2.out.two.p.p H2.out.two.q.p).mono ?_
        rintro e w3 ⟨rfl, hC3⟩
        rw [sameH_rfl]
        have H3 := Lib.hid (H2.out.calm hC3)
        clear hC3
        go_wp2_with fail
        refine (samec b o vs xs s s _ H3.out.two.p.p H3.out.ow).mono ?_
        rintro e w4 ⟨rfl, hC4⟩
        rw [sameH_rfl]
        have H4 := Lib.hid (H3.out.calm hC4)
        clear hC4
        go_wp2_with fail
        refine (samec c o us xs s s _ H4.out.two.q.p H4.out.ow).mono ?_
        rintro e w5 ⟨rfl, hC5⟩
        rw [sameH_rfl]
        have H5 := Lib.hid (And.intro (H4.out.calm hC5) HX.out.2)
        clear hC5 H2 H3 H4 HX
        go_wp2
        go_loopw [11] (fun i wr => ∃ k : Nat, k ≤ M ∧ i = .int .i64 k ∧ ∃ us t, Three w b vs rb s c us (rb + 1) t o xs wr ∧ t.c ≤ 100 + k) (fun i _ => M - (intOf i).toNat)
        case atStart => exact ⟨0, by omega, rfl, us, s, H5.out.1, by have := H5.out.2; omega⟩
        case round =>
          clear H5
          clear us
          obtain ⟨k, hk, rfl, us, t, hT, hc⟩ := hrel
          by_cases hlt : k < M
          · obtain ⟨x, hx⟩ : ∃ x, R1[k]? = some x := ⟨_, List.getElem?_eq_getElem (by have := H1.out.2; omega)⟩
            obtain ⟨g, of, cp, hg, hd⟩ := (show IsRows 3 w (.slice a1 R1.length cap1) R1 from by rw [← H1.out.2]; exact H1.out.1).addr (fun e => by rw [e] at hx; simp at hx)
            cases hg
            have hrow := IsRows.row hd hT.two.chg hx
            have d0 := hrow 0 (by omega)
            have d1' := hrow 1 (by omega)
            have d2' := hrow 2 (by omega)
            rw [Nat.add_zero] at d0
            obtain ⟨kd, hkd⟩ : ∃ kd, kd = x 0 := ⟨_, rfl⟩
            obtain ⟨id, hid⟩ : ∃ id, id = x 1 := ⟨_, rfl⟩
            obtain ⟨tm, htm⟩ : ∃ tm, tm = x 2 := ⟨_, rfl⟩
            rw [← hkd] at d0
            rw [← hid] at d1'
            rw [← htm] at d2'
            have HX := Lib.hid (And.intro hT hc)
            clear hx hd hT hc hrow hkd hid htm
            go_wp2_with fail
            refine (doesc c us (rb + 1) t kd id tm _ HX.out.1.two.q (by have := HX.out.2; omega)).mono ?_
            intro e w6 hD
            obtain ⟨us6, hT6⟩ := HX.out.1.next hD
            obtain ⟨rfl, _⟩ := hD
            have H6 := Lib.hid hT6
            clear hT6
            go_wp2
            go_roundw
            case measure => simp [intOf]; omega
            refine ⟨k + 1, by omega, by simp [go_sem], us6, _, H6.out, ?_⟩
            have h1 := stepS_c t kd id tm
            have h2 := HX.out.2
            omega
          · obtain rfl : M = k := by omega
            clear hc H1
            obtain ⟨ar, capr, hbr, hrr⟩ := hT.two.p.q.open
            obtain ⟨aq, capq, hbq, hrq⟩ := hT.two.q.q.open
            obtain ⟨n1, hn1⟩ : ∃ n1, n1 = (dOf s).length := ⟨_, rfl⟩
            obtain ⟨n2, hn2⟩ : ∃ n2, n2 = (dOf t).length := ⟨_, rfl⟩
            rw [← hn1] at hbr
            rw [← hn2] at hbq
            have cr := cellB hbr (i := 0) (v := .slice ar n1 capr) rfl
            have cq := cellB hbq (i := 0) (v := .slice aq n2 capq) rfl
            have f1 := dOf_few hT.two.p.p.inv
            have f2 := dOf_few hT.two.q.p.inv
            rw [← hn1] at f1
            rw [← hn2] at f2
            have HT := Lib.hid hT
            have HB := Lib.hid (And.intro hbr (And.intro hrr (And.intro hbq (And.intro hrq (And.intro hn1 hn2)))))
            clear hT hbr hrr hbq hrq hn1 hn2
            go_wp2_with fail
            go_quiet (fail)
            rename_i nq
            obtain ⟨Wd, hWd⟩ : ∃ Wd, Wd = wr.drewN nq := ⟨_, rfl⟩
            rw [← hWd]
            have hCd : Chg [] wr Wd := by rw [hWd]; exact (Chg.refl _ _).drewN nq
            have HCd := Lib.hid hCd
            clear hWd hCd cr cq
            go_wp2
            go_loopw [12, 13] (fun al i w6 => ∃ (k : Nat) (A : Bool), i = .int .i64 k ∧ al = .bool A ∧ Seen (dOf t) (dOf s) k A ∧ Chg [] wr w6) (fun _ i _ => n2 - (intOf i).toNat)
            case atStart =>
              refine ⟨0, _, rfl, rfl, ?_, HCd.out⟩
              have h1 := Seen.start (dOf t) (dOf s)
              rw [← HB.out.2.2.2.2.1, ← HB.out.2.2.2.2.2] at h1
              have e : ((n2 : Int) == (n1 : Int)) = decide (n2 = n1) := by rw [Bool.eq_iff_iff]; simp; omega
              rw [e]
              exact h1
            case round =>
              obtain ⟨k, A, rfl, rfl, hS, hC⟩ := hrel
              have HC := Lib.hid (And.intro hC hS)
              have cr := cellB (hC.blk HB.out.1 (by simp)) (i := 0) (v := .slice ar n1 capr) rfl
              have cq := cellB (hC.blk HB.out.2.2.1 (by simp)) (i := 0) (v := .slice aq n2 capq) rfl
              by_cases hkn : k < n2
              · cases A with
                | true =>
                  have hn12 : n2 = n1 := by rw [HB.out.2.2.2.2.1, HB.out.2.2.2.2.2]; exact (hS.2.1 rfl).1
                  have hkn1 : k < n1 := by omega
                  obtain ⟨x, hx⟩ : ∃ x, (dOf t)[k]? = some x := ⟨_, List.getElem?_eq_getElem (by have := HB.out.2.2.2.2.2; omega)⟩
                  obtain ⟨y, hy⟩ : ∃ y, (dOf s)[k]? = some y := ⟨_, List.getElem?_eq_getElem (by have := HB.out.2.2.2.2.1; omega)⟩
                  obtain ⟨gq, rfl, _, _⟩ := HB.out.2.2.2.1.pt (fun e => by rw [e] at hx; simp at hx)
                  obtain ⟨gr, rfl, _, _⟩ := HB.out.2.1.pt (fun e => by rw [e] at hy; simp at hy)
                  obtain ⟨q0, q1⟩ := (HB.out.2.2.2.1.calm hC).cells hx
                  obtain ⟨r0, r1⟩ := (HB.out.2.1.calm hC).cells hy
                  have HS2 := Lib.hid (hS.step hx hy)
                  obtain ⟨x1, x2⟩ := x
                  obtain ⟨y1, y2⟩ := y
                  dsimp only at q0 q1 r0 r1
                  have hE := fun (W : World) => eqlOne x1 x2 y1 y2 W
                  clear hx hy hS hC
                  go_wp2_with fail
                  go_quiet (fail)
                  go_wp2
                  go_roundw
                  case measure => simp [intOf]; omega
                  refine ⟨k + 1, _, by simp [go_sem], rfl, (show decide ((x1, x2) = (y1, y2)) = (decide (x1 = y1) && decide (x2 = y2)) from by rw [Bool.eq_iff_iff]; simp) ▸ HS2.out, HC.out.1.trans ((Chg.refl _ _).drewN _)⟩
                | false =>
                  have hout : false = false ∨ ¬ k < (dOf t).length := .inl rfl
                  have hend := hS.done hout
                  have HS3 := Lib.hid (And.intro hC (And.intro hend HT.out))
                  clear hS hC hend hout HC
                  go_wp2_with fail
                  refine (samec b o vs xs s s _ (HT.out.calm HS3.out.1).two.p.p (HT.out.calm HS3.out.1).ow).mono ?_
                  rintro e w7 ⟨rfl, hC7⟩
                  rw [sameH_rfl]
                  have H7 := Lib.hid ((HT.out.calm HS3.out.1).calm hC7)
                  clear hC7
                  go_wp2_with fail
                  refine (samec c b us vs t s _ H7.out.two.q.p H7.out.two.p.p).mono ?_
                  rintro e w8 ⟨rfl, hC8⟩
                  rw [sameH_dOf, show decide (dOf t = dOf s) = false from HS3.out.2.1.symm]
                  have H8 := Lib.hid (H7.out.calm hC8)
                  clear hC8
                  go_wp2_with fail
                  refine (stands07 b vs rb s 0 (-1) _ H8.out.two.p).mono ?_
                  rintro e w9 ⟨rfl, hC9⟩
                  have H9 := Lib.hid (H8.out.calm hC9)
                  clear hC9
                  go_wp2_with fail
                  refine (knownc _).mono ?_
                  rintro e w10 ⟨rfl, hC10⟩
                  have H10 := Lib.hid (H9.out.calm hC10)
                  clear hC10
                  go_wp2
                  go_ret
                  exact ⟨rfl, H10.out.two.chg⟩
              · cases A with
                | true =>
                  have hout : true = false ∨ ¬ k < (dOf t).length := .inr (by rw [← HB.out.2.2.2.2.2]; exact hkn)
                  have hend := hS.done hout
                  have HS3 := Lib.hid (And.intro hC (And.intro hend HT.out))
                  clear hS hC hend hout HC
                  go_wp2_with fail
                  refine (samec b o vs xs s s _ (HT.out.calm HS3.out.1).two.p.p (HT.out.calm HS3.out.1).ow).mono ?_
                  rintro e w7 ⟨rfl, hC7⟩
                  rw [sameH_rfl]
                  have H7 := Lib.hid ((HT.out.calm HS3.out.1).calm hC7)
                  clear hC7
                  go_wp2_with fail
                  refine (samec c b us vs t s _ H7.out.two.q.p H7.out.two.p.p).mono ?_
                  rintro e w8 ⟨rfl, hC8⟩
                  rw [sameH_dOf, show decide (dOf t = dOf s) = true from HS3.out.2.1.symm]
                  have H8 := Lib.hid (H7.out.calm hC8)
                  clear hC8
                  go_wp2_with fail
                  refine (stands07 b vs rb s 0 (-1) _ H8.out.two.p).mono ?_
                  rintro e w9 ⟨rfl, hC9⟩
                  have H9 := Lib.hid (H8.out.calm hC9)
                  clear hC9
                  go_wp2_with fail
                  refine (knownc _).mono ?_
                  rintro e w10 ⟨rfl, hC10⟩
                  have H10 := Lib.hid (H9.out.calm hC10)
                  clear hC10
                  go_wp2
                  go_ret
                  exact ⟨rfl, H10.out.two.chg⟩
                | false =>
                  have hout : false = false ∨ ¬ k < (dOf t).length := .inl rfl
                  have hend := hS.done hout
                  have HS3 := Lib.hid (And.intro hC (And.intro hend HT.out))
                  clear hS hC hend hout HC
                  go_wp2_with fail
                  refine (samec b o vs xs s s _ (HT.out.calm HS3.out.1).two.p.p (HT.out.calm HS3.out.1).ow).mono ?_
                  rintro e w7 ⟨rfl, hC7⟩
                  rw [sameH_rfl]
                  have H7 := Lib.hid ((HT.out.calm HS3.out.1).calm hC7)
                  clear hC7
                  go_wp2_with fail
                  refine (samec c b us vs t s _ H7.out.two.q.p H7.out.two.p.p).mono ?_
                  rintro e w8 ⟨rfl, hC8⟩
                  rw [sameH_dOf, show decide (dOf t = dOf s) = false from HS3.out.2.1.symm]
                  have H8 := Lib.hid (H7.out.calm hC8)
                  clear hC8
                  go_wp2_with fail
                  refine (stands07 b vs rb s 0 (-1) _ H8.out.two.p).mono ?_
                  rintro e w9 ⟨rfl, hC9⟩
                  have H9 := Lib.hid (H8.out.calm hC9)
                  clear hC9
                  go_wp2_with fail
                  refine (knownc _).mono ?_
                  rintro e w10 ⟨rfl, hC10⟩
                  have H10 := Lib.hid (H9.out.calm hC10)
                  clear hC10
                  go_wp2
                  go_ret
                  exact ⟨rfl, H10.out.two.chg⟩

end Go.Proofs.Ytpaaanjghcloeaa
