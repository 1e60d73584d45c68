
/- metronomelaw15.LockSame answers true, whatever the steps: two pairs of locks, apart from each other. -/
import Derived.Test.YtpdfeinbbjfcaaaGreatKj
import Derived.Test.YtpdfeinbbjfcaaaGreatKgc
import Derived.Test.YtpdfeinbbjfcaaaGreatKm
namespace Go.Proofs.YtpdfeinbbjfcaaaGreat
open Go.RowKit

/-- A lock and the document's, side by side. -/
structure KB (W : World) (cb rb a0 m0 a1 m1 rc rr rw : Nat) (N : Int) (s : LS) : Prop where
  l : LAt W cb rb a0 m0 a1 m1 N s
  d : DAt W rc rr rw s
theorem KB.notW {w : World} {cb rb a0 m0 a1 m1 rc rr rw : Nat} {N : Int} {s : LS} (h : KB w cb rb a0 m0 a1 m1 rc rr rw N s) : ∀ k ∈ [cb, rb, a0, m0, a1, m1, rc, rr, rw], NotW w k := by
  intro k hk
  simp only [List.mem_cons, List.not_mem_nil, or_false] at hk
  rcases hk with rfl | rfl | rfl | rfl | rfl | rfl | rfl | rfl | rfl
  · exact h.l.notW _ (by simp)
  · exact h.l.notW _ (by simp)
  · exact h.l.notW _ (by simp)
  · exact h.l.notW _ (by simp)
  · exact h.l.notW _ (by simp)
  · exact h.l.notW _ (by simp)
  · exact h.d.nc.2.2
  · exact h.d.rd.notW
  · exact h.d.wt.notW
theorem KB.lt {w : World} {cb rb a0 m0 a1 m1 rc rr rw : Nat} {N : Int} {s : LS} (h : KB w cb rb a0 m0 a1 m1 rc rr rw N s) : ∀ k ∈ [cb, rb, a0, m0, a1, m1, rc, rr, rw], k < w.heap.size := by
  intro k hk
  simp only [List.mem_cons, List.not_mem_nil, or_false] at hk
  rcases hk with rfl | rfl | rfl | rfl | rfl | rfl | rfl | rfl | rfl
  · exact h.l.lt _ (by simp)
  · exact h.l.lt _ (by simp)
  · exact h.l.lt _ (by simp)
  · exact h.l.lt _ (by simp)
  · exact h.l.lt _ (by simp)
  · exact h.l.lt _ (by simp)
  · exact h.d.lt _ (by simp)
  · exact h.d.lt _ (by simp)
  · exact h.d.lt _ (by simp)
theorem KB.kept {S : List Nat} {w w' : World} {cb rb a0 m0 a1 m1 rc rr rw : Nat} {N : Int} {s : LS} (h : KB w cb rb a0 m0 a1 m1 rc rr rw N s) (hC : Chg S w w') (hS : ∀ k ∈ S, NotW w k ∧ ∀ j ∈ [cb, rb, a0, m0, a1, m1, rc, rr, rw], k ≠ j) : KB w' cb rb a0 m0 a1 m1 rc rr rw N s :=
  ⟨h.l.kept hC (fun k hk hm => (hS k hk).2 k (List.mem_append.2 (.inl hm) : k ∈ [cb, rb, a0, m0, a1, m1] ++ [rc, rr, rw]) rfl),
    h.d.kept hC (fun k hk => ⟨fun hm => (hS k hk).2 k (List.mem_append.2 (.inr hm) : k ∈ [cb, rb, a0, m0, a1, m1] ++ [rc, rr, rw]) rfl, (hS k hk).1⟩)⟩
theorem KB.calm {w w' : World} {cb rb a0 m0 a1 m1 rc rr rw : Nat} {N : Int} {s : LS} (h : KB w cb rb a0 m0 a1 m1 rc rr rw N s) (hC : Chg [] w w') : KB w' cb rb a0 m0 a1 m1 rc rr rw N s := h.kept hC (by simp)

structure KTwo (B : Nat) (W : World) (c1 r1 a1 m1 b1 n1 d1 e1 f1 : Nat) (N1 : Int) (s : LS) (c2 r2 a2 m2 b2 n2 d2 e2 f2 : Nat) (N2 : Int) (t : LS) : Prop where
  A : KB W c1 r1 a1 m1 b1 n1 d1 e1 f1 N1 s
  C : KB W c2 r2 a2 m2 b2 n2 d2 e2 f2 N2 t
  ne : ∀ x ∈ [c1, r1, a1, m1, b1, n1, d1, e1, f1], ∀ y ∈ [c2, r2, a2, m2, b2, n2, d2, e2, f2], x ≠ y
  ge1 : ∀ x ∈ [c1, r1, a1, m1, b1, n1, d1, e1, f1], B ≤ x
  ge2 : ∀ x ∈ [c2, r2, a2, m2, b2, n2, d2, e2, f2], B ≤ x
theorem KTwo.swap {B : Nat} {W : World} {c1 r1 a1 m1 b1 n1 d1 e1 f1 : Nat} {N1 : Int} {s : LS} {c2 r2 a2 m2 b2 n2 d2 e2 f2 : Nat} {N2 : Int} {t : LS} (h : KTwo B W c1 r1 a1 m1 b1 n1 d1 e1 f1 N1 s c2 r2 a2 m2 b2 n2 d2 e2 f2 N2 t) : KTwo B W c2 r2 a2 m2 b2 n2 d2 e2 f2 N2 t c1 r1 a1 m1 b1 n1 d1 e1 f1 N1 s :=
  ⟨h.C, h.A, fun x hx y hy => (h.ne y hy x hx).symm, h.ge2, h.ge1⟩
theorem KTwo.calm {W' : World} {B : Nat} {W : World} {c1 r1 a1 m1 b1 n1 d1 e1 f1 : Nat} {N1 : Int} {s : LS} {c2 r2 a2 m2 b2 n2 d2 e2 f2 : Nat} {N2 : Int} {t : LS} (h : KTwo B W c1 r1 a1 m1 b1 n1 d1 e1 f1 N1 s c2 r2 a2 m2 b2 n2 d2 e2 f2 N2 t) (hC : Chg [] W W') : KTwo B W' c1 r1 a1 m1 b1 n1 d1 e1 f1 N1 s c2 r2 a2 m2 b2 n2 d2 e2 f2 N2 t :=
  ⟨h.A.calm hC, h.C.calm hC, h.ne, h.ge1, h.ge2⟩
theorem KTwo.step {w W' : World} {N' : Int} {s' : LS} {e : Ending} {B : Nat} {W : World} {c1 r1 a1 m1 b1 n1 d1 e1 f1 : Nat} {N1 : Int} {s : LS} {c2 r2 a2 m2 b2 n2 d2 e2 f2 : Nat} {N2 : Int} {t : LS} (h : KTwo B W c1 r1 a1 m1 b1 n1 d1 e1 f1 N1 s c2 r2 a2 m2 b2 n2 d2 e2 f2 N2 t) (hG : Chg [] w W) (hB : B = w.heap.size) (hD : DoK c1 r1 a1 m1 b1 n1 d1 e1 f1 N' s' W e W') :
    ∃ c' r' a' m' b' n', e = .returned (.tuple #[.pointer (some ⟨c', 0, none⟩), .pointer (some ⟨d1, 0, none⟩), .bool true]) ∧ KTwo B W' c' r' a' m' b' n' d1 e1 f1 N' s' c2 r2 a2 m2 b2 n2 d2 e2 f2 N2 t ∧ Chg [] w W' := by
  subst hB
  obtain ⟨c', r', a', m', b', n', he, hL, hd, hC, hb⟩ := hD
  have lt := h.C.lt
  have hs := hG.size
  have hall : ∀ x ∈ [c', r', a', m', b', n', d1, e1, f1], x ∈ [c1, r1, a1, m1, b1, n1, d1, e1, f1] ∨ W.heap.size ≤ x := by
    intro x hx
    rcases hb with ⟨rfl, rfl, rfl, rfl, rfl, rfl⟩ | hb
    · exact .inl hx
    · rcases (List.mem_append.1 hx : x ∈ [c', r', a', m', b', n'] ∨ x ∈ [d1, e1, f1]) with hx | hx
      · exact .inr (hb x hx)
      · exact .inl (List.mem_append.2 (.inr hx) : x ∈ [c1, r1, a1, m1, b1, n1] ++ [d1, e1, f1])
  refine ⟨c', r', a', m', b', n', he, ⟨⟨hL, hd⟩, h.C.kept hC (fun k hk => ⟨h.A.notW k hk, fun j hj => h.ne k hk j hj⟩), fun x hx y hy => ?_, fun x hx => ?_, h.ge2⟩, hG.trans' hC (fun k hk => .inr (h.ge1 k hk))⟩
  · rcases hall x hx with hx | hx
    · exact h.ne x hx y hy
    · have := lt y hy
      omega
  · rcases hall x hx with hx | hx
    · exact h.ge1 x hx
    · omega


set_option maxRecDepth 100000 in
set_option maxHeartbeats 8000000 in
theorem lockSame_any (v u : Value) (R S : List (Nat → Int)) (w : World) (hv : IsRows 3 w v R) (hu : IsRows 3 w u S) :
    Calls Tryz.prog 4 #[v, u] w fun e w' => e = .returned (.bool true) ∧ Chg [] w w' := by
  obtain ⟨a, cap, rfl⟩ := hv.slice
  obtain ⟨b, cap2, rfl⟩ := hu.slice
  have HV := Lib.hid (And.intro hv hu)
  clear hv hu
  obtain ⟨n, hn⟩ : ∃ n, n = R.length := ⟨_, rfl⟩
  obtain ⟨m, hm⟩ : ∃ m, m = S.length := ⟨_, rfl⟩
  rw [← hn, ← hm]
  have HN := Lib.hid (And.intro hn hm)
  clear hn hm
  go_enter Tryz.func4, Tryz.ntmps4
  go_wp2_with fail
  refine (lnewc w).mono ?_
  rintro e w1 ⟨c1, r1, a1, m1, b1, n1, rfl, hg, hL, hC⟩
  have H1 := Lib.hid (And.intro hL (And.intro hC hg))
  clear hL hC hg
  go_wp2_with fail
  refine (lnewc w1).mono ?_
  rintro e w2 ⟨c2, r2, a2, m2, b2, n2, rfl, hg, hL, hC⟩
  have H2 := Lib.hid (And.intro (H1.out.1.calm hC) (And.intro hL (And.intro (H1.out.2.1.trans hC) (And.intro hg (And.intro H1.out.2.2 (And.intro H1.out.1.lt H1.out.2.1.size))))))
  clear hL hC hg H1
  go_wp2_with fail
  refine (dnewc w2).mono ?_
  rintro e w3 ⟨d1, e1, f1, rfl, hg, hD, hC⟩
  have H3 := Lib.hid (And.intro (H2.out.1.calm hC) (And.intro (H2.out.2.1.calm hC) (And.intro hD (And.intro (H2.out.2.2.1.trans hC) (And.intro hg (And.intro H2.out.2.2.2 (And.intro H2.out.2.1.lt H2.out.2.2.1.size)))))))
  clear hg hD hC H2
  go_wp2_with fail
  refine (dnewc w3).mono ?_
  rintro e w4 ⟨d2, e2, f2, rfl, hg, hD, hC⟩
  have HT := Lib.hid (show KTwo w.heap.size w4 c1 r1 a1 m1 b1 n1 d1 e1 f1 0 lnew c2 r2 a2 m2 b2 n2 d2 e2 f2 0 lnew ∧ Chg [] w w4 from by
    obtain ⟨h1, h2, h3, h4, h5, ⟨h6, h7, h8, h9⟩, h10, h11⟩ := H3.out
    have h12 := h3.lt
    have h13 := h4.size
    clear H3
    refine ⟨⟨⟨h1.calm hC, h3.calm hC⟩, ⟨h2.calm hC, hD⟩, ?_, ?_, ?_⟩, h4.trans hC⟩
    · simp only [List.mem_cons, List.not_mem_nil, or_false, forall_eq_or_imp, forall_eq] at h5 h6 h7 h8 h10 h12 hg ⊢
      omega
    · simp only [List.mem_cons, List.not_mem_nil, or_false, forall_eq_or_imp, forall_eq] at h5 h6 h7 h8 h10 h12 hg ⊢
      omega
    · simp only [List.mem_cons, List.not_mem_nil, or_false, forall_eq_or_imp, forall_eq] at h5 h6 h7 h8 h10 h12 hg ⊢
      omega)
  clear hg hD hC H3
  go_wp2
  go_loopw [5, 7, 9, 10] (fun x p ok i wr => ∃ (k c1 r1 a1 m1 b1 n1 : Nat) (s : LS), k ≤ n ∧ k ≤ 60 ∧ x = .pointer (some ⟨c1, 0, none⟩) ∧ p = .pointer (some ⟨d1, 0, none⟩) ∧ ok = .bool true ∧ i = .int .i64 k ∧ KTwo w.heap.size wr c1 r1 a1 m1 b1 n1 d1 e1 f1 (4 * k) s c2 r2 a2 m2 b2 n2 d2 e2 f2 0 lnew ∧ Chg [] w wr) (fun _ _ _ i _ => 60 - (intOf i).toNat)
  case atStart => exact ⟨0, c1, r1, a1, m1, b1, n1, lnew, by omega, by omega, rfl, rfl, rfl, rfl, HT.out.1, HT.out.2⟩
  case round =>
    clear HT
    obtain ⟨k, c1, r1, a1, m1, b1, n1, s, hk1, hk2, rfl, rfl, rfl, rfl, hT, hG⟩ := hrel
    have HK := Lib.hid (And.intro hT hG)
    clear hT
    have hcase : (k < n ∧ k < 60) ∨ (¬ k < n) ∨ (k < n ∧ ¬ k < 60) := by omega
    rcases hcase with ⟨hlt, hlt2⟩ | hlt | ⟨hlt, hlt2⟩
    · as_aux_lemma =>
      have hne : R ≠ [] := fun e => by have := HN.out.1; rw [e] at this; simp at this; omega
      obtain ⟨g, o, cap', hsl, hcells⟩ := HV.out.1.addr hne
      cases hsl
      obtain ⟨x, hx⟩ : ∃ x, R[k]? = some x := ⟨_, List.getElem?_eq_getElem (by have := HN.out.1; omega)⟩
      have hrow := IsRows.row hcells hG hx
      have d0 := hrow 0 (by omega)
      have d1 := hrow 1 (by omega)
      have d2 := hrow 2 (by omega)
      rw [Nat.add_zero] at d0
      clear hcells hrow hx hG hne
      generalize x 0 = kd at *
      generalize x 1 = t at *
      generalize x 2 = q at *
      go_wp2_with fail
      refine (kdoc kd c1 r1 a1 m1 b1 n1 _ e1 f1 (4 * k) s t q wr HK.out.1.A.l HK.out.1.A.d (by omega)).mono ?_
      rintro e w5 hD
      obtain ⟨c', r', a', m', b', n', rfl, hT, hC⟩ := HK.out.1.step HK.out.2 rfl hD
      have HN2 := Lib.hid (And.intro hT hC)
      clear hD hT hC d0 d1 d2
      go_wp2
      go_roundw
      case rel => exact ⟨k + 1, c', r', a', m', b', n', _, by omega, by omega, rfl, rfl, rfl, by go_num, by rw [show (4 : Int) * ((k + 1 : Nat) : Int) = 4 * (k : Int) + 4 by omega]; exact HN2.out.1, HN2.out.2⟩
      case measure => simp [intOf]; omega
    all_goals
      obtain ⟨N1, hN1⟩ : ∃ N1 : Int, N1 = 4 * (k : Int) := ⟨_, rfl⟩
      rw [← hN1] at HK
      clear hG hN1
      go_wp2
      go_loopw [6, 8, 9, 11] (fun x p ok i wr => ∃ (k2 c2 r2 a2 m2 b2 n2 : Nat) (t : LS), k2 ≤ m ∧ k2 ≤ 60 ∧ x = .pointer (some ⟨c2, 0, none⟩) ∧ p = .pointer (some ⟨d2, 0, none⟩) ∧ ok = .bool true ∧ i = .int .i64 k2 ∧ KTwo w.heap.size wr c2 r2 a2 m2 b2 n2 d2 e2 f2 (4 * k2) t c1 r1 a1 m1 b1 n1 d1 e1 f1 N1 s ∧ Chg [] w wr) (fun _ _ _ i _ => 60 - (intOf i).toNat)
      case atStart => exact ⟨0, c2, r2, a2, m2, b2, n2, lnew, by omega, by omega, rfl, rfl, rfl, rfl, HK.out.1.swap, HK.out.2⟩
      case round =>
        clear HK
        obtain ⟨k2, c2, r2, a2, m2, b2, n2, t, hk12, hk22, rfl, rfl, rfl, rfl, hT, hG⟩ := hrel
        have HK := Lib.hid (And.intro hT hG)
        clear hT
        have hcase : (k2 < m ∧ k2 < 60) ∨ (¬ k2 < m) ∨ (k2 < m ∧ ¬ k2 < 60) := by omega
        rcases hcase with ⟨hlt, hlt2⟩ | hlt | ⟨hlt, hlt2⟩
        · as_aux_lemma =>
          have hne : S ≠ [] := fun e => by have := HN.out.2; rw [e] at this; simp at this; omega
          obtain ⟨g, o, cap', hsl, hcells⟩ := HV.out.2.addr hne
          cases hsl
          obtain ⟨x, hx⟩ : ∃ x, S[k2]? = some x := ⟨_, List.getElem?_eq_getElem (by have := HN.out.2; omega)⟩
          have hrow := IsRows.row hcells hG hx
          have d0 := hrow 0 (by omega)
          have d1 := hrow 1 (by omega)
          have d2 := hrow 2 (by omega)
          rw [Nat.add_zero] at d0
          clear hcells hrow hx hG hne
          generalize x 0 = kd at *
          generalize x 1 = tt at *
          generalize x 2 = q at *
          go_wp2_with fail
          refine (kdoc kd c2 r2 a2 m2 b2 n2 _ e2 f2 (4 * k2) t tt q wr HK.out.1.A.l HK.out.1.A.d (by omega)).mono ?_
          rintro e w5 hD
          obtain ⟨c', r', a', m', b', n', rfl, hT, hC⟩ := HK.out.1.step HK.out.2 rfl hD
          have HN2 := Lib.hid (And.intro hT hC)
          clear hD hT hC d0 d1 d2
          go_wp2
          go_roundw
          case rel => exact ⟨k2 + 1, c', r', a', m', b', n', _, by omega, by omega, rfl, rfl, rfl, by go_num, by rw [show (4 : Int) * ((k2 + 1 : Nat) : Int) = 4 * (k2 : Int) + 4 by omega]; exact HN2.out.1, HN2.out.2⟩
          case measure => simp [intOf]; omega
        all_goals
          clear hG
          go_wp2_with fail
          refine (lsamec c1 r1 a1 m1 b1 n1 c2 r2 a2 m2 b2 n2 _ _ s t wr HK.out.1.C.l HK.out.1.A.l).mono ?_
          rintro e w5 ⟨rfl, hC5⟩
          have HK5 := Lib.hid (And.intro (HK.out.1.calm hC5) (HK.out.2.trans hC5))
          clear hC5
          go_wp2_with fail
          refine (dsamec d1 e1 f1 d2 e2 f2 s t w5 HK5.out.1.C.d HK5.out.1.A.d).mono ?_
          rintro e w6 ⟨rfl, hC6⟩
          have HK6 := Lib.hid (And.intro (HK5.out.1.calm hC6) (HK5.out.2.trans hC6))
          clear hC6
          generalize s.eqv t = dd at *
          have hdd : (dd == dd) = true := by simp
          go_wp2_with fail
          refine (lsamec c1 r1 a1 m1 b1 n1 c1 r1 a1 m1 b1 n1 _ _ s s w6 HK6.out.1.C.l HK6.out.1.C.l).mono ?_
          rintro e w7 ⟨rfl, hC7⟩
          rw [LS.eqv_refl]
          have HK7 := Lib.hid (HK6.out.2.trans hC7)
          clear hC7
          go_wp2_with fail
          refine (known15 w7).mono ?_
          rintro e w8 ⟨rfl, hC8⟩
          have HK8 := Lib.hid (HK7.out.trans hC8)
          clear hC8
          go_wp2
          go_ret
          exact ⟨rfl, HK8.out⟩

end Go.Proofs.YtpdfeinbbjfcaaaGreat
