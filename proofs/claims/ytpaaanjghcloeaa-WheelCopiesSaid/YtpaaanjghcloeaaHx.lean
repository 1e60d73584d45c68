
/- metronomelaw07.stands: the program's wheel tells what the document's does (written by wip/stands07.py). -/
import Derived.Test.YtpaaanjghcloeaaHv
import Derived.Test.YtpaaanjghcloeaaRnd
import Derived.Sort.CutIn
import Derived.Sort.QuietTacIn
import Derived.Deep.CutBlock
namespace Go.Proofs.Ytpaaanjghcloeaa
open Go.RowKit Go.Shelf
attribute [local go_sem] Oper.semAt_some

theorem eql_seq_nil (f : Fn) (a b : Array Value) (w : World) : (binOp .eql 59 (.func f a b) .nilFunc).run Try.prog w = .ok (.bool false) w := by
  kernel_rfl
theorem wpIn_act {C : Code} {F : Fence} {n : Nat} {P : Program} {Q : Exit → Act → World → Prop} {a : Act} {w : World} (h : ∀ A : Act, A = a → C.wpIn F n P Q A w) : C.wpIn F n P Q a w := h a rfl

/-- What stands in memory while the deadlines are gone over; all of it below block B0. -/
structure Sh (w : World) (rb : Nat) (L : HL) (bl : Nat) (u : Value) (b5 b7 b8 bt : Nat) (leave tau : Int) (a : Option Addr) (cap n : Nat) (Ds : List Nat) (B0 : Nat) (W : World) : Prop where
  q1 : W.heap[rb]? = some (.cells #[.slice a n cap] 39 (0, 0))
  q2 : W.ownsRow 0 45 2 (.slice a n cap) n (flatD (L.map keyH))
  l5 : W.heap[b5]? = some (.cells #[.pointer (some ⟨rb, 0, none⟩)] 36 (0, 0))
  l7 : W.heap[b7]? = some (.cells #[.int .i64 leave] 3 (0, 0))
  sq : W.heap[bl]? = some (.cells #[u] 47 (0, 0))
  so : W.ownsRow 0 65 3 u n (flatH L)
  t : W.heap[bt]? = some (.cells #[.int .i64 tau] 3 (0, 0))
  ch : Chg [] w W
  lt : w.heap.size ≤ b8 ∧ rb < B0 ∧ b5 < B0 ∧ b7 < B0 ∧ b8 < B0 ∧ bl < B0 ∧ bt < B0 ∧ rb ≠ b8 ∧ b5 ≠ b8 ∧ b7 ≠ b8 ∧ bl ≠ b8 ∧ bt ≠ b8 ∧ w.heap.size ≤ B0
  og : ∀ k ∈ (Value.slice a n cap).ownBlock.toList, k < B0 ∧ k ≠ b8
  ou : ∀ k ∈ u.ownBlock.toList, k < B0 ∧ k ≠ b8
  df : ∀ k ∈ Ds, W.heap[k]? = some (.deferred (some []))
  dl : ∀ k ∈ Ds, k < B0 ∧ k ≠ b8
theorem Sh.kept {w : World} {rb : Nat} {L : HL} {bl : Nat} {u : Value} {b5 b7 b8 bt : Nat} {leave tau : Int} {a : Option Addr} {cap n : Nat} {Ds : List Nat} {B0 : Nat} {W W' : World} {S : List Nat} (h : Sh w rb L bl u b5 b7 b8 bt leave tau a cap n Ds B0 W) (hC : Chg S W W') (hS : ∀ k ∈ S, B0 ≤ k ∨ k = b8) : Sh w rb L bl u b5 b7 b8 bt leave tau a cap n Ds B0 W' := by
  have l := h.lt
  have hn : ∀ j, j < B0 → j ≠ b8 → j ∉ S := fun j hj hne hm => by rcases hS j hm with h1 | h1; omega; exact hne h1
  exact ⟨hC.blk h.q1 (hn _ (by omega) (by omega)), own_kept h.q2 hC (fun k hk hm => hn k (h.og k hm).1 (h.og k hm).2 hk), hC.blk h.l5 (hn _ (by omega) (by omega)), hC.blk h.l7 (hn _ (by omega) (by omega)), hC.blk h.sq (hn _ (by omega) (by omega)),
    own_kept h.so hC (fun k hk hm => hn k (h.ou k hm).1 (h.ou k hm).2 hk), hC.blk h.t (hn _ (by omega) (by omega)), h.ch.trans' hC (fun k hk => by rcases hS k hk with h1 | h1 <;> omega), h.lt, h.og, h.ou, fun k hk => hC.blk (h.df k hk) (hn k (h.dl k hk).1 (h.dl k hk).2), h.dl⟩
/-- The next turn: a variable of its own, the marks kept. -/
theorem Sh.next {w : World} {rb : Nat} {L : HL} {bl : Nat} {u : Value} {b5 b7 b8 bt : Nat} {leave tau : Int} {a : Option Addr} {cap n : Nat} {Ds : List Nat} {B0 : Nat} {W W' : World} (h : Sh w rb L bl u b5 b7 b8 bt leave tau a cap n Ds B0 W) (hC : Chg [] W W') (bt' D : Nat) (tau' : Int)
    (ht : W'.heap[bt']? = some (.cells #[.int .i64 tau'] 3 (0, 0))) (hD : W.heap[D]? = some (.deferred (some []))) (hne : bt' ≠ b8) (hDne : D ≠ b8) (hB : B0 ≤ W'.heap.size) : Sh w rb L bl u b5 b7 b8 bt' leave tau' a cap n (D :: Ds) W'.heap.size W' := by
  have k := h.kept hC (by simp)
  have l := h.lt
  have l1 := lt_of_blk ht
  have l2 := lt_of_blk (hC.blk hD (by simp))
  refine ⟨k.q1, k.q2, k.l5, k.l7, k.sq, k.so, ht, k.ch, by omega, fun j hj => ⟨Nat.lt_of_lt_of_le (k.og j hj).1 hB, (k.og j hj).2⟩, fun j hj => ⟨Nat.lt_of_lt_of_le (k.ou j hj).1 hB, (k.ou j hj).2⟩, fun j hj => ?_, fun j hj => ?_⟩
  · rcases List.mem_cons.1 hj with rfl | hj
    · exact hC.blk hD (by simp)
    · exact k.df j hj
  · rcases List.mem_cons.1 hj with rfl | hj
    · exact ⟨l2, hDne⟩
    · exact ⟨Nat.lt_of_lt_of_le (k.dl j hj).1 hB, (k.dl j hj).2⟩

theorem atV_form (M : HL) (n : Int) : ∃ p q, atV M n = .tuple #[.int .i64 p, .bool q] := by
  unfold atV
  split
  · exact ⟨_, _, rfl⟩
  · exact ⟨_, _, rfl⟩
theorem firstV_form (L : HL) : ∃ f g, ∃ r : Bool, firstV L = .tuple #[.int .i64 f, .int .i64 g, .bool r] ∧ decide (0 < (L.length : Int)) = r ∧ (r = true → ∃ x, (L.map keyH)[0]? = some x ∧ f = x.1 ∧ g = x.2) ∧ (r = false → f = 0 ∧ g = 0) := by
  cases L with
  | nil => exact ⟨0, 0, false, rfl, rfl, by simp, fun _ => ⟨rfl, rfl⟩⟩
  | cons x L => exact ⟨x.1, x.2.1, true, rfl, by simp, fun _ => ⟨keyH x, rfl, rfl, rfl⟩, by simp⟩

set_option maxRecDepth 100000 in
set_option maxHeartbeats 32000000 in
theorem stands07 (b : Nat) (vs : List Value) (rb : Nat) (s : HS) (id leave : Int) (w : World) (h : PH w b vs rb s) :
    Calls Try.prog 13 #[.pointer (some ⟨b, 0, none⟩), .pointer (some ⟨rb, 0, none⟩), .int .i64 id, .int .i64 leave] w fun e w' => e = .returned (.bool true) ∧ Chg [] w w' := by
  obtain ⟨L, hL⟩ : ∃ L, L = ordH s.M := ⟨_, rfl⟩
  have hD : dOf s = L.map keyH := by rw [hL]; rfl
  have hl64 : L.length ≤ 64 := by rw [hL, ordH_len]; exact h.p.inv.few
  obtain ⟨W0, hW0⟩ : ∃ W0, W0 = ((w.alloc (.cells #[.pointer (some ⟨rb, 0, none⟩)] 36 (0, 0))).alloc (.cells #[.int .i64 leave] 3 (0, 0))).alloc (.cells #[.bool false] 4 (0, 0)) := ⟨_, rfl⟩
  have hC0 : Chg [] w W0 := by rw [hW0]; exact (((Chg.refl [] w).alloc _).alloc _).alloc _
  obtain ⟨b5, hb5⟩ : ∃ b5, b5 = w.heap.size := ⟨_, rfl⟩
  have h5 : W0.heap[b5]? = some (.cells #[.pointer (some ⟨rb, 0, none⟩)] 36 (0, 0)) := by rw [hW0, hb5]; exact blk_alloc (blk_alloc (heap_alloc_eq w _) _) _
  have h7 : W0.heap[b5 + 1]? = some (.cells #[.int .i64 leave] 3 (0, 0)) := by
    rw [hW0, hb5]
    refine blk_alloc ?_ _
    have := heap_alloc_eq (w.alloc (.cells #[.pointer (some ⟨rb, 0, none⟩)] 36 (0, 0))) (.cells #[.int .i64 leave] 3 (0, 0))
    rwa [World.size_alloc] at this
  have h8 : W0.heap[b5 + 1 + 1]? = some (.cells #[.bool false] 4 (0, 0)) := by
    rw [hW0, hb5]
    have := heap_alloc_eq ((w.alloc (.cells #[.pointer (some ⟨rb, 0, none⟩)] 36 (0, 0))).alloc (.cells #[.int .i64 leave] 3 (0, 0))) (.cells #[.bool false] 4 (0, 0))
    rwa [World.size_alloc, World.size_alloc] at this
  have hs0 : W0.heap.size = b5 + 3 := by rw [hW0, hb5]; simp
  have hrb : rb < b5 := by rw [hb5]; exact h.q.lt
  have H := Lib.hid (And.intro h (And.intro hD (And.intro hl64 (And.intro hL (And.intro hs0 (And.intro hrb hb5))))))
  have H0 := Lib.hid (And.intro hC0 (And.intro h5 (And.intro h7 h8)))
  clear h hD hl64 hL hC0 h5 h7 h8 hs0 hrb
  refine (callsIn_wide (n := 8)).1 ?_
  refine callsIn_of_wp_marks Try.func13 rfl trivial ?_ rfl
  simp only [Try.ntmps13, List.size_toArray, List.length_cons, List.length_nil, Nat.reduceAdd, Nat.reduceSub, Array.replicate_succ, Array.replicate_zero, List.push_toArray, List.append_toArray, List.nil_append, List.cons_append]
  refine wpIn_wide.2 ?_
  go_wp2_with fail
  rw [← hW0, ← hb5]
  clear hW0 hb5
  obtain ⟨p1, p2, hp⟩ := atV_form s.M id
  refine (atc b vs s id _ (H.out.1.p.calm H0.out.1)).mono ?_
  rintro e w1 ⟨rfl, hC1⟩
  rw [hp]
  have H1 := Lib.hid (H0.out.1.trans hC1)
  have c5 := cellB (hC1.blk H0.out.2.1 (by simp)) (i := 0) (v := .pointer (some ⟨rb, 0, none⟩)) rfl
  have H18 := Lib.hid (And.intro (hC1.blk H0.out.2.1 (by simp)) (And.intro (hC1.blk H0.out.2.2.1 (by simp)) (hC1.blk H0.out.2.2.2 (by simp))))
  clear hC1
  go_wp2_with fail
  refine (qatc rb (dOf s) id w1 (H.out.1.q.calm H1.out) (by rw [H.out.2.1, List.length_map]; have := H.out.2.2.1; omega)).mono ?_
  rintro e w' ⟨rfl, rfl⟩
  rw [dOf_at H.out.1.p.inv, hp]
  go_wp2_with fail
  refine (firstc b vs s w1 (H.out.1.p.calm H1.out)).mono ?_
  rintro e w2 ⟨rfl, hC2⟩
  rw [← H.out.2.2.2.1]
  obtain ⟨f1, f2, f3, hf, hf0, hf1, hf2⟩ := firstV_form L
  rw [hf]
  have H2 := Lib.hid (H1.out.trans hC2)
  have HB := Lib.hid (And.intro (hC2.blk H18.out.1 (by simp)) (And.intro (hC2.blk H18.out.2.1 (by simp)) (hC2.blk H18.out.2.2 (by simp))))
  clear hC2 hp hf H18 c5
  obtain ⟨a, cap, hq1, hq2⟩ := (H.out.1.q.calm H2.out).open
  have hq0 := H.out.1.q.calm H2.out
  rw [H.out.2.1] at hq1 hq2 hq0
  obtain ⟨n, hn⟩ : ∃ n, n = L.length := ⟨_, rfl⟩
  rw [List.length_map, ← hn] at hq1
  rw [← hn] at hf0
  have HLn := Lib.hid (show ∀ m : Nat, Calls Try.prog 18 #[.pointer (some ⟨b, 0, none⟩)] (w2.drewN m) (fun e w' => e = .returned (.int .i64 (n : Int)) ∧ w' = w2.drewN m) from fun m => (lenc b vs s (w2.drewN m) ((H.out.1.p.calm H2.out).calm ((Chg.refl [] w2).drewN m))).mono fun e w' ⟨x, y⟩ => ⟨by rw [x, hn, H.out.2.2.2.1, ordH_len], y.symm⟩)
  have c5 := cellB HB.out.1 (i := 0) (v := .pointer (some ⟨rb, 0, none⟩)) rfl
  have cq := cellB hq1 (i := 0) (v := .slice a n cap) rfl
  have hf0' : decide (0 < n) = f3 := by simpa using hf0
  have e1 : (p1 != p1) = false := by simp
  have e2 : (p2 != p2) = false := by simp
  have e2' : (!p2 == p2) = false := by cases p2 <;> rfl
  have e3 : ((n : Int) != (n : Int)) = false := by simp
  have e4 : (f3 != f3) = false := by simp
  have e4' : (!f3 == f3) = false := by cases f3 <;> rfl
  have HQ := Lib.hid (And.intro hq1 (And.intro hq2 (And.intro hq0 (And.intro hn (And.intro hf1 (And.intro hf2 hf0))))))
  clear hq1 hq2 hq0 hn hf1 hf2
  go_wp2
  go_quiet ((go_at_call 18; exact Calls.quiet_of_same (HLn.out _)))
  rename_i nq
  go_upto_region 6 with fail
  go_cut [101] from 67 to 101 (fun x wx => x = .bool false ∧ wx = w2.drewN nq)
  case first =>
    cases f3 with
    | false =>
      obtain ⟨rfl, rfl⟩ := HQ.out.2.2.2.2.2.1 rfl
      go_wp2
      go_meet
      case rel => exact ⟨rfl, rfl⟩
    | true =>
      obtain ⟨x, hx, rfl, rfl⟩ := HQ.out.2.2.2.2.1 rfl
      obtain ⟨g, rfl, _, _⟩ := HQ.out.2.1.pt (fun e => by rw [e] at hx; simp at hx)
      obtain ⟨d0, d1⟩ := HQ.out.2.1.cells hx
      obtain ⟨x1, x2⟩ := x
      simp only [Nat.zero_mul, Nat.zero_add] at d0 d1
      have g1 : (x1 != x1) = false := by simp
      have g2 : (x2 != x2) = false := by simp
      have hn0 : 0 < n := by exact of_decide_eq_true hf0'
      have hnz : (0 : Int) < (n : Int) := by omega
      clear hx hf0 hf0'
      go_wp2
      go_meet
      case rel => exact ⟨rfl, rfl⟩
  case rest =>
    obtain ⟨rfl, rfl⟩ := hcut
    have hP2 := (H.out.1.p.calm H2.out).calm ((Chg.refl [] w2).drewN nq)
    have hseq := seqc (.pointer (some ⟨b, 0, none⟩)) L (w2.drewN nq) (by rw [H.out.2.2.2.1]; exact allc b vs s _ hP2)
    have HSq := Lib.hid hseq
    clear hP2 hseq
    go_wp2_with fail
    refine HSq.out.mono ?_
    rintro e w3 ⟨bl, u, rfl, hbl, ho, hBl, hC3⟩
    have hnf := fun (W : World) => eql_seq_nil (.func 36) #[] #[.pointer (some ⟨bl, 0, none⟩)] W
    have hall : Chg [] w2 w3 := ((Chg.refl [] w2).drewN nq).trans hC3
    obtain ⟨bt, hbt⟩ : ∃ bt, bt = w3.heap.size := ⟨_, rfl⟩
    obtain ⟨wS, hwS⟩ : ∃ wS, wS = w3.alloc (.cells #[.int .i64 0] 3 (0, 0)) := ⟨_, rfl⟩
    have hCS : Chg [] w2 wS := by rw [hwS]; exact hall.alloc _
    have hsz2 : b5 + 3 ≤ w2.heap.size := by have h1 := H.out.2.2.2.2.1; have h2 := H0.out.1.size; have h3 := lt_of_blk HB.out.2.2; omega
    have hszd : (w2.drewN nq).heap.size = w2.heap.size := rfl
    have hsz3 := hall.size
    have hblt := lt_of_blk hbl
    have HSd := Lib.hid (show Sh w rb L bl u b5 (b5 + 1) (b5 + 1 + 1) bt leave 0 a cap n [] wS.heap.size wS from by
      obtain ⟨v, hv1, hv2⟩ := HQ.out.2.2.1.calm hCS
      have hq := hCS.blk HQ.out.1 (by simp)
      rw [hv1] at hq
      injection hq with hq
      injection hq with hq _ _
      have hv : v = .slice a n cap := by simpa using hq
      subst hv
      rw [List.length_map, ← HQ.out.2.2.2.1] at hv2
      have hwsz : wS.heap.size = w3.heap.size + 1 := by rw [hwS]; simp
      have hr := H.out.2.2.2.2.2.1
      have hb5 := H.out.2.2.2.2.2.2
      refine ⟨hv1, hv2, hCS.blk HB.out.1 (by simp), hCS.blk HB.out.2.1 (by simp), by rw [hwS]; exact blk_alloc hbl _, by rw [HQ.out.2.2.2.1]; exact own_mono (own_kept ho (by rw [hwS]; exact (Chg.refl [] w3).alloc _) (by simp)) (Nat.zero_le _), by rw [hwS, hbt]; exact heap_alloc_eq w3 _, H2.out.trans hCS, by omega, fun k hk => ?_, fun k hk => ?_, by simp, by simp⟩
      · obtain ⟨cs, hcs⟩ := own_cellsH hv2 k hk
        refine ⟨lt_of_blk hcs, fun e => ?_⟩
        rw [e, hCS.blk HB.out.2.2 (by simp)] at hcs
        cases hcs
      · have h1 := (ho.lt k (by simpa using hk)).2
        have h2 := own_ge ho k hk
        rw [hszd] at h2
        omega)
    have Hb8 := Lib.hid (hCS.blk HB.out.2.2 (by simp))
    have HFw := Lib.hid (And.intro HQ.out.2.2.2.1 H.out.2.2.1)
    clear hbl ho hBl hC3 hall hCS hsz2 hszd hsz3 hblt c5 cq
    go_wp2
    rw [← hwS, ← hbt]
    clear hnf hwS hbt HQ HB HSq HLn H2 H1 H0 H
    have ct := cellB HSd.out.t (i := 0) (v := .int .i64 0) rfl
    refine wp_loop_rounds 3 ?_
    rw [rounds_succ]
    go_wp2
    obtain ⟨bn0, hbn0⟩ : ∃ bn, bn = wS.heap.size := ⟨_, rfl⟩
    obtain ⟨wSn, hwSn⟩ : ∃ wn, wn = wS.alloc (.cells #[.int .i64 0] 3 (0, 0)) := ⟨_, rfl⟩
    have hCn : Chg [] wS wSn := by rw [hwSn]; exact (Chg.refl _ _).alloc _
    have hbn := (show wSn.heap[bn0]? = some (.cells #[.int .i64 0] 3 (0, 0)) from by rw [hwSn, hbn0]; exact heap_alloc_eq wS _)
    have hS1 := HSd.out.kept hCn (by simp)
    have hnB : wSn.heap.size = bn0 + 1 := by rw [hwSn, hbn0]; simp
    have hou : ∀ k ∈ u.ownBlock.toList, k ∉ [bn0, b5 + 1 + 1] := fun k hk => by have h1 := (HSd.out.ou k hk); simp; omega
    have hseq := all1_stops [bn0, b5 + 1 + 1] [] (by simp) bl u 0 L wSn hS1.sq (by have := hS1.so; rw [HFw.out.1] at this; exact this) (by have := HFw.out.2; omega) hou
    have HQ0 := Lib.hid (And.intro hseq (And.intro hS1 (And.intro hbn (And.intro (hCn.blk Hb8.out (by simp)) (And.intro hnB hbn0)))))
    rw [← hwSn, ← hbn0]
    clear hCn hbn hS1 hseq hwSn hbn0 hnB hou
    refine (wpIn_wide (n := 5)).1 ?_
    refine wpIn_act (fun A hA => ?_)
    have HA0 := Lib.hid hA
    refine wpIn_rangeFunc_ownH rfl (by omega) (gf := 36) (lb := #[.pointer (some ⟨bl, 0, none⟩)]) (by rw [hA]; rfl) trivial (enters_of Try.func36 (by kernel_rfl) rfl) HQ0.out.1
      KpS.trans (fun W l o o' _ ho h1 h2 => KpS.put o' ho h1 h2) (Below.refl _ _) (fun _ => rfl)
      (fun pre W => pre <+: L.map keyH ∧ W.heap[b5 + 1 + 1]? = some (.cells #[.bool false] 4 (0, 0)) ∧ W.heap[bn0]? = some (.cells #[.int .i64 pre.length] 3 (0, 0)) ∧ Sh w rb L bl u b5 (b5 + 1) (b5 + 1 + 1) bt leave 0 a cap n [] bn0 W)
      (fun c pre W => (c = .ret ∧ ¬ pre <+: L.map keyH) ∨ (c = .exit 2 ∧ (pre.length : Int) = leave ∧ W.heap[b5 + 1 + 1]? = some (.cells #[.bool false] 4 (0, 0)) ∧ W.heap[bn0]? = some (.cells #[.int .i64 pre.length] 3 (0, 0)) ∧ Sh w rb L bl u b5 (b5 + 1) (b5 + 1 + 1) bt leave 0 a cap n [] bn0 W))
      (fun s A B row hs hg hr => ⟨hs.1, ownFrom_blk (β := Unit) _ _ _ _ _ () A B row hs.2.1 hg hr, ownFrom_blk (β := Unit) _ _ _ _ _ () A B row hs.2.2.1 hg hr, hs.2.2.2.kept (Chg.of_grown (S := row.toList) hg (fun k hk => by simp [hk])) (fun k hk => by have := (hr k (by simpa using hk)).1; have := HQ0.out.2.2.2.2.1; omega)⟩)
      (fun c s A B row hs hg hr => by
        rcases hs with h | ⟨h1, h2, h6, h3, h4⟩
        · exact .inl h
        · exact .inr ⟨h1, h2, ownFrom_blk (β := Unit) _ _ _ _ _ () A B row h6 hg hr, ownFrom_blk (β := Unit) _ _ _ _ _ () A B row h3 hg hr, h4.kept (Chg.of_grown (S := row.toList) hg (fun k hk => by simp [hk])) (fun k hk => by have := (hr k (by simpa using hk)).1; have := HQ0.out.2.2.2.2.1; omega)⟩)
      ⟨List.nil_prefix, HQ0.out.2.2.2.1, HQ0.out.2.2.1, (show Sh w rb L bl u b5 (b5 + 1) (b5 + 1 + 1) bt leave 0 a cap n [] bn0 wSn from by rw [HQ0.out.2.2.2.2.2]; exact HQ0.out.2.1)⟩
      (fun x a' W => a' = { tmps := (((A.tmps.setIfInBounds 111 (.int .i64 x.1)).setIfInBounds 112 (.int .i64 x.2)).setIfInBounds 19 (.int .i64 x.1)).setIfInBounds 20 (.int .i64 x.2), defers := [] })
      (fun x a' _ A B row hs hg hr => hs)
      ?_ ?_ ?_ ?_
    · rintro l pre x W K ⟨h1, h6, h2, h3⟩ hK
      have HC := Lib.hid (And.intro h1 (And.intro h6 (And.intro h2 h3)))
      clear h1 h2 h3 h6
      unfold encH
      subst hA
      gi_wp2
      exact hK _ _ (keepsFrom_chg (Chg.refl [] _) (by simp)) (KpS.chg (Chg.refl [] _) (by simp)) HC.out rfl
    · rintro l pre x a' W hl ⟨r, hr⟩ ⟨hp, h6, h2, h3⟩ rfl hlt
      subst hA
      simp only [List.setIfInBounds_toArray, List.set_cons_succ, List.set_cons_zero]
      have hltn : pre.length < n := by rw [HFw.out.1]; exact hlt
      obtain ⟨y, hy⟩ : ∃ y, (L.map keyH)[pre.length]? = some y := ⟨_, List.getElem?_eq_getElem (by rw [List.length_map]; exact hlt)⟩
      have hq2 := h3.q2
      rw [show n = (L.map keyH).length from by rw [List.length_map]; exact HFw.out.1] at hq2
      obtain ⟨a', cap', hva, hrd⟩ := RowD.of_own hq2
      simp only [Value.slice.injEq] at hva
      obtain ⟨rfl, -, rfl⟩ := hva
      obtain ⟨g, rfl, hgc, hgm⟩ := hrd.pt (fun e => by rw [e] at hy; simp at hy)
      obtain ⟨cy0, cy1⟩ := hrd.cells hy
      have cn := cellB h2 (i := 0) (v := .int .i64 pre.length) rfl
      have fn := frozenB h2 0
      have cq := cellB h3.q1 (i := 0) (v := .slice (some ⟨g, 0, none⟩) n cap) rfl
      have c5 := cellB h3.l5 (i := 0) (v := .pointer (some ⟨rb, 0, none⟩)) rfl
      have ct := cellB h3.t (i := 0) (v := .int .i64 0) rfl
      have cl := cellB h3.l7 (i := 0) (v := .int .i64 leave) rfl
      have cr := cellB h6 (i := 0) (v := .bool false) rfl
      have fr := frozenB h6 0
      have hpl : pre.length ≤ 64 := by have := HFw.out.2; omega
      obtain ⟨y1, y2⟩ := y
      obtain ⟨x1, x2⟩ := x
      dsimp only at cy0 cy1
      have HC := Lib.hid (And.intro hp (And.intro h6 (And.intro h2 (And.intro h3 hy))))
      have hlt3 := h3.lt
      clear hp h6 h2 h3 hy hq2 hrd hgc hgm hr
      have hdn : decide ((n : Int) ≤ (pre.length : Int)) = false := by simp; omega
      have hdn' : decide (n ≤ pre.length) = false := by simp; omega
      have hz1 : (0 : Int) ≤ (pre.length : Int) ∧ (pre.length : Int) < (n : Int) := by omega
      have hne1 : ¬ b5 + 1 + 1 = bn0 := by omega
      have hne2 : ¬ bt = bn0 := by omega
      have hne3 : ¬ bn0 = b5 + 1 + 1 := by omega
      have hne4 : ¬ bn0 = bt := by omega
      have hne5 : ¬ b5 + 1 = bn0 := by omega
      clear hlt3
      by_cases hxy : x1 = y1 ∧ x2 = y2
      · obtain ⟨rfl, rfl⟩ := hxy
        have g1 : (x1 != x1) = false := by simp
        have g2 : (x2 != x2) = false := by simp
        have hpre : pre ++ [(x1, x2)] <+: L.map keyH := by
          obtain ⟨r, hr⟩ := HC.out.1
          have := HC.out.2.2.2.2
          rw [← hr, List.getElem?_append_right (Nat.le_refl _), Nat.sub_self] at this
          cases r with
          | nil => cases this
          | cons z r => simp at this; subst this; exact ⟨r, by rw [← hr]; simp⟩
        have HPre := Lib.hid hpre
        clear hpre
        have HF := Lib.hid (And.intro ct (And.intro cl (And.intro cr (And.intro fr fn))))
        clear ct cl cr fr fn
        gi_wp2_with fail
        refine region_round (S := fun w' => w'.cell? ⟨bn0, 0, none⟩ = some (.int .i64 pre.length) ∧ w'.cell? ⟨b5, 0, none⟩ = some (.pointer (some ⟨rb, 0, none⟩)) ∧ w'.cell? ⟨rb, 0, none⟩ = some (.slice (some ⟨g, 0, none⟩) n cap) ∧ w'.cell? ⟨g, pre.length * 2, none⟩ = some (.int .i64 x1) ∧ w'.cell? ⟨g, pre.length * 2 + 1, none⟩ = some (.int .i64 x2)) (by kernel_rfl) (by rintro ⟨_, _, h⟩; exact h) (by kernel_rfl) ⟨cn, c5, cq, cy0, cy1⟩ (fun hS => ?_)
        refine wpAnyH_take (i := 0) (v := ?_) (by simp only [List.getElem?_toArray, List.getElem?_cons_zero]; rfl) (by kernel_rfl) (by kernel_rfl) (by kernel_rfl) (by exact fun _ _ _ h => h) (Or.inl ⟨by kernel_rfl, ?_⟩) hS ?_
        case refine_2 => ((intro w hSw; (try dsimp only at hSw); go_simp) <;> with_reducible rfl)
        try simp only [Act.put, List.setIfInBounds_toArray, List.set_cons_zero, List.set_cons_succ]
        refine wpAnyH_take (i := 1) (v := ?_) (by simp only [List.getElem?_toArray, List.getElem?_cons_succ, List.getElem?_cons_zero]; rfl) (by kernel_rfl) (by kernel_rfl) (by kernel_rfl) (by exact fun _ _ _ h => h) (Or.inl ⟨by kernel_rfl, ?_⟩) hS ?_
        case refine_2 => ((intro w hSw; (try dsimp only at hSw); go_simp) <;> with_reducible rfl)
        try simp only [Act.put, List.setIfInBounds_toArray, List.set_cons_zero, List.set_cons_succ]
        refine wpAnyH_take (i := 2) (v := ?_) (by simp only [List.getElem?_toArray, List.getElem?_cons_succ, List.getElem?_cons_zero]; rfl) (by kernel_rfl) (by kernel_rfl) (by kernel_rfl) (by exact fun _ _ _ h => h) (Or.inl ⟨by kernel_rfl, ?_⟩) hS ?_
        case refine_2 => ((intro w hSw; (try dsimp only at hSw); go_simp) <;> with_reducible rfl)
        try simp only [Act.put, List.setIfInBounds_toArray, List.set_cons_zero, List.set_cons_succ]
        refine wpAnyH_take (i := 3) (v := ?_) (by simp only [List.getElem?_toArray, List.getElem?_cons_succ, List.getElem?_cons_zero]; rfl) (by kernel_rfl) (by kernel_rfl) (by kernel_rfl) (by exact fun _ _ _ h => h) (Or.inl ⟨by kernel_rfl, ?_⟩) hS ?_
        case refine_2 => ((intro w hSw; (try dsimp only at hSw); go_simp) <;> with_reducible rfl)
        try simp only [Act.put, List.setIfInBounds_toArray, List.set_cons_zero, List.set_cons_succ]
        refine wpAnyH_take (i := 4) (v := ?_) (by simp only [List.getElem?_toArray, List.getElem?_cons_succ, List.getElem?_cons_zero]; rfl) (by kernel_rfl) (by kernel_rfl) (by kernel_rfl) (by exact fun _ _ _ h => h) (Or.inl ⟨by kernel_rfl, ?_⟩) hS ?_
        case refine_2 => ((intro w hSw; (try dsimp only at hSw); go_simp) <;> with_reducible rfl)
        try simp only [Act.put, List.setIfInBounds_toArray, List.set_cons_zero, List.set_cons_succ]
        refine wpAnyH_take (i := 5) (v := ?_) (by simp only [List.getElem?_toArray, List.getElem?_cons_succ, List.getElem?_cons_zero]; rfl) (by kernel_rfl) (by kernel_rfl) (by kernel_rfl) (by exact fun _ _ _ h => h) (Or.inl ⟨by kernel_rfl, ?_⟩) hS ?_
        case refine_2 => ((intro w hSw; (try dsimp only at hSw); go_simp) <;> with_reducible rfl)
        try simp only [Act.put, List.setIfInBounds_toArray, List.set_cons_zero, List.set_cons_succ]
        refine wpAnyH_take (i := 6) (v := ?_) (by simp only [List.getElem?_toArray, List.getElem?_cons_succ, List.getElem?_cons_zero]; rfl) (by kernel_rfl) (by kernel_rfl) (by kernel_rfl) (by exact fun _ _ _ h => h) (Or.inl ⟨by kernel_rfl, ?_⟩) hS ?_
        case refine_2 => ((intro w hSw; (try dsimp only at hSw); go_simp) <;> with_reducible rfl)
        try simp only [Act.put, List.setIfInBounds_toArray, List.set_cons_zero, List.set_cons_succ]
        refine wpAnyH_take (i := 7) (v := ?_) (by simp only [List.getElem?_toArray, List.getElem?_cons_succ, List.getElem?_cons_zero]; rfl) (by kernel_rfl) (by kernel_rfl) (by kernel_rfl) (by exact fun _ _ _ h => h) (Or.inl ⟨by kernel_rfl, ?_⟩) hS ?_
        case refine_2 => ((intro w hSw; (try dsimp only at hSw); go_simp) <;> with_reducible rfl)
        try simp only [Act.put, List.setIfInBounds_toArray, List.set_cons_zero, List.set_cons_succ]
        refine wpAnyH_take (i := 8) (v := ?_) (by simp only [List.getElem?_toArray, List.getElem?_cons_succ, List.getElem?_cons_zero]; rfl) (by kernel_rfl) (by kernel_rfl) (by kernel_rfl) (by exact fun _ _ _ h => h) (Or.inl ⟨by kernel_rfl, ?_⟩) hS ?_
        case refine_2 => ((intro w hSw; (try dsimp only at hSw); go_simp) <;> with_reducible rfl)
        try simp only [Act.put, List.setIfInBounds_toArray, List.set_cons_zero, List.set_cons_succ]
        refine wpAnyH_take (i := 9) (v := ?_) (by simp only [List.getElem?_toArray, List.getElem?_cons_succ, List.getElem?_cons_zero]; rfl) (by kernel_rfl) (by kernel_rfl) (by kernel_rfl) (by exact fun _ _ _ h => h) (Or.inl ⟨by kernel_rfl, ?_⟩) hS ?_
        case refine_2 => ((intro w hSw; (try dsimp only at hSw); go_simp) <;> with_reducible rfl)
        try simp only [Act.put, List.setIfInBounds_toArray, List.set_cons_zero, List.set_cons_succ]
        refine wpAnyH_take (i := 10) (v := ?_) (by simp only [List.getElem?_toArray, List.getElem?_cons_succ, List.getElem?_cons_zero]; rfl) (by kernel_rfl) (by kernel_rfl) (by kernel_rfl) (by exact fun _ _ _ h => h) (Or.inl ⟨by kernel_rfl, ?_⟩) hS ?_
        case refine_2 => ((intro w hSw; (try dsimp only at hSw); go_simp) <;> with_reducible rfl)
        try simp only [Act.put, List.setIfInBounds_toArray, List.set_cons_zero, List.set_cons_succ]
        refine wpAnyH_take (i := 11) (v := ?_) (by simp only [List.getElem?_toArray, List.getElem?_cons_succ, List.getElem?_cons_zero]; rfl) (by kernel_rfl) (by kernel_rfl) (by kernel_rfl) (by exact fun _ _ _ h => h) (Or.inl ⟨by kernel_rfl, ?_⟩) hS ?_
        case refine_2 => ((intro w hSw; (try dsimp only at hSw); go_simp) <;> with_reducible rfl)
        try simp only [Act.put, List.setIfInBounds_toArray, List.set_cons_zero, List.set_cons_succ]
        refine wpAnyH_take (i := 12) (v := ?_) (by simp only [List.getElem?_toArray, List.getElem?_cons_succ, List.getElem?_cons_zero]; rfl) (by kernel_rfl) (by kernel_rfl) (by kernel_rfl) (by exact fun _ _ _ h => h) (Or.inl ⟨by kernel_rfl, ?_⟩) hS ?_
        case refine_2 => ((intro w hSw; (try dsimp only at hSw); go_simp) <;> with_reducible rfl)
        try simp only [Act.put, List.setIfInBounds_toArray, List.set_cons_zero, List.set_cons_succ]
        refine wpAnyH_take (i := 13) (v := ?_) (by simp only [List.getElem?_toArray, List.getElem?_cons_succ, List.getElem?_cons_zero]; rfl) (by kernel_rfl) (by kernel_rfl) (by kernel_rfl) (by exact fun _ _ _ h => h) (Or.inl ⟨by kernel_rfl, ?_⟩) hS ?_
        case refine_2 => ((intro w hSw; (try dsimp only at hSw); go_simp) <;> with_reducible rfl)
        try simp only [Act.put, List.setIfInBounds_toArray, List.set_cons_zero, List.set_cons_succ]
        refine wpAnyH_take (i := 14) (v := ?_) (by simp only [List.getElem?_toArray, List.getElem?_cons_succ, List.getElem?_cons_zero]; rfl) (by kernel_rfl) (by kernel_rfl) (by kernel_rfl) (by exact fun _ _ _ h => h) (Or.inl ⟨by kernel_rfl, ?_⟩) hS ?_
        case refine_2 => ((intro w hSw; (try dsimp only at hSw); go_simp) <;> with_reducible rfl)
        try simp only [Act.put, List.setIfInBounds_toArray, List.set_cons_zero, List.set_cons_succ]
        refine wpAnyH_take (i := 15) (v := ?_) (by simp only [List.getElem?_toArray, List.getElem?_cons_succ, List.getElem?_cons_zero]; rfl) (by kernel_rfl) (by kernel_rfl) (by kernel_rfl) (by exact fun _ _ _ h => h) (Or.inl ⟨by kernel_rfl, ?_⟩) hS ?_
        case refine_2 => ((intro w hSw; (try dsimp only at hSw); go_simp) <;> with_reducible rfl)
        try simp only [Act.put, List.setIfInBounds_toArray, List.set_cons_zero, List.set_cons_succ]
        refine wpAnyH_take (i := 16) (v := ?_) (by simp only [List.getElem?_toArray, List.getElem?_cons_succ, List.getElem?_cons_zero]; rfl) (by kernel_rfl) (by kernel_rfl) (by kernel_rfl) (by exact fun _ _ _ h => h) (Or.inl ⟨by kernel_rfl, ?_⟩) hS ?_
        case refine_2 => ((intro w hSw; (try dsimp only at hSw); go_simp) <;> with_reducible rfl)
        try simp only [Act.put, List.setIfInBounds_toArray, List.set_cons_zero, List.set_cons_succ]
        refine wpAnyH_take (i := 17) (v := ?_) (by simp only [List.getElem?_toArray, List.getElem?_cons_succ, List.getElem?_cons_zero]; rfl) (by kernel_rfl) (by kernel_rfl) (by kernel_rfl) (by exact fun _ _ _ h => h) (Or.inl ⟨by kernel_rfl, ?_⟩) hS ?_
        case refine_2 => ((intro w hSw; (try dsimp only at hSw); go_simp) <;> with_reducible rfl)
        try simp only [Act.put, List.setIfInBounds_toArray, List.set_cons_zero, List.set_cons_succ]
        refine wpAnyH_take (i := 18) (v := ?_) (by simp only [List.getElem?_toArray, List.getElem?_cons_succ, List.getElem?_cons_zero]; rfl) (by kernel_rfl) (by kernel_rfl) (by kernel_rfl) (by exact fun _ _ _ h => h) (Or.inl ⟨by kernel_rfl, ?_⟩) hS ?_
        case refine_2 => ((intro w hSw; (try dsimp only at hSw); go_simp) <;> with_reducible rfl)
        try simp only [Act.put, List.setIfInBounds_toArray, List.set_cons_zero, List.set_cons_succ]
        refine wpAnyH_take (i := 19) (v := ?_) (by simp only [List.getElem?_toArray, List.getElem?_cons_succ, List.getElem?_cons_zero]; rfl) (by kernel_rfl) (by kernel_rfl) (by kernel_rfl) (by exact fun _ _ _ h => h) (Or.inl ⟨by kernel_rfl, ?_⟩) hS ?_
        case refine_2 => ((intro w hSw; (try dsimp only at hSw); go_simp) <;> with_reducible rfl)
        try simp only [Act.put, List.setIfInBounds_toArray, List.set_cons_zero, List.set_cons_succ]
        refine wpAnyH_take (i := 20) (v := ?_) (by simp only [List.getElem?_toArray, List.getElem?_cons_succ, List.getElem?_cons_zero]; rfl) (by kernel_rfl) (by kernel_rfl) (by kernel_rfl) (by exact fun _ _ _ h => h) (Or.inl ⟨by kernel_rfl, ?_⟩) hS ?_
        case refine_2 => ((intro w hSw; (try dsimp only at hSw); go_simp) <;> with_reducible rfl)
        try simp only [Act.put, List.setIfInBounds_toArray, List.set_cons_zero, List.set_cons_succ]
        refine wpAnyH_take (i := 21) (v := ?_) (by simp only [List.getElem?_toArray, List.getElem?_cons_succ, List.getElem?_cons_zero]; rfl) (by kernel_rfl) (by kernel_rfl) (by kernel_rfl) (by exact fun _ _ _ h => h) (Or.inl ⟨by kernel_rfl, ?_⟩) hS ?_
        case refine_2 => ((intro w hSw; (try dsimp only at hSw); go_simp) <;> with_reducible rfl)
        try simp only [Act.put, List.setIfInBounds_toArray, List.set_cons_zero, List.set_cons_succ]
        refine wpAnyH_take (i := 22) (v := ?_) (by simp only [List.getElem?_toArray, List.getElem?_cons_succ, List.getElem?_cons_zero]; rfl) (by kernel_rfl) (by kernel_rfl) (by kernel_rfl) (by exact fun _ _ _ h => h) (Or.inl ⟨by kernel_rfl, ?_⟩) hS ?_
        case refine_2 => ((intro w hSw; (try dsimp only at hSw); go_simp) <;> with_reducible rfl)
        try simp only [Act.put, List.setIfInBounds_toArray, List.set_cons_zero, List.set_cons_succ]
        refine wpAnyH_take (i := 23) (v := ?_) (by simp only [List.getElem?_toArray, List.getElem?_cons_succ, List.getElem?_cons_zero]; rfl) (by kernel_rfl) (by kernel_rfl) (by kernel_rfl) (by exact fun _ _ _ h => h) (Or.inl ⟨by kernel_rfl, ?_⟩) hS ?_
        case refine_2 => ((intro w hSw; (try dsimp only at hSw); go_simp) <;> with_reducible rfl)
        try simp only [Act.put, List.setIfInBounds_toArray, List.set_cons_zero, List.set_cons_succ]
        refine wpAnyH_take (i := 24) (v := ?_) (by simp only [List.getElem?_toArray, List.getElem?_cons_succ, List.getElem?_cons_zero]; rfl) (by kernel_rfl) (by kernel_rfl) (by kernel_rfl) (by exact fun _ _ _ h => h) (Or.inl ⟨by kernel_rfl, ?_⟩) hS ?_
        case refine_2 => ((intro w hSw; (try dsimp only at hSw); go_simp) <;> with_reducible rfl)
        try simp only [Act.put, List.setIfInBounds_toArray, List.set_cons_zero, List.set_cons_succ]
        refine wpAnyH_take (i := 25) (v := ?_) (by simp only [List.getElem?_toArray, List.getElem?_cons_succ, List.getElem?_cons_zero]; rfl) (by kernel_rfl) (by kernel_rfl) (by kernel_rfl) (by exact fun _ _ _ h => h) (Or.inl ⟨by kernel_rfl, ?_⟩) hS ?_
        case refine_2 => ((intro w hSw; (try dsimp only at hSw); go_simp) <;> with_reducible rfl)
        try simp only [Act.put, List.setIfInBounds_toArray, List.set_cons_zero, List.set_cons_succ]
        refine wpAnyH_take (i := 26) (v := ?_) (by simp only [List.getElem?_toArray, List.getElem?_cons_succ, List.getElem?_cons_zero]; rfl) (by kernel_rfl) (by kernel_rfl) (by kernel_rfl) (by exact fun _ _ _ h => h) (Or.inl ⟨by kernel_rfl, ?_⟩) hS ?_
        case refine_2 => ((intro w hSw; (try dsimp only at hSw); go_simp) <;> with_reducible rfl)
        try simp only [Act.put, List.setIfInBounds_toArray, List.set_cons_zero, List.set_cons_succ]
        refine wpAnyH_take (i := 27) (v := ?_) (by simp only [List.getElem?_toArray, List.getElem?_cons_succ, List.getElem?_cons_zero]; rfl) (by kernel_rfl) (by kernel_rfl) (by kernel_rfl) (by exact fun _ _ _ h => h) (Or.inl ⟨by kernel_rfl, ?_⟩) hS ?_
        case refine_2 => ((intro w hSw; (try dsimp only at hSw); go_simp) <;> with_reducible rfl)
        try simp only [Act.put, List.setIfInBounds_toArray, List.set_cons_zero, List.set_cons_succ]
        refine wpAnyH_take (i := 28) (v := ?_) (by simp only [List.getElem?_toArray, List.getElem?_cons_succ, List.getElem?_cons_zero]; rfl) (by kernel_rfl) (by kernel_rfl) (by kernel_rfl) (by exact fun _ _ _ h => h) (Or.inl ⟨by kernel_rfl, ?_⟩) hS ?_
        case refine_2 => ((intro w hSw; (try dsimp only at hSw); go_simp) <;> with_reducible rfl)
        try simp only [Act.put, List.setIfInBounds_toArray, List.set_cons_zero, List.set_cons_succ]
        refine wpAnyH_take (i := 29) (v := ?_) (by simp only [List.getElem?_toArray, List.getElem?_cons_succ, List.getElem?_cons_zero]; rfl) (by kernel_rfl) (by kernel_rfl) (by kernel_rfl) (by exact fun _ _ _ h => h) (Or.inl ⟨by kernel_rfl, ?_⟩) hS ?_
        case refine_2 => ((intro w hSw; (try dsimp only at hSw); go_simp) <;> with_reducible rfl)
        try simp only [Act.put, List.setIfInBounds_toArray, List.set_cons_zero, List.set_cons_succ]
        refine wpAnyH_take (i := 30) (v := ?_) (by simp only [List.getElem?_toArray, List.getElem?_cons_succ, List.getElem?_cons_zero]; rfl) (by kernel_rfl) (by kernel_rfl) (by kernel_rfl) (by exact fun _ _ _ h => h) (Or.inl ⟨by kernel_rfl, ?_⟩) hS ?_
        case refine_2 => ((intro w hSw; (try dsimp only at hSw); go_simp) <;> with_reducible rfl)
        try simp only [Act.put, List.setIfInBounds_toArray, List.set_cons_zero, List.set_cons_succ]
        refine wpAnyH_done (by kernel_rfl) ?_ _
        obtain ⟨ct, cl, cr, fr, fn⟩ := HF.out
        clear hS
        have hst : Chg [bn0] W ((W.setCell ⟨bn0, 0, none⟩ (.int .i64 ((pre.length : Int) + 1))).drew) := ((Chg.refl _ _).setCell _ _ (by simp)).drew
        have HP := Lib.hid (And.intro HPre.out (And.intro hst (And.intro (show (((pre ++ [(x1, x2)]).length : Nat) : Int) = (pre.length : Int) + 1 by simp) (show ∀ k ∈ [bn0], ∀ o, W.heap[k]? = some o → o.isCells = true from fun k hk o ho => by
          simp at hk
          subst hk
          rw [HC.out.2.2.1] at ho; cases ho; rfl))))
        clear hst
        by_cases hle : ((pre.length : Int) + 1) = leave
        · have hl1 : (((pre.length : Int) + 1) == leave) = true := by simpa using hle
          have HLe := Lib.hid hle
          clear hle
          gi_wp2
          exact ⟨keepsFrom_chg HP.out.2.1 HP.out.2.2.2, .inr ⟨rfl, by rw [HP.out.2.2.1]; exact HLe.out, HP.out.2.1.blk HC.out.2.1 (by have := HC.out.2.2.2.1.lt; simp; omega), by rw [HP.out.2.2.1]; exact blk_setCell HC.out.2.2.1 _, HC.out.2.2.2.1.kept HP.out.2.1 (by simp)⟩⟩
        · have hl1 : (((pre.length : Int) + 1) == leave) = false := by simpa using hle
          clear hle
          gi_wp2
          exact ⟨keepsFrom_chg HP.out.2.1 HP.out.2.2.2, KpS.chg HP.out.2.1 (by simp), HP.out.1, HP.out.2.1.blk HC.out.2.1 (by have := HC.out.2.2.2.1.lt; simp; omega), by rw [HP.out.2.2.1]; exact blk_setCell HC.out.2.2.1 _, HC.out.2.2.2.1.kept HP.out.2.1 (by simp)⟩
      · have hnp : ¬ pre ++ [(x1, x2)] <+: L.map keyH := by
          rintro ⟨r, hr⟩
          have := HC.out.2.2.2.2
          rw [← hr, List.append_assoc, List.getElem?_append_right (Nat.le_refl _), Nat.sub_self] at this
          simp at this
          exact hxy this
        have HP := Lib.hid hnp
        have hways : (x1 != y1) = true ∨ ((x1 != y1) = false ∧ (x2 != y2) = true) := by
          by_cases h1 : x1 = y1
          · right; exact ⟨by simp [h1], by simpa using fun h2 => hxy ⟨h1, h2⟩⟩
          · left; simpa using h1
        clear hnp hxy
        rcases hways with g1 | ⟨g1, g2⟩
        · have HF := Lib.hid (And.intro cr fr)
          clear ct cl cr fr fn
          gi_wp2_with fail
          refine region_round (S := fun w' => w'.cell? ⟨bn0, 0, none⟩ = some (.int .i64 pre.length) ∧ w'.cell? ⟨b5, 0, none⟩ = some (.pointer (some ⟨rb, 0, none⟩)) ∧ w'.cell? ⟨rb, 0, none⟩ = some (.slice (some ⟨g, 0, none⟩) n cap) ∧ w'.cell? ⟨g, pre.length * 2, none⟩ = some (.int .i64 y1) ∧ w'.cell? ⟨g, pre.length * 2 + 1, none⟩ = some (.int .i64 y2)) (by kernel_rfl) (by rintro ⟨_, _, h⟩; exact h) (by kernel_rfl) ⟨cn, c5, cq, cy0, cy1⟩ (fun hS => ?_)
          refine wpAnyH_take (i := 0) (v := ?_) (by simp only [List.getElem?_toArray, List.getElem?_cons_zero]; rfl) (by kernel_rfl) (by kernel_rfl) (by kernel_rfl) (by exact fun _ _ _ h => h) (Or.inl ⟨by kernel_rfl, ?_⟩) hS ?_
          case refine_2 => ((intro w hSw; (try dsimp only at hSw); go_simp) <;> with_reducible rfl)
          try simp only [Act.put, List.setIfInBounds_toArray, List.set_cons_zero, List.set_cons_succ]
          refine wpAnyH_take (i := 1) (v := ?_) (by simp only [List.getElem?_toArray, List.getElem?_cons_succ, List.getElem?_cons_zero]; rfl) (by kernel_rfl) (by kernel_rfl) (by kernel_rfl) (by exact fun _ _ _ h => h) (Or.inl ⟨by kernel_rfl, ?_⟩) hS ?_
          case refine_2 => ((intro w hSw; (try dsimp only at hSw); go_simp) <;> with_reducible rfl)
          try simp only [Act.put, List.setIfInBounds_toArray, List.set_cons_zero, List.set_cons_succ]
          refine wpAnyH_take (i := 2) (v := ?_) (by simp only [List.getElem?_toArray, List.getElem?_cons_succ, List.getElem?_cons_zero]; rfl) (by kernel_rfl) (by kernel_rfl) (by kernel_rfl) (by exact fun _ _ _ h => h) (Or.inl ⟨by kernel_rfl, ?_⟩) hS ?_
          case refine_2 => ((intro w hSw; (try dsimp only at hSw); go_simp) <;> with_reducible rfl)
          try simp only [Act.put, List.setIfInBounds_toArray, List.set_cons_zero, List.set_cons_succ]
          refine wpAnyH_take (i := 3) (v := ?_) (by simp only [List.getElem?_toArray, List.getElem?_cons_succ, List.getElem?_cons_zero]; rfl) (by kernel_rfl) (by kernel_rfl) (by kernel_rfl) (by exact fun _ _ _ h => h) (Or.inl ⟨by kernel_rfl, ?_⟩) hS ?_
          case refine_2 => ((intro w hSw; (try dsimp only at hSw); go_simp) <;> with_reducible rfl)
          try simp only [Act.put, List.setIfInBounds_toArray, List.set_cons_zero, List.set_cons_succ]
          refine wpAnyH_take (i := 4) (v := ?_) (by simp only [List.getElem?_toArray, List.getElem?_cons_succ, List.getElem?_cons_zero]; rfl) (by kernel_rfl) (by kernel_rfl) (by kernel_rfl) (by exact fun _ _ _ h => h) (Or.inl ⟨by kernel_rfl, ?_⟩) hS ?_
          case refine_2 => ((intro w hSw; (try dsimp only at hSw); go_simp) <;> with_reducible rfl)
          try simp only [Act.put, List.setIfInBounds_toArray, List.set_cons_zero, List.set_cons_succ]
          refine wpAnyH_take (i := 5) (v := ?_) (by simp only [List.getElem?_toArray, List.getElem?_cons_succ, List.getElem?_cons_zero]; rfl) (by kernel_rfl) (by kernel_rfl) (by kernel_rfl) (by exact fun _ _ _ h => h) (Or.inl ⟨by kernel_rfl, ?_⟩) hS ?_
          case refine_2 => ((intro w hSw; (try dsimp only at hSw); go_simp) <;> with_reducible rfl)
          try simp only [Act.put, List.setIfInBounds_toArray, List.set_cons_zero, List.set_cons_succ]
          refine wpAnyH_take (i := 6) (v := ?_) (by simp only [List.getElem?_toArray, List.getElem?_cons_succ, List.getElem?_cons_zero]; rfl) (by kernel_rfl) (by kernel_rfl) (by kernel_rfl) (by exact fun _ _ _ h => h) (Or.inl ⟨by kernel_rfl, ?_⟩) hS ?_
          case refine_2 => ((intro w hSw; (try dsimp only at hSw); go_simp) <;> with_reducible rfl)
          try simp only [Act.put, List.setIfInBounds_toArray, List.set_cons_zero, List.set_cons_succ]
          refine wpAnyH_take (i := 7) (v := ?_) (by simp only [List.getElem?_toArray, List.getElem?_cons_succ, List.getElem?_cons_zero]; rfl) (by kernel_rfl) (by kernel_rfl) (by kernel_rfl) (by exact fun _ _ _ h => h) (Or.inl ⟨by kernel_rfl, ?_⟩) hS ?_
          case refine_2 => ((intro w hSw; (try dsimp only at hSw); go_simp) <;> with_reducible rfl)
          try simp only [Act.put, List.setIfInBounds_toArray, List.set_cons_zero, List.set_cons_succ]
          refine wpAnyH_take (i := 8) (v := ?_) (by simp only [List.getElem?_toArray, List.getElem?_cons_succ, List.getElem?_cons_zero]; rfl) (by kernel_rfl) (by kernel_rfl) (by kernel_rfl) (by exact fun _ _ _ h => h) (Or.inl ⟨by kernel_rfl, ?_⟩) hS ?_
          case refine_2 => ((intro w hSw; (try dsimp only at hSw); go_simp) <;> with_reducible rfl)
          try simp only [Act.put, List.setIfInBounds_toArray, List.set_cons_zero, List.set_cons_succ]
          refine wpAnyH_take (i := 9) (v := ?_) (by simp only [List.getElem?_toArray, List.getElem?_cons_succ, List.getElem?_cons_zero]; rfl) (by kernel_rfl) (by kernel_rfl) (by kernel_rfl) (by exact fun _ _ _ h => h) (Or.inl ⟨by kernel_rfl, ?_⟩) hS ?_
          case refine_2 => ((intro w hSw; (try dsimp only at hSw); go_simp) <;> with_reducible rfl)
          try simp only [Act.put, List.setIfInBounds_toArray, List.set_cons_zero, List.set_cons_succ]
          refine wpAnyH_take (i := 10) (v := ?_) (by simp only [List.getElem?_toArray, List.getElem?_cons_succ, List.getElem?_cons_zero]; rfl) (by kernel_rfl) (by kernel_rfl) (by kernel_rfl) (by exact fun _ _ _ h => h) (Or.inl ⟨by kernel_rfl, ?_⟩) hS ?_
          case refine_2 => ((intro w hSw; (try dsimp only at hSw); go_simp) <;> with_reducible rfl)
          try simp only [Act.put, List.setIfInBounds_toArray, List.set_cons_zero, List.set_cons_succ]
          refine wpAnyH_take (i := 11) (v := ?_) (by simp only [List.getElem?_toArray, List.getElem?_cons_succ, List.getElem?_cons_zero]; rfl) (by kernel_rfl) (by kernel_rfl) (by kernel_rfl) (by exact fun _ _ _ h => h) (Or.inl ⟨by kernel_rfl, ?_⟩) hS ?_
          case refine_2 => ((intro w hSw; (try dsimp only at hSw); go_simp) <;> with_reducible rfl)
          try simp only [Act.put, List.setIfInBounds_toArray, List.set_cons_zero, List.set_cons_succ]
          refine wpAnyH_take (i := 12) (v := ?_) (by simp only [List.getElem?_toArray, List.getElem?_cons_succ, List.getElem?_cons_zero]; rfl) (by kernel_rfl) (by kernel_rfl) (by kernel_rfl) (by exact fun _ _ _ h => h) (Or.inl ⟨by kernel_rfl, ?_⟩) hS ?_
          case refine_2 => ((intro w hSw; (try dsimp only at hSw); go_simp) <;> with_reducible rfl)
          try simp only [Act.put, List.setIfInBounds_toArray, List.set_cons_zero, List.set_cons_succ]
          refine wpAnyH_take (i := 13) (v := ?_) (by simp only [List.getElem?_toArray, List.getElem?_cons_succ, List.getElem?_cons_zero]; rfl) (by kernel_rfl) (by kernel_rfl) (by kernel_rfl) (by exact fun _ _ _ h => h) (Or.inl ⟨by kernel_rfl, ?_⟩) hS ?_
          case refine_2 => ((intro w hSw; (try dsimp only at hSw); go_simp) <;> with_reducible rfl)
          try simp only [Act.put, List.setIfInBounds_toArray, List.set_cons_zero, List.set_cons_succ]
          refine wpAnyH_take (i := 14) (v := ?_) (by simp only [List.getElem?_toArray, List.getElem?_cons_succ, List.getElem?_cons_zero]; rfl) (by kernel_rfl) (by kernel_rfl) (by kernel_rfl) (by exact fun _ _ _ h => h) (Or.inl ⟨by kernel_rfl, ?_⟩) hS ?_
          case refine_2 => ((intro w hSw; (try dsimp only at hSw); go_simp) <;> with_reducible rfl)
          try simp only [Act.put, List.setIfInBounds_toArray, List.set_cons_zero, List.set_cons_succ]
          refine wpAnyH_take (i := 15) (v := ?_) (by simp only [List.getElem?_toArray, List.getElem?_cons_succ, List.getElem?_cons_zero]; rfl) (by kernel_rfl) (by kernel_rfl) (by kernel_rfl) (by exact fun _ _ _ h => h) (Or.inl ⟨by kernel_rfl, ?_⟩) hS ?_
          case refine_2 => ((intro w hSw; (try dsimp only at hSw); go_simp) <;> with_reducible rfl)
          try simp only [Act.put, List.setIfInBounds_toArray, List.set_cons_zero, List.set_cons_succ]
          refine wpAnyH_take (i := 16) (v := ?_) (by simp only [List.getElem?_toArray, List.getElem?_cons_succ, List.getElem?_cons_zero]; rfl) (by kernel_rfl) (by kernel_rfl) (by kernel_rfl) (by exact fun _ _ _ h => h) (Or.inl ⟨by kernel_rfl, ?_⟩) hS ?_
          case refine_2 => ((intro w hSw; (try dsimp only at hSw); go_simp) <;> with_reducible rfl)
          try simp only [Act.put, List.setIfInBounds_toArray, List.set_cons_zero, List.set_cons_succ]
          refine wpAnyH_take (i := 17) (v := ?_) (by simp only [List.getElem?_toArray, List.getElem?_cons_succ, List.getElem?_cons_zero]; rfl) (by kernel_rfl) (by kernel_rfl) (by kernel_rfl) (by exact fun _ _ _ h => h) (Or.inl ⟨by kernel_rfl, ?_⟩) hS ?_
          case refine_2 => ((intro w hSw; (try dsimp only at hSw); go_simp) <;> with_reducible rfl)
          try simp only [Act.put, List.setIfInBounds_toArray, List.set_cons_zero, List.set_cons_succ]
          refine wpAnyH_take (i := 18) (v := ?_) (by simp only [List.getElem?_toArray, List.getElem?_cons_succ, List.getElem?_cons_zero]; rfl) (by kernel_rfl) (by kernel_rfl) (by kernel_rfl) (by exact fun _ _ _ h => h) (Or.inl ⟨by kernel_rfl, ?_⟩) hS ?_
          case refine_2 => ((intro w hSw; (try dsimp only at hSw); go_simp) <;> with_reducible rfl)
          try simp only [Act.put, List.setIfInBounds_toArray, List.set_cons_zero, List.set_cons_succ]
          refine wpAnyH_take (i := 19) (v := ?_) (by simp only [List.getElem?_toArray, List.getElem?_cons_succ, List.getElem?_cons_zero]; rfl) (by kernel_rfl) (by kernel_rfl) (by kernel_rfl) (by exact fun _ _ _ h => h) (Or.inl ⟨by kernel_rfl, ?_⟩) hS ?_
          case refine_2 => ((intro w hSw; (try dsimp only at hSw); go_simp) <;> with_reducible rfl)
          try simp only [Act.put, List.setIfInBounds_toArray, List.set_cons_zero, List.set_cons_succ]
          refine wpAnyH_take (i := 20) (v := undef) (by simp only [List.getElem?_toArray, List.getElem?_cons_succ, List.getElem?_cons_zero]; rfl) (by kernel_rfl) (by kernel_rfl) (by kernel_rfl) (by exact fun _ _ _ h => h) (Or.inr ⟨by kernel_rfl, rfl⟩) hS ?_
          try simp only [Act.put, List.setIfInBounds_toArray, List.set_cons_zero, List.set_cons_succ]
          refine wpAnyH_take (i := 21) (v := undef) (by simp only [List.getElem?_toArray, List.getElem?_cons_succ, List.getElem?_cons_zero]; rfl) (by kernel_rfl) (by kernel_rfl) (by kernel_rfl) (by exact fun _ _ _ h => h) (Or.inr ⟨by kernel_rfl, rfl⟩) hS ?_
          try simp only [Act.put, List.setIfInBounds_toArray, List.set_cons_zero, List.set_cons_succ]
          refine wpAnyH_take (i := 22) (v := undef) (by simp only [List.getElem?_toArray, List.getElem?_cons_succ, List.getElem?_cons_zero]; rfl) (by kernel_rfl) (by kernel_rfl) (by kernel_rfl) (by exact fun _ _ _ h => h) (Or.inr ⟨by kernel_rfl, rfl⟩) hS ?_
          try simp only [Act.put, List.setIfInBounds_toArray, List.set_cons_zero, List.set_cons_succ]
          refine wpAnyH_take (i := 23) (v := undef) (by simp only [List.getElem?_toArray, List.getElem?_cons_succ, List.getElem?_cons_zero]; rfl) (by kernel_rfl) (by kernel_rfl) (by kernel_rfl) (by exact fun _ _ _ h => h) (Or.inr ⟨by kernel_rfl, rfl⟩) hS ?_
          try simp only [Act.put, List.setIfInBounds_toArray, List.set_cons_zero, List.set_cons_succ]
          refine wpAnyH_take (i := 24) (v := undef) (by simp only [List.getElem?_toArray, List.getElem?_cons_succ, List.getElem?_cons_zero]; rfl) (by kernel_rfl) (by kernel_rfl) (by kernel_rfl) (by exact fun _ _ _ h => h) (Or.inr ⟨by kernel_rfl, rfl⟩) hS ?_
          try simp only [Act.put, List.setIfInBounds_toArray, List.set_cons_zero, List.set_cons_succ]
          refine wpAnyH_take (i := 25) (v := undef) (by simp only [List.getElem?_toArray, List.getElem?_cons_succ, List.getElem?_cons_zero]; rfl) (by kernel_rfl) (by kernel_rfl) (by kernel_rfl) (by exact fun _ _ _ h => h) (Or.inr ⟨by kernel_rfl, rfl⟩) hS ?_
          try simp only [Act.put, List.setIfInBounds_toArray, List.set_cons_zero, List.set_cons_succ]
          refine wpAnyH_take (i := 26) (v := undef) (by simp only [List.getElem?_toArray, List.getElem?_cons_succ, List.getElem?_cons_zero]; rfl) (by kernel_rfl) (by kernel_rfl) (by kernel_rfl) (by exact fun _ _ _ h => h) (Or.inr ⟨by kernel_rfl, rfl⟩) hS ?_
          try simp only [Act.put, List.setIfInBounds_toArray, List.set_cons_zero, List.set_cons_succ]
          refine wpAnyH_take (i := 27) (v := undef) (by simp only [List.getElem?_toArray, List.getElem?_cons_succ, List.getElem?_cons_zero]; rfl) (by kernel_rfl) (by kernel_rfl) (by kernel_rfl) (by exact fun _ _ _ h => h) (Or.inr ⟨by kernel_rfl, rfl⟩) hS ?_
          try simp only [Act.put, List.setIfInBounds_toArray, List.set_cons_zero, List.set_cons_succ]
          refine wpAnyH_take (i := 28) (v := undef) (by simp only [List.getElem?_toArray, List.getElem?_cons_succ, List.getElem?_cons_zero]; rfl) (by kernel_rfl) (by kernel_rfl) (by kernel_rfl) (by exact fun _ _ _ h => h) (Or.inr ⟨by kernel_rfl, rfl⟩) hS ?_
          try simp only [Act.put, List.setIfInBounds_toArray, List.set_cons_zero, List.set_cons_succ]
          refine wpAnyH_take (i := 29) (v := undef) (by simp only [List.getElem?_toArray, List.getElem?_cons_succ, List.getElem?_cons_zero]; rfl) (by kernel_rfl) (by kernel_rfl) (by kernel_rfl) (by exact fun _ _ _ h => h) (Or.inr ⟨by kernel_rfl, rfl⟩) hS ?_
          try simp only [Act.put, List.setIfInBounds_toArray, List.set_cons_zero, List.set_cons_succ]
          refine wpAnyH_take (i := 30) (v := ?_) (by simp only [List.getElem?_toArray, List.getElem?_cons_succ, List.getElem?_cons_zero]; rfl) (by kernel_rfl) (by kernel_rfl) (by kernel_rfl) (by exact fun _ _ _ h => h) (Or.inl ⟨by kernel_rfl, ?_⟩) hS ?_
          case refine_2 => ((intro w hSw; (try dsimp only at hSw); go_simp) <;> with_reducible rfl)
          try simp only [Act.put, List.setIfInBounds_toArray, List.set_cons_zero, List.set_cons_succ]
          refine wpAnyH_done (by kernel_rfl) ?_ _
          obtain ⟨cr, fr⟩ := HF.out
          clear hS
          gi_wp2
          exact ⟨keepsFrom_chg (S := [b5 + 1 + 1]) ((((Chg.refl _ _).setCell _ _ (by simp)) : Chg [b5 + 1 + 1] W (W.setCell ⟨b5 + 1 + 1, 0, none⟩ (.bool false))).drew) (by
            intro k hk o ho
            simp at hk
            subst hk
            rw [HC.out.2.1] at ho; cases ho; rfl), .inl ⟨rfl, HP.out⟩⟩
        · have HF := Lib.hid (And.intro cr fr)
          clear ct cl cr fr fn
          gi_wp2_with fail
          refine region_round (S := fun w' => w'.cell? ⟨bn0, 0, none⟩ = some (.int .i64 pre.length) ∧ w'.cell? ⟨b5, 0, none⟩ = some (.pointer (some ⟨rb, 0, none⟩)) ∧ w'.cell? ⟨rb, 0, none⟩ = some (.slice (some ⟨g, 0, none⟩) n cap) ∧ w'.cell? ⟨g, pre.length * 2, none⟩ = some (.int .i64 y1) ∧ w'.cell? ⟨g, pre.length * 2 + 1, none⟩ = some (.int .i64 y2)) (by kernel_rfl) (by rintro ⟨_, _, h⟩; exact h) (by kernel_rfl) ⟨cn, c5, cq, cy0, cy1⟩ (fun hS => ?_)
          refine wpAnyH_take (i := 0) (v := ?_) (by simp only [List.getElem?_toArray, List.getElem?_cons_zero]; rfl) (by kernel_rfl) (by kernel_rfl) (by kernel_rfl) (by exact fun _ _ _ h => h) (Or.inl ⟨by kernel_rfl, ?_⟩) hS ?_
          case refine_2 => ((intro w hSw; (try dsimp only at hSw); go_simp) <;> with_reducible rfl)
          try simp only [Act.put, List.setIfInBounds_toArray, List.set_cons_zero, List.set_cons_succ]
          refine wpAnyH_take (i := 1) (v := ?_) (by simp only [List.getElem?_toArray, List.getElem?_cons_succ, List.getElem?_cons_zero]; rfl) (by kernel_rfl) (by kernel_rfl) (by kernel_rfl) (by exact fun _ _ _ h => h) (Or.inl ⟨by kernel_rfl, ?_⟩) hS ?_
          case refine_2 => ((intro w hSw; (try dsimp only at hSw); go_simp) <;> with_reducible rfl)
          try simp only [Act.put, List.setIfInBounds_toArray, List.set_cons_zero, List.set_cons_succ]
          refine wpAnyH_take (i := 2) (v := ?_) (by simp only [List.getElem?_toArray, List.getElem?_cons_succ, List.getElem?_cons_zero]; rfl) (by kernel_rfl) (by kernel_rfl) (by kernel_rfl) (by exact fun _ _ _ h => h) (Or.inl ⟨by kernel_rfl, ?_⟩) hS ?_
          case refine_2 => ((intro w hSw; (try dsimp only at hSw); go_simp) <;> with_reducible rfl)
          try simp only [Act.put, List.setIfInBounds_toArray, List.set_cons_zero, List.set_cons_succ]
          refine wpAnyH_take (i := 3) (v := ?_) (by simp only [List.getElem?_toArray, List.getElem?_cons_succ, List.getElem?_cons_zero]; rfl) (by kernel_rfl) (by kernel_rfl) (by kernel_rfl) (by exact fun _ _ _ h => h) (Or.inl ⟨by kernel_rfl, ?_⟩) hS ?_
          case refine_2 => ((intro w hSw; (try dsimp only at hSw); go_simp) <;> with_reducible rfl)
          try simp only [Act.put, List.setIfInBounds_toArray, List.set_cons_zero, List.set_cons_succ]
          refine wpAnyH_take (i := 4) (v := ?_) (by simp only [List.getElem?_toArray, List.getElem?_cons_succ, List.getElem?_cons_zero]; rfl) (by kernel_rfl) (by kernel_rfl) (by kernel_rfl) (by exact fun _ _ _ h => h) (Or.inl ⟨by kernel_rfl, ?_⟩) hS ?_
          case refine_2 => ((intro w hSw; (try dsimp only at hSw); go_simp) <;> with_reducible rfl)
          try simp only [Act.put, List.setIfInBounds_toArray, List.set_cons_zero, List.set_cons_succ]
          refine wpAnyH_take (i := 5) (v := ?_) (by simp only [List.getElem?_toArray, List.getElem?_cons_succ, List.getElem?_cons_zero]; rfl) (by kernel_rfl) (by kernel_rfl) (by kernel_rfl) (by exact fun _ _ _ h => h) (Or.inl ⟨by kernel_rfl, ?_⟩) hS ?_
          case refine_2 => ((intro w hSw; (try dsimp only at hSw); go_simp) <;> with_reducible rfl)
          try simp only [Act.put, List.setIfInBounds_toArray, List.set_cons_zero, List.set_cons_succ]
          refine wpAnyH_take (i := 6) (v := ?_) (by simp only [List.getElem?_toArray, List.getElem?_cons_succ, List.getElem?_cons_zero]; rfl) (by kernel_rfl) (by kernel_rfl) (by kernel_rfl) (by exact fun _ _ _ h => h) (Or.inl ⟨by kernel_rfl, ?_⟩) hS ?_
          case refine_2 => ((intro w hSw; (try dsimp only at hSw); go_simp) <;> with_reducible rfl)
          try simp only [Act.put, List.setIfInBounds_toArray, List.set_cons_zero, List.set_cons_succ]
          refine wpAnyH_take (i := 7) (v := ?_) (by simp only [List.getElem?_toArray, List.getElem?_cons_succ, List.getElem?_cons_zero]; rfl) (by kernel_rfl) (by kernel_rfl) (by kernel_rfl) (by exact fun _ _ _ h => h) (Or.inl ⟨by kernel_rfl, ?_⟩) hS ?_
          case refine_2 => ((intro w hSw; (try dsimp only at hSw); go_simp) <;> with_reducible rfl)
          try simp only [Act.put, List.setIfInBounds_toArray, List.set_cons_zero, List.set_cons_succ]
          refine wpAnyH_take (i := 8) (v := ?_) (by simp only [List.getElem?_toArray, List.getElem?_cons_succ, List.getElem?_cons_zero]; rfl) (by kernel_rfl) (by kernel_rfl) (by kernel_rfl) (by exact fun _ _ _ h => h) (Or.inl ⟨by kernel_rfl, ?_⟩) hS ?_
          case refine_2 => ((intro w hSw; (try dsimp only at hSw); go_simp) <;> with_reducible rfl)
          try simp only [Act.put, List.setIfInBounds_toArray, List.set_cons_zero, List.set_cons_succ]
          refine wpAnyH_take (i := 9) (v := ?_) (by simp only [List.getElem?_toArray, List.getElem?_cons_succ, List.getElem?_cons_zero]; rfl) (by kernel_rfl) (by kernel_rfl) (by kernel_rfl) (by exact fun _ _ _ h => h) (Or.inl ⟨by kernel_rfl, ?_⟩) hS ?_
          case refine_2 => ((intro w hSw; (try dsimp only at hSw); go_simp) <;> with_reducible rfl)
          try simp only [Act.put, List.setIfInBounds_toArray, List.set_cons_zero, List.set_cons_succ]
          refine wpAnyH_take (i := 10) (v := ?_) (by simp only [List.getElem?_toArray, List.getElem?_cons_succ, List.getElem?_cons_zero]; rfl) (by kernel_rfl) (by kernel_rfl) (by kernel_rfl) (by exact fun _ _ _ h => h) (Or.inl ⟨by kernel_rfl, ?_⟩) hS ?_
          case refine_2 => ((intro w hSw; (try dsimp only at hSw); go_simp) <;> with_reducible rfl)
          try simp only [Act.put, List.setIfInBounds_toArray, List.set_cons_zero, List.set_cons_succ]
          refine wpAnyH_take (i := 11) (v := ?_) (by simp only [List.getElem?_toArray, List.getElem?_cons_succ, List.getElem?_cons_zero]; rfl) (by kernel_rfl) (by kernel_rfl) (by kernel_rfl) (by exact fun _ _ _ h => h) (Or.inl ⟨by kernel_rfl, ?_⟩) hS ?_
          case refine_2 => ((intro w hSw; (try dsimp only at hSw); go_simp) <;> with_reducible rfl)
          try simp only [Act.put, List.setIfInBounds_toArray, List.set_cons_zero, List.set_cons_succ]
          refine wpAnyH_take (i := 12) (v := ?_) (by simp only [List.getElem?_toArray, List.getElem?_cons_succ, List.getElem?_cons_zero]; rfl) (by kernel_rfl) (by kernel_rfl) (by kernel_rfl) (by exact fun _ _ _ h => h) (Or.inl ⟨by kernel_rfl, ?_⟩) hS ?_
          case refine_2 => ((intro w hSw; (try dsimp only at hSw); go_simp) <;> with_reducible rfl)
          try simp only [Act.put, List.setIfInBounds_toArray, List.set_cons_zero, List.set_cons_succ]
          refine wpAnyH_take (i := 13) (v := ?_) (by simp only [List.getElem?_toArray, List.getElem?_cons_succ, List.getElem?_cons_zero]; rfl) (by kernel_rfl) (by kernel_rfl) (by kernel_rfl) (by exact fun _ _ _ h => h) (Or.inl ⟨by kernel_rfl, ?_⟩) hS ?_
          case refine_2 => ((intro w hSw; (try dsimp only at hSw); go_simp) <;> with_reducible rfl)
          try simp only [Act.put, List.setIfInBounds_toArray, List.set_cons_zero, List.set_cons_succ]
          refine wpAnyH_take (i := 14) (v := ?_) (by simp only [List.getElem?_toArray, List.getElem?_cons_succ, List.getElem?_cons_zero]; rfl) (by kernel_rfl) (by kernel_rfl) (by kernel_rfl) (by exact fun _ _ _ h => h) (Or.inl ⟨by kernel_rfl, ?_⟩) hS ?_
          case refine_2 => ((intro w hSw; (try dsimp only at hSw); go_simp) <;> with_reducible rfl)
          try simp only [Act.put, List.setIfInBounds_toArray, List.set_cons_zero, List.set_cons_succ]
          refine wpAnyH_take (i := 15) (v := ?_) (by simp only [List.getElem?_toArray, List.getElem?_cons_succ, List.getElem?_cons_zero]; rfl) (by kernel_rfl) (by kernel_rfl) (by kernel_rfl) (by exact fun _ _ _ h => h) (Or.inl ⟨by kernel_rfl, ?_⟩) hS ?_
          case refine_2 => ((intro w hSw; (try dsimp only at hSw); go_simp) <;> with_reducible rfl)
          try simp only [Act.put, List.setIfInBounds_toArray, List.set_cons_zero, List.set_cons_succ]
          refine wpAnyH_take (i := 16) (v := ?_) (by simp only [List.getElem?_toArray, List.getElem?_cons_succ, List.getElem?_cons_zero]; rfl) (by kernel_rfl) (by kernel_rfl) (by kernel_rfl) (by exact fun _ _ _ h => h) (Or.inl ⟨by kernel_rfl, ?_⟩) hS ?_
          case refine_2 => ((intro w hSw; (try dsimp only at hSw); go_simp) <;> with_reducible rfl)
          try simp only [Act.put, List.setIfInBounds_toArray, List.set_cons_zero, List.set_cons_succ]
          refine wpAnyH_take (i := 17) (v := ?_) (by simp only [List.getElem?_toArray, List.getElem?_cons_succ, List.getElem?_cons_zero]; rfl) (by kernel_rfl) (by kernel_rfl) (by kernel_rfl) (by exact fun _ _ _ h => h) (Or.inl ⟨by kernel_rfl, ?_⟩) hS ?_
          case refine_2 => ((intro w hSw; (try dsimp only at hSw); go_simp) <;> with_reducible rfl)
          try simp only [Act.put, List.setIfInBounds_toArray, List.set_cons_zero, List.set_cons_succ]
          refine wpAnyH_take (i := 18) (v := ?_) (by simp only [List.getElem?_toArray, List.getElem?_cons_succ, List.getElem?_cons_zero]; rfl) (by kernel_rfl) (by kernel_rfl) (by kernel_rfl) (by exact fun _ _ _ h => h) (Or.inl ⟨by kernel_rfl, ?_⟩) hS ?_
          case refine_2 => ((intro w hSw; (try dsimp only at hSw); go_simp) <;> with_reducible rfl)
          try simp only [Act.put, List.setIfInBounds_toArray, List.set_cons_zero, List.set_cons_succ]
          refine wpAnyH_take (i := 19) (v := ?_) (by simp only [List.getElem?_toArray, List.getElem?_cons_succ, List.getElem?_cons_zero]; rfl) (by kernel_rfl) (by kernel_rfl) (by kernel_rfl) (by exact fun _ _ _ h => h) (Or.inl ⟨by kernel_rfl, ?_⟩) hS ?_
          case refine_2 => ((intro w hSw; (try dsimp only at hSw); go_simp) <;> with_reducible rfl)
          try simp only [Act.put, List.setIfInBounds_toArray, List.set_cons_zero, List.set_cons_succ]
          refine wpAnyH_take (i := 20) (v := ?_) (by simp only [List.getElem?_toArray, List.getElem?_cons_succ, List.getElem?_cons_zero]; rfl) (by kernel_rfl) (by kernel_rfl) (by kernel_rfl) (by exact fun _ _ _ h => h) (Or.inl ⟨by kernel_rfl, ?_⟩) hS ?_
          case refine_2 => ((intro w hSw; (try dsimp only at hSw); go_simp) <;> with_reducible rfl)
          try simp only [Act.put, List.setIfInBounds_toArray, List.set_cons_zero, List.set_cons_succ]
          refine wpAnyH_take (i := 21) (v := ?_) (by simp only [List.getElem?_toArray, List.getElem?_cons_succ, List.getElem?_cons_zero]; rfl) (by kernel_rfl) (by kernel_rfl) (by kernel_rfl) (by exact fun _ _ _ h => h) (Or.inl ⟨by kernel_rfl, ?_⟩) hS ?_
          case refine_2 => ((intro w hSw; (try dsimp only at hSw); go_simp) <;> with_reducible rfl)
          try simp only [Act.put, List.setIfInBounds_toArray, List.set_cons_zero, List.set_cons_succ]
          refine wpAnyH_take (i := 22) (v := ?_) (by simp only [List.getElem?_toArray, List.getElem?_cons_succ, List.getElem?_cons_zero]; rfl) (by kernel_rfl) (by kernel_rfl) (by kernel_rfl) (by exact fun _ _ _ h => h) (Or.inl ⟨by kernel_rfl, ?_⟩) hS ?_
          case refine_2 => ((intro w hSw; (try dsimp only at hSw); go_simp) <;> with_reducible rfl)
          try simp only [Act.put, List.setIfInBounds_toArray, List.set_cons_zero, List.set_cons_succ]
          refine wpAnyH_take (i := 23) (v := ?_) (by simp only [List.getElem?_toArray, List.getElem?_cons_succ, List.getElem?_cons_zero]; rfl) (by kernel_rfl) (by kernel_rfl) (by kernel_rfl) (by exact fun _ _ _ h => h) (Or.inl ⟨by kernel_rfl, ?_⟩) hS ?_
          case refine_2 => ((intro w hSw; (try dsimp only at hSw); go_simp) <;> with_reducible rfl)
          try simp only [Act.put, List.setIfInBounds_toArray, List.set_cons_zero, List.set_cons_succ]
          refine wpAnyH_take (i := 24) (v := ?_) (by simp only [List.getElem?_toArray, List.getElem?_cons_succ, List.getElem?_cons_zero]; rfl) (by kernel_rfl) (by kernel_rfl) (by kernel_rfl) (by exact fun _ _ _ h => h) (Or.inl ⟨by kernel_rfl, ?_⟩) hS ?_
          case refine_2 => ((intro w hSw; (try dsimp only at hSw); go_simp) <;> with_reducible rfl)
          try simp only [Act.put, List.setIfInBounds_toArray, List.set_cons_zero, List.set_cons_succ]
          refine wpAnyH_take (i := 25) (v := ?_) (by simp only [List.getElem?_toArray, List.getElem?_cons_succ, List.getElem?_cons_zero]; rfl) (by kernel_rfl) (by kernel_rfl) (by kernel_rfl) (by exact fun _ _ _ h => h) (Or.inl ⟨by kernel_rfl, ?_⟩) hS ?_
          case refine_2 => ((intro w hSw; (try dsimp only at hSw); go_simp) <;> with_reducible rfl)
          try simp only [Act.put, List.setIfInBounds_toArray, List.set_cons_zero, List.set_cons_succ]
          refine wpAnyH_take (i := 26) (v := ?_) (by simp only [List.getElem?_toArray, List.getElem?_cons_succ, List.getElem?_cons_zero]; rfl) (by kernel_rfl) (by kernel_rfl) (by kernel_rfl) (by exact fun _ _ _ h => h) (Or.inl ⟨by kernel_rfl, ?_⟩) hS ?_
          case refine_2 => ((intro w hSw; (try dsimp only at hSw); go_simp) <;> with_reducible rfl)
          try simp only [Act.put, List.setIfInBounds_toArray, List.set_cons_zero, List.set_cons_succ]
          refine wpAnyH_take (i := 27) (v := ?_) (by simp only [List.getElem?_toArray, List.getElem?_cons_succ, List.getElem?_cons_zero]; rfl) (by kernel_rfl) (by kernel_rfl) (by kernel_rfl) (by exact fun _ _ _ h => h) (Or.inl ⟨by kernel_rfl, ?_⟩) hS ?_
          case refine_2 => ((intro w hSw; (try dsimp only at hSw); go_simp) <;> with_reducible rfl)
          try simp only [Act.put, List.setIfInBounds_toArray, List.set_cons_zero, List.set_cons_succ]
          refine wpAnyH_take (i := 28) (v := ?_) (by simp only [List.getElem?_toArray, List.getElem?_cons_succ, List.getElem?_cons_zero]; rfl) (by kernel_rfl) (by kernel_rfl) (by kernel_rfl) (by exact fun _ _ _ h => h) (Or.inl ⟨by kernel_rfl, ?_⟩) hS ?_
          case refine_2 => ((intro w hSw; (try dsimp only at hSw); go_simp) <;> with_reducible rfl)
          try simp only [Act.put, List.setIfInBounds_toArray, List.set_cons_zero, List.set_cons_succ]
          refine wpAnyH_take (i := 29) (v := ?_) (by simp only [List.getElem?_toArray, List.getElem?_cons_succ, List.getElem?_cons_zero]; rfl) (by kernel_rfl) (by kernel_rfl) (by kernel_rfl) (by exact fun _ _ _ h => h) (Or.inl ⟨by kernel_rfl, ?_⟩) hS ?_
          case refine_2 => ((intro w hSw; (try dsimp only at hSw); go_simp) <;> with_reducible rfl)
          try simp only [Act.put, List.setIfInBounds_toArray, List.set_cons_zero, List.set_cons_succ]
          refine wpAnyH_take (i := 30) (v := ?_) (by simp only [List.getElem?_toArray, List.getElem?_cons_succ, List.getElem?_cons_zero]; rfl) (by kernel_rfl) (by kernel_rfl) (by kernel_rfl) (by exact fun _ _ _ h => h) (Or.inl ⟨by kernel_rfl, ?_⟩) hS ?_
          case refine_2 => ((intro w hSw; (try dsimp only at hSw); go_simp) <;> with_reducible rfl)
          try simp only [Act.put, List.setIfInBounds_toArray, List.set_cons_zero, List.set_cons_succ]
          refine wpAnyH_done (by kernel_rfl) ?_ _
          obtain ⟨cr, fr⟩ := HF.out
          clear hS
          gi_wp2
          exact ⟨keepsFrom_chg (S := [b5 + 1 + 1]) ((((Chg.refl _ _).setCell _ _ (by simp)) : Chg [b5 + 1 + 1] W (W.setCell ⟨b5 + 1 + 1, 0, none⟩ (.bool false))).drew) (by
            intro k hk o ho
            simp at hk
            subst hk
            rw [HC.out.2.1] at ho; cases ho; rfl), .inl ⟨rfl, HP.out⟩⟩
    · rintro D xs W hD hxs ⟨h1, h6, h2, h3⟩ hdef
      subst hxs
      rw [List.length_map, ← HFw.out.1] at h2
      have cn := cellB h2 (i := 0) (v := .int .i64 n) rfl
      have c5 := cellB h3.l5 (i := 0) (v := .pointer (some ⟨rb, 0, none⟩)) rfl
      have cq := cellB h3.q1 (i := 0) (v := .slice a n cap) rfl
      have ct := cellB h3.t (i := 0) (v := .int .i64 0) rfl
      have cl := cellB h3.l7 (i := 0) (v := .int .i64 leave) rfl
      have en : ((n : Int) != (n : Int)) = false := by simp
      have HC := Lib.hid (And.intro h6 (And.intro h2 (And.intro h3 (And.intro hdef hD))))
      clear h1 h6 h2 h3 hdef hD
      subst hA
      gi_wp2
      go_wp2_with fail
      go_quiet (fail)
      rename_i nq
      obtain ⟨Wd, hWd⟩ : ∃ Wd, Wd = W.drewN nq := ⟨_, rfl⟩
      rw [← hWd]
      have hCd : Chg [] W Wd := by rw [hWd]; exact (Chg.refl _ _).drewN nq
      have hsd : Wd.heap.size = W.heap.size := by rw [hWd]; rfl
      have ct := cellB (hCd.blk HC.out.2.2.1.t (by simp)) (i := 0) (v := .int .i64 0) rfl
      clear hWd
      go_wp2
      rw [rounds_succ]
      obtain ⟨bt1, hbt1⟩ : ∃ bt1, bt1 = W.heap.size := ⟨_, rfl⟩
      obtain ⟨W1, hW1⟩ : ∃ W1, W1 = Wd.alloc (.cells #[.int .i64 1] 3 (0, 0)) := ⟨_, rfl⟩
      rw [← hW1, ← hbt1]
      have hCa : Chg [] W W1 := by rw [hW1]; exact hCd.alloc _
      have hsz1 : W1.heap.size = W.heap.size + 1 := by rw [hW1]; simp [hsd]
      have hl8 := lt_of_blk HC.out.1
      have hln := lt_of_blk HC.out.2.1
      have hn0 := HQ0.out.2.2.2.2.1
      have hlt0 := HC.out.2.2.1.lt
      have hDg := HC.out.2.2.2.2
      have HSd1 := Lib.hid (HC.out.2.2.1.next hCa bt1 D 1 (by rw [hW1, hbt1, ← hsd]; exact heap_alloc_eq Wd _) HC.out.2.2.2.1 (by omega) (by omega) (by omega))
      have Hb81 := Lib.hid (hCa.blk HC.out.1 (by simp))
      have HDb := Lib.hid (show w.heap.size ≤ D from by omega)
      clear cn c5 cq ct cl HC HSd Hb8 HQ0 HA0 hCa hsz1 hW1 hbt1 hCd hsd hl8 hln hn0 hlt0 hDg
      have ct := cellB HSd1.out.t (i := 0) (v := .int .i64 1) rfl
      go_wp2
      obtain ⟨bn1, hbn1⟩ : ∃ bn, bn = W1.heap.size := ⟨_, rfl⟩
      obtain ⟨W1n, hW1n⟩ : ∃ wn, wn = W1.alloc (.cells #[.int .i64 0] 3 (0, 0)) := ⟨_, rfl⟩
      have hCn : Chg [] W1 W1n := by rw [hW1n]; exact (Chg.refl _ _).alloc _
      have hbn := (show W1n.heap[bn1]? = some (.cells #[.int .i64 0] 3 (0, 0)) from by rw [hW1n, hbn1]; exact heap_alloc_eq W1 _)
      have hS1 := HSd1.out.kept hCn (by simp)
      have hnB : W1n.heap.size = bn1 + 1 := by rw [hW1n, hbn1]; simp
      have hou : ∀ k ∈ u.ownBlock.toList, k ∉ [bn1, b5 + 1 + 1] := fun k hk => by have h1 := (HSd1.out.ou k hk); simp; omega
      have hseq := all1_stops [bn1, b5 + 1 + 1] [] (by simp) bl u 0 L W1n hS1.sq (by have := hS1.so; rw [HFw.out.1] at this; exact this) (by have := HFw.out.2; omega) hou
      have HQ1 := Lib.hid (And.intro hseq (And.intro hS1 (And.intro hbn (And.intro (hCn.blk Hb81.out (by simp)) (And.intro hnB hbn1)))))
      rw [← hW1n, ← hbn1]
      clear hCn hbn hS1 hseq hW1n hbn1 hnB hou
      refine (wpIn_wide (n := 5)).1 ?_
      refine wpIn_act (fun A hA => ?_)
      have HA1 := Lib.hid hA
      refine wpIn_rangeFunc_ownH rfl (by omega) (gf := 36) (lb := #[.pointer (some ⟨bl, 0, none⟩)]) (by rw [hA]; rfl) trivial (enters_of Try.func36 (by kernel_rfl) rfl) HQ1.out.1
        KpS.trans (fun W l o o' _ ho h1 h2 => KpS.put o' ho h1 h2) (Below.refl _ _) (fun _ => rfl)
        (fun pre W => pre <+: L.map keyH ∧ W.heap[b5 + 1 + 1]? = some (.cells #[.bool false] 4 (0, 0)) ∧ W.heap[bn1]? = some (.cells #[.int .i64 pre.length] 3 (0, 0)) ∧ Sh w rb L bl u b5 (b5 + 1) (b5 + 1 + 1) bt1 leave 1 a cap n [D] bn1 W)
        (fun c pre W => c = .ret ∧ ¬ pre <+: L.map keyH)
        (fun s A B row hs hg hr => ⟨hs.1, ownFrom_blk (β := Unit) _ _ _ _ _ () A B row hs.2.1 hg hr, ownFrom_blk (β := Unit) _ _ _ _ _ () A B row hs.2.2.1 hg hr, hs.2.2.2.kept (Chg.of_grown (S := row.toList) hg (fun k hk => by simp [hk])) (fun k hk => by have := (hr k (by simpa using hk)).1; have := HQ1.out.2.2.2.2.1; omega)⟩)
        (fun c s A B row hs hg hr => hs)
        ⟨List.nil_prefix, HQ1.out.2.2.2.1, HQ1.out.2.2.1, (show Sh w rb L bl u b5 (b5 + 1) (b5 + 1 + 1) bt1 leave 1 a cap n [D] bn1 W1n from by rw [HQ1.out.2.2.2.2.2]; exact HQ1.out.2.1)⟩
        (fun x a' W => a' = { tmps := (((A.tmps.setIfInBounds 111 (.int .i64 x.1)).setIfInBounds 112 (.int .i64 x.2)).setIfInBounds 19 (.int .i64 x.1)).setIfInBounds 20 (.int .i64 x.2), defers := [] })
        (fun x a' _ A B row hs hg hr => hs)
        ?_ ?_ ?_ ?_
      · rintro l pre x W K ⟨h1, h6, h2, h3⟩ hK
        have HC := Lib.hid (And.intro h1 (And.intro h6 (And.intro h2 h3)))
        clear h1 h2 h3 h6
        unfold encH
        subst hA
        gi_wp2
        exact hK _ _ (keepsFrom_chg (Chg.refl [] _) (by simp)) (KpS.chg (Chg.refl [] _) (by simp)) HC.out rfl
      · rintro l pre x a' W hl ⟨r, hr⟩ ⟨hp, h6, h2, h3⟩ rfl hlt
        subst hA
        simp only [List.setIfInBounds_toArray, List.set_cons_succ, List.set_cons_zero]
        have hltn : pre.length < n := by rw [HFw.out.1]; exact hlt
        obtain ⟨y, hy⟩ : ∃ y, (L.map keyH)[pre.length]? = some y := ⟨_, List.getElem?_eq_getElem (by rw [List.length_map]; exact hlt)⟩
        have hq2 := h3.q2
        rw [show n = (L.map keyH).length from by rw [List.length_map]; exact HFw.out.1] at hq2
        obtain ⟨a', cap', hva, hrd⟩ := RowD.of_own hq2
        simp only [Value.slice.injEq] at hva
        obtain ⟨rfl, -, rfl⟩ := hva
        obtain ⟨g, rfl, hgc, hgm⟩ := hrd.pt (fun e => by rw [e] at hy; simp at hy)
        obtain ⟨cy0, cy1⟩ := hrd.cells hy
        have cn := cellB h2 (i := 0) (v := .int .i64 pre.length) rfl
        have fn := frozenB h2 0
        have cq := cellB h3.q1 (i := 0) (v := .slice (some ⟨g, 0, none⟩) n cap) rfl
        have c5 := cellB h3.l5 (i := 0) (v := .pointer (some ⟨rb, 0, none⟩)) rfl
        have ct := cellB h3.t (i := 0) (v := .int .i64 1) rfl
        have cl := cellB h3.l7 (i := 0) (v := .int .i64 leave) rfl
        have cr := cellB h6 (i := 0) (v := .bool false) rfl
        have fr := frozenB h6 0
        have hpl : pre.length ≤ 64 := by have := HFw.out.2; omega
        obtain ⟨y1, y2⟩ := y
        obtain ⟨x1, x2⟩ := x
        dsimp only at cy0 cy1
        have HC := Lib.hid (And.intro hp (And.intro h6 (And.intro h2 (And.intro h3 hy))))
        have hlt3 := h3.lt
        clear hp h6 h2 h3 hy hq2 hrd hgc hgm hr
        have hdn : decide ((n : Int) ≤ (pre.length : Int)) = false := by simp; omega
        have hdn' : decide (n ≤ pre.length) = false := by simp; omega
        have hz1 : (0 : Int) ≤ (pre.length : Int) ∧ (pre.length : Int) < (n : Int) := by omega
        have hne1 : ¬ b5 + 1 + 1 = bn1 := by omega
        have hne2 : ¬ bt1 = bn1 := by omega
        have hne3 : ¬ bn1 = b5 + 1 + 1 := by omega
        have hne4 : ¬ bn1 = bt1 := by omega
        have hne5 : ¬ b5 + 1 = bn1 := by omega
        clear hlt3
        by_cases hxy : x1 = y1 ∧ x2 = y2
        · obtain ⟨rfl, rfl⟩ := hxy
          have g1 : (x1 != x1) = false := by simp
          have g2 : (x2 != x2) = false := by simp
          have hpre : pre ++ [(x1, x2)] <+: L.map keyH := by
            obtain ⟨r, hr⟩ := HC.out.1
            have := HC.out.2.2.2.2
            rw [← hr, List.getElem?_append_right (Nat.le_refl _), Nat.sub_self] at this
            cases r with
            | nil => cases this
            | cons z r => simp at this; subst this; exact ⟨r, by rw [← hr]; simp⟩
          have HPre := Lib.hid hpre
          clear hpre
          have HF := Lib.hid (And.intro ct (And.intro cl (And.intro cr (And.intro fr fn))))
          clear ct cl cr fr fn
          gi_wp2_with fail
          refine region_round (S := fun w' => w'.cell? ⟨bn1, 0, none⟩ = some (.int .i64 pre.length) ∧ w'.cell? ⟨b5, 0, none⟩ = some (.pointer (some ⟨rb, 0, none⟩)) ∧ w'.cell? ⟨rb, 0, none⟩ = some (.slice (some ⟨g, 0, none⟩) n cap) ∧ w'.cell? ⟨g, pre.length * 2, none⟩ = some (.int .i64 x1) ∧ w'.cell? ⟨g, pre.length * 2 + 1, none⟩ = some (.int .i64 x2)) (by kernel_rfl) (by rintro ⟨_, _, h⟩; exact h) (by kernel_rfl) ⟨cn, c5, cq, cy0, cy1⟩ (fun hS => ?_)
          refine wpAnyH_take (i := 0) (v := ?_) (by simp only [List.getElem?_toArray, List.getElem?_cons_zero]; rfl) (by kernel_rfl) (by kernel_rfl) (by kernel_rfl) (by exact fun _ _ _ h => h) (Or.inl ⟨by kernel_rfl, ?_⟩) hS ?_
          case refine_2 => ((intro w hSw; (try dsimp only at hSw); go_simp) <;> with_reducible rfl)
          try simp only [Act.put, List.setIfInBounds_toArray, List.set_cons_zero, List.set_cons_succ]
          refine wpAnyH_take (i := 1) (v := ?_) (by simp only [List.getElem?_toArray, List.getElem?_cons_succ, List.getElem?_cons_zero]; rfl) (by kernel_rfl) (by kernel_rfl) (by kernel_rfl) (by exact fun _ _ _ h => h) (Or.inl ⟨by kernel_rfl, ?_⟩) hS ?_
          case refine_2 => ((intro w hSw; (try dsimp only at hSw); go_simp) <;> with_reducible rfl)
          try simp only [Act.put, List.setIfInBounds_toArray, List.set_cons_zero, List.set_cons_succ]
          refine wpAnyH_take (i := 2) (v := ?_) (by simp only [List.getElem?_toArray, List.getElem?_cons_succ, List.getElem?_cons_zero]; rfl) (by kernel_rfl) (by kernel_rfl) (by kernel_rfl) (by exact fun _ _ _ h => h) (Or.inl ⟨by kernel_rfl, ?_⟩) hS ?_
          case refine_2 => ((intro w hSw; (try dsimp only at hSw); go_simp) <;> with_reducible rfl)
          try simp only [Act.put, List.setIfInBounds_toArray, List.set_cons_zero, List.set_cons_succ]
          refine wpAnyH_take (i := 3) (v := ?_) (by simp only [List.getElem?_toArray, List.getElem?_cons_succ, List.getElem?_cons_zero]; rfl) (by kernel_rfl) (by kernel_rfl) (by kernel_rfl) (by exact fun _ _ _ h => h) (Or.inl ⟨by kernel_rfl, ?_⟩) hS ?_
          case refine_2 => ((intro w hSw; (try dsimp only at hSw); go_simp) <;> with_reducible rfl)
          try simp only [Act.put, List.setIfInBounds_toArray, List.set_cons_zero, List.set_cons_succ]
          refine wpAnyH_take (i := 4) (v := ?_) (by simp only [List.getElem?_toArray, List.getElem?_cons_succ, List.getElem?_cons_zero]; rfl) (by kernel_rfl) (by kernel_rfl) (by kernel_rfl) (by exact fun _ _ _ h => h) (Or.inl ⟨by kernel_rfl, ?_⟩) hS ?_
          case refine_2 => ((intro w hSw; (try dsimp only at hSw); go_simp) <;> with_reducible rfl)
          try simp only [Act.put, List.setIfInBounds_toArray, List.set_cons_zero, List.set_cons_succ]
          refine wpAnyH_take (i := 5) (v := ?_) (by simp only [List.getElem?_toArray, List.getElem?_cons_succ, List.getElem?_cons_zero]; rfl) (by kernel_rfl) (by kernel_rfl) (by kernel_rfl) (by exact fun _ _ _ h => h) (Or.inl ⟨by kernel_rfl, ?_⟩) hS ?_
          case refine_2 => ((intro w hSw; (try dsimp only at hSw); go_simp) <;> with_reducible rfl)
          try simp only [Act.put, List.setIfInBounds_toArray, List.set_cons_zero, List.set_cons_succ]
          refine wpAnyH_take (i := 6) (v := ?_) (by simp only [List.getElem?_toArray, List.getElem?_cons_succ, List.getElem?_cons_zero]; rfl) (by kernel_rfl) (by kernel_rfl) (by kernel_rfl) (by exact fun _ _ _ h => h) (Or.inl ⟨by kernel_rfl, ?_⟩) hS ?_
          case refine_2 => ((intro w hSw; (try dsimp only at hSw); go_simp) <;> with_reducible rfl)
          try simp only [Act.put, List.setIfInBounds_toArray, List.set_cons_zero, List.set_cons_succ]
          refine wpAnyH_take (i := 7) (v := ?_) (by simp only [List.getElem?_toArray, List.getElem?_cons_succ, List.getElem?_cons_zero]; rfl) (by kernel_rfl) (by kernel_rfl) (by kernel_rfl) (by exact fun _ _ _ h => h) (Or.inl ⟨by kernel_rfl, ?_⟩) hS ?_
          case refine_2 => ((intro w hSw; (try dsimp only at hSw); go_simp) <;> with_reducible rfl)
          try simp only [Act.put, List.setIfInBounds_toArray, List.set_cons_zero, List.set_cons_succ]
          refine wpAnyH_take (i := 8) (v := ?_) (by simp only [List.getElem?_toArray, List.getElem?_cons_succ, List.getElem?_cons_zero]; rfl) (by kernel_rfl) (by kernel_rfl) (by kernel_rfl) (by exact fun _ _ _ h => h) (Or.inl ⟨by kernel_rfl, ?_⟩) hS ?_
          case refine_2 => ((intro w hSw; (try dsimp only at hSw); go_simp) <;> with_reducible rfl)
          try simp only [Act.put, List.setIfInBounds_toArray, List.set_cons_zero, List.set_cons_succ]
          refine wpAnyH_take (i := 9) (v := ?_) (by simp only [List.getElem?_toArray, List.getElem?_cons_succ, List.getElem?_cons_zero]; rfl) (by kernel_rfl) (by kernel_rfl) (by kernel_rfl) (by exact fun _ _ _ h => h) (Or.inl ⟨by kernel_rfl, ?_⟩) hS ?_
          case refine_2 => ((intro w hSw; (try dsimp only at hSw); go_simp) <;> with_reducible rfl)
          try simp only [Act.put, List.setIfInBounds_toArray, List.set_cons_zero, List.set_cons_succ]
          refine wpAnyH_take (i := 10) (v := ?_) (by simp only [List.getElem?_toArray, List.getElem?_cons_succ, List.getElem?_cons_zero]; rfl) (by kernel_rfl) (by kernel_rfl) (by kernel_rfl) (by exact fun _ _ _ h => h) (Or.inl ⟨by kernel_rfl, ?_⟩) hS ?_
          case refine_2 => ((intro w hSw; (try dsimp only at hSw); go_simp) <;> with_reducible rfl)
          try simp only [Act.put, List.setIfInBounds_toArray, List.set_cons_zero, List.set_cons_succ]
          refine wpAnyH_take (i := 11) (v := ?_) (by simp only [List.getElem?_toArray, List.getElem?_cons_succ, List.getElem?_cons_zero]; rfl) (by kernel_rfl) (by kernel_rfl) (by kernel_rfl) (by exact fun _ _ _ h => h) (Or.inl ⟨by kernel_rfl, ?_⟩) hS ?_
          case refine_2 => ((intro w hSw; (try dsimp only at hSw); go_simp) <;> with_reducible rfl)
          try simp only [Act.put, List.setIfInBounds_toArray, List.set_cons_zero, List.set_cons_succ]
          refine wpAnyH_take (i := 12) (v := ?_) (by simp only [List.getElem?_toArray, List.getElem?_cons_succ, List.getElem?_cons_zero]; rfl) (by kernel_rfl) (by kernel_rfl) (by kernel_rfl) (by exact fun _ _ _ h => h) (Or.inl ⟨by kernel_rfl, ?_⟩) hS ?_
          case refine_2 => ((intro w hSw; (try dsimp only at hSw); go_simp) <;> with_reducible rfl)
          try simp only [Act.put, List.setIfInBounds_toArray, List.set_cons_zero, List.set_cons_succ]
          refine wpAnyH_take (i := 13) (v := ?_) (by simp only [List.getElem?_toArray, List.getElem?_cons_succ, List.getElem?_cons_zero]; rfl) (by kernel_rfl) (by kernel_rfl) (by kernel_rfl) (by exact fun _ _ _ h => h) (Or.inl ⟨by kernel_rfl, ?_⟩) hS ?_
          case refine_2 => ((intro w hSw; (try dsimp only at hSw); go_simp) <;> with_reducible rfl)
          try simp only [Act.put, List.setIfInBounds_toArray, List.set_cons_zero, List.set_cons_succ]
          refine wpAnyH_take (i := 14) (v := ?_) (by simp only [List.getElem?_toArray, List.getElem?_cons_succ, List.getElem?_cons_zero]; rfl) (by kernel_rfl) (by kernel_rfl) (by kernel_rfl) (by exact fun _ _ _ h => h) (Or.inl ⟨by kernel_rfl, ?_⟩) hS ?_
          case refine_2 => ((intro w hSw; (try dsimp only at hSw); go_simp) <;> with_reducible rfl)
          try simp only [Act.put, List.setIfInBounds_toArray, List.set_cons_zero, List.set_cons_succ]
          refine wpAnyH_take (i := 15) (v := ?_) (by simp only [List.getElem?_toArray, List.getElem?_cons_succ, List.getElem?_cons_zero]; rfl) (by kernel_rfl) (by kernel_rfl) (by kernel_rfl) (by exact fun _ _ _ h => h) (Or.inl ⟨by kernel_rfl, ?_⟩) hS ?_
          case refine_2 => ((intro w hSw; (try dsimp only at hSw); go_simp) <;> with_reducible rfl)
          try simp only [Act.put, List.setIfInBounds_toArray, List.set_cons_zero, List.set_cons_succ]
          refine wpAnyH_take (i := 16) (v := ?_) (by simp only [List.getElem?_toArray, List.getElem?_cons_succ, List.getElem?_cons_zero]; rfl) (by kernel_rfl) (by kernel_rfl) (by kernel_rfl) (by exact fun _ _ _ h => h) (Or.inl ⟨by kernel_rfl, ?_⟩) hS ?_
          case refine_2 => ((intro w hSw; (try dsimp only at hSw); go_simp) <;> with_reducible rfl)
          try simp only [Act.put, List.setIfInBounds_toArray, List.set_cons_zero, List.set_cons_succ]
          refine wpAnyH_take (i := 17) (v := ?_) (by simp only [List.getElem?_toArray, List.getElem?_cons_succ, List.getElem?_cons_zero]; rfl) (by kernel_rfl) (by kernel_rfl) (by kernel_rfl) (by exact fun _ _ _ h => h) (Or.inl ⟨by kernel_rfl, ?_⟩) hS ?_
          case refine_2 => ((intro w hSw; (try dsimp only at hSw); go_simp) <;> with_reducible rfl)
          try simp only [Act.put, List.setIfInBounds_toArray, List.set_cons_zero, List.set_cons_succ]
          refine wpAnyH_take (i := 18) (v := ?_) (by simp only [List.getElem?_toArray, List.getElem?_cons_succ, List.getElem?_cons_zero]; rfl) (by kernel_rfl) (by kernel_rfl) (by kernel_rfl) (by exact fun _ _ _ h => h) (Or.inl ⟨by kernel_rfl, ?_⟩) hS ?_
          case refine_2 => ((intro w hSw; (try dsimp only at hSw); go_simp) <;> with_reducible rfl)
          try simp only [Act.put, List.setIfInBounds_toArray, List.set_cons_zero, List.set_cons_succ]
          refine wpAnyH_take (i := 19) (v := ?_) (by simp only [List.getElem?_toArray, List.getElem?_cons_succ, List.getElem?_cons_zero]; rfl) (by kernel_rfl) (by kernel_rfl) (by kernel_rfl) (by exact fun _ _ _ h => h) (Or.inl ⟨by kernel_rfl, ?_⟩) hS ?_
          case refine_2 => ((intro w hSw; (try dsimp only at hSw); go_simp) <;> with_reducible rfl)
          try simp only [Act.put, List.setIfInBounds_toArray, List.set_cons_zero, List.set_cons_succ]
          refine wpAnyH_take (i := 20) (v := ?_) (by simp only [List.getElem?_toArray, List.getElem?_cons_succ, List.getElem?_cons_zero]; rfl) (by kernel_rfl) (by kernel_rfl) (by kernel_rfl) (by exact fun _ _ _ h => h) (Or.inl ⟨by kernel_rfl, ?_⟩) hS ?_
          case refine_2 => ((intro w hSw; (try dsimp only at hSw); go_simp) <;> with_reducible rfl)
          try simp only [Act.put, List.setIfInBounds_toArray, List.set_cons_zero, List.set_cons_succ]
          refine wpAnyH_take (i := 21) (v := ?_) (by simp only [List.getElem?_toArray, List.getElem?_cons_succ, List.getElem?_cons_zero]; rfl) (by kernel_rfl) (by kernel_rfl) (by kernel_rfl) (by exact fun _ _ _ h => h) (Or.inl ⟨by kernel_rfl, ?_⟩) hS ?_
          case refine_2 => ((intro w hSw; (try dsimp only at hSw); go_simp) <;> with_reducible rfl)
          try simp only [Act.put, List.setIfInBounds_toArray, List.set_cons_zero, List.set_cons_succ]
          refine wpAnyH_take (i := 22) (v := ?_) (by simp only [List.getElem?_toArray, List.getElem?_cons_succ, List.getElem?_cons_zero]; rfl) (by kernel_rfl) (by kernel_rfl) (by kernel_rfl) (by exact fun _ _ _ h => h) (Or.inl ⟨by kernel_rfl, ?_⟩) hS ?_
          case refine_2 => ((intro w hSw; (try dsimp only at hSw); go_simp) <;> with_reducible rfl)
          try simp only [Act.put, List.setIfInBounds_toArray, List.set_cons_zero, List.set_cons_succ]
          refine wpAnyH_take (i := 23) (v := ?_) (by simp only [List.getElem?_toArray, List.getElem?_cons_succ, List.getElem?_cons_zero]; rfl) (by kernel_rfl) (by kernel_rfl) (by kernel_rfl) (by exact fun _ _ _ h => h) (Or.inl ⟨by kernel_rfl, ?_⟩) hS ?_
          case refine_2 => ((intro w hSw; (try dsimp only at hSw); go_simp) <;> with_reducible rfl)
          try simp only [Act.put, List.setIfInBounds_toArray, List.set_cons_zero, List.set_cons_succ]
          refine wpAnyH_take (i := 24) (v := ?_) (by simp only [List.getElem?_toArray, List.getElem?_cons_succ, List.getElem?_cons_zero]; rfl) (by kernel_rfl) (by kernel_rfl) (by kernel_rfl) (by exact fun _ _ _ h => h) (Or.inl ⟨by kernel_rfl, ?_⟩) hS ?_
          case refine_2 => ((intro w hSw; (try dsimp only at hSw); go_simp) <;> with_reducible rfl)
          try simp only [Act.put, List.setIfInBounds_toArray, List.set_cons_zero, List.set_cons_succ]
          refine wpAnyH_take (i := 25) (v := ?_) (by simp only [List.getElem?_toArray, List.getElem?_cons_succ, List.getElem?_cons_zero]; rfl) (by kernel_rfl) (by kernel_rfl) (by kernel_rfl) (by exact fun _ _ _ h => h) (Or.inl ⟨by kernel_rfl, ?_⟩) hS ?_
          case refine_2 => ((intro w hSw; (try dsimp only at hSw); go_simp) <;> with_reducible rfl)
          try simp only [Act.put, List.setIfInBounds_toArray, List.set_cons_zero, List.set_cons_succ]
          refine wpAnyH_take (i := 26) (v := ?_) (by simp only [List.getElem?_toArray, List.getElem?_cons_succ, List.getElem?_cons_zero]; rfl) (by kernel_rfl) (by kernel_rfl) (by kernel_rfl) (by exact fun _ _ _ h => h) (Or.inl ⟨by kernel_rfl, ?_⟩) hS ?_
          case refine_2 => ((intro w hSw; (try dsimp only at hSw); go_simp) <;> with_reducible rfl)
          try simp only [Act.put, List.setIfInBounds_toArray, List.set_cons_zero, List.set_cons_succ]
          refine wpAnyH_take (i := 27) (v := ?_) (by simp only [List.getElem?_toArray, List.getElem?_cons_succ, List.getElem?_cons_zero]; rfl) (by kernel_rfl) (by kernel_rfl) (by kernel_rfl) (by exact fun _ _ _ h => h) (Or.inl ⟨by kernel_rfl, ?_⟩) hS ?_
          case refine_2 => ((intro w hSw; (try dsimp only at hSw); go_simp) <;> with_reducible rfl)
          try simp only [Act.put, List.setIfInBounds_toArray, List.set_cons_zero, List.set_cons_succ]
          refine wpAnyH_take (i := 28) (v := ?_) (by simp only [List.getElem?_toArray, List.getElem?_cons_succ, List.getElem?_cons_zero]; rfl) (by kernel_rfl) (by kernel_rfl) (by kernel_rfl) (by exact fun _ _ _ h => h) (Or.inl ⟨by kernel_rfl, ?_⟩) hS ?_
          case refine_2 => ((intro w hSw; (try dsimp only at hSw); go_simp) <;> with_reducible rfl)
          try simp only [Act.put, List.setIfInBounds_toArray, List.set_cons_zero, List.set_cons_succ]
          refine wpAnyH_take (i := 29) (v := ?_) (by simp only [List.getElem?_toArray, List.getElem?_cons_succ, List.getElem?_cons_zero]; rfl) (by kernel_rfl) (by kernel_rfl) (by kernel_rfl) (by exact fun _ _ _ h => h) (Or.inl ⟨by kernel_rfl, ?_⟩) hS ?_
          case refine_2 => ((intro w hSw; (try dsimp only at hSw); go_simp) <;> with_reducible rfl)
          try simp only [Act.put, List.setIfInBounds_toArray, List.set_cons_zero, List.set_cons_succ]
          refine wpAnyH_take (i := 30) (v := ?_) (by simp only [List.getElem?_toArray, List.getElem?_cons_succ, List.getElem?_cons_zero]; rfl) (by kernel_rfl) (by kernel_rfl) (by kernel_rfl) (by exact fun _ _ _ h => h) (Or.inl ⟨by kernel_rfl, ?_⟩) hS ?_
          case refine_2 => ((intro w hSw; (try dsimp only at hSw); go_simp) <;> with_reducible rfl)
          try simp only [Act.put, List.setIfInBounds_toArray, List.set_cons_zero, List.set_cons_succ]
          refine wpAnyH_done (by kernel_rfl) ?_ _
          obtain ⟨ct, cl, cr, fr, fn⟩ := HF.out
          clear hS
          have hst : Chg [bn1] W ((W.setCell ⟨bn1, 0, none⟩ (.int .i64 ((pre.length : Int) + 1))).drew) := ((Chg.refl _ _).setCell _ _ (by simp)).drew
          have HP := Lib.hid (And.intro HPre.out (And.intro hst (And.intro (show (((pre ++ [(x1, x2)]).length : Nat) : Int) = (pre.length : Int) + 1 by simp) (show ∀ k ∈ [bn1], ∀ o, W.heap[k]? = some o → o.isCells = true from fun k hk o ho => by
            simp at hk
            subst hk
            rw [HC.out.2.2.1] at ho; cases ho; rfl))))
          clear hst
          gi_wp2
          exact ⟨keepsFrom_chg HP.out.2.1 HP.out.2.2.2, KpS.chg HP.out.2.1 (by simp), HP.out.1, HP.out.2.1.blk HC.out.2.1 (by have := HC.out.2.2.2.1.lt; simp; omega), by rw [HP.out.2.2.1]; exact blk_setCell HC.out.2.2.1 _, HC.out.2.2.2.1.kept HP.out.2.1 (by simp)⟩
        · have hnp : ¬ pre ++ [(x1, x2)] <+: L.map keyH := by
            rintro ⟨r, hr⟩
            have := HC.out.2.2.2.2
            rw [← hr, List.append_assoc, List.getElem?_append_right (Nat.le_refl _), Nat.sub_self] at this
            simp at this
            exact hxy this
          have HP := Lib.hid hnp
          have hways : (x1 != y1) = true ∨ ((x1 != y1) = false ∧ (x2 != y2) = true) := by
            by_cases h1 : x1 = y1
            · right; exact ⟨by simp [h1], by simpa using fun h2 => hxy ⟨h1, h2⟩⟩
            · left; simpa using h1
          clear hnp hxy
          rcases hways with g1 | ⟨g1, g2⟩
          · have HF := Lib.hid (And.intro cr fr)
            clear ct cl cr fr fn
            gi_wp2_with fail
            refine region_round (S := fun w' => w'.cell? ⟨bn1, 0, none⟩ = some (.int .i64 pre.length) ∧ w'.cell? ⟨b5, 0, none⟩ = some (.pointer (some ⟨rb, 0, none⟩)) ∧ w'.cell? ⟨rb, 0, none⟩ = some (.slice (some ⟨g, 0, none⟩) n cap) ∧ w'.cell? ⟨g, pre.length * 2, none⟩ = some (.int .i64 y1) ∧ w'.cell? ⟨g, pre.length * 2 + 1, none⟩ = some (.int .i64 y2)) (by kernel_rfl) (by rintro ⟨_, _, h⟩; exact h) (by kernel_rfl) ⟨cn, c5, cq, cy0, cy1⟩ (fun hS => ?_)
            refine wpAnyH_take (i := 0) (v := ?_) (by simp only [List.getElem?_toArray, List.getElem?_cons_zero]; rfl) (by kernel_rfl) (by kernel_rfl) (by kernel_rfl) (by exact fun _ _ _ h => h) (Or.inl ⟨by kernel_rfl, ?_⟩) hS ?_
            case refine_2 => ((intro w hSw; (try dsimp only at hSw); go_simp) <;> with_reducible rfl)
            try simp only [Act.put, List.setIfInBounds_toArray, List.set_cons_zero, List.set_cons_succ]
            refine wpAnyH_take (i := 1) (v := ?_) (by simp only [List.getElem?_toArray, List.getElem?_cons_succ, List.getElem?_cons_zero]; rfl) (by kernel_rfl) (by kernel_rfl) (by kernel_rfl) (by exact fun _ _ _ h => h) (Or.inl ⟨by kernel_rfl, ?_⟩) hS ?_
            case refine_2 => ((intro w hSw; (try dsimp only at hSw); go_simp) <;> with_reducible rfl)
            try simp only [Act.put, List.setIfInBounds_toArray, List.set_cons_zero, List.set_cons_succ]
            refine wpAnyH_take (i := 2) (v := ?_) (by simp only [List.getElem?_toArray, List.getElem?_cons_succ, List.getElem?_cons_zero]; rfl) (by kernel_rfl) (by kernel_rfl) (by kernel_rfl) (by exact fun _ _ _ h => h) (Or.inl ⟨by kernel_rfl, ?_⟩) hS ?_
            case refine_2 => ((intro w hSw; (try dsimp only at hSw); go_simp) <;> with_reducible rfl)
            try simp only [Act.put, List.setIfInBounds_toArray, List.set_cons_zero, List.set_cons_succ]
            refine wpAnyH_take (i := 3) (v := ?_) (by simp only [List.getElem?_toArray, List.getElem?_cons_succ, List.getElem?_cons_zero]; rfl) (by kernel_rfl) (by kernel_rfl) (by kernel_rfl) (by exact fun _ _ _ h => h) (Or.inl ⟨by kernel_rfl, ?_⟩) hS ?_
            case refine_2 => ((intro w hSw; (try dsimp only at hSw); go_simp) <;> with_reducible rfl)
            try simp only [Act.put, List.setIfInBounds_toArray, List.set_cons_zero, List.set_cons_succ]
            refine wpAnyH_take (i := 4) (v := ?_) (by simp only [List.getElem?_toArray, List.getElem?_cons_succ, List.getElem?_cons_zero]; rfl) (by kernel_rfl) (by kernel_rfl) (by kernel_rfl) (by exact fun _ _ _ h => h) (Or.inl ⟨by kernel_rfl, ?_⟩) hS ?_
            case refine_2 => ((intro w hSw; (try dsimp only at hSw); go_simp) <;> with_reducible rfl)
            try simp only [Act.put, List.setIfInBounds_toArray, List.set_cons_zero, List.set_cons_succ]
            refine wpAnyH_take (i := 5) (v := ?_) (by simp only [List.getElem?_toArray, List.getElem?_cons_succ, List.getElem?_cons_zero]; rfl) (by kernel_rfl) (by kernel_rfl) (by kernel_rfl) (by exact fun _ _ _ h => h) (Or.inl ⟨by kernel_rfl, ?_⟩) hS ?_
            case refine_2 => ((intro w hSw; (try dsimp only at hSw); go_simp) <;> with_reducible rfl)
            try simp only [Act.put, List.setIfInBounds_toArray, List.set_cons_zero, List.set_cons_succ]
            refine wpAnyH_take (i := 6) (v := ?_) (by simp only [List.getElem?_toArray, List.getElem?_cons_succ, List.getElem?_cons_zero]; rfl) (by kernel_rfl) (by kernel_rfl) (by kernel_rfl) (by exact fun _ _ _ h => h) (Or.inl ⟨by kernel_rfl, ?_⟩) hS ?_
            case refine_2 => ((intro w hSw; (try dsimp only at hSw); go_simp) <;> with_reducible rfl)
            try simp only [Act.put, List.setIfInBounds_toArray, List.set_cons_zero, List.set_cons_succ]
            refine wpAnyH_take (i := 7) (v := ?_) (by simp only [List.getElem?_toArray, List.getElem?_cons_succ, List.getElem?_cons_zero]; rfl) (by kernel_rfl) (by kernel_rfl) (by kernel_rfl) (by exact fun _ _ _ h => h) (Or.inl ⟨by kernel_rfl, ?_⟩) hS ?_
            case refine_2 => ((intro w hSw; (try dsimp only at hSw); go_simp) <;> with_reducible rfl)
            try simp only [Act.put, List.setIfInBounds_toArray, List.set_cons_zero, List.set_cons_succ]
            refine wpAnyH_take (i := 8) (v := ?_) (by simp only [List.getElem?_toArray, List.getElem?_cons_succ, List.getElem?_cons_zero]; rfl) (by kernel_rfl) (by kernel_rfl) (by kernel_rfl) (by exact fun _ _ _ h => h) (Or.inl ⟨by kernel_rfl, ?_⟩) hS ?_
            case refine_2 => ((intro w hSw; (try dsimp only at hSw); go_simp) <;> with_reducible rfl)
            try simp only [Act.put, List.setIfInBounds_toArray, List.set_cons_zero, List.set_cons_succ]
            refine wpAnyH_take (i := 9) (v := ?_) (by simp only [List.getElem?_toArray, List.getElem?_cons_succ, List.getElem?_cons_zero]; rfl) (by kernel_rfl) (by kernel_rfl) (by kernel_rfl) (by exact fun _ _ _ h => h) (Or.inl ⟨by kernel_rfl, ?_⟩) hS ?_
            case refine_2 => ((intro w hSw; (try dsimp only at hSw); go_simp) <;> with_reducible rfl)
            try simp only [Act.put, List.setIfInBounds_toArray, List.set_cons_zero, List.set_cons_succ]
            refine wpAnyH_take (i := 10) (v := ?_) (by simp only [List.getElem?_toArray, List.getElem?_cons_succ, List.getElem?_cons_zero]; rfl) (by kernel_rfl) (by kernel_rfl) (by kernel_rfl) (by exact fun _ _ _ h => h) (Or.inl ⟨by kernel_rfl, ?_⟩) hS ?_
            case refine_2 => ((intro w hSw; (try dsimp only at hSw); go_simp) <;> with_reducible rfl)
            try simp only [Act.put, List.setIfInBounds_toArray, List.set_cons_zero, List.set_cons_succ]
            refine wpAnyH_take (i := 11) (v := ?_) (by simp only [List.getElem?_toArray, List.getElem?_cons_succ, List.getElem?_cons_zero]; rfl) (by kernel_rfl) (by kernel_rfl) (by kernel_rfl) (by exact fun _ _ _ h => h) (Or.inl ⟨by kernel_rfl, ?_⟩) hS ?_
            case refine_2 => ((intro w hSw; (try dsimp only at hSw); go_simp) <;> with_reducible rfl)
            try simp only [Act.put, List.setIfInBounds_toArray, List.set_cons_zero, List.set_cons_succ]
            refine wpAnyH_take (i := 12) (v := ?_) (by simp only [List.getElem?_toArray, List.getElem?_cons_succ, List.getElem?_cons_zero]; rfl) (by kernel_rfl) (by kernel_rfl) (by kernel_rfl) (by exact fun _ _ _ h => h) (Or.inl ⟨by kernel_rfl, ?_⟩) hS ?_
            case refine_2 => ((intro w hSw; (try dsimp only at hSw); go_simp) <;> with_reducible rfl)
            try simp only [Act.put, List.setIfInBounds_toArray, List.set_cons_zero, List.set_cons_succ]
            refine wpAnyH_take (i := 13) (v := ?_) (by simp only [List.getElem?_toArray, List.getElem?_cons_succ, List.getElem?_cons_zero]; rfl) (by kernel_rfl) (by kernel_rfl) (by kernel_rfl) (by exact fun _ _ _ h => h) (Or.inl ⟨by kernel_rfl, ?_⟩) hS ?_
            case refine_2 => ((intro w hSw; (try dsimp only at hSw); go_simp) <;> with_reducible rfl)
            try simp only [Act.put, List.setIfInBounds_toArray, List.set_cons_zero, List.set_cons_succ]
            refine wpAnyH_take (i := 14) (v := ?_) (by simp only [List.getElem?_toArray, List.getElem?_cons_succ, List.getElem?_cons_zero]; rfl) (by kernel_rfl) (by kernel_rfl) (by kernel_rfl) (by exact fun _ _ _ h => h) (Or.inl ⟨by kernel_rfl, ?_⟩) hS ?_
            case refine_2 => ((intro w hSw; (try dsimp only at hSw); go_simp) <;> with_reducible rfl)
            try simp only [Act.put, List.setIfInBounds_toArray, List.set_cons_zero, List.set_cons_succ]
            refine wpAnyH_take (i := 15) (v := ?_) (by simp only [List.getElem?_toArray, List.getElem?_cons_succ, List.getElem?_cons_zero]; rfl) (by kernel_rfl) (by kernel_rfl) (by kernel_rfl) (by exact fun _ _ _ h => h) (Or.inl ⟨by kernel_rfl, ?_⟩) hS ?_
            case refine_2 => ((intro w hSw; (try dsimp only at hSw); go_simp) <;> with_reducible rfl)
            try simp only [Act.put, List.setIfInBounds_toArray, List.set_cons_zero, List.set_cons_succ]
            refine wpAnyH_take (i := 16) (v := ?_) (by simp only [List.getElem?_toArray, List.getElem?_cons_succ, List.getElem?_cons_zero]; rfl) (by kernel_rfl) (by kernel_rfl) (by kernel_rfl) (by exact fun _ _ _ h => h) (Or.inl ⟨by kernel_rfl, ?_⟩) hS ?_
            case refine_2 => ((intro w hSw; (try dsimp only at hSw); go_simp) <;> with_reducible rfl)
            try simp only [Act.put, List.setIfInBounds_toArray, List.set_cons_zero, List.set_cons_succ]
            refine wpAnyH_take (i := 17) (v := ?_) (by simp only [List.getElem?_toArray, List.getElem?_cons_succ, List.getElem?_cons_zero]; rfl) (by kernel_rfl) (by kernel_rfl) (by kernel_rfl) (by exact fun _ _ _ h => h) (Or.inl ⟨by kernel_rfl, ?_⟩) hS ?_
            case refine_2 => ((intro w hSw; (try dsimp only at hSw); go_simp) <;> with_reducible rfl)
            try simp only [Act.put, List.setIfInBounds_toArray, List.set_cons_zero, List.set_cons_succ]
            refine wpAnyH_take (i := 18) (v := ?_) (by simp only [List.getElem?_toArray, List.getElem?_cons_succ, List.getElem?_cons_zero]; rfl) (by kernel_rfl) (by kernel_rfl) (by kernel_rfl) (by exact fun _ _ _ h => h) (Or.inl ⟨by kernel_rfl, ?_⟩) hS ?_
            case refine_2 => ((intro w hSw; (try dsimp only at hSw); go_simp) <;> with_reducible rfl)
            try simp only [Act.put, List.setIfInBounds_toArray, List.set_cons_zero, List.set_cons_succ]
            refine wpAnyH_take (i := 19) (v := ?_) (by simp only [List.getElem?_toArray, List.getElem?_cons_succ, List.getElem?_cons_zero]; rfl) (by kernel_rfl) (by kernel_rfl) (by kernel_rfl) (by exact fun _ _ _ h => h) (Or.inl ⟨by kernel_rfl, ?_⟩) hS ?_
            case refine_2 => ((intro w hSw; (try dsimp only at hSw); go_simp) <;> with_reducible rfl)
            try simp only [Act.put, List.setIfInBounds_toArray, List.set_cons_zero, List.set_cons_succ]
            refine wpAnyH_take (i := 20) (v := undef) (by simp only [List.getElem?_toArray, List.getElem?_cons_succ, List.getElem?_cons_zero]; rfl) (by kernel_rfl) (by kernel_rfl) (by kernel_rfl) (by exact fun _ _ _ h => h) (Or.inr ⟨by kernel_rfl, rfl⟩) hS ?_
            try simp only [Act.put, List.setIfInBounds_toArray, List.set_cons_zero, List.set_cons_succ]
            refine wpAnyH_take (i := 21) (v := undef) (by simp only [List.getElem?_toArray, List.getElem?_cons_succ, List.getElem?_cons_zero]; rfl) (by kernel_rfl) (by kernel_rfl) (by kernel_rfl) (by exact fun _ _ _ h => h) (Or.inr ⟨by kernel_rfl, rfl⟩) hS ?_
            try simp only [Act.put, List.setIfInBounds_toArray, List.set_cons_zero, List.set_cons_succ]
            refine wpAnyH_take (i := 22) (v := undef) (by simp only [List.getElem?_toArray, List.getElem?_cons_succ, List.getElem?_cons_zero]; rfl) (by kernel_rfl) (by kernel_rfl) (by kernel_rfl) (by exact fun _ _ _ h => h) (Or.inr ⟨by kernel_rfl, rfl⟩) hS ?_
            try simp only [Act.put, List.setIfInBounds_toArray, List.set_cons_zero, List.set_cons_succ]
            refine wpAnyH_take (i := 23) (v := undef) (by simp only [List.getElem?_toArray, List.getElem?_cons_succ, List.getElem?_cons_zero]; rfl) (by kernel_rfl) (by kernel_rfl) (by kernel_rfl) (by exact fun _ _ _ h => h) (Or.inr ⟨by kernel_rfl, rfl⟩) hS ?_
            try simp only [Act.put, List.setIfInBounds_toArray, List.set_cons_zero, List.set_cons_succ]
            refine wpAnyH_take (i := 24) (v := undef) (by simp only [List.getElem?_toArray, List.getElem?_cons_succ, List.getElem?_cons_zero]; rfl) (by kernel_rfl) (by kernel_rfl) (by kernel_rfl) (by exact fun _ _ _ h => h) (Or.inr ⟨by kernel_rfl, rfl⟩) hS ?_
            try simp only [Act.put, List.setIfInBounds_toArray, List.set_cons_zero, List.set_cons_succ]
            refine wpAnyH_take (i := 25) (v := undef) (by simp only [List.getElem?_toArray, List.getElem?_cons_succ, List.getElem?_cons_zero]; rfl) (by kernel_rfl) (by kernel_rfl) (by kernel_rfl) (by exact fun _ _ _ h => h) (Or.inr ⟨by kernel_rfl, rfl⟩) hS ?_
            try simp only [Act.put, List.setIfInBounds_toArray, List.set_cons_zero, List.set_cons_succ]
            refine wpAnyH_take (i := 26) (v := undef) (by simp only [List.getElem?_toArray, List.getElem?_cons_succ, List.getElem?_cons_zero]; rfl) (by kernel_rfl) (by kernel_rfl) (by kernel_rfl) (by exact fun _ _ _ h => h) (Or.inr ⟨by kernel_rfl, rfl⟩) hS ?_
            try simp only [Act.put, List.setIfInBounds_toArray, List.set_cons_zero, List.set_cons_succ]
            refine wpAnyH_take (i := 27) (v := undef) (by simp only [List.getElem?_toArray, List.getElem?_cons_succ, List.getElem?_cons_zero]; rfl) (by kernel_rfl) (by kernel_rfl) (by kernel_rfl) (by exact fun _ _ _ h => h) (Or.inr ⟨by kernel_rfl, rfl⟩) hS ?_
            try simp only [Act.put, List.setIfInBounds_toArray, List.set_cons_zero, List.set_cons_succ]
            refine wpAnyH_take (i := 28) (v := undef) (by simp only [List.getElem?_toArray, List.getElem?_cons_succ, List.getElem?_cons_zero]; rfl) (by kernel_rfl) (by kernel_rfl) (by kernel_rfl) (by exact fun _ _ _ h => h) (Or.inr ⟨by kernel_rfl, rfl⟩) hS ?_
            try simp only [Act.put, List.setIfInBounds_toArray, List.set_cons_zero, List.set_cons_succ]
            refine wpAnyH_take (i := 29) (v := undef) (by simp only [List.getElem?_toArray, List.getElem?_cons_succ, List.getElem?_cons_zero]; rfl) (by kernel_rfl) (by kernel_rfl) (by kernel_rfl) (by exact fun _ _ _ h => h) (Or.inr ⟨by kernel_rfl, rfl⟩) hS ?_
            try simp only [Act.put, List.setIfInBounds_toArray, List.set_cons_zero, List.set_cons_succ]
            refine wpAnyH_take (i := 30) (v := ?_) (by simp only [List.getElem?_toArray, List.getElem?_cons_succ, List.getElem?_cons_zero]; rfl) (by kernel_rfl) (by kernel_rfl) (by kernel_rfl) (by exact fun _ _ _ h => h) (Or.inl ⟨by kernel_rfl, ?_⟩) hS ?_
            case refine_2 => ((intro w hSw; (try dsimp only at hSw); go_simp) <;> with_reducible rfl)
            try simp only [Act.put, List.setIfInBounds_toArray, List.set_cons_zero, List.set_cons_succ]
            refine wpAnyH_done (by kernel_rfl) ?_ _
            obtain ⟨cr, fr⟩ := HF.out
            clear hS
            gi_wp2
            exact ⟨keepsFrom_chg (S := [b5 + 1 + 1]) ((((Chg.refl _ _).setCell _ _ (by simp)) : Chg [b5 + 1 + 1] W (W.setCell ⟨b5 + 1 + 1, 0, none⟩ (.bool false))).drew) (by
              intro k hk o ho
              simp at hk
              subst hk
              rw [HC.out.2.1] at ho; cases ho; rfl), ⟨rfl, HP.out⟩⟩
          · have HF := Lib.hid (And.intro cr fr)
            clear ct cl cr fr fn
            gi_wp2_with fail
            refine region_round (S := fun w' => w'.cell? ⟨bn1, 0, none⟩ = some (.int .i64 pre.length) ∧ w'.cell? ⟨b5, 0, none⟩ = some (.pointer (some ⟨rb, 0, none⟩)) ∧ w'.cell? ⟨rb, 0, none⟩ = some (.slice (some ⟨g, 0, none⟩) n cap) ∧ w'.cell? ⟨g, pre.length * 2, none⟩ = some (.int .i64 y1) ∧ w'.cell? ⟨g, pre.length * 2 + 1, none⟩ = some (.int .i64 y2)) (by kernel_rfl) (by rintro ⟨_, _, h⟩; exact h) (by kernel_rfl) ⟨cn, c5, cq, cy0, cy1⟩ (fun hS => ?_)
            refine wpAnyH_take (i := 0) (v := ?_) (by simp only [List.getElem?_toArray, List.getElem?_cons_zero]; rfl) (by kernel_rfl) (by kernel_rfl) (by kernel_rfl) (by exact fun _ _ _ h => h) (Or.inl ⟨by kernel_rfl, ?_⟩) hS ?_
            case refine_2 => ((intro w hSw; (try dsimp only at hSw); go_simp) <;> with_reducible rfl)
            try simp only [Act.put, List.setIfInBounds_toArray, List.set_cons_zero, List.set_cons_succ]
            refine wpAnyH_take (i := 1) (v := ?_) (by simp only [List.getElem?_toArray, List.getElem?_cons_succ, List.getElem?_cons_zero]; rfl) (by kernel_rfl) (by kernel_rfl) (by kernel_rfl) (by exact fun _ _ _ h => h) (Or.inl ⟨by kernel_rfl, ?_⟩) hS ?_
            case refine_2 => ((intro w hSw; (try dsimp only at hSw); go_simp) <;> with_reducible rfl)
            try simp only [Act.put, List.setIfInBounds_toArray, List.set_cons_zero, List.set_cons_succ]
            refine wpAnyH_take (i := 2) (v := ?_) (by simp only [List.getElem?_toArray, List.getElem?_cons_succ, List.getElem?_cons_zero]; rfl) (by kernel_rfl) (by kernel_rfl) (by kernel_rfl) (by exact fun _ _ _ h => h) (Or.inl ⟨by kernel_rfl, ?_⟩) hS ?_
            case refine_2 => ((intro w hSw; (try dsimp only at hSw); go_simp) <;> with_reducible rfl)
            try simp only [Act.put, List.setIfInBounds_toArray, List.set_cons_zero, List.set_cons_succ]
            refine wpAnyH_take (i := 3) (v := ?_) (by simp only [List.getElem?_toArray, List.getElem?_cons_succ, List.getElem?_cons_zero]; rfl) (by kernel_rfl) (by kernel_rfl) (by kernel_rfl) (by exact fun _ _ _ h => h) (Or.inl ⟨by kernel_rfl, ?_⟩) hS ?_
            case refine_2 => ((intro w hSw; (try dsimp only at hSw); go_simp) <;> with_reducible rfl)
            try simp only [Act.put, List.setIfInBounds_toArray, List.set_cons_zero, List.set_cons_succ]
            refine wpAnyH_take (i := 4) (v := ?_) (by simp only [List.getElem?_toArray, List.getElem?_cons_succ, List.getElem?_cons_zero]; rfl) (by kernel_rfl) (by kernel_rfl) (by kernel_rfl) (by exact fun _ _ _ h => h) (Or.inl ⟨by kernel_rfl, ?_⟩) hS ?_
            case refine_2 => ((intro w hSw; (try dsimp only at hSw); go_simp) <;> with_reducible rfl)
            try simp only [Act.put, List.setIfInBounds_toArray, List.set_cons_zero, List.set_cons_succ]
            refine wpAnyH_take (i := 5) (v := ?_) (by simp only [List.getElem?_toArray, List.getElem?_cons_succ, List.getElem?_cons_zero]; rfl) (by kernel_rfl) (by kernel_rfl) (by kernel_rfl) (by exact fun _ _ _ h => h) (Or.inl ⟨by kernel_rfl, ?_⟩) hS ?_
            case refine_2 => ((intro w hSw; (try dsimp only at hSw); go_simp) <;> with_reducible rfl)
            try simp only [Act.put, List.setIfInBounds_toArray, List.set_cons_zero, List.set_cons_succ]
            refine wpAnyH_take (i := 6) (v := ?_) (by simp only [List.getElem?_toArray, List.getElem?_cons_succ, List.getElem?_cons_zero]; rfl) (by kernel_rfl) (by kernel_rfl) (by kernel_rfl) (by exact fun _ _ _ h => h) (Or.inl ⟨by kernel_rfl, ?_⟩) hS ?_
            case refine_2 => ((intro w hSw; (try dsimp only at hSw); go_simp) <;> with_reducible rfl)
            try simp only [Act.put, List.setIfInBounds_toArray, List.set_cons_zero, List.set_cons_succ]
            refine wpAnyH_take (i := 7) (v := ?_) (by simp only [List.getElem?_toArray, List.getElem?_cons_succ, List.getElem?_cons_zero]; rfl) (by kernel_rfl) (by kernel_rfl) (by kernel_rfl) (by exact fun _ _ _ h => h) (Or.inl ⟨by kernel_rfl, ?_⟩) hS ?_
            case refine_2 => ((intro w hSw; (try dsimp only at hSw); go_simp) <;> with_reducible rfl)
            try simp only [Act.put, List.setIfInBounds_toArray, List.set_cons_zero, List.set_cons_succ]
            refine wpAnyH_take (i := 8) (v := ?_) (by simp only [List.getElem?_toArray, List.getElem?_cons_succ, List.getElem?_cons_zero]; rfl) (by kernel_rfl) (by kernel_rfl) (by kernel_rfl) (by exact fun _ _ _ h => h) (Or.inl ⟨by kernel_rfl, ?_⟩) hS ?_
            case refine_2 => ((intro w hSw; (try dsimp only at hSw); go_simp) <;> with_reducible rfl)
            try simp only [Act.put, List.setIfInBounds_toArray, List.set_cons_zero, List.set_cons_succ]
            refine wpAnyH_take (i := 9) (v := ?_) (by simp only [List.getElem?_toArray, List.getElem?_cons_succ, List.getElem?_cons_zero]; rfl) (by kernel_rfl) (by kernel_rfl) (by kernel_rfl) (by exact fun _ _ _ h => h) (Or.inl ⟨by kernel_rfl, ?_⟩) hS ?_
            case refine_2 => ((intro w hSw; (try dsimp only at hSw); go_simp) <;> with_reducible rfl)
            try simp only [Act.put, List.setIfInBounds_toArray, List.set_cons_zero, List.set_cons_succ]
            refine wpAnyH_take (i := 10) (v := ?_) (by simp only [List.getElem?_toArray, List.getElem?_cons_succ, List.getElem?_cons_zero]; rfl) (by kernel_rfl) (by kernel_rfl) (by kernel_rfl) (by exact fun _ _ _ h => h) (Or.inl ⟨by kernel_rfl, ?_⟩) hS ?_
            case refine_2 => ((intro w hSw; (try dsimp only at hSw); go_simp) <;> with_reducible rfl)
            try simp only [Act.put, List.setIfInBounds_toArray, List.set_cons_zero, List.set_cons_succ]
            refine wpAnyH_take (i := 11) (v := ?_) (by simp only [List.getElem?_toArray, List.getElem?_cons_succ, List.getElem?_cons_zero]; rfl) (by kernel_rfl) (by kernel_rfl) (by kernel_rfl) (by exact fun _ _ _ h => h) (Or.inl ⟨by kernel_rfl, ?_⟩) hS ?_
            case refine_2 => ((intro w hSw; (try dsimp only at hSw); go_simp) <;> with_reducible rfl)
            try simp only [Act.put, List.setIfInBounds_toArray, List.set_cons_zero, List.set_cons_succ]
            refine wpAnyH_take (i := 12) (v := ?_) (by simp only [List.getElem?_toArray, List.getElem?_cons_succ, List.getElem?_cons_zero]; rfl) (by kernel_rfl) (by kernel_rfl) (by kernel_rfl) (by exact fun _ _ _ h => h) (Or.inl ⟨by kernel_rfl, ?_⟩) hS ?_
            case refine_2 => ((intro w hSw; (try dsimp only at hSw); go_simp) <;> with_reducible rfl)
            try simp only [Act.put, List.setIfInBounds_toArray, List.set_cons_zero, List.set_cons_succ]
            refine wpAnyH_take (i := 13) (v := ?_) (by simp only [List.getElem?_toArray, List.getElem?_cons_succ, List.getElem?_cons_zero]; rfl) (by kernel_rfl) (by kernel_rfl) (by kernel_rfl) (by exact fun _ _ _ h => h) (Or.inl ⟨by kernel_rfl, ?_⟩) hS ?_
            case refine_2 => ((intro w hSw; (try dsimp only at hSw); go_simp) <;> with_reducible rfl)
            try simp only [Act.put, List.setIfInBounds_toArray, List.set_cons_zero, List.set_cons_succ]
            refine wpAnyH_take (i := 14) (v := ?_) (by simp only [List.getElem?_toArray, List.getElem?_cons_succ, List.getElem?_cons_zero]; rfl) (by kernel_rfl) (by kernel_rfl) (by kernel_rfl) (by exact fun _ _ _ h => h) (Or.inl ⟨by kernel_rfl, ?_⟩) hS ?_
            case refine_2 => ((intro w hSw; (try dsimp only at hSw); go_simp) <;> with_reducible rfl)
            try simp only [Act.put, List.setIfInBounds_toArray, List.set_cons_zero, List.set_cons_succ]
            refine wpAnyH_take (i := 15) (v := ?_) (by simp only [List.getElem?_toArray, List.getElem?_cons_succ, List.getElem?_cons_zero]; rfl) (by kernel_rfl) (by kernel_rfl) (by kernel_rfl) (by exact fun _ _ _ h => h) (Or.inl ⟨by kernel_rfl, ?_⟩) hS ?_
            case refine_2 => ((intro w hSw; (try dsimp only at hSw); go_simp) <;> with_reducible rfl)
            try simp only [Act.put, List.setIfInBounds_toArray, List.set_cons_zero, List.set_cons_succ]
            refine wpAnyH_take (i := 16) (v := ?_) (by simp only [List.getElem?_toArray, List.getElem?_cons_succ, List.getElem?_cons_zero]; rfl) (by kernel_rfl) (by kernel_rfl) (by kernel_rfl) (by exact fun _ _ _ h => h) (Or.inl ⟨by kernel_rfl, ?_⟩) hS ?_
            case refine_2 => ((intro w hSw; (try dsimp only at hSw); go_simp) <;> with_reducible rfl)
            try simp only [Act.put, List.setIfInBounds_toArray, List.set_cons_zero, List.set_cons_succ]
            refine wpAnyH_take (i := 17) (v := ?_) (by simp only [List.getElem?_toArray, List.getElem?_cons_succ, List.getElem?_cons_zero]; rfl) (by kernel_rfl) (by kernel_rfl) (by kernel_rfl) (by exact fun _ _ _ h => h) (Or.inl ⟨by kernel_rfl, ?_⟩) hS ?_
            case refine_2 => ((intro w hSw; (try dsimp only at hSw); go_simp) <;> with_reducible rfl)
            try simp only [Act.put, List.setIfInBounds_toArray, List.set_cons_zero, List.set_cons_succ]
            refine wpAnyH_take (i := 18) (v := ?_) (by simp only [List.getElem?_toArray, List.getElem?_cons_succ, List.getElem?_cons_zero]; rfl) (by kernel_rfl) (by kernel_rfl) (by kernel_rfl) (by exact fun _ _ _ h => h) (Or.inl ⟨by kernel_rfl, ?_⟩) hS ?_
            case refine_2 => ((intro w hSw; (try dsimp only at hSw); go_simp) <;> with_reducible rfl)
            try simp only [Act.put, List.setIfInBounds_toArray, List.set_cons_zero, List.set_cons_succ]
            refine wpAnyH_take (i := 19) (v := ?_) (by simp only [List.getElem?_toArray, List.getElem?_cons_succ, List.getElem?_cons_zero]; rfl) (by kernel_rfl) (by kernel_rfl) (by kernel_rfl) (by exact fun _ _ _ h => h) (Or.inl ⟨by kernel_rfl, ?_⟩) hS ?_
            case refine_2 => ((intro w hSw; (try dsimp only at hSw); go_simp) <;> with_reducible rfl)
            try simp only [Act.put, List.setIfInBounds_toArray, List.set_cons_zero, List.set_cons_succ]
            refine wpAnyH_take (i := 20) (v := ?_) (by simp only [List.getElem?_toArray, List.getElem?_cons_succ, List.getElem?_cons_zero]; rfl) (by kernel_rfl) (by kernel_rfl) (by kernel_rfl) (by exact fun _ _ _ h => h) (Or.inl ⟨by kernel_rfl, ?_⟩) hS ?_
            case refine_2 => ((intro w hSw; (try dsimp only at hSw); go_simp) <;> with_reducible rfl)
            try simp only [Act.put, List.setIfInBounds_toArray, List.set_cons_zero, List.set_cons_succ]
            refine wpAnyH_take (i := 21) (v := ?_) (by simp only [List.getElem?_toArray, List.getElem?_cons_succ, List.getElem?_cons_zero]; rfl) (by kernel_rfl) (by kernel_rfl) (by kernel_rfl) (by exact fun _ _ _ h => h) (Or.inl ⟨by kernel_rfl, ?_⟩) hS ?_
            case refine_2 => ((intro w hSw; (try dsimp only at hSw); go_simp) <;> with_reducible rfl)
            try simp only [Act.put, List.setIfInBounds_toArray, List.set_cons_zero, List.set_cons_succ]
            refine wpAnyH_take (i := 22) (v := ?_) (by simp only [List.getElem?_toArray, List.getElem?_cons_succ, List.getElem?_cons_zero]; rfl) (by kernel_rfl) (by kernel_rfl) (by kernel_rfl) (by exact fun _ _ _ h => h) (Or.inl ⟨by kernel_rfl, ?_⟩) hS ?_
            case refine_2 => ((intro w hSw; (try dsimp only at hSw); go_simp) <;> with_reducible rfl)
            try simp only [Act.put, List.setIfInBounds_toArray, List.set_cons_zero, List.set_cons_succ]
            refine wpAnyH_take (i := 23) (v := ?_) (by simp only [List.getElem?_toArray, List.getElem?_cons_succ, List.getElem?_cons_zero]; rfl) (by kernel_rfl) (by kernel_rfl) (by kernel_rfl) (by exact fun _ _ _ h => h) (Or.inl ⟨by kernel_rfl, ?_⟩) hS ?_
            case refine_2 => ((intro w hSw; (try dsimp only at hSw); go_simp) <;> with_reducible rfl)
            try simp only [Act.put, List.setIfInBounds_toArray, List.set_cons_zero, List.set_cons_succ]
            refine wpAnyH_take (i := 24) (v := ?_) (by simp only [List.getElem?_toArray, List.getElem?_cons_succ, List.getElem?_cons_zero]; rfl) (by kernel_rfl) (by kernel_rfl) (by kernel_rfl) (by exact fun _ _ _ h => h) (Or.inl ⟨by kernel_rfl, ?_⟩) hS ?_
            case refine_2 => ((intro w hSw; (try dsimp only at hSw); go_simp) <;> with_reducible rfl)
            try simp only [Act.put, List.setIfInBounds_toArray, List.set_cons_zero, List.set_cons_succ]
            refine wpAnyH_take (i := 25) (v := ?_) (by simp only [List.getElem?_toArray, List.getElem?_cons_succ, List.getElem?_cons_zero]; rfl) (by kernel_rfl) (by kernel_rfl) (by kernel_rfl) (by exact fun _ _ _ h => h) (Or.inl ⟨by kernel_rfl, ?_⟩) hS ?_
            case refine_2 => ((intro w hSw; (try dsimp only at hSw); go_simp) <;> with_reducible rfl)
            try simp only [Act.put, List.setIfInBounds_toArray, List.set_cons_zero, List.set_cons_succ]
            refine wpAnyH_take (i := 26) (v := ?_) (by simp only [List.getElem?_toArray, List.getElem?_cons_succ, List.getElem?_cons_zero]; rfl) (by kernel_rfl) (by kernel_rfl) (by kernel_rfl) (by exact fun _ _ _ h => h) (Or.inl ⟨by kernel_rfl, ?_⟩) hS ?_
            case refine_2 => ((intro w hSw; (try dsimp only at hSw); go_simp) <;> with_reducible rfl)
            try simp only [Act.put, List.setIfInBounds_toArray, List.set_cons_zero, List.set_cons_succ]
            refine wpAnyH_take (i := 27) (v := ?_) (by simp only [List.getElem?_toArray, List.getElem?_cons_succ, List.getElem?_cons_zero]; rfl) (by kernel_rfl) (by kernel_rfl) (by kernel_rfl) (by exact fun _ _ _ h => h) (Or.inl ⟨by kernel_rfl, ?_⟩) hS ?_
            case refine_2 => ((intro w hSw; (try dsimp only at hSw); go_simp) <;> with_reducible rfl)
            try simp only [Act.put, List.setIfInBounds_toArray, List.set_cons_zero, List.set_cons_succ]
            refine wpAnyH_take (i := 28) (v := ?_) (by simp only [List.getElem?_toArray, List.getElem?_cons_succ, List.getElem?_cons_zero]; rfl) (by kernel_rfl) (by kernel_rfl) (by kernel_rfl) (by exact fun _ _ _ h => h) (Or.inl ⟨by kernel_rfl, ?_⟩) hS ?_
            case refine_2 => ((intro w hSw; (try dsimp only at hSw); go_simp) <;> with_reducible rfl)
            try simp only [Act.put, List.setIfInBounds_toArray, List.set_cons_zero, List.set_cons_succ]
            refine wpAnyH_take (i := 29) (v := ?_) (by simp only [List.getElem?_toArray, List.getElem?_cons_succ, List.getElem?_cons_zero]; rfl) (by kernel_rfl) (by kernel_rfl) (by kernel_rfl) (by exact fun _ _ _ h => h) (Or.inl ⟨by kernel_rfl, ?_⟩) hS ?_
            case refine_2 => ((intro w hSw; (try dsimp only at hSw); go_simp) <;> with_reducible rfl)
            try simp only [Act.put, List.setIfInBounds_toArray, List.set_cons_zero, List.set_cons_succ]
            refine wpAnyH_take (i := 30) (v := ?_) (by simp only [List.getElem?_toArray, List.getElem?_cons_succ, List.getElem?_cons_zero]; rfl) (by kernel_rfl) (by kernel_rfl) (by kernel_rfl) (by exact fun _ _ _ h => h) (Or.inl ⟨by kernel_rfl, ?_⟩) hS ?_
            case refine_2 => ((intro w hSw; (try dsimp only at hSw); go_simp) <;> with_reducible rfl)
            try simp only [Act.put, List.setIfInBounds_toArray, List.set_cons_zero, List.set_cons_succ]
            refine wpAnyH_done (by kernel_rfl) ?_ _
            obtain ⟨cr, fr⟩ := HF.out
            clear hS
            gi_wp2
            exact ⟨keepsFrom_chg (S := [b5 + 1 + 1]) ((((Chg.refl _ _).setCell _ _ (by simp)) : Chg [b5 + 1 + 1] W (W.setCell ⟨b5 + 1 + 1, 0, none⟩ (.bool false))).drew) (by
              intro k hk o ho
              simp at hk
              subst hk
              rw [HC.out.2.1] at ho; cases ho; rfl), ⟨rfl, HP.out⟩⟩
      · rintro D2 xs W2 hD2 hxs ⟨h1, h6, h2, h3⟩ hdef2
        subst hxs
        rw [List.length_map, ← HFw.out.1] at h2
        have cn := cellB h2 (i := 0) (v := .int .i64 n) rfl
        have c5 := cellB h3.l5 (i := 0) (v := .pointer (some ⟨rb, 0, none⟩)) rfl
        have cq := cellB h3.q1 (i := 0) (v := .slice a n cap) rfl
        have ct := cellB h3.t (i := 0) (v := .int .i64 1) rfl
        have cl := cellB h3.l7 (i := 0) (v := .int .i64 leave) rfl
        have en : ((n : Int) != (n : Int)) = false := by simp
        have HC2 := Lib.hid (And.intro h6 (And.intro h2 (And.intro h3 (And.intro hdef2 hD2))))
        clear h1 h6 h2 h3 hdef2 hD2
        subst hA
        gi_wp2
        go_wp2_with fail
        go_quiet (fail)
        obtain ⟨We, hWe⟩ : ∃ We, We = W2.drewN nq := ⟨_, rfl⟩
        rw [← hWe]
        have hCe : Chg [] W2 We := by rw [hWe]; exact (Chg.refl _ _).drewN nq
        have hse : We.heap.size = W2.heap.size := by rw [hWe]; rfl
        have ct := cellB (hCe.blk HC2.out.2.2.1.t (by simp)) (i := 0) (v := .int .i64 1) rfl
        have cr := cellB (hCe.blk HC2.out.1 (by simp)) (i := 0) (v := .bool false) rfl
        have fr := frozenB (hCe.blk HC2.out.1 (by simp)) 0
        have hl8 := lt_of_blk HC2.out.1
        have hne8 : ¬ W2.heap.size = b5 + 1 + 1 := by omega
        have hne9 : ¬ b5 + 1 + 1 = W2.heap.size := by omega
        clear hWe
        go_wp2
        rw [rounds_succ]
        go_wp2
        obtain ⟨WF, hWF⟩ : ∃ WF, WF = ((We.setCell ⟨b5 + 1 + 1, 0, none⟩ (.bool true)).alloc (.cells #[.int .i64 2] 3 (0, 0))) := ⟨_, rfl⟩
        have l := HC2.out.2.2.1.lt
        have hdl := HC2.out.2.2.1.dl D (by simp)
        have hD2 := HC2.out.2.2.2.2
        have hnB := HQ1.out.2.2.2.2.1
        have hDg := HDb.out
        have nD2 : D2 ≠ b5 + 1 + 1 := fun e => by
          have h1 := HC2.out.2.2.2.1
          rw [e, HC2.out.1] at h1
          cases h1
        have hCF : Chg [b5 + 1 + 1] W2 WF := by rw [hWF]; exact ((hCe.mono (by simp)).setCell _ _ (by simp)).alloc _
        have hF8 : WF.heap[b5 + 1 + 1]? = some (.cells #[.bool true] 4 (0, 0)) := by rw [hWF]; exact blk_alloc (blk_setCell (hCe.blk HC2.out.1 (by simp)) _) _
        have hF2 : WF.heap[D2]? = some (.deferred (some [])) := hCF.blk HC2.out.2.2.2.1 (by simpa using nD2)
        have hF1 : WF.heap[D]? = some (.deferred (some [])) := hCF.blk (HC2.out.2.2.1.df D (by simp)) (by simpa using hdl.2)
        have hCG : Chg [D2] WF (WF.putObj D2 (.deferred none)) := (Chg.refl [D2] WF).setBlock D2 _ (by simp)
        have hDD : D ≠ D2 := by omega
        have hG1 := hCG.blk hF1 (by simpa using hDD)
        have hCH : Chg [D] (WF.putObj D2 (.deferred none)) ((WF.putObj D2 (.deferred none)).putObj D (.deferred none)) := (Chg.refl [D] _).setBlock D _ (by simp)
        have hH6 := cellB (hCH.blk (hCG.blk hF8 (by simpa using fun e => nD2 e.symm)) (by simpa using fun e => hdl.2 e.symm)) (i := 0) rfl
        have hch := HC2.out.2.2.1.ch
        rw [← hWF]
        refine ⟨by simp, .inl ⟨_, _, rfl, run_takeDeferred hF2, ?_⟩⟩
        refine ⟨by simp, .inl ⟨_, _, rfl, run_takeDeferred hG1, ?_⟩⟩
        refine ⟨.bool true, ?_, rfl, ((hch.trans' hCF (fun x hx => .inr (by simp at hx; omega))).trans' hCG (fun x hx => .inr (by simp at hx; omega))).trans' hCH (fun x hx => .inr (by simp at hx; omega))⟩
        simp [results, Try.results13, go_sem, hH6]
      · rintro D2 c pre W2 hD2 hp hS hdef2
        exact absurd hp hS.2
    · rintro D c pre W hD hp hS hdef
      rcases hS with ⟨_, h⟩ | ⟨rfl, hl, h6, h2, h3⟩
      · exact absurd hp h
      · have hl1 : ((pre.length : Int) != leave) = false := by simp [hl]
        obtain ⟨bb, hbb⟩ : ∃ b, ((pre.length : Int) != (n : Int)) = b := ⟨_, rfl⟩
        have cn := cellB h2 (i := 0) (v := .int .i64 pre.length) rfl
        have c5 := cellB h3.l5 (i := 0) (v := .pointer (some ⟨rb, 0, none⟩)) rfl
        have cq := cellB h3.q1 (i := 0) (v := .slice a n cap) rfl
        have ct := cellB h3.t (i := 0) (v := .int .i64 0) rfl
        have cl := cellB h3.l7 (i := 0) (v := .int .i64 leave) rfl
        have HC := Lib.hid (And.intro h6 (And.intro h2 (And.intro h3 (And.intro hdef hD))))
        clear h6 h2 h3 hp hl hdef hD
        cases bb
        all_goals
          subst hA
          gi_wp2
          go_wp2_with fail
          go_quiet (fail)
          rename_i nq
          obtain ⟨Wd, hWd⟩ : ∃ Wd, Wd = W.drewN nq := ⟨_, rfl⟩
          rw [← hWd]
          have hCd : Chg [] W Wd := by rw [hWd]; exact (Chg.refl _ _).drewN nq
          have hsd : Wd.heap.size = W.heap.size := by rw [hWd]; rfl
          have ct := cellB (hCd.blk HC.out.2.2.1.t (by simp)) (i := 0) (v := .int .i64 0) rfl
          clear hWd
          go_wp2
          rw [rounds_succ]
          obtain ⟨bt1, hbt1⟩ : ∃ bt1, bt1 = W.heap.size := ⟨_, rfl⟩
          obtain ⟨W1, hW1⟩ : ∃ W1, W1 = Wd.alloc (.cells #[.int .i64 1] 3 (0, 0)) := ⟨_, rfl⟩
          rw [← hW1, ← hbt1]
          have hCa : Chg [] W W1 := by rw [hW1]; exact hCd.alloc _
          have hsz1 : W1.heap.size = W.heap.size + 1 := by rw [hW1]; simp [hsd]
          have hl8 := lt_of_blk HC.out.1
          have hln := lt_of_blk HC.out.2.1
          have hn0 := HQ0.out.2.2.2.2.1
          have hlt0 := HC.out.2.2.1.lt
          have hDg := HC.out.2.2.2.2
          have HSd1 := Lib.hid (HC.out.2.2.1.next hCa bt1 D 1 (by rw [hW1, hbt1, ← hsd]; exact heap_alloc_eq Wd _) HC.out.2.2.2.1 (by omega) (by omega) (by omega))
          have Hb81 := Lib.hid (hCa.blk HC.out.1 (by simp))
          have HDb := Lib.hid (show w.heap.size ≤ D from by omega)
          clear cn c5 cq ct cl HC HSd Hb8 HQ0 HA0 hCa hsz1 hW1 hbt1 hCd hsd hl8 hln hn0 hlt0 hDg
          have ct := cellB HSd1.out.t (i := 0) (v := .int .i64 1) rfl
          go_wp2
          obtain ⟨bn1, hbn1⟩ : ∃ bn, bn = W1.heap.size := ⟨_, rfl⟩
          obtain ⟨W1n, hW1n⟩ : ∃ wn, wn = W1.alloc (.cells #[.int .i64 0] 3 (0, 0)) := ⟨_, rfl⟩
          have hCn : Chg [] W1 W1n := by rw [hW1n]; exact (Chg.refl _ _).alloc _
          have hbn := (show W1n.heap[bn1]? = some (.cells #[.int .i64 0] 3 (0, 0)) from by rw [hW1n, hbn1]; exact heap_alloc_eq W1 _)
          have hS1 := HSd1.out.kept hCn (by simp)
          have hnB : W1n.heap.size = bn1 + 1 := by rw [hW1n, hbn1]; simp
          have hou : ∀ k ∈ u.ownBlock.toList, k ∉ [bn1, b5 + 1 + 1] := fun k hk => by have h1 := (HSd1.out.ou k hk); simp; omega
          have hseq := all1_stops [bn1, b5 + 1 + 1] [] (by simp) bl u 0 L W1n hS1.sq (by have := hS1.so; rw [HFw.out.1] at this; exact this) (by have := HFw.out.2; omega) hou
          have HQ1 := Lib.hid (And.intro hseq (And.intro hS1 (And.intro hbn (And.intro (hCn.blk Hb81.out (by simp)) (And.intro hnB hbn1)))))
          rw [← hW1n, ← hbn1]
          clear hCn hbn hS1 hseq hW1n hbn1 hnB hou
          refine (wpIn_wide (n := 5)).1 ?_
          refine wpIn_act (fun A hA => ?_)
          have HA1 := Lib.hid hA
          refine wpIn_rangeFunc_ownH rfl (by omega) (gf := 36) (lb := #[.pointer (some ⟨bl, 0, none⟩)]) (by rw [hA]; rfl) trivial (enters_of Try.func36 (by kernel_rfl) rfl) HQ1.out.1
            KpS.trans (fun W l o o' _ ho h1 h2 => KpS.put o' ho h1 h2) (Below.refl _ _) (fun _ => rfl)
            (fun pre W => pre <+: L.map keyH ∧ W.heap[b5 + 1 + 1]? = some (.cells #[.bool false] 4 (0, 0)) ∧ W.heap[bn1]? = some (.cells #[.int .i64 pre.length] 3 (0, 0)) ∧ Sh w rb L bl u b5 (b5 + 1) (b5 + 1 + 1) bt1 leave 1 a cap n [D] bn1 W)
            (fun c pre W => c = .ret ∧ ¬ pre <+: L.map keyH)
            (fun s A B row hs hg hr => ⟨hs.1, ownFrom_blk (β := Unit) _ _ _ _ _ () A B row hs.2.1 hg hr, ownFrom_blk (β := Unit) _ _ _ _ _ () A B row hs.2.2.1 hg hr, hs.2.2.2.kept (Chg.of_grown (S := row.toList) hg (fun k hk => by simp [hk])) (fun k hk => by have := (hr k (by simpa using hk)).1; have := HQ1.out.2.2.2.2.1; omega)⟩)
            (fun c s A B row hs hg hr => hs)
            ⟨List.nil_prefix, HQ1.out.2.2.2.1, HQ1.out.2.2.1, (show Sh w rb L bl u b5 (b5 + 1) (b5 + 1 + 1) bt1 leave 1 a cap n [D] bn1 W1n from by rw [HQ1.out.2.2.2.2.2]; exact HQ1.out.2.1)⟩
            (fun x a' W => a' = { tmps := (((A.tmps.setIfInBounds 111 (.int .i64 x.1)).setIfInBounds 112 (.int .i64 x.2)).setIfInBounds 19 (.int .i64 x.1)).setIfInBounds 20 (.int .i64 x.2), defers := [] })
            (fun x a' _ A B row hs hg hr => hs)
            ?_ ?_ ?_ ?_
          · rintro l pre x W K ⟨h1, h6, h2, h3⟩ hK
            have HC := Lib.hid (And.intro h1 (And.intro h6 (And.intro h2 h3)))
            clear h1 h2 h3 h6
            unfold encH
            subst hA
            gi_wp2
            exact hK _ _ (keepsFrom_chg (Chg.refl [] _) (by simp)) (KpS.chg (Chg.refl [] _) (by simp)) HC.out rfl
          · rintro l pre x a' W hl ⟨r, hr⟩ ⟨hp, h6, h2, h3⟩ rfl hlt
            subst hA
            simp only [List.setIfInBounds_toArray, List.set_cons_succ, List.set_cons_zero]
            have hltn : pre.length < n := by rw [HFw.out.1]; exact hlt
            obtain ⟨y, hy⟩ : ∃ y, (L.map keyH)[pre.length]? = some y := ⟨_, List.getElem?_eq_getElem (by rw [List.length_map]; exact hlt)⟩
            have hq2 := h3.q2
            rw [show n = (L.map keyH).length from by rw [List.length_map]; exact HFw.out.1] at hq2
            obtain ⟨a', cap', hva, hrd⟩ := RowD.of_own hq2
            simp only [Value.slice.injEq] at hva
            obtain ⟨rfl, -, rfl⟩ := hva
            obtain ⟨g, rfl, hgc, hgm⟩ := hrd.pt (fun e => by rw [e] at hy; simp at hy)
            obtain ⟨cy0, cy1⟩ := hrd.cells hy
            have cn := cellB h2 (i := 0) (v := .int .i64 pre.length) rfl
            have fn := frozenB h2 0
            have cq := cellB h3.q1 (i := 0) (v := .slice (some ⟨g, 0, none⟩) n cap) rfl
            have c5 := cellB h3.l5 (i := 0) (v := .pointer (some ⟨rb, 0, none⟩)) rfl
            have ct := cellB h3.t (i := 0) (v := .int .i64 1) rfl
            have cl := cellB h3.l7 (i := 0) (v := .int .i64 leave) rfl
            have cr := cellB h6 (i := 0) (v := .bool false) rfl
            have fr := frozenB h6 0
            have hpl : pre.length ≤ 64 := by have := HFw.out.2; omega
            obtain ⟨y1, y2⟩ := y
            obtain ⟨x1, x2⟩ := x
            dsimp only at cy0 cy1
            have HC := Lib.hid (And.intro hp (And.intro h6 (And.intro h2 (And.intro h3 hy))))
            have hlt3 := h3.lt
            clear hp h6 h2 h3 hy hq2 hrd hgc hgm hr
            have hdn : decide ((n : Int) ≤ (pre.length : Int)) = false := by simp; omega
            have hdn' : decide (n ≤ pre.length) = false := by simp; omega
            have hz1 : (0 : Int) ≤ (pre.length : Int) ∧ (pre.length : Int) < (n : Int) := by omega
            have hne1 : ¬ b5 + 1 + 1 = bn1 := by omega
            have hne2 : ¬ bt1 = bn1 := by omega
            have hne3 : ¬ bn1 = b5 + 1 + 1 := by omega
            have hne4 : ¬ bn1 = bt1 := by omega
            have hne5 : ¬ b5 + 1 = bn1 := by omega
            clear hlt3
            by_cases hxy : x1 = y1 ∧ x2 = y2
            · obtain ⟨rfl, rfl⟩ := hxy
              have g1 : (x1 != x1) = false := by simp
              have g2 : (x2 != x2) = false := by simp
              have hpre : pre ++ [(x1, x2)] <+: L.map keyH := by
                obtain ⟨r, hr⟩ := HC.out.1
                have := HC.out.2.2.2.2
                rw [← hr, List.getElem?_append_right (Nat.le_refl _), Nat.sub_self] at this
                cases r with
                | nil => cases this
                | cons z r => simp at this; subst this; exact ⟨r, by rw [← hr]; simp⟩
              have HPre := Lib.hid hpre
              clear hpre
              have HF := Lib.hid (And.intro ct (And.intro cl (And.intro cr (And.intro fr fn))))
              clear ct cl cr fr fn
              gi_wp2_with fail
              refine region_round (S := fun w' => w'.cell? ⟨bn1, 0, none⟩ = some (.int .i64 pre.length) ∧ w'.cell? ⟨b5, 0, none⟩ = some (.pointer (some ⟨rb, 0, none⟩)) ∧ w'.cell? ⟨rb, 0, none⟩ = some (.slice (some ⟨g, 0, none⟩) n cap) ∧ w'.cell? ⟨g, pre.length * 2, none⟩ = some (.int .i64 x1) ∧ w'.cell? ⟨g, pre.length * 2 + 1, none⟩ = some (.int .i64 x2)) (by kernel_rfl) (by rintro ⟨_, _, h⟩; exact h) (by kernel_rfl) ⟨cn, c5, cq, cy0, cy1⟩ (fun hS => ?_)
              refine wpAnyH_take (i := 0) (v := ?_) (by simp only [List.getElem?_toArray, List.getElem?_cons_zero]; rfl) (by kernel_rfl) (by kernel_rfl) (by kernel_rfl) (by exact fun _ _ _ h => h) (Or.inl ⟨by kernel_rfl, ?_⟩) hS ?_
              case refine_2 => ((intro w hSw; (try dsimp only at hSw); go_simp) <;> with_reducible rfl)
              try simp only [Act.put, List.setIfInBounds_toArray, List.set_cons_zero, List.set_cons_succ]
              refine wpAnyH_take (i := 1) (v := ?_) (by simp only [List.getElem?_toArray, List.getElem?_cons_succ, List.getElem?_cons_zero]; rfl) (by kernel_rfl) (by kernel_rfl) (by kernel_rfl) (by exact fun _ _ _ h => h) (Or.inl ⟨by kernel_rfl, ?_⟩) hS ?_
              case refine_2 => ((intro w hSw; (try dsimp only at hSw); go_simp) <;> with_reducible rfl)
              try simp only [Act.put, List.setIfInBounds_toArray, List.set_cons_zero, List.set_cons_succ]
              refine wpAnyH_take (i := 2) (v := ?_) (by simp only [List.getElem?_toArray, List.getElem?_cons_succ, List.getElem?_cons_zero]; rfl) (by kernel_rfl) (by kernel_rfl) (by kernel_rfl) (by exact fun _ _ _ h => h) (Or.inl ⟨by kernel_rfl, ?_⟩) hS ?_
              case refine_2 => ((intro w hSw; (try dsimp only at hSw); go_simp) <;> with_reducible rfl)
              try simp only [Act.put, List.setIfInBounds_toArray, List.set_cons_zero, List.set_cons_succ]
              refine wpAnyH_take (i := 3) (v := ?_) (by simp only [List.getElem?_toArray, List.getElem?_cons_succ, List.getElem?_cons_zero]; rfl) (by kernel_rfl) (by kernel_rfl) (by kernel_rfl) (by exact fun _ _ _ h => h) (Or.inl ⟨by kernel_rfl, ?_⟩) hS ?_
              case refine_2 => ((intro w hSw; (try dsimp only at hSw); go_simp) <;> with_reducible rfl)
              try simp only [Act.put, List.setIfInBounds_toArray, List.set_cons_zero, List.set_cons_succ]
              refine wpAnyH_take (i := 4) (v := ?_) (by simp only [List.getElem?_toArray, List.getElem?_cons_succ, List.getElem?_cons_zero]; rfl) (by kernel_rfl) (by kernel_rfl) (by kernel_rfl) (by exact fun _ _ _ h => h) (Or.inl ⟨by kernel_rfl, ?_⟩) hS ?_
              case refine_2 => ((intro w hSw; (try dsimp only at hSw); go_simp) <;> with_reducible rfl)
              try simp only [Act.put, List.setIfInBounds_toArray, List.set_cons_zero, List.set_cons_succ]
              refine wpAnyH_take (i := 5) (v := ?_) (by simp only [List.getElem?_toArray, List.getElem?_cons_succ, List.getElem?_cons_zero]; rfl) (by kernel_rfl) (by kernel_rfl) (by kernel_rfl) (by exact fun _ _ _ h => h) (Or.inl ⟨by kernel_rfl, ?_⟩) hS ?_
              case refine_2 => ((intro w hSw; (try dsimp only at hSw); go_simp) <;> with_reducible rfl)
              try simp only [Act.put, List.setIfInBounds_toArray, List.set_cons_zero, List.set_cons_succ]
              refine wpAnyH_take (i := 6) (v := ?_) (by simp only [List.getElem?_toArray, List.getElem?_cons_succ, List.getElem?_cons_zero]; rfl) (by kernel_rfl) (by kernel_rfl) (by kernel_rfl) (by exact fun _ _ _ h => h) (Or.inl ⟨by kernel_rfl, ?_⟩) hS ?_
              case refine_2 => ((intro w hSw; (try dsimp only at hSw); go_simp) <;> with_reducible rfl)
              try simp only [Act.put, List.setIfInBounds_toArray, List.set_cons_zero, List.set_cons_succ]
              refine wpAnyH_take (i := 7) (v := ?_) (by simp only [List.getElem?_toArray, List.getElem?_cons_succ, List.getElem?_cons_zero]; rfl) (by kernel_rfl) (by kernel_rfl) (by kernel_rfl) (by exact fun _ _ _ h => h) (Or.inl ⟨by kernel_rfl, ?_⟩) hS ?_
              case refine_2 => ((intro w hSw; (try dsimp only at hSw); go_simp) <;> with_reducible rfl)
              try simp only [Act.put, List.setIfInBounds_toArray, List.set_cons_zero, List.set_cons_succ]
              refine wpAnyH_take (i := 8) (v := ?_) (by simp only [List.getElem?_toArray, List.getElem?_cons_succ, List.getElem?_cons_zero]; rfl) (by kernel_rfl) (by kernel_rfl) (by kernel_rfl) (by exact fun _ _ _ h => h) (Or.inl ⟨by kernel_rfl, ?_⟩) hS ?_
              case refine_2 => ((intro w hSw; (try dsimp only at hSw); go_simp) <;> with_reducible rfl)
              try simp only [Act.put, List.setIfInBounds_toArray, List.set_cons_zero, List.set_cons_succ]
              refine wpAnyH_take (i := 9) (v := ?_) (by simp only [List.getElem?_toArray, List.getElem?_cons_succ, List.getElem?_cons_zero]; rfl) (by kernel_rfl) (by kernel_rfl) (by kernel_rfl) (by exact fun _ _ _ h => h) (Or.inl ⟨by kernel_rfl, ?_⟩) hS ?_
              case refine_2 => ((intro w hSw; (try dsimp only at hSw); go_simp) <;> with_reducible rfl)
              try simp only [Act.put, List.setIfInBounds_toArray, List.set_cons_zero, List.set_cons_succ]
              refine wpAnyH_take (i := 10) (v := ?_) (by simp only [List.getElem?_toArray, List.getElem?_cons_succ, List.getElem?_cons_zero]; rfl) (by kernel_rfl) (by kernel_rfl) (by kernel_rfl) (by exact fun _ _ _ h => h) (Or.inl ⟨by kernel_rfl, ?_⟩) hS ?_
              case refine_2 => ((intro w hSw; (try dsimp only at hSw); go_simp) <;> with_reducible rfl)
              try simp only [Act.put, List.setIfInBounds_toArray, List.set_cons_zero, List.set_cons_succ]
              refine wpAnyH_take (i := 11) (v := ?_) (by simp only [List.getElem?_toArray, List.getElem?_cons_succ, List.getElem?_cons_zero]; rfl) (by kernel_rfl) (by kernel_rfl) (by kernel_rfl) (by exact fun _ _ _ h => h) (Or.inl ⟨by kernel_rfl, ?_⟩) hS ?_
              case refine_2 => ((intro w hSw; (try dsimp only at hSw); go_simp) <;> with_reducible rfl)
              try simp only [Act.put, List.setIfInBounds_toArray, List.set_cons_zero, List.set_cons_succ]
              refine wpAnyH_take (i := 12) (v := ?_) (by simp only [List.getElem?_toArray, List.getElem?_cons_succ, List.getElem?_cons_zero]; rfl) (by kernel_rfl) (by kernel_rfl) (by kernel_rfl) (by exact fun _ _ _ h => h) (Or.inl ⟨by kernel_rfl, ?_⟩) hS ?_
              case refine_2 => ((intro w hSw; (try dsimp only at hSw); go_simp) <;> with_reducible rfl)
              try simp only [Act.put, List.setIfInBounds_toArray, List.set_cons_zero, List.set_cons_succ]
              refine wpAnyH_take (i := 13) (v := ?_) (by simp only [List.getElem?_toArray, List.getElem?_cons_succ, List.getElem?_cons_zero]; rfl) (by kernel_rfl) (by kernel_rfl) (by kernel_rfl) (by exact fun _ _ _ h => h) (Or.inl ⟨by kernel_rfl, ?_⟩) hS ?_
              case refine_2 => ((intro w hSw; (try dsimp only at hSw); go_simp) <;> with_reducible rfl)
              try simp only [Act.put, List.setIfInBounds_toArray, List.set_cons_zero, List.set_cons_succ]
              refine wpAnyH_take (i := 14) (v := ?_) (by simp only [List.getElem?_toArray, List.getElem?_cons_succ, List.getElem?_cons_zero]; rfl) (by kernel_rfl) (by kernel_rfl) (by kernel_rfl) (by exact fun _ _ _ h => h) (Or.inl ⟨by kernel_rfl, ?_⟩) hS ?_
              case refine_2 => ((intro w hSw; (try dsimp only at hSw); go_simp) <;> with_reducible rfl)
              try simp only [Act.put, List.setIfInBounds_toArray, List.set_cons_zero, List.set_cons_succ]
              refine wpAnyH_take (i := 15) (v := ?_) (by simp only [List.getElem?_toArray, List.getElem?_cons_succ, List.getElem?_cons_zero]; rfl) (by kernel_rfl) (by kernel_rfl) (by kernel_rfl) (by exact fun _ _ _ h => h) (Or.inl ⟨by kernel_rfl, ?_⟩) hS ?_
              case refine_2 => ((intro w hSw; (try dsimp only at hSw); go_simp) <;> with_reducible rfl)
              try simp only [Act.put, List.setIfInBounds_toArray, List.set_cons_zero, List.set_cons_succ]
              refine wpAnyH_take (i := 16) (v := ?_) (by simp only [List.getElem?_toArray, List.getElem?_cons_succ, List.getElem?_cons_zero]; rfl) (by kernel_rfl) (by kernel_rfl) (by kernel_rfl) (by exact fun _ _ _ h => h) (Or.inl ⟨by kernel_rfl, ?_⟩) hS ?_
              case refine_2 => ((intro w hSw; (try dsimp only at hSw); go_simp) <;> with_reducible rfl)
              try simp only [Act.put, List.setIfInBounds_toArray, List.set_cons_zero, List.set_cons_succ]
              refine wpAnyH_take (i := 17) (v := ?_) (by simp only [List.getElem?_toArray, List.getElem?_cons_succ, List.getElem?_cons_zero]; rfl) (by kernel_rfl) (by kernel_rfl) (by kernel_rfl) (by exact fun _ _ _ h => h) (Or.inl ⟨by kernel_rfl, ?_⟩) hS ?_
              case refine_2 => ((intro w hSw; (try dsimp only at hSw); go_simp) <;> with_reducible rfl)
              try simp only [Act.put, List.setIfInBounds_toArray, List.set_cons_zero, List.set_cons_succ]
              refine wpAnyH_take (i := 18) (v := ?_) (by simp only [List.getElem?_toArray, List.getElem?_cons_succ, List.getElem?_cons_zero]; rfl) (by kernel_rfl) (by kernel_rfl) (by kernel_rfl) (by exact fun _ _ _ h => h) (Or.inl ⟨by kernel_rfl, ?_⟩) hS ?_
              case refine_2 => ((intro w hSw; (try dsimp only at hSw); go_simp) <;> with_reducible rfl)
              try simp only [Act.put, List.setIfInBounds_toArray, List.set_cons_zero, List.set_cons_succ]
              refine wpAnyH_take (i := 19) (v := ?_) (by simp only [List.getElem?_toArray, List.getElem?_cons_succ, List.getElem?_cons_zero]; rfl) (by kernel_rfl) (by kernel_rfl) (by kernel_rfl) (by exact fun _ _ _ h => h) (Or.inl ⟨by kernel_rfl, ?_⟩) hS ?_
              case refine_2 => ((intro w hSw; (try dsimp only at hSw); go_simp) <;> with_reducible rfl)
              try simp only [Act.put, List.setIfInBounds_toArray, List.set_cons_zero, List.set_cons_succ]
              refine wpAnyH_take (i := 20) (v := ?_) (by simp only [List.getElem?_toArray, List.getElem?_cons_succ, List.getElem?_cons_zero]; rfl) (by kernel_rfl) (by kernel_rfl) (by kernel_rfl) (by exact fun _ _ _ h => h) (Or.inl ⟨by kernel_rfl, ?_⟩) hS ?_
              case refine_2 => ((intro w hSw; (try dsimp only at hSw); go_simp) <;> with_reducible rfl)
              try simp only [Act.put, List.setIfInBounds_toArray, List.set_cons_zero, List.set_cons_succ]
              refine wpAnyH_take (i := 21) (v := ?_) (by simp only [List.getElem?_toArray, List.getElem?_cons_succ, List.getElem?_cons_zero]; rfl) (by kernel_rfl) (by kernel_rfl) (by kernel_rfl) (by exact fun _ _ _ h => h) (Or.inl ⟨by kernel_rfl, ?_⟩) hS ?_
              case refine_2 => ((intro w hSw; (try dsimp only at hSw); go_simp) <;> with_reducible rfl)
              try simp only [Act.put, List.setIfInBounds_toArray, List.set_cons_zero, List.set_cons_succ]
              refine wpAnyH_take (i := 22) (v := ?_) (by simp only [List.getElem?_toArray, List.getElem?_cons_succ, List.getElem?_cons_zero]; rfl) (by kernel_rfl) (by kernel_rfl) (by kernel_rfl) (by exact fun _ _ _ h => h) (Or.inl ⟨by kernel_rfl, ?_⟩) hS ?_
              case refine_2 => ((intro w hSw; (try dsimp only at hSw); go_simp) <;> with_reducible rfl)
              try simp only [Act.put, List.setIfInBounds_toArray, List.set_cons_zero, List.set_cons_succ]
              refine wpAnyH_take (i := 23) (v := ?_) (by simp only [List.getElem?_toArray, List.getElem?_cons_succ, List.getElem?_cons_zero]; rfl) (by kernel_rfl) (by kernel_rfl) (by kernel_rfl) (by exact fun _ _ _ h => h) (Or.inl ⟨by kernel_rfl, ?_⟩) hS ?_
              case refine_2 => ((intro w hSw; (try dsimp only at hSw); go_simp) <;> with_reducible rfl)
              try simp only [Act.put, List.setIfInBounds_toArray, List.set_cons_zero, List.set_cons_succ]
              refine wpAnyH_take (i := 24) (v := ?_) (by simp only [List.getElem?_toArray, List.getElem?_cons_succ, List.getElem?_cons_zero]; rfl) (by kernel_rfl) (by kernel_rfl) (by kernel_rfl) (by exact fun _ _ _ h => h) (Or.inl ⟨by kernel_rfl, ?_⟩) hS ?_
              case refine_2 => ((intro w hSw; (try dsimp only at hSw); go_simp) <;> with_reducible rfl)
              try simp only [Act.put, List.setIfInBounds_toArray, List.set_cons_zero, List.set_cons_succ]
              refine wpAnyH_take (i := 25) (v := ?_) (by simp only [List.getElem?_toArray, List.getElem?_cons_succ, List.getElem?_cons_zero]; rfl) (by kernel_rfl) (by kernel_rfl) (by kernel_rfl) (by exact fun _ _ _ h => h) (Or.inl ⟨by kernel_rfl, ?_⟩) hS ?_
              case refine_2 => ((intro w hSw; (try dsimp only at hSw); go_simp) <;> with_reducible rfl)
              try simp only [Act.put, List.setIfInBounds_toArray, List.set_cons_zero, List.set_cons_succ]
              refine wpAnyH_take (i := 26) (v := ?_) (by simp only [List.getElem?_toArray, List.getElem?_cons_succ, List.getElem?_cons_zero]; rfl) (by kernel_rfl) (by kernel_rfl) (by kernel_rfl) (by exact fun _ _ _ h => h) (Or.inl ⟨by kernel_rfl, ?_⟩) hS ?_
              case refine_2 => ((intro w hSw; (try dsimp only at hSw); go_simp) <;> with_reducible rfl)
              try simp only [Act.put, List.setIfInBounds_toArray, List.set_cons_zero, List.set_cons_succ]
              refine wpAnyH_take (i := 27) (v := ?_) (by simp only [List.getElem?_toArray, List.getElem?_cons_succ, List.getElem?_cons_zero]; rfl) (by kernel_rfl) (by kernel_rfl) (by kernel_rfl) (by exact fun _ _ _ h => h) (Or.inl ⟨by kernel_rfl, ?_⟩) hS ?_
              case refine_2 => ((intro w hSw; (try dsimp only at hSw); go_simp) <;> with_reducible rfl)
              try simp only [Act.put, List.setIfInBounds_toArray, List.set_cons_zero, List.set_cons_succ]
              refine wpAnyH_take (i := 28) (v := ?_) (by simp only [List.getElem?_toArray, List.getElem?_cons_succ, List.getElem?_cons_zero]; rfl) (by kernel_rfl) (by kernel_rfl) (by kernel_rfl) (by exact fun _ _ _ h => h) (Or.inl ⟨by kernel_rfl, ?_⟩) hS ?_
              case refine_2 => ((intro w hSw; (try dsimp only at hSw); go_simp) <;> with_reducible rfl)
              try simp only [Act.put, List.setIfInBounds_toArray, List.set_cons_zero, List.set_cons_succ]
              refine wpAnyH_take (i := 29) (v := ?_) (by simp only [List.getElem?_toArray, List.getElem?_cons_succ, List.getElem?_cons_zero]; rfl) (by kernel_rfl) (by kernel_rfl) (by kernel_rfl) (by exact fun _ _ _ h => h) (Or.inl ⟨by kernel_rfl, ?_⟩) hS ?_
              case refine_2 => ((intro w hSw; (try dsimp only at hSw); go_simp) <;> with_reducible rfl)
              try simp only [Act.put, List.setIfInBounds_toArray, List.set_cons_zero, List.set_cons_succ]
              refine wpAnyH_take (i := 30) (v := ?_) (by simp only [List.getElem?_toArray, List.getElem?_cons_succ, List.getElem?_cons_zero]; rfl) (by kernel_rfl) (by kernel_rfl) (by kernel_rfl) (by exact fun _ _ _ h => h) (Or.inl ⟨by kernel_rfl, ?_⟩) hS ?_
              case refine_2 => ((intro w hSw; (try dsimp only at hSw); go_simp) <;> with_reducible rfl)
              try simp only [Act.put, List.setIfInBounds_toArray, List.set_cons_zero, List.set_cons_succ]
              refine wpAnyH_done (by kernel_rfl) ?_ _
              obtain ⟨ct, cl, cr, fr, fn⟩ := HF.out
              clear hS
              have hst : Chg [bn1] W ((W.setCell ⟨bn1, 0, none⟩ (.int .i64 ((pre.length : Int) + 1))).drew) := ((Chg.refl _ _).setCell _ _ (by simp)).drew
              have HP := Lib.hid (And.intro HPre.out (And.intro hst (And.intro (show (((pre ++ [(x1, x2)]).length : Nat) : Int) = (pre.length : Int) + 1 by simp) (show ∀ k ∈ [bn1], ∀ o, W.heap[k]? = some o → o.isCells = true from fun k hk o ho => by
                simp at hk
                subst hk
                rw [HC.out.2.2.1] at ho; cases ho; rfl))))
              clear hst
              gi_wp2
              exact ⟨keepsFrom_chg HP.out.2.1 HP.out.2.2.2, KpS.chg HP.out.2.1 (by simp), HP.out.1, HP.out.2.1.blk HC.out.2.1 (by have := HC.out.2.2.2.1.lt; simp; omega), by rw [HP.out.2.2.1]; exact blk_setCell HC.out.2.2.1 _, HC.out.2.2.2.1.kept HP.out.2.1 (by simp)⟩
            · have hnp : ¬ pre ++ [(x1, x2)] <+: L.map keyH := by
                rintro ⟨r, hr⟩
                have := HC.out.2.2.2.2
                rw [← hr, List.append_assoc, List.getElem?_append_right (Nat.le_refl _), Nat.sub_self] at this
                simp at this
                exact hxy this
              have HP := Lib.hid hnp
              have hways : (x1 != y1) = true ∨ ((x1 != y1) = false ∧ (x2 != y2) = true) := by
                by_cases h1 : x1 = y1
                · right; exact ⟨by simp [h1], by simpa using fun h2 => hxy ⟨h1, h2⟩⟩
                · left; simpa using h1
              clear hnp hxy
              rcases hways with g1 | ⟨g1, g2⟩
              · have HF := Lib.hid (And.intro cr fr)
                clear ct cl cr fr fn
                gi_wp2_with fail
                refine region_round (S := fun w' => w'.cell? ⟨bn1, 0, none⟩ = some (.int .i64 pre.length) ∧ w'.cell? ⟨b5, 0, none⟩ = some (.pointer (some ⟨rb, 0, none⟩)) ∧ w'.cell? ⟨rb, 0, none⟩ = some (.slice (some ⟨g, 0, none⟩) n cap) ∧ w'.cell? ⟨g, pre.length * 2, none⟩ = some (.int .i64 y1) ∧ w'.cell? ⟨g, pre.length * 2 + 1, none⟩ = some (.int .i64 y2)) (by kernel_rfl) (by rintro ⟨_, _, h⟩; exact h) (by kernel_rfl) ⟨cn, c5, cq, cy0, cy1⟩ (fun hS => ?_)
                refine wpAnyH_take (i := 0) (v := ?_) (by simp only [List.getElem?_toArray, List.getElem?_cons_zero]; rfl) (by kernel_rfl) (by kernel_rfl) (by kernel_rfl) (by exact fun _ _ _ h => h) (Or.inl ⟨by kernel_rfl, ?_⟩) hS ?_
                case refine_2 => ((intro w hSw; (try dsimp only at hSw); go_simp) <;> with_reducible rfl)
                try simp only [Act.put, List.setIfInBounds_toArray, List.set_cons_zero, List.set_cons_succ]
                refine wpAnyH_take (i := 1) (v := ?_) (by simp only [List.getElem?_toArray, List.getElem?_cons_succ, List.getElem?_cons_zero]; rfl) (by kernel_rfl) (by kernel_rfl) (by kernel_rfl) (by exact fun _ _ _ h => h) (Or.inl ⟨by kernel_rfl, ?_⟩) hS ?_
                case refine_2 => ((intro w hSw; (try dsimp only at hSw); go_simp) <;> with_reducible rfl)
                try simp only [Act.put, List.setIfInBounds_toArray, List.set_cons_zero, List.set_cons_succ]
                refine wpAnyH_take (i := 2) (v := ?_) (by simp only [List.getElem?_toArray, List.getElem?_cons_succ, List.getElem?_cons_zero]; rfl) (by kernel_rfl) (by kernel_rfl) (by kernel_rfl) (by exact fun _ _ _ h => h) (Or.inl ⟨by kernel_rfl, ?_⟩) hS ?_
                case refine_2 => ((intro w hSw; (try dsimp only at hSw); go_simp) <;> with_reducible rfl)
                try simp only [Act.put, List.setIfInBounds_toArray, List.set_cons_zero, List.set_cons_succ]
                refine wpAnyH_take (i := 3) (v := ?_) (by simp only [List.getElem?_toArray, List.getElem?_cons_succ, List.getElem?_cons_zero]; rfl) (by kernel_rfl) (by kernel_rfl) (by kernel_rfl) (by exact fun _ _ _ h => h) (Or.inl ⟨by kernel_rfl, ?_⟩) hS ?_
                case refine_2 => ((intro w hSw; (try dsimp only at hSw); go_simp) <;> with_reducible rfl)
                try simp only [Act.put, List.setIfInBounds_toArray, List.set_cons_zero, List.set_cons_succ]
                refine wpAnyH_take (i := 4) (v := ?_) (by simp only [List.getElem?_toArray, List.getElem?_cons_succ, List.getElem?_cons_zero]; rfl) (by kernel_rfl) (by kernel_rfl) (by kernel_rfl) (by exact fun _ _ _ h => h) (Or.inl ⟨by kernel_rfl, ?_⟩) hS ?_
                case refine_2 => ((intro w hSw; (try dsimp only at hSw); go_simp) <;> with_reducible rfl)
                try simp only [Act.put, List.setIfInBounds_toArray, List.set_cons_zero, List.set_cons_succ]
                refine wpAnyH_take (i := 5) (v := ?_) (by simp only [List.getElem?_toArray, List.getElem?_cons_succ, List.getElem?_cons_zero]; rfl) (by kernel_rfl) (by kernel_rfl) (by kernel_rfl) (by exact fun _ _ _ h => h) (Or.inl ⟨by kernel_rfl, ?_⟩) hS ?_
                case refine_2 => ((intro w hSw; (try dsimp only at hSw); go_simp) <;> with_reducible rfl)
                try simp only [Act.put, List.setIfInBounds_toArray, List.set_cons_zero, List.set_cons_succ]
                refine wpAnyH_take (i := 6) (v := ?_) (by simp only [List.getElem?_toArray, List.getElem?_cons_succ, List.getElem?_cons_zero]; rfl) (by kernel_rfl) (by kernel_rfl) (by kernel_rfl) (by exact fun _ _ _ h => h) (Or.inl ⟨by kernel_rfl, ?_⟩) hS ?_
                case refine_2 => ((intro w hSw; (try dsimp only at hSw); go_simp) <;> with_reducible rfl)
                try simp only [Act.put, List.setIfInBounds_toArray, List.set_cons_zero, List.set_cons_succ]
                refine wpAnyH_take (i := 7) (v := ?_) (by simp only [List.getElem?_toArray, List.getElem?_cons_succ, List.getElem?_cons_zero]; rfl) (by kernel_rfl) (by kernel_rfl) (by kernel_rfl) (by exact fun _ _ _ h => h) (Or.inl ⟨by kernel_rfl, ?_⟩) hS ?_
                case refine_2 => ((intro w hSw; (try dsimp only at hSw); go_simp) <;> with_reducible rfl)
                try simp only [Act.put, List.setIfInBounds_toArray, List.set_cons_zero, List.set_cons_succ]
                refine wpAnyH_take (i := 8) (v := ?_) (by simp only [List.getElem?_toArray, List.getElem?_cons_succ, List.getElem?_cons_zero]; rfl) (by kernel_rfl) (by kernel_rfl) (by kernel_rfl) (by exact fun _ _ _ h => h) (Or.inl ⟨by kernel_rfl, ?_⟩) hS ?_
                case refine_2 => ((intro w hSw; (try dsimp only at hSw); go_simp) <;> with_reducible rfl)
                try simp only [Act.put, List.setIfInBounds_toArray, List.set_cons_zero, List.set_cons_succ]
                refine wpAnyH_take (i := 9) (v := ?_) (by simp only [List.getElem?_toArray, List.getElem?_cons_succ, List.getElem?_cons_zero]; rfl) (by kernel_rfl) (by kernel_rfl) (by kernel_rfl) (by exact fun _ _ _ h => h) (Or.inl ⟨by kernel_rfl, ?_⟩) hS ?_
                case refine_2 => ((intro w hSw; (try dsimp only at hSw); go_simp) <;> with_reducible rfl)
                try simp only [Act.put, List.setIfInBounds_toArray, List.set_cons_zero, List.set_cons_succ]
                refine wpAnyH_take (i := 10) (v := ?_) (by simp only [List.getElem?_toArray, List.getElem?_cons_succ, List.getElem?_cons_zero]; rfl) (by kernel_rfl) (by kernel_rfl) (by kernel_rfl) (by exact fun _ _ _ h => h) (Or.inl ⟨by kernel_rfl, ?_⟩) hS ?_
                case refine_2 => ((intro w hSw; (try dsimp only at hSw); go_simp) <;> with_reducible rfl)
                try simp only [Act.put, List.setIfInBounds_toArray, List.set_cons_zero, List.set_cons_succ]
                refine wpAnyH_take (i := 11) (v := ?_) (by simp only [List.getElem?_toArray, List.getElem?_cons_succ, List.getElem?_cons_zero]; rfl) (by kernel_rfl) (by kernel_rfl) (by kernel_rfl) (by exact fun _ _ _ h => h) (Or.inl ⟨by kernel_rfl, ?_⟩) hS ?_
                case refine_2 => ((intro w hSw; (try dsimp only at hSw); go_simp) <;> with_reducible rfl)
                try simp only [Act.put, List.setIfInBounds_toArray, List.set_cons_zero, List.set_cons_succ]
                refine wpAnyH_take (i := 12) (v := ?_) (by simp only [List.getElem?_toArray, List.getElem?_cons_succ, List.getElem?_cons_zero]; rfl) (by kernel_rfl) (by kernel_rfl) (by kernel_rfl) (by exact fun _ _ _ h => h) (Or.inl ⟨by kernel_rfl, ?_⟩) hS ?_
                case refine_2 => ((intro w hSw; (try dsimp only at hSw); go_simp) <;> with_reducible rfl)
                try simp only [Act.put, List.setIfInBounds_toArray, List.set_cons_zero, List.set_cons_succ]
                refine wpAnyH_take (i := 13) (v := ?_) (by simp only [List.getElem?_toArray, List.getElem?_cons_succ, List.getElem?_cons_zero]; rfl) (by kernel_rfl) (by kernel_rfl) (by kernel_rfl) (by exact fun _ _ _ h => h) (Or.inl ⟨by kernel_rfl, ?_⟩) hS ?_
                case refine_2 => ((intro w hSw; (try dsimp only at hSw); go_simp) <;> with_reducible rfl)
                try simp only [Act.put, List.setIfInBounds_toArray, List.set_cons_zero, List.set_cons_succ]
                refine wpAnyH_take (i := 14) (v := ?_) (by simp only [List.getElem?_toArray, List.getElem?_cons_succ, List.getElem?_cons_zero]; rfl) (by kernel_rfl) (by kernel_rfl) (by kernel_rfl) (by exact fun _ _ _ h => h) (Or.inl ⟨by kernel_rfl, ?_⟩) hS ?_
                case refine_2 => ((intro w hSw; (try dsimp only at hSw); go_simp) <;> with_reducible rfl)
                try simp only [Act.put, List.setIfInBounds_toArray, List.set_cons_zero, List.set_cons_succ]
                refine wpAnyH_take (i := 15) (v := ?_) (by simp only [List.getElem?_toArray, List.getElem?_cons_succ, List.getElem?_cons_zero]; rfl) (by kernel_rfl) (by kernel_rfl) (by kernel_rfl) (by exact fun _ _ _ h => h) (Or.inl ⟨by kernel_rfl, ?_⟩) hS ?_
                case refine_2 => ((intro w hSw; (try dsimp only at hSw); go_simp) <;> with_reducible rfl)
                try simp only [Act.put, List.setIfInBounds_toArray, List.set_cons_zero, List.set_cons_succ]
                refine wpAnyH_take (i := 16) (v := ?_) (by simp only [List.getElem?_toArray, List.getElem?_cons_succ, List.getElem?_cons_zero]; rfl) (by kernel_rfl) (by kernel_rfl) (by kernel_rfl) (by exact fun _ _ _ h => h) (Or.inl ⟨by kernel_rfl, ?_⟩) hS ?_
                case refine_2 => ((intro w hSw; (try dsimp only at hSw); go_simp) <;> with_reducible rfl)
                try simp only [Act.put, List.setIfInBounds_toArray, List.set_cons_zero, List.set_cons_succ]
                refine wpAnyH_take (i := 17) (v := ?_) (by simp only [List.getElem?_toArray, List.getElem?_cons_succ, List.getElem?_cons_zero]; rfl) (by kernel_rfl) (by kernel_rfl) (by kernel_rfl) (by exact fun _ _ _ h => h) (Or.inl ⟨by kernel_rfl, ?_⟩) hS ?_
                case refine_2 => ((intro w hSw; (try dsimp only at hSw); go_simp) <;> with_reducible rfl)
                try simp only [Act.put, List.setIfInBounds_toArray, List.set_cons_zero, List.set_cons_succ]
                refine wpAnyH_take (i := 18) (v := ?_) (by simp only [List.getElem?_toArray, List.getElem?_cons_succ, List.getElem?_cons_zero]; rfl) (by kernel_rfl) (by kernel_rfl) (by kernel_rfl) (by exact fun _ _ _ h => h) (Or.inl ⟨by kernel_rfl, ?_⟩) hS ?_
                case refine_2 => ((intro w hSw; (try dsimp only at hSw); go_simp) <;> with_reducible rfl)
                try simp only [Act.put, List.setIfInBounds_toArray, List.set_cons_zero, List.set_cons_succ]
                refine wpAnyH_take (i := 19) (v := ?_) (by simp only [List.getElem?_toArray, List.getElem?_cons_succ, List.getElem?_cons_zero]; rfl) (by kernel_rfl) (by kernel_rfl) (by kernel_rfl) (by exact fun _ _ _ h => h) (Or.inl ⟨by kernel_rfl, ?_⟩) hS ?_
                case refine_2 => ((intro w hSw; (try dsimp only at hSw); go_simp) <;> with_reducible rfl)
                try simp only [Act.put, List.setIfInBounds_toArray, List.set_cons_zero, List.set_cons_succ]
                refine wpAnyH_take (i := 20) (v := undef) (by simp only [List.getElem?_toArray, List.getElem?_cons_succ, List.getElem?_cons_zero]; rfl) (by kernel_rfl) (by kernel_rfl) (by kernel_rfl) (by exact fun _ _ _ h => h) (Or.inr ⟨by kernel_rfl, rfl⟩) hS ?_
                try simp only [Act.put, List.setIfInBounds_toArray, List.set_cons_zero, List.set_cons_succ]
                refine wpAnyH_take (i := 21) (v := undef) (by simp only [List.getElem?_toArray, List.getElem?_cons_succ, List.getElem?_cons_zero]; rfl) (by kernel_rfl) (by kernel_rfl) (by kernel_rfl) (by exact fun _ _ _ h => h) (Or.inr ⟨by kernel_rfl, rfl⟩) hS ?_
                try simp only [Act.put, List.setIfInBounds_toArray, List.set_cons_zero, List.set_cons_succ]
                refine wpAnyH_take (i := 22) (v := undef) (by simp only [List.getElem?_toArray, List.getElem?_cons_succ, List.getElem?_cons_zero]; rfl) (by kernel_rfl) (by kernel_rfl) (by kernel_rfl) (by exact fun _ _ _ h => h) (Or.inr ⟨by kernel_rfl, rfl⟩) hS ?_
                try simp only [Act.put, List.setIfInBounds_toArray, List.set_cons_zero, List.set_cons_succ]
                refine wpAnyH_take (i := 23) (v := undef) (by simp only [List.getElem?_toArray, List.getElem?_cons_succ, List.getElem?_cons_zero]; rfl) (by kernel_rfl) (by kernel_rfl) (by kernel_rfl) (by exact fun _ _ _ h => h) (Or.inr ⟨by kernel_rfl, rfl⟩) hS ?_
                try simp only [Act.put, List.setIfInBounds_toArray, List.set_cons_zero, List.set_cons_succ]
                refine wpAnyH_take (i := 24) (v := undef) (by simp only [List.getElem?_toArray, List.getElem?_cons_succ, List.getElem?_cons_zero]; rfl) (by kernel_rfl) (by kernel_rfl) (by kernel_rfl) (by exact fun _ _ _ h => h) (Or.inr ⟨by kernel_rfl, rfl⟩) hS ?_
                try simp only [Act.put, List.setIfInBounds_toArray, List.set_cons_zero, List.set_cons_succ]
                refine wpAnyH_take (i := 25) (v := undef) (by simp only [List.getElem?_toArray, List.getElem?_cons_succ, List.getElem?_cons_zero]; rfl) (by kernel_rfl) (by kernel_rfl) (by kernel_rfl) (by exact fun _ _ _ h => h) (Or.inr ⟨by kernel_rfl, rfl⟩) hS ?_
                try simp only [Act.put, List.setIfInBounds_toArray, List.set_cons_zero, List.set_cons_succ]
                refine wpAnyH_take (i := 26) (v := undef) (by simp only [List.getElem?_toArray, List.getElem?_cons_succ, List.getElem?_cons_zero]; rfl) (by kernel_rfl) (by kernel_rfl) (by kernel_rfl) (by exact fun _ _ _ h => h) (Or.inr ⟨by kernel_rfl, rfl⟩) hS ?_
                try simp only [Act.put, List.setIfInBounds_toArray, List.set_cons_zero, List.set_cons_succ]
                refine wpAnyH_take (i := 27) (v := undef) (by simp only [List.getElem?_toArray, List.getElem?_cons_succ, List.getElem?_cons_zero]; rfl) (by kernel_rfl) (by kernel_rfl) (by kernel_rfl) (by exact fun _ _ _ h => h) (Or.inr ⟨by kernel_rfl, rfl⟩) hS ?_
                try simp only [Act.put, List.setIfInBounds_toArray, List.set_cons_zero, List.set_cons_succ]
                refine wpAnyH_take (i := 28) (v := undef) (by simp only [List.getElem?_toArray, List.getElem?_cons_succ, List.getElem?_cons_zero]; rfl) (by kernel_rfl) (by kernel_rfl) (by kernel_rfl) (by exact fun _ _ _ h => h) (Or.inr ⟨by kernel_rfl, rfl⟩) hS ?_
                try simp only [Act.put, List.setIfInBounds_toArray, List.set_cons_zero, List.set_cons_succ]
                refine wpAnyH_take (i := 29) (v := undef) (by simp only [List.getElem?_toArray, List.getElem?_cons_succ, List.getElem?_cons_zero]; rfl) (by kernel_rfl) (by kernel_rfl) (by kernel_rfl) (by exact fun _ _ _ h => h) (Or.inr ⟨by kernel_rfl, rfl⟩) hS ?_
                try simp only [Act.put, List.setIfInBounds_toArray, List.set_cons_zero, List.set_cons_succ]
                refine wpAnyH_take (i := 30) (v := ?_) (by simp only [List.getElem?_toArray, List.getElem?_cons_succ, List.getElem?_cons_zero]; rfl) (by kernel_rfl) (by kernel_rfl) (by kernel_rfl) (by exact fun _ _ _ h => h) (Or.inl ⟨by kernel_rfl, ?_⟩) hS ?_
                case refine_2 => ((intro w hSw; (try dsimp only at hSw); go_simp) <;> with_reducible rfl)
                try simp only [Act.put, List.setIfInBounds_toArray, List.set_cons_zero, List.set_cons_succ]
                refine wpAnyH_done (by kernel_rfl) ?_ _
                obtain ⟨cr, fr⟩ := HF.out
                clear hS
                gi_wp2
                exact ⟨keepsFrom_chg (S := [b5 + 1 + 1]) ((((Chg.refl _ _).setCell _ _ (by simp)) : Chg [b5 + 1 + 1] W (W.setCell ⟨b5 + 1 + 1, 0, none⟩ (.bool false))).drew) (by
                  intro k hk o ho
                  simp at hk
                  subst hk
                  rw [HC.out.2.1] at ho; cases ho; rfl), ⟨rfl, HP.out⟩⟩
              · have HF := Lib.hid (And.intro cr fr)
                clear ct cl cr fr fn
                gi_wp2_with fail
                refine region_round (S := fun w' => w'.cell? ⟨bn1, 0, none⟩ = some (.int .i64 pre.length) ∧ w'.cell? ⟨b5, 0, none⟩ = some (.pointer (some ⟨rb, 0, none⟩)) ∧ w'.cell? ⟨rb, 0, none⟩ = some (.slice (some ⟨g, 0, none⟩) n cap) ∧ w'.cell? ⟨g, pre.length * 2, none⟩ = some (.int .i64 y1) ∧ w'.cell? ⟨g, pre.length * 2 + 1, none⟩ = some (.int .i64 y2)) (by kernel_rfl) (by rintro ⟨_, _, h⟩; exact h) (by kernel_rfl) ⟨cn, c5, cq, cy0, cy1⟩ (fun hS => ?_)
                refine wpAnyH_take (i := 0) (v := ?_) (by simp only [List.getElem?_toArray, List.getElem?_cons_zero]; rfl) (by kernel_rfl) (by kernel_rfl) (by kernel_rfl) (by exact fun _ _ _ h => h) (Or.inl ⟨by kernel_rfl, ?_⟩) hS ?_
                case refine_2 => ((intro w hSw; (try dsimp only at hSw); go_simp) <;> with_reducible rfl)
                try simp only [Act.put, List.setIfInBounds_toArray, List.set_cons_zero, List.set_cons_succ]
                refine wpAnyH_take (i := 1) (v := ?_) (by simp only [List.getElem?_toArray, List.getElem?_cons_succ, List.getElem?_cons_zero]; rfl) (by kernel_rfl) (by kernel_rfl) (by kernel_rfl) (by exact fun _ _ _ h => h) (Or.inl ⟨by kernel_rfl, ?_⟩) hS ?_
                case refine_2 => ((intro w hSw; (try dsimp only at hSw); go_simp) <;> with_reducible rfl)
                try simp only [Act.put, List.setIfInBounds_toArray, List.set_cons_zero, List.set_cons_succ]
                refine wpAnyH_take (i := 2) (v := ?_) (by simp only [List.getElem?_toArray, List.getElem?_cons_succ, List.getElem?_cons_zero]; rfl) (by kernel_rfl) (by kernel_rfl) (by kernel_rfl) (by exact fun _ _ _ h => h) (Or.inl ⟨by kernel_rfl, ?_⟩) hS ?_
                case refine_2 => ((intro w hSw; (try dsimp only at hSw); go_simp) <;> with_reducible rfl)
                try simp only [Act.put, List.setIfInBounds_toArray, List.set_cons_zero, List.set_cons_succ]
                refine wpAnyH_take (i := 3) (v := ?_) (by simp only [List.getElem?_toArray, List.getElem?_cons_succ, List.getElem?_cons_zero]; rfl) (by kernel_rfl) (by kernel_rfl) (by kernel_rfl) (by exact fun _ _ _ h => h) (Or.inl ⟨by kernel_rfl, ?_⟩) hS ?_
                case refine_2 => ((intro w hSw; (try dsimp only at hSw); go_simp) <;> with_reducible rfl)
                try simp only [Act.put, List.setIfInBounds_toArray, List.set_cons_zero, List.set_cons_succ]
                refine wpAnyH_take (i := 4) (v := ?_) (by simp only [List.getElem?_toArray, List.getElem?_cons_succ, List.getElem?_cons_zero]; rfl) (by kernel_rfl) (by kernel_rfl) (by kernel_rfl) (by exact fun _ _ _ h => h) (Or.inl ⟨by kernel_rfl, ?_⟩) hS ?_
                case refine_2 => ((intro w hSw; (try dsimp only at hSw); go_simp) <;> with_reducible rfl)
                try simp only [Act.put, List.setIfInBounds_toArray, List.set_cons_zero, List.set_cons_succ]
                refine wpAnyH_take (i := 5) (v := ?_) (by simp only [List.getElem?_toArray, List.getElem?_cons_succ, List.getElem?_cons_zero]; rfl) (by kernel_rfl) (by kernel_rfl) (by kernel_rfl) (by exact fun _ _ _ h => h) (Or.inl ⟨by kernel_rfl, ?_⟩) hS ?_
                case refine_2 => ((intro w hSw; (try dsimp only at hSw); go_simp) <;> with_reducible rfl)
                try simp only [Act.put, List.setIfInBounds_toArray, List.set_cons_zero, List.set_cons_succ]
                refine wpAnyH_take (i := 6) (v := ?_) (by simp only [List.getElem?_toArray, List.getElem?_cons_succ, List.getElem?_cons_zero]; rfl) (by kernel_rfl) (by kernel_rfl) (by kernel_rfl) (by exact fun _ _ _ h => h) (Or.inl ⟨by kernel_rfl, ?_⟩) hS ?_
                case refine_2 => ((intro w hSw; (try dsimp only at hSw); go_simp) <;> with_reducible rfl)
                try simp only [Act.put, List.setIfInBounds_toArray, List.set_cons_zero, List.set_cons_succ]
                refine wpAnyH_take (i := 7) (v := ?_) (by simp only [List.getElem?_toArray, List.getElem?_cons_succ, List.getElem?_cons_zero]; rfl) (by kernel_rfl) (by kernel_rfl) (by kernel_rfl) (by exact fun _ _ _ h => h) (Or.inl ⟨by kernel_rfl, ?_⟩) hS ?_
                case refine_2 => ((intro w hSw; (try dsimp only at hSw); go_simp) <;> with_reducible rfl)
                try simp only [Act.put, List.setIfInBounds_toArray, List.set_cons_zero, List.set_cons_succ]
                refine wpAnyH_take (i := 8) (v := ?_) (by simp only [List.getElem?_toArray, List.getElem?_cons_succ, List.getElem?_cons_zero]; rfl) (by kernel_rfl) (by kernel_rfl) (by kernel_rfl) (by exact fun _ _ _ h => h) (Or.inl ⟨by kernel_rfl, ?_⟩) hS ?_
                case refine_2 => ((intro w hSw; (try dsimp only at hSw); go_simp) <;> with_reducible rfl)
                try simp only [Act.put, List.setIfInBounds_toArray, List.set_cons_zero, List.set_cons_succ]
                refine wpAnyH_take (i := 9) (v := ?_) (by simp only [List.getElem?_toArray, List.getElem?_cons_succ, List.getElem?_cons_zero]; rfl) (by kernel_rfl) (by kernel_rfl) (by kernel_rfl) (by exact fun _ _ _ h => h) (Or.inl ⟨by kernel_rfl, ?_⟩) hS ?_
                case refine_2 => ((intro w hSw; (try dsimp only at hSw); go_simp) <;> with_reducible rfl)
                try simp only [Act.put, List.setIfInBounds_toArray, List.set_cons_zero, List.set_cons_succ]
                refine wpAnyH_take (i := 10) (v := ?_) (by simp only [List.getElem?_toArray, List.getElem?_cons_succ, List.getElem?_cons_zero]; rfl) (by kernel_rfl) (by kernel_rfl) (by kernel_rfl) (by exact fun _ _ _ h => h) (Or.inl ⟨by kernel_rfl, ?_⟩) hS ?_
                case refine_2 => ((intro w hSw; (try dsimp only at hSw); go_simp) <;> with_reducible rfl)
                try simp only [Act.put, List.setIfInBounds_toArray, List.set_cons_zero, List.set_cons_succ]
                refine wpAnyH_take (i := 11) (v := ?_) (by simp only [List.getElem?_toArray, List.getElem?_cons_succ, List.getElem?_cons_zero]; rfl) (by kernel_rfl) (by kernel_rfl) (by kernel_rfl) (by exact fun _ _ _ h => h) (Or.inl ⟨by kernel_rfl, ?_⟩) hS ?_
                case refine_2 => ((intro w hSw; (try dsimp only at hSw); go_simp) <;> with_reducible rfl)
                try simp only [Act.put, List.setIfInBounds_toArray, List.set_cons_zero, List.set_cons_succ]
                refine wpAnyH_take (i := 12) (v := ?_) (by simp only [List.getElem?_toArray, List.getElem?_cons_succ, List.getElem?_cons_zero]; rfl) (by kernel_rfl) (by kernel_rfl) (by kernel_rfl) (by exact fun _ _ _ h => h) (Or.inl ⟨by kernel_rfl, ?_⟩) hS ?_
                case refine_2 => ((intro w hSw; (try dsimp only at hSw); go_simp) <;> with_reducible rfl)
                try simp only [Act.put, List.setIfInBounds_toArray, List.set_cons_zero, List.set_cons_succ]
                refine wpAnyH_take (i := 13) (v := ?_) (by simp only [List.getElem?_toArray, List.getElem?_cons_succ, List.getElem?_cons_zero]; rfl) (by kernel_rfl) (by kernel_rfl) (by kernel_rfl) (by exact fun _ _ _ h => h) (Or.inl ⟨by kernel_rfl, ?_⟩) hS ?_
                case refine_2 => ((intro w hSw; (try dsimp only at hSw); go_simp) <;> with_reducible rfl)
                try simp only [Act.put, List.setIfInBounds_toArray, List.set_cons_zero, List.set_cons_succ]
                refine wpAnyH_take (i := 14) (v := ?_) (by simp only [List.getElem?_toArray, List.getElem?_cons_succ, List.getElem?_cons_zero]; rfl) (by kernel_rfl) (by kernel_rfl) (by kernel_rfl) (by exact fun _ _ _ h => h) (Or.inl ⟨by kernel_rfl, ?_⟩) hS ?_
                case refine_2 => ((intro w hSw; (try dsimp only at hSw); go_simp) <;> with_reducible rfl)
                try simp only [Act.put, List.setIfInBounds_toArray, List.set_cons_zero, List.set_cons_succ]
                refine wpAnyH_take (i := 15) (v := ?_) (by simp only [List.getElem?_toArray, List.getElem?_cons_succ, List.getElem?_cons_zero]; rfl) (by kernel_rfl) (by kernel_rfl) (by kernel_rfl) (by exact fun _ _ _ h => h) (Or.inl ⟨by kernel_rfl, ?_⟩) hS ?_
                case refine_2 => ((intro w hSw; (try dsimp only at hSw); go_simp) <;> with_reducible rfl)
                try simp only [Act.put, List.setIfInBounds_toArray, List.set_cons_zero, List.set_cons_succ]
                refine wpAnyH_take (i := 16) (v := ?_) (by simp only [List.getElem?_toArray, List.getElem?_cons_succ, List.getElem?_cons_zero]; rfl) (by kernel_rfl) (by kernel_rfl) (by kernel_rfl) (by exact fun _ _ _ h => h) (Or.inl ⟨by kernel_rfl, ?_⟩) hS ?_
                case refine_2 => ((intro w hSw; (try dsimp only at hSw); go_simp) <;> with_reducible rfl)
                try simp only [Act.put, List.setIfInBounds_toArray, List.set_cons_zero, List.set_cons_succ]
                refine wpAnyH_take (i := 17) (v := ?_) (by simp only [List.getElem?_toArray, List.getElem?_cons_succ, List.getElem?_cons_zero]; rfl) (by kernel_rfl) (by kernel_rfl) (by kernel_rfl) (by exact fun _ _ _ h => h) (Or.inl ⟨by kernel_rfl, ?_⟩) hS ?_
                case refine_2 => ((intro w hSw; (try dsimp only at hSw); go_simp) <;> with_reducible rfl)
                try simp only [Act.put, List.setIfInBounds_toArray, List.set_cons_zero, List.set_cons_succ]
                refine wpAnyH_take (i := 18) (v := ?_) (by simp only [List.getElem?_toArray, List.getElem?_cons_succ, List.getElem?_cons_zero]; rfl) (by kernel_rfl) (by kernel_rfl) (by kernel_rfl) (by exact fun _ _ _ h => h) (Or.inl ⟨by kernel_rfl, ?_⟩) hS ?_
                case refine_2 => ((intro w hSw; (try dsimp only at hSw); go_simp) <;> with_reducible rfl)
                try simp only [Act.put, List.setIfInBounds_toArray, List.set_cons_zero, List.set_cons_succ]
                refine wpAnyH_take (i := 19) (v := ?_) (by simp only [List.getElem?_toArray, List.getElem?_cons_succ, List.getElem?_cons_zero]; rfl) (by kernel_rfl) (by kernel_rfl) (by kernel_rfl) (by exact fun _ _ _ h => h) (Or.inl ⟨by kernel_rfl, ?_⟩) hS ?_
                case refine_2 => ((intro w hSw; (try dsimp only at hSw); go_simp) <;> with_reducible rfl)
                try simp only [Act.put, List.setIfInBounds_toArray, List.set_cons_zero, List.set_cons_succ]
                refine wpAnyH_take (i := 20) (v := ?_) (by simp only [List.getElem?_toArray, List.getElem?_cons_succ, List.getElem?_cons_zero]; rfl) (by kernel_rfl) (by kernel_rfl) (by kernel_rfl) (by exact fun _ _ _ h => h) (Or.inl ⟨by kernel_rfl, ?_⟩) hS ?_
                case refine_2 => ((intro w hSw; (try dsimp only at hSw); go_simp) <;> with_reducible rfl)
                try simp only [Act.put, List.setIfInBounds_toArray, List.set_cons_zero, List.set_cons_succ]
                refine wpAnyH_take (i := 21) (v := ?_) (by simp only [List.getElem?_toArray, List.getElem?_cons_succ, List.getElem?_cons_zero]; rfl) (by kernel_rfl) (by kernel_rfl) (by kernel_rfl) (by exact fun _ _ _ h => h) (Or.inl ⟨by kernel_rfl, ?_⟩) hS ?_
                case refine_2 => ((intro w hSw; (try dsimp only at hSw); go_simp) <;> with_reducible rfl)
                try simp only [Act.put, List.setIfInBounds_toArray, List.set_cons_zero, List.set_cons_succ]
                refine wpAnyH_take (i := 22) (v := ?_) (by simp only [List.getElem?_toArray, List.getElem?_cons_succ, List.getElem?_cons_zero]; rfl) (by kernel_rfl) (by kernel_rfl) (by kernel_rfl) (by exact fun _ _ _ h => h) (Or.inl ⟨by kernel_rfl, ?_⟩) hS ?_
                case refine_2 => ((intro w hSw; (try dsimp only at hSw); go_simp) <;> with_reducible rfl)
                try simp only [Act.put, List.setIfInBounds_toArray, List.set_cons_zero, List.set_cons_succ]
                refine wpAnyH_take (i := 23) (v := ?_) (by simp only [List.getElem?_toArray, List.getElem?_cons_succ, List.getElem?_cons_zero]; rfl) (by kernel_rfl) (by kernel_rfl) (by kernel_rfl) (by exact fun _ _ _ h => h) (Or.inl ⟨by kernel_rfl, ?_⟩) hS ?_
                case refine_2 => ((intro w hSw; (try dsimp only at hSw); go_simp) <;> with_reducible rfl)
                try simp only [Act.put, List.setIfInBounds_toArray, List.set_cons_zero, List.set_cons_succ]
                refine wpAnyH_take (i := 24) (v := ?_) (by simp only [List.getElem?_toArray, List.getElem?_cons_succ, List.getElem?_cons_zero]; rfl) (by kernel_rfl) (by kernel_rfl) (by kernel_rfl) (by exact fun _ _ _ h => h) (Or.inl ⟨by kernel_rfl, ?_⟩) hS ?_
                case refine_2 => ((intro w hSw; (try dsimp only at hSw); go_simp) <;> with_reducible rfl)
                try simp only [Act.put, List.setIfInBounds_toArray, List.set_cons_zero, List.set_cons_succ]
                refine wpAnyH_take (i := 25) (v := ?_) (by simp only [List.getElem?_toArray, List.getElem?_cons_succ, List.getElem?_cons_zero]; rfl) (by kernel_rfl) (by kernel_rfl) (by kernel_rfl) (by exact fun _ _ _ h => h) (Or.inl ⟨by kernel_rfl, ?_⟩) hS ?_
                case refine_2 => ((intro w hSw; (try dsimp only at hSw); go_simp) <;> with_reducible rfl)
                try simp only [Act.put, List.setIfInBounds_toArray, List.set_cons_zero, List.set_cons_succ]
                refine wpAnyH_take (i := 26) (v := ?_) (by simp only [List.getElem?_toArray, List.getElem?_cons_succ, List.getElem?_cons_zero]; rfl) (by kernel_rfl) (by kernel_rfl) (by kernel_rfl) (by exact fun _ _ _ h => h) (Or.inl ⟨by kernel_rfl, ?_⟩) hS ?_
                case refine_2 => ((intro w hSw; (try dsimp only at hSw); go_simp) <;> with_reducible rfl)
                try simp only [Act.put, List.setIfInBounds_toArray, List.set_cons_zero, List.set_cons_succ]
                refine wpAnyH_take (i := 27) (v := ?_) (by simp only [List.getElem?_toArray, List.getElem?_cons_succ, List.getElem?_cons_zero]; rfl) (by kernel_rfl) (by kernel_rfl) (by kernel_rfl) (by exact fun _ _ _ h => h) (Or.inl ⟨by kernel_rfl, ?_⟩) hS ?_
                case refine_2 => ((intro w hSw; (try dsimp only at hSw); go_simp) <;> with_reducible rfl)
                try simp only [Act.put, List.setIfInBounds_toArray, List.set_cons_zero, List.set_cons_succ]
                refine wpAnyH_take (i := 28) (v := ?_) (by simp only [List.getElem?_toArray, List.getElem?_cons_succ, List.getElem?_cons_zero]; rfl) (by kernel_rfl) (by kernel_rfl) (by kernel_rfl) (by exact fun _ _ _ h => h) (Or.inl ⟨by kernel_rfl, ?_⟩) hS ?_
                case refine_2 => ((intro w hSw; (try dsimp only at hSw); go_simp) <;> with_reducible rfl)
                try simp only [Act.put, List.setIfInBounds_toArray, List.set_cons_zero, List.set_cons_succ]
                refine wpAnyH_take (i := 29) (v := ?_) (by simp only [List.getElem?_toArray, List.getElem?_cons_succ, List.getElem?_cons_zero]; rfl) (by kernel_rfl) (by kernel_rfl) (by kernel_rfl) (by exact fun _ _ _ h => h) (Or.inl ⟨by kernel_rfl, ?_⟩) hS ?_
                case refine_2 => ((intro w hSw; (try dsimp only at hSw); go_simp) <;> with_reducible rfl)
                try simp only [Act.put, List.setIfInBounds_toArray, List.set_cons_zero, List.set_cons_succ]
                refine wpAnyH_take (i := 30) (v := ?_) (by simp only [List.getElem?_toArray, List.getElem?_cons_succ, List.getElem?_cons_zero]; rfl) (by kernel_rfl) (by kernel_rfl) (by kernel_rfl) (by exact fun _ _ _ h => h) (Or.inl ⟨by kernel_rfl, ?_⟩) hS ?_
                case refine_2 => ((intro w hSw; (try dsimp only at hSw); go_simp) <;> with_reducible rfl)
                try simp only [Act.put, List.setIfInBounds_toArray, List.set_cons_zero, List.set_cons_succ]
                refine wpAnyH_done (by kernel_rfl) ?_ _
                obtain ⟨cr, fr⟩ := HF.out
                clear hS
                gi_wp2
                exact ⟨keepsFrom_chg (S := [b5 + 1 + 1]) ((((Chg.refl _ _).setCell _ _ (by simp)) : Chg [b5 + 1 + 1] W (W.setCell ⟨b5 + 1 + 1, 0, none⟩ (.bool false))).drew) (by
                  intro k hk o ho
                  simp at hk
                  subst hk
                  rw [HC.out.2.1] at ho; cases ho; rfl), ⟨rfl, HP.out⟩⟩
          · rintro D2 xs W2 hD2 hxs ⟨h1, h6, h2, h3⟩ hdef2
            subst hxs
            rw [List.length_map, ← HFw.out.1] at h2
            have cn := cellB h2 (i := 0) (v := .int .i64 n) rfl
            have c5 := cellB h3.l5 (i := 0) (v := .pointer (some ⟨rb, 0, none⟩)) rfl
            have cq := cellB h3.q1 (i := 0) (v := .slice a n cap) rfl
            have ct := cellB h3.t (i := 0) (v := .int .i64 1) rfl
            have cl := cellB h3.l7 (i := 0) (v := .int .i64 leave) rfl
            have en : ((n : Int) != (n : Int)) = false := by simp
            have HC2 := Lib.hid (And.intro h6 (And.intro h2 (And.intro h3 (And.intro hdef2 hD2))))
            clear h1 h6 h2 h3 hdef2 hD2
            subst hA
            gi_wp2
            go_wp2_with fail
            go_quiet (fail)
            obtain ⟨We, hWe⟩ : ∃ We, We = W2.drewN nq := ⟨_, rfl⟩
            rw [← hWe]
            have hCe : Chg [] W2 We := by rw [hWe]; exact (Chg.refl _ _).drewN nq
            have hse : We.heap.size = W2.heap.size := by rw [hWe]; rfl
            have ct := cellB (hCe.blk HC2.out.2.2.1.t (by simp)) (i := 0) (v := .int .i64 1) rfl
            have cr := cellB (hCe.blk HC2.out.1 (by simp)) (i := 0) (v := .bool false) rfl
            have fr := frozenB (hCe.blk HC2.out.1 (by simp)) 0
            have hl8 := lt_of_blk HC2.out.1
            have hne8 : ¬ W2.heap.size = b5 + 1 + 1 := by omega
            have hne9 : ¬ b5 + 1 + 1 = W2.heap.size := by omega
            clear hWe
            go_wp2
            rw [rounds_succ]
            go_wp2
            obtain ⟨WF, hWF⟩ : ∃ WF, WF = ((We.setCell ⟨b5 + 1 + 1, 0, none⟩ (.bool true)).alloc (.cells #[.int .i64 2] 3 (0, 0))) := ⟨_, rfl⟩
            have l := HC2.out.2.2.1.lt
            have hdl := HC2.out.2.2.1.dl D (by simp)
            have hD2 := HC2.out.2.2.2.2
            have hnB := HQ1.out.2.2.2.2.1
            have hDg := HDb.out
            have nD2 : D2 ≠ b5 + 1 + 1 := fun e => by
              have h1 := HC2.out.2.2.2.1
              rw [e, HC2.out.1] at h1
              cases h1
            have hCF : Chg [b5 + 1 + 1] W2 WF := by rw [hWF]; exact ((hCe.mono (by simp)).setCell _ _ (by simp)).alloc _
            have hF8 : WF.heap[b5 + 1 + 1]? = some (.cells #[.bool true] 4 (0, 0)) := by rw [hWF]; exact blk_alloc (blk_setCell (hCe.blk HC2.out.1 (by simp)) _) _
            have hF2 : WF.heap[D2]? = some (.deferred (some [])) := hCF.blk HC2.out.2.2.2.1 (by simpa using nD2)
            have hF1 : WF.heap[D]? = some (.deferred (some [])) := hCF.blk (HC2.out.2.2.1.df D (by simp)) (by simpa using hdl.2)
            have hCG : Chg [D2] WF (WF.putObj D2 (.deferred none)) := (Chg.refl [D2] WF).setBlock D2 _ (by simp)
            have hDD : D ≠ D2 := by omega
            have hG1 := hCG.blk hF1 (by simpa using hDD)
            have hCH : Chg [D] (WF.putObj D2 (.deferred none)) ((WF.putObj D2 (.deferred none)).putObj D (.deferred none)) := (Chg.refl [D] _).setBlock D _ (by simp)
            have hH6 := cellB (hCH.blk (hCG.blk hF8 (by simpa using fun e => nD2 e.symm)) (by simpa using fun e => hdl.2 e.symm)) (i := 0) rfl
            have hch := HC2.out.2.2.1.ch
            rw [← hWF]
            refine ⟨by simp, .inl ⟨_, _, rfl, run_takeDeferred hF2, ?_⟩⟩
            refine ⟨by simp, .inl ⟨_, _, rfl, run_takeDeferred hG1, ?_⟩⟩
            refine ⟨.bool true, ?_, rfl, ((hch.trans' hCF (fun x hx => .inr (by simp at hx; omega))).trans' hCG (fun x hx => .inr (by simp at hx; omega))).trans' hCH (fun x hx => .inr (by simp at hx; omega))⟩
            simp [results, Try.results13, go_sem, hH6]
          · rintro D2 c pre W2 hD2 hp hS hdef2
            exact absurd hp hS.2

end Go.Proofs.Ytpaaanjghcloeaa
