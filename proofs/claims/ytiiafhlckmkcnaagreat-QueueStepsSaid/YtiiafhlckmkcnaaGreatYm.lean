
/- metronomelaw18.stands: the program's queue tells what the document's does (written by wip/stands18.py). -/
import Derived.Test.YtiiafhlckmkcnaaGreatYh
import Derived.Test.YtiiafhlckmkcnaaGreatVe
import Derived.Test.YtiiafhlckmkcnaaGreatRnd
import Derived.Deep.RegionHeld3
import Derived.Sort.CutIn
import Derived.Sort.QuietTacIn
import Derived.Deep.CutBlock
namespace Go.Proofs.YtiiafhlckmkcnaaGreat
open Go.RowKit Go.Shelf
attribute [local go_sem] Oper.semAt_some

theorem ordT_few {L : WL} (h : ListOk L) : (ordT L).length < 4611686018427387904 := by
  unfold ordT
  rw [List.length_map, ordT_len h]
  have := h.few16
  omega
theorem sameInts_eq (v u : Value) (l : List Int) (w : World) (hv : IsInts w v l) (hu : IsInts w u l) (hl : l.length < 4611686018427387904) :
    Calls Tryz.prog 34 #[v, u] w fun e w' => e = .returned (.bool true) ∧ Chg [] w w' := by
  have h := sameInts_any v u l l w hv hu hl hl
  rwa [decide_eq_true (rfl : l = l)] at h

/-- What stands in memory while the messages are gone over; all of it below block B0. -/
structure Sq (w : World) (l : WL) (b5 b6 b7 bq bt : Nat) (px : Value) (leave tau : Int) (a : Option Addr) (cap n : Nat) (Ds : List Nat) (B0 : Nat) (W : World) : Prop where
  l5 : W.heap[b5]? = some (.cells #[.int .i64 leave] 3 (0, 0))
  l7 : W.heap[b7]? = some (.cells #[.slice a n cap] 47 (0, 0))
  lq : W.heap[bq]? = some (.cells #[px] 24 (0, 0))
  so : W.ownsRow 0 33 2 (.slice a n cap) n (flatW l)
  t : W.heap[bt]? = some (.cells #[.int .i64 tau] 3 (0, 0))
  ch : Chg [] w W
  lt : w.heap.size ≤ b6 ∧ b5 < B0 ∧ b6 < B0 ∧ b7 < B0 ∧ bq < B0 ∧ bt < B0 ∧ b5 ≠ b6 ∧ b7 ≠ b6 ∧ bq ≠ b6 ∧ bt ≠ b6 ∧ w.heap.size ≤ B0
  og : ∀ k ∈ (Value.slice a n cap).ownBlock.toList, k < B0 ∧ k ≠ b6
  df : ∀ k ∈ Ds, W.heap[k]? = some (.deferred (some []))
  dl : ∀ k ∈ Ds, k < B0 ∧ k ≠ b6
theorem Sq.kept {w : World} {l : WL} {b5 b6 b7 bq bt : Nat} {px : Value} {leave tau : Int} {a : Option Addr} {cap n : Nat} {Ds : List Nat} {B0 : Nat} {W : World} {W' : World} {S : List Nat} (h : Sq w l b5 b6 b7 bq bt px leave tau a cap n Ds B0 W) (hC : Chg S W W') (hS : ∀ k ∈ S, B0 ≤ k ∨ k = b6) : Sq w l b5 b6 b7 bq bt px leave tau a cap n Ds B0 W' := by
  have l := h.lt
  have hn : ∀ j, j < B0 → j ≠ b6 → j ∉ S := fun j hj hne hm => by rcases hS j hm with h1 | h1; omega; exact hne h1
  exact ⟨hC.blk h.l5 (hn _ (by omega) (by omega)), hC.blk h.l7 (hn _ (by omega) (by omega)), hC.blk h.lq (hn _ (by omega) (by omega)), own_kept h.so hC (fun k hk hm => hn k (h.og k hm).1 (h.og k hm).2 hk),
    hC.blk h.t (hn _ (by omega) (by omega)), h.ch.trans' hC (fun k hk => by rcases hS k hk with h1 | h1 <;> omega), h.lt, h.og, fun k hk => hC.blk (h.df k hk) (hn k (h.dl k hk).1 (h.dl k hk).2), h.dl⟩
/-- The next turn: a variable of its own, the marks kept. -/
theorem Sq.next {w : World} {l : WL} {b5 b6 b7 bq bt : Nat} {px : Value} {leave tau : Int} {a : Option Addr} {cap n : Nat} {Ds : List Nat} {B0 : Nat} {W : World} {W' : World} (h : Sq w l b5 b6 b7 bq bt px leave tau a cap n Ds B0 W) (hC : Chg [] W W') (bt' D : Nat) (tau' : Int)
    (ht : W'.heap[bt']? = some (.cells #[.int .i64 tau'] 3 (0, 0))) (hD : W.heap[D]? = some (.deferred (some []))) (hne : bt' ≠ b6) (hDne : D ≠ b6) (hB : B0 ≤ W'.heap.size) : Sq w l b5 b6 b7 bq bt' px leave tau' a cap n (D :: Ds) W'.heap.size W' := by
  have k := h.kept hC (by simp)
  have l := h.lt
  have l1 := lt_of_blk ht
  have l2 := lt_of_blk (hC.blk hD (by simp))
  refine ⟨k.l5, k.l7, k.lq, k.so, ht, k.ch, by omega, fun j hj => ⟨Nat.lt_of_lt_of_le (k.og j hj).1 hB, (k.og j hj).2⟩, fun j hj => ?_, fun j hj => ?_⟩
  · rcases List.mem_cons.1 hj with rfl | hj
    · exact hC.blk hD (by simp)
    · exact k.df j hj
  · rcases List.mem_cons.1 hj with rfl | hj
    · exact ⟨l2, hDne⟩
    · exact ⟨Nat.lt_of_lt_of_le (k.dl j hj).1 hB, (k.dl j hj).2⟩
/-- The messages' row, opened at one place. -/
theorem Sq.cells {w : World} {l : WL} {b5 b6 b7 bq bt : Nat} {px : Value} {leave tau : Int} {a : Option Addr} {cap n : Nat} {Ds : List Nat} {B0 : Nat} {W : World} (h : Sq w l b5 b6 b7 bq bt px leave tau a cap n Ds B0 W) (hn : n = l.length) {j : Nat} {x : Int × Int} (hx : l[j]? = some x) : ∃ g, a = some ⟨g, 0, none⟩ ∧ W.cell? ⟨g, j * 2, none⟩ = some (.int .i64 x.1) ∧ W.cell? ⟨g, j * 2 + 1, none⟩ = some (.int .i64 x.2) := by
  have hr := h.so
  rw [hn] at hr
  have hl : l ≠ [] := fun e => by rw [e] at hx; simp at hx
  obtain ⟨g, cap', cur, e, _, hb, _, _, _, ht⟩ := own_blk hr (by cases l <;> simp_all)
  injection e with e1 e2 e3
  have hf := flatW_at hx
  exact ⟨g, e1, cellB hb (own_take ht _ _ hf.1), cellB hb (own_take ht _ _ hf.2)⟩

set_option maxRecDepth 100000 in
set_option maxHeartbeats 32000000 in
theorem stands18 (u : UB) (v : Value) (N : Int) (rc rr rw : Nat) (vd : Value) (s : QS) (leave : Int) (w : World) (h : TQ w u v N rc rr rw vd s) :
    Calls Tryz.prog 12 #[.pointer (some ⟨u.q, 0, none⟩), .pointer (some ⟨rc, 0, none⟩), .int .i64 leave] w fun e w' => e = .returned (.bool true) ∧ Chg [] w w' := by
  obtain ⟨l, hl⟩ : ∃ l, l = s.ord := ⟨_, rfl⟩
  have hl32 : l.length ≤ 32 := by rw [hl]; exact h.q.inv.few32
  obtain ⟨n, hn⟩ : ∃ n, n = l.length := ⟨_, rfl⟩
  obtain ⟨r, hr⟩ : ∃ r, r = s.room := ⟨_, rfl⟩
  have hrr := h.q.inv.room
  rw [← hr] at hrr
  have hwr : IntKind.i64.wrap (r - (n : Int)) = r - n := by rw [IntKind.wrap_i64]; omega
  obtain ⟨fb, hfb⟩ : ∃ fb, fb = s.full := ⟨_, rfl⟩
  have hfb2 : ((n : Int) == r) = fb := by
    rw [hfb, hn, hr, hl, h.q.inv.olen]
    unfold QS.full
    by_cases hx : (s.L.length : Int) = s.room
    · rw [hx]; simp
    · rw [decide_eq_false hx]; simpa using hx
  obtain ⟨W0, hW0⟩ : ∃ W0, W0 = (w.alloc (.cells #[.int .i64 leave] 3 (0, 0))).alloc (.cells #[.bool false] 4 (0, 0)) := ⟨_, rfl⟩
  have hC0 : Chg [] w W0 := by rw [hW0]; exact ((Chg.refl [] w).alloc _).alloc _
  obtain ⟨b5, hb5⟩ : ∃ b5, b5 = w.heap.size := ⟨_, rfl⟩
  have h5 : W0.heap[b5]? = some (.cells #[.int .i64 leave] 3 (0, 0)) := by rw [hW0, hb5]; exact blk_alloc (heap_alloc_eq w _) _
  have h6 : W0.heap[b5 + 1]? = some (.cells #[.bool false] 4 (0, 0)) := by
    rw [hW0, hb5]
    have := heap_alloc_eq (w.alloc (.cells #[.int .i64 leave] 3 (0, 0))) (.cells #[.bool false] 4 (0, 0))
    rwa [World.size_alloc] at this
  have hs0 : W0.heap.size = b5 + 2 := by rw [hW0, hb5]; simp
  have H := Lib.hid (And.intro h (And.intro hl (And.intro hn (And.intro hl32 (And.intro hs0 (And.intro hb5 hr))))))
  have H0 := Lib.hid (And.intro hC0 (And.intro h5 h6))
  have HLn := Lib.hid (show ∀ W, Chg [] w W → Calls Tryz.prog 31 #[.pointer (some ⟨u.q, 0, none⟩)] W fun e w' => e = .returned (.int .i64 (n : Int)) ∧ Chg [] W w' from fun W hW => by rw [hn, hl]; exact ulenc u v N s W (h.q.calm hW))
  have HRm := Lib.hid (show ∀ W, Chg [] w W → Calls Tryz.prog 32 #[.pointer (some ⟨u.q, 0, none⟩)] W fun e w' => e = .returned (.int .i64 (r - (n : Int))) ∧ Chg [] W w' from fun W hW => by rw [hn, hl, hr]; exact uroomc u v N s W (h.q.calm hW))
  have HFl := Lib.hid (show ∀ W, Chg [] w W → Calls Tryz.prog 33 #[.pointer (some ⟨u.q, 0, none⟩)] W fun e w' => e = .returned (.bool fb) ∧ Chg [] W w' from fun W hW => by rw [hfb]; exact ufullc u v N s W (h.q.calm hW))
  have HSn := Lib.hid (fun (W : World) (hW : Chg [] w W) => uSendersc u v N s W (h.q.calm hW))
  have HRc := Lib.hid (fun (W : World) (hW : Chg [] w W) => uReceiversc u v N s W (h.q.calm hW))
  have HL1 := Lib.hid (fun (W : World) (hW : Chg [] w W) => rlistc rr s.S W (h.d.calm hW).sd h.d.fewS.1 h.d.inv.ls)
  have HL2 := Lib.hid (fun (W : World) (hW : Chg [] w W) => rlistc rw s.R W (h.d.calm hW).rv h.d.fewS.2 h.d.inv.lr)
  have HLI := Lib.hid (And.intro (ordT_few h.d.inv.ls) (ordT_few h.d.inv.lr))
  clear h hl hn hl32 hC0 h5 h6 hs0 hr hfb
  refine (callsIn_wide (n := 8)).1 ?_
  refine callsIn_of_wp_marks Tryz.func12 rfl trivial ?_ rfl
  simp only [Tryz.ntmps12, List.size_toArray, List.length_cons, List.length_nil, Nat.reduceAdd, Nat.reduceSub, Array.replicate_succ, Array.replicate_zero, List.push_toArray, List.append_toArray, List.nil_append, List.cons_append]
  refine wpIn_wide.2 ?_
  go_upto_region 1 with fail
  rw [← hW0, ← hb5]
  clear hW0 hb5
  go_wp2_with fail
  refine (dqorderc rc rr rw vd s W0 (H.out.1.d.calm H0.out.1)).mono ?_
  rintro e w1 ⟨x1, rfl, ho, hC1⟩
  obtain ⟨a, cap, rfl⟩ := own_slice ho
  rw [← H.out.2.1, ← H.out.2.2.1] at ho ⊢
  obtain ⟨b7, hb7⟩ : ∃ b7, b7 = w1.heap.size := ⟨_, rfl⟩
  obtain ⟨wA, hwA⟩ : ∃ wA, wA = w1.alloc (.cells #[.slice a n cap] 47 (0, 0)) := ⟨_, rfl⟩
  have hCa : Chg [] w1 wA := by rw [hwA]; exact (Chg.refl _ _).alloc _
  have h7 : wA.heap[b7]? = some (.cells #[.slice a n cap] 47 (0, 0)) := by rw [hwA, hb7]; exact heap_alloc_eq w1 _
  have h5 := hCa.blk (hC1.blk H0.out.2.1 (by simp)) (by simp)
  have h6 := hCa.blk (hC1.blk H0.out.2.2 (by simp)) (by simp)
  have H1 := Lib.hid (And.intro h5 (And.intro h6 (And.intro h7 (And.intro (own_kept ho hCa (by simp)) (And.intro (H0.out.1.trans (hC1.trans hCa)) (And.intro (by have := hC1.size; have := H.out.2.2.2.2.1; omega : b5 + 2 ≤ b7) (show w1.heap.size + 1 = wA.heap.size by rw [hwA]; simp)))))))
  clear ho hC1 hCa h5 h6
  go_upto_region 2 with fail
  rw [← hb7, ← hwA]
  have HX := Lib.hid (show ∀ W, Chg [] wA W → W.cell? ⟨b7, 0, none⟩ = some (.slice a n cap) ∧ W.cell? ⟨rc, 0, none⟩ = some (.int .i64 r) ∧ W.cell? ⟨rc, 2, none⟩ = some (.pointer (some ⟨rr, 0, none⟩)) ∧ W.cell? ⟨rc, 3, none⟩ = some (.pointer (some ⟨rw, 0, none⟩)) from fun W hC => by
    have hd := H.out.1.d.calm (H1.out.2.2.2.2.1.trans hC)
    exact ⟨cellB (hC.blk H1.out.2.2.1 (by simp)) (i := 0) rfl, by rw [H.out.2.2.2.2.2.2]; exact hd.c0, hd.c2, hd.c3⟩)
  have HCf := Lib.hid (H1.out.2.2.2.2.1.trans (Chg.refl [] wA).drew)
  have HCg := Lib.hid ((Chg.refl [] wA).drew)
  have x0 := HX.out wA (Chg.refl _ _)
  have xx := HX.out wA.drew HCg.out
  have e1 : ((n : Int) != (n : Int)) = false := by simp
  have e2 : (r - (n : Int) != r - (n : Int)) = false := by simp
  have e3 : (fb != fb) = false := by cases fb <;> rfl
  have e3' : (!fb == fb) = false := by cases fb <;> rfl
  clear hwA hb7 h7
  go_wp2
  go_region_held3 (fun w' => w'.cell? ⟨b7, 0, none⟩ = some (.slice a n cap) ∧ w'.cell? ⟨rc, 0, none⟩ = some (.int .i64 r) ∧ w'.cell? ⟨rc, 2, none⟩ = some (.pointer (some ⟨rr, 0, none⟩)) ∧ w'.cell? ⟨rc, 3, none⟩ = some (.pointer (some ⟨rw, 0, none⟩))) (first | exact x0 | exact xx)
    (first
    | (go_at_call 31; refine (HLn.out _ HCf.out).mono ?_; rintro e wz ⟨rfl, hC⟩; replace HCg := Lib.hid (HCg.out.trans hC); replace HCf := Lib.hid (HCf.out.trans hC); clear hC xx; have xx := HX.out _ HCg.out)
    | (go_at_call 32; refine (HRm.out _ HCf.out).mono ?_; rintro e wz ⟨rfl, hC⟩; replace HCg := Lib.hid (HCg.out.trans hC); replace HCf := Lib.hid (HCf.out.trans hC); clear hC xx; have xx := HX.out _ HCg.out)
    | (go_at_call 33; refine (HFl.out _ HCf.out).mono ?_; rintro e wz ⟨rfl, hC⟩; replace HCg := Lib.hid (HCg.out.trans hC); replace HCf := Lib.hid (HCf.out.trans hC); clear hC xx; have xx := HX.out _ HCg.out)
    | (go_at_call 35; refine (HSn.out _ HCf.out).mono ?_; rintro e wz ⟨p1, rfl, ho, hC⟩; have HO1 := Lib.hid ho; clear ho; replace HCg := Lib.hid (HCg.out.trans hC); replace HCf := Lib.hid (HCf.out.trans hC); clear hC xx; have xx := HX.out _ HCg.out)
    | (go_at_call 36; (with_reducible refine (HL1.out _ HCf.out).mono ?_); rintro e wz ⟨p2, rfl, ho, hC⟩; have HP1 := Lib.hid (And.intro (IsInts.of_own (own_kept HO1.out hC (by simp))) (IsInts.of_own ho)); clear ho HO1; replace HCg := Lib.hid (HCg.out.trans hC); replace HCf := Lib.hid (HCf.out.trans hC); clear hC xx; have xx := HX.out _ HCg.out)
    | (go_at_call 34; (with_reducible refine (sameInts_eq p1 p2 (ordT s.S) _ HP1.out.1 HP1.out.2 HLI.out.1).mono ?_); rintro e wz ⟨rfl, hC⟩; clear HP1; replace HCg := Lib.hid (HCg.out.trans hC); replace HCf := Lib.hid (HCf.out.trans hC); clear hC xx; have xx := HX.out _ HCg.out)
    | (go_at_call 37; refine (HRc.out _ HCf.out).mono ?_; rintro e wz ⟨p3, rfl, ho, hC⟩; have HO2 := Lib.hid ho; clear ho; replace HCg := Lib.hid (HCg.out.trans hC); replace HCf := Lib.hid (HCf.out.trans hC); clear hC xx; have xx := HX.out _ HCg.out)
    | (go_at_call 36; (with_reducible refine (HL2.out _ HCf.out).mono ?_); rintro e wz ⟨p4, rfl, ho, hC⟩; have HP2 := Lib.hid (And.intro (IsInts.of_own (own_kept HO2.out hC (by simp))) (IsInts.of_own ho)); clear ho HO2; replace HCg := Lib.hid (HCg.out.trans hC); replace HCf := Lib.hid (HCf.out.trans hC); clear hC xx; have xx := HX.out _ HCg.out)
    | (go_at_call 34; (with_reducible refine (sameInts_eq p3 p4 (ordT s.R) _ HP2.out.1 HP2.out.2 HLI.out.2).mono ?_); rintro e wz ⟨rfl, hC⟩; clear HP2; replace HCg := Lib.hid (HCg.out.trans hC); replace HCf := Lib.hid (HCf.out.trans hC); clear hC xx; have xx := HX.out _ HCg.out)
    | fail)
  clear HLn HRm HFl HSn HRc HL1 HL2 HLI xx e1 e2 e3 e3' hwr hfb2 HX hrr
  go_wp2
  go_loopw [8] (fun i wr => ∃ k : Nat, k ≤ 18 ∧ i = .int .i64 ((k : Int) - 1) ∧ Chg [] wA wr) (fun i _ => (17 - intOf i).toNat)
  case atStart => exact ⟨0, by omega, rfl, HCg.out⟩
  case round =>
    clear HCf HCg
    obtain ⟨k, hk, rfl, hC⟩ := hrel
    have H3 := Lib.hid (And.intro hC (H1.out.2.2.2.2.1.trans hC))
    clear hC
    by_cases hlt : k < 18
    · as_aux_lemma =>
      go_wp2_with fail
      refine (uwaitc u v N s ((k : Int) - 1) wr (H.out.1.q.calm H3.out.2)).mono ?_
      rintro e w3 ⟨rfl, hC⟩
      have H4 := Lib.hid (And.intro (H3.out.1.trans hC) (H3.out.2.trans hC))
      clear hC
      go_wp2_with fail
      refine (dqwaitc rc rr rw vd s ((k : Int) - 1) w3 (H.out.1.d.calm H4.out.2)).mono ?_
      rintro e w4 ⟨rfl, rfl⟩
      generalize hasR s.S ((k : Int) - 1) = b
      generalize s.is ((k : Int) - 1) = c
      have hb1 : (!b == b) = false := by cases b <;> rfl
      have hb2 : (b != b) = false := by cases b <;> rfl
      have hc1 : (!c == c) = false := by cases c <;> rfl
      have hc2 : (c != c) = false := by cases c <;> rfl
      go_wp2
      go_roundw
      case rel => exact ⟨k + 1, by omega, by first | go_num | (congr 1; omega), H4.out.1⟩
      case measure => simp [intOf]; omega
    · obtain rfl : k = 18 := by omega
      clear hk hlt
      go_wp2_with fail
      refine (uallc _ wr).mono ?_
      rintro e w' ⟨rfl, rfl⟩
      obtain ⟨bq, hbq⟩ : ∃ bq, bq = wr.heap.size := ⟨_, rfl⟩
      obtain ⟨wq, hwq⟩ : ∃ wq, wq = wr.alloc (.cells #[.pointer (some ⟨u.q, 0, none⟩)] 24 (0, 0)) := ⟨_, rfl⟩
      rw [← hbq, ← hwq]
      have hnf := fun (W : World) => eql_seqM_nil (.func 70) #[] #[.pointer (some ⟨bq, 0, none⟩)] W
      obtain ⟨bt, hbt⟩ : ∃ bt, bt = wq.heap.size := ⟨_, rfl⟩
      obtain ⟨wS, hwS⟩ : ∃ wS, wS = wq.alloc (.cells #[.int .i64 0] 3 (0, 0)) := ⟨_, rfl⟩
      have hCq : Chg [] wr wq := by rw [hwq]; exact (Chg.refl _ _).alloc _
      have hCs : Chg [] wq wS := by rw [hwS]; exact (Chg.refl _ _).alloc _
      have hCS : Chg [] wA wS := (H3.out.1.trans hCq).trans hCs
      have hqq : wq.heap[bq]? = some (.cells #[.pointer (some ⟨u.q, 0, none⟩)] 24 (0, 0)) := by rw [hwq, hbq]; exact heap_alloc_eq wr _
      have hzq : wq.heap.size = bq + 1 := by rw [hwq, hbq]; simp
      have hzS : wS.heap.size = bt + 1 := by rw [hwS, hbt]; simp
      have HSd := Lib.hid (show Sq w l b5 (b5 + 1) b7 bq bt (.pointer (some ⟨u.q, 0, none⟩)) leave 0 a cap n [] wS.heap.size wS from by
        have k1 := H1.out.2.2.2.2.2.1
        have k2 := H1.out.2.2.2.2.2.2
        have k3 := lt_of_blk H1.out.2.2.1
        have k4 := H3.out.1.size
        have k5 := H.out.2.2.2.2.2.1
        have ho := own_kept H1.out.2.2.2.1 hCS (by simp)
        refine ⟨hCS.blk H1.out.1 (by simp), hCS.blk H1.out.2.2.1 (by simp), hCs.blk hqq (by simp), own_mono ho (Nat.zero_le _), by rw [hwS, hbt]; exact heap_alloc_eq wq _, H1.out.2.2.2.2.1.trans hCS, by omega, fun k hk => ?_, by simp, by simp⟩
        have h1 := own_ge ho k hk
        obtain ⟨cs, hcs⟩ := own_cells (own_mono ho (Nat.zero_le _)) k hk
        have h2 := lt_of_blk hcs
        have h3 := H.out.2.2.2.2.1
        have h4 := H0.out.1.size
        omega)
      have Hb8 := Lib.hid (hCS.blk H1.out.2.1 (by simp))
      have HFw := Lib.hid (And.intro H.out.2.2.1 (And.intro H.out.2.2.2.1 (And.intro H.out.2.1 (And.intro H.out.1.q H.out.2.2.2.2.2.1))))
      clear hCq hCs hCS hqq hzq hzS hwq hbq
      go_wp2
      rw [← hwS, ← hbt]
      clear hnf hwS hbt H3 H1 H0 H
      have ct := cellB HSd.out.t (i := 0) (v := .int .i64 0) rfl
      refine wp_loop_rounds 3 ?_
      rw [rounds_succ]
      go_wp2
      obtain ⟨bn0, hbn0⟩ : ∃ bn, bn = wS.heap.size := ⟨_, rfl⟩
      obtain ⟨wSn, hwSn⟩ : ∃ wn, wn = wS.alloc (.cells #[.int .i64 0] 3 (0, 0)) := ⟨_, rfl⟩
      have hCn : Chg [] wS wSn := by rw [hwSn]; exact (Chg.refl _ _).alloc _
      have hbn := (show wSn.heap[bn0]? = some (.cells #[.int .i64 0] 3 (0, 0)) from by rw [hwSn, hbn0]; exact heap_alloc_eq wS _)
      have hS1 := HSd.out.kept hCn (by simp)
      have hnB : wSn.heap.size = bn0 + 1 := by rw [hwSn, hbn0]; simp
      have hlt1 := hS1.lt
      have hz1 := hS1.ch.size
      have hseq := uall1X w.heap.size [bn0, b5 + 1] [] (by simp) (wSn.heap.size + 2) bq u v N s wSn hS1.lq (HFw.out.2.2.2.1.calm hS1.ch) (fun k hk => by
        have h1 := HFw.out.2.2.2.1.lt k (List.mem_append.2 (.inr hk))
        simp; omega) (fun k hk => by simp at hk; omega) hz1
      have HQ0 := Lib.hid (And.intro hseq (And.intro hS1 (And.intro hbn (And.intro (hCn.blk Hb8.out (by simp)) (And.intro hnB hbn0)))))
      rw [← hwSn, ← hbn0]
      clear hCn hbn hS1 hseq hwSn hbn0 hnB hlt1 hz1
      refine (wpIn_wide (n := 7)).1 ?_
      refine wpIn_act (fun A hA => ?_)
      have HA0 := Lib.hid hA
      refine wpIn_rangeX rfl (by omega) (gf := 70) (lb := #[.pointer (some ⟨bq, 0, none⟩)]) (by rw [hA]; rfl) trivial (enters_of Tryz.func70 (by kernel_rfl) rfl) HQ0.out.1
        KpC.trans (fun W o o' ho h1 h2 => KpC.put o' (by have h3 := HQ0.out.2.1.ch.size; omega) (fun x hx => by cases hx; omega) ho h1 h2) (Below.refl _ _) (fun _ => rfl)
        (fun pre W => pre <+: l ∧ W.heap[b5 + 1]? = some (.cells #[.bool false] 4 (0, 0)) ∧ W.heap[bn0]? = some (.cells #[.int .i64 pre.length] 3 (0, 0)) ∧ Sq w l b5 (b5 + 1) b7 bq bt (.pointer (some ⟨u.q, 0, none⟩)) leave 0 a cap n [] bn0 W)
        (fun c pre W => (c = .ret ∧ ¬ pre <+: l) ∨ (c = .exit 4 ∧ (pre.length : Int) = leave ∧ W.heap[b5 + 1]? = some (.cells #[.bool false] 4 (0, 0)) ∧ W.heap[bn0]? = some (.cells #[.int .i64 pre.length] 3 (0, 0)) ∧ Sq w l b5 (b5 + 1) b7 bq bt (.pointer (some ⟨u.q, 0, none⟩)) leave 0 a cap n [] bn0 W))
        (fun s A B row hs hg hr => ⟨hs.1, ownFrom_blk (β := Unit) _ _ _ _ _ () A B row hs.2.1 hg hr, ownFrom_blk (β := Unit) _ _ _ _ _ () A B row hs.2.2.1 hg hr, hs.2.2.2.kept (Chg.of_grown (S := row.toList) hg (fun k hk => by simp [hk])) (fun k hk => by have := (hr k (by simpa using hk)).1; have := HQ0.out.2.2.2.2.1; omega)⟩)
        (fun c s A B row hs hg hr => by
          rcases hs with h | ⟨h1, h2, h6, h3, h4⟩
          · exact .inl h
          · exact .inr ⟨h1, h2, ownFrom_blk (β := Unit) _ _ _ _ _ () A B row h6 hg hr, ownFrom_blk (β := Unit) _ _ _ _ _ () A B row h3 hg hr, h4.kept (Chg.of_grown (S := row.toList) hg (fun k hk => by simp [hk])) (fun k hk => by have := (hr k (by simpa using hk)).1; have := HQ0.out.2.2.2.2.1; omega)⟩)
        ⟨List.nil_prefix, HQ0.out.2.2.2.1, HQ0.out.2.2.1, (show Sq w l b5 (b5 + 1) b7 bq bt (.pointer (some ⟨u.q, 0, none⟩)) leave 0 a cap n [] bn0 wSn from by rw [HQ0.out.2.2.2.2.2]; exact HQ0.out.2.1)⟩
        (fun x a' W' => ∃ Bx, bn0 < Bx ∧ W'.heap[Bx]? = some (.cells #[.int .i64 x.1, .int .i64 x.2] 33 (0, 0)) ∧ a' = { tmps := (A.tmps.setIfInBounds 103 (msgV x)).setIfInBounds 16 (.pointer (some ⟨Bx, 0, none⟩)), defers := [] })
        (fun x a' _ A' B' row hs hg hr => by
          obtain ⟨Bx, h0, h1, h2⟩ := hs
          exact ⟨Bx, h0, ownFrom_blk (β := Unit) _ _ _ _ _ () A' B' row h1 hg hr, h2⟩)
        ?_ ?_ ?_ ?_
      · rintro l' pre x W K ⟨h1, h6, h2, h3⟩ hK
        have HC := Lib.hid (And.intro h1 (And.intro h6 (And.intro h2 h3)))
        clear h1 h2 h3 h6
        rw [HA0.out]
        unfold encU msgV
        gi_wp2
        exact hK _ _ (keepsFrom_chg ((Chg.refl [] _).alloc _) (by simp)) (KpC.chg ((Chg.refl [] _).alloc _) (by simp)) ⟨HC.out.1, blk_alloc HC.out.2.1 _, blk_alloc HC.out.2.2.1 _, HC.out.2.2.2.kept ((Chg.refl [] _).alloc _) (by simp)⟩ ⟨W.heap.size, lt_of_blk HC.out.2.2.1, heap_alloc_eq _ _, by rw [HA0.out]; rfl⟩
      · rintro l' pre x a' W hl' ⟨r, hr⟩ ⟨hp, h6, h2, h3⟩ ⟨Bx, hBx, hX, rfl⟩ hlt
        have hltn : pre.length < n := by rw [HFw.out.1, HFw.out.2.2.1]; exact hlt
        obtain ⟨y, hy⟩ : ∃ y, l[pre.length]? = some y := ⟨_, List.getElem?_eq_getElem (by have h1 := HFw.out.1; omega)⟩
        obtain ⟨g, rfl, cy0, cy1⟩ := h3.cells HFw.out.1 hy
        have cn := cellB h2 (i := 0) (v := .int .i64 pre.length) rfl
        have fn := frozenB h2 0
        have c7 := cellB h3.l7 (i := 0) (v := .slice (some ⟨g, 0, none⟩) n cap) rfl
        have cx0 := cellB hX (i := 0) (v := .int .i64 x.1) rfl
        have cx1 := cellB hX (i := 1) (v := .int .i64 x.2) rfl
        have ct := cellB h3.t (i := 0) (v := .int .i64 0) rfl
        have cl := cellB h3.l5 (i := 0) (v := .int .i64 leave) rfl
        have cr := cellB h6 (i := 0) (v := .bool false) rfl
        have fr := frozenB h6 0
        have hpl : pre.length ≤ 32 := by have h1 := HFw.out.2.1; have h2 := HFw.out.1; omega
        obtain ⟨y1, y2⟩ := y
        obtain ⟨x1, x2⟩ := x
        dsimp only at cy0 cy1 cx0 cx1
        have HC := Lib.hid (And.intro hp (And.intro h6 (And.intro h2 (And.intro h3 hy))))
        have hlt3 := h3.lt
        clear hp h6 h2 h3 hy hX hr
        rw [HA0.out]
        simp only [msgV, List.setIfInBounds_toArray, List.set_cons_succ, List.set_cons_zero]
        have hdn : decide ((n : Int) ≤ (pre.length : Int)) = false := by simp; omega
        have hdn' : decide (n ≤ pre.length) = false := by simp; omega
        have hz1 : (0 : Int) ≤ (pre.length : Int) ∧ (pre.length : Int) < (n : Int) := by omega
        have hne1 : ¬ b5 + 1 = bn0 := by omega
        have hne2 : ¬ bt = bn0 := by omega
        have hne3 : ¬ bn0 = b5 + 1 := by omega
        have hne4 : ¬ bn0 = bt := by omega
        have hne5 : ¬ b5 = bn0 := by omega
        clear hlt3
        by_cases hxy : x1 = y1 ∧ x2 = y2
        · obtain ⟨rfl, rfl⟩ := hxy
          have g1 : neqP x1 x2 x1 x2 = false := by simp [neqP]
          have hpre : pre ++ [(x1, x2)] <+: l := by
            obtain ⟨r, hr⟩ := HC.out.1
            have := HC.out.2.2.2.2
            rw [← hr, List.getElem?_append_right (Nat.le_refl _), Nat.sub_self] at this
            cases r with
            | nil => cases this
            | cons z r => simp at this; subst this; exact ⟨r, by rw [← hr]; simp⟩
          have HPre := Lib.hid hpre
          clear hpre
          have HF := Lib.hid (And.intro ct (And.intro cl (And.intro cr (And.intro fr fn))))
          clear ct cl cr fr fn
          gi_wp2_with fail
          refine region_round (S := fun w' => w'.cell? ⟨bn0, 0, none⟩ = some (.int .i64 pre.length) ∧ w'.cell? ⟨b7, 0, none⟩ = some (.slice (some ⟨g, 0, none⟩) n cap) ∧ w'.cell? ⟨Bx, 0, none⟩ = some (.int .i64 x1) ∧ w'.cell? ⟨Bx, 1, none⟩ = some (.int .i64 x2) ∧ w'.cell? ⟨g, pre.length * 2, none⟩ = some (.int .i64 x1) ∧ w'.cell? ⟨g, pre.length * 2 + 1, none⟩ = some (.int .i64 x2)) (by kernel_rfl) (by rintro ⟨_, _, h⟩; exact h) (by kernel_rfl) ⟨cn, c7, cx0, cx1, cy0, cy1⟩ (fun hS => ?_)
          refine wpAnyH_take (i := 0) (v := ?_) (by simp only [List.getElem?_toArray, List.getElem?_cons_zero]; rfl) (by kernel_rfl) (by kernel_rfl) (by kernel_rfl) (by exact fun _ _ _ h => h) (Or.inl ⟨by kernel_rfl, ?_⟩) hS ?_
          case refine_2 => ((intro w hSw; (try dsimp only at hSw); go_simp) <;> with_reducible rfl)
          try simp only [Act.put, List.setIfInBounds_toArray, List.set_cons_zero, List.set_cons_succ]
          refine wpAnyH_take (i := 1) (v := ?_) (by simp only [List.getElem?_toArray, List.getElem?_cons_succ, List.getElem?_cons_zero]; rfl) (by kernel_rfl) (by kernel_rfl) (by kernel_rfl) (by exact fun _ _ _ h => h) (Or.inl ⟨by kernel_rfl, ?_⟩) hS ?_
          case refine_2 => ((intro w hSw; (try dsimp only at hSw); go_simp) <;> with_reducible rfl)
          try simp only [Act.put, List.setIfInBounds_toArray, List.set_cons_zero, List.set_cons_succ]
          refine wpAnyH_take (i := 2) (v := ?_) (by simp only [List.getElem?_toArray, List.getElem?_cons_succ, List.getElem?_cons_zero]; rfl) (by kernel_rfl) (by kernel_rfl) (by kernel_rfl) (by exact fun _ _ _ h => h) (Or.inl ⟨by kernel_rfl, ?_⟩) hS ?_
          case refine_2 => ((intro w hSw; (try dsimp only at hSw); go_simp) <;> with_reducible rfl)
          try simp only [Act.put, List.setIfInBounds_toArray, List.set_cons_zero, List.set_cons_succ]
          refine wpAnyH_take (i := 3) (v := ?_) (by simp only [List.getElem?_toArray, List.getElem?_cons_succ, List.getElem?_cons_zero]; rfl) (by kernel_rfl) (by kernel_rfl) (by kernel_rfl) (by exact fun _ _ _ h => h) (Or.inl ⟨by kernel_rfl, ?_⟩) hS ?_
          case refine_2 => ((intro w hSw; (try dsimp only at hSw); go_simp) <;> with_reducible rfl)
          try simp only [Act.put, List.setIfInBounds_toArray, List.set_cons_zero, List.set_cons_succ]
          refine wpAnyH_take (i := 4) (v := ?_) (by simp only [List.getElem?_toArray, List.getElem?_cons_succ, List.getElem?_cons_zero]; rfl) (by kernel_rfl) (by kernel_rfl) (by kernel_rfl) (by exact fun _ _ _ h => h) (Or.inl ⟨by kernel_rfl, ?_⟩) hS ?_
          case refine_2 => ((intro w hSw; (try dsimp only at hSw); go_simp) <;> with_reducible rfl)
          try simp only [Act.put, List.setIfInBounds_toArray, List.set_cons_zero, List.set_cons_succ]
          refine wpAnyH_take (i := 5) (v := ?_) (by simp only [List.getElem?_toArray, List.getElem?_cons_succ, List.getElem?_cons_zero]; rfl) (by kernel_rfl) (by kernel_rfl) (by kernel_rfl) (by exact fun _ _ _ h => h) (Or.inl ⟨by kernel_rfl, ?_⟩) hS ?_
          case refine_2 => ((intro w hSw; (try dsimp only at hSw); go_simp) <;> with_reducible rfl)
          try simp only [Act.put, List.setIfInBounds_toArray, List.set_cons_zero, List.set_cons_succ]
          refine wpAnyH_take (i := 6) (v := ?_) (by simp only [List.getElem?_toArray, List.getElem?_cons_succ, List.getElem?_cons_zero]; rfl) (by kernel_rfl) (by kernel_rfl) (by kernel_rfl) (by exact fun _ _ _ h => h) (Or.inl ⟨by kernel_rfl, ?_⟩) hS ?_
          case refine_2 => ((intro w hSw; (try dsimp only at hSw); go_simp) <;> with_reducible rfl)
          try simp only [Act.put, List.setIfInBounds_toArray, List.set_cons_zero, List.set_cons_succ]
          refine wpAnyH_take (i := 7) (v := ?_) (by simp only [List.getElem?_toArray, List.getElem?_cons_succ, List.getElem?_cons_zero]; rfl) (by kernel_rfl) (by kernel_rfl) (by kernel_rfl) (by exact fun _ _ _ h => h) (Or.inl ⟨by kernel_rfl, ?_⟩) hS ?_
          case refine_2 => ((intro w hSw; (try dsimp only at hSw); go_simp) <;> with_reducible rfl)
          try simp only [Act.put, List.setIfInBounds_toArray, List.set_cons_zero, List.set_cons_succ]
          refine wpAnyH_take (i := 8) (v := ?_) (by simp only [List.getElem?_toArray, List.getElem?_cons_succ, List.getElem?_cons_zero]; rfl) (by kernel_rfl) (by kernel_rfl) (by kernel_rfl) (by exact fun _ _ _ h => h) (Or.inl ⟨by kernel_rfl, ?_⟩) hS ?_
          case refine_2 => ((intro w hSw; (try dsimp only at hSw); go_simp) <;> with_reducible rfl)
          try simp only [Act.put, List.setIfInBounds_toArray, List.set_cons_zero, List.set_cons_succ]
          refine wpAnyH_take (i := 9) (v := ?_) (by simp only [List.getElem?_toArray, List.getElem?_cons_succ, List.getElem?_cons_zero]; rfl) (by kernel_rfl) (by kernel_rfl) (by kernel_rfl) (by exact fun _ _ _ h => h) (Or.inl ⟨by kernel_rfl, ?_⟩) hS ?_
          case refine_2 => ((intro w hSw; (try dsimp only at hSw); go_simp) <;> with_reducible rfl)
          try simp only [Act.put, List.setIfInBounds_toArray, List.set_cons_zero, List.set_cons_succ]
          refine wpAnyH_take (i := 10) (v := ?_) (by simp only [List.getElem?_toArray, List.getElem?_cons_succ, List.getElem?_cons_zero]; rfl) (by kernel_rfl) (by kernel_rfl) (by kernel_rfl) (by exact fun _ _ _ h => h) (Or.inl ⟨by kernel_rfl, ?_⟩) hS ?_
          case refine_2 => ((intro w hSw; (try dsimp only at hSw); go_simp) <;> with_reducible rfl)
          try simp only [Act.put, List.setIfInBounds_toArray, List.set_cons_zero, List.set_cons_succ]
          refine wpAnyH_take (i := 11) (v := ?_) (by simp only [List.getElem?_toArray, List.getElem?_cons_succ, List.getElem?_cons_zero]; rfl) (by kernel_rfl) (by kernel_rfl) (by kernel_rfl) (by exact fun _ _ _ h => h) (Or.inl ⟨by kernel_rfl, ?_⟩) hS ?_
          case refine_2 => ((intro w hSw; (try dsimp only at hSw); go_simp) <;> with_reducible rfl)
          try simp only [Act.put, List.setIfInBounds_toArray, List.set_cons_zero, List.set_cons_succ]
          refine wpAnyH_done (by kernel_rfl) ?_ _
          obtain ⟨ct, cl, cr, fr, fn⟩ := HF.out
          clear hS
          have hst : Chg [bn0] W ((W.setCell ⟨bn0, 0, none⟩ (.int .i64 ((pre.length : Int) + 1))).drew) := ((Chg.refl _ _).setCell _ _ (by simp)).drew
          have HP := Lib.hid (And.intro HPre.out (And.intro hst (And.intro (show (((pre ++ [(x1, x2)]).length : Nat) : Int) = (pre.length : Int) + 1 by simp) (show ∀ k ∈ [bn0], ∀ o, W.heap[k]? = some o → o.isCells = true from fun k hk o ho => by
            simp at hk
            subst hk
            rw [HC.out.2.2.1] at ho; cases ho; rfl))))
          clear hst
          by_cases hle : ((pre.length : Int) + 1) = leave
          · have hl1 : (((pre.length : Int) + 1) == leave) = true := by simpa using hle
            have HLe := Lib.hid hle
            clear hle
            gi_wp2
            exact ⟨keepsFrom_chg HP.out.2.1 HP.out.2.2.2, .inr ⟨rfl, by rw [HP.out.2.2.1]; exact HLe.out, HP.out.2.1.blk HC.out.2.1 (by have := HC.out.2.2.2.1.lt; simp; omega), by rw [HP.out.2.2.1]; exact blk_setCell HC.out.2.2.1 _, HC.out.2.2.2.1.kept HP.out.2.1 (by simp)⟩⟩
          · have hl1 : (((pre.length : Int) + 1) == leave) = false := by simpa using hle
            clear hle
            gi_wp2
            exact ⟨keepsFrom_chg HP.out.2.1 HP.out.2.2.2, KpC.chg HP.out.2.1 (by simp), HP.out.1, HP.out.2.1.blk HC.out.2.1 (by have := HC.out.2.2.2.1.lt; simp; omega), by rw [HP.out.2.2.1]; exact blk_setCell HC.out.2.2.1 _, HC.out.2.2.2.1.kept HP.out.2.1 (by simp)⟩
        · have hnp : ¬ pre ++ [(x1, x2)] <+: l := by
            rintro ⟨r, hr⟩
            have := HC.out.2.2.2.2
            rw [← hr, List.append_assoc, List.getElem?_append_right (Nat.le_refl _), Nat.sub_self] at this
            simp at this
            exact hxy this
          have HP := Lib.hid hnp
          have g1 : neqP x1 x2 y1 y2 = true := decide_eq_true hxy
          clear hnp hxy
          have HF := Lib.hid (And.intro cr fr)
          clear ct cl cr fr fn
          gi_wp2_with fail
          refine region_round (S := fun w' => w'.cell? ⟨bn0, 0, none⟩ = some (.int .i64 pre.length) ∧ w'.cell? ⟨b7, 0, none⟩ = some (.slice (some ⟨g, 0, none⟩) n cap) ∧ w'.cell? ⟨Bx, 0, none⟩ = some (.int .i64 x1) ∧ w'.cell? ⟨Bx, 1, none⟩ = some (.int .i64 x2) ∧ w'.cell? ⟨g, pre.length * 2, none⟩ = some (.int .i64 y1) ∧ w'.cell? ⟨g, pre.length * 2 + 1, none⟩ = some (.int .i64 y2)) (by kernel_rfl) (by rintro ⟨_, _, h⟩; exact h) (by kernel_rfl) ⟨cn, c7, cx0, cx1, cy0, cy1⟩ (fun hS => ?_)
          refine wpAnyH_take (i := 0) (v := ?_) (by simp only [List.getElem?_toArray, List.getElem?_cons_zero]; rfl) (by kernel_rfl) (by kernel_rfl) (by kernel_rfl) (by exact fun _ _ _ h => h) (Or.inl ⟨by kernel_rfl, ?_⟩) hS ?_
          case refine_2 => ((intro w hSw; (try dsimp only at hSw); go_simp) <;> with_reducible rfl)
          try simp only [Act.put, List.setIfInBounds_toArray, List.set_cons_zero, List.set_cons_succ]
          refine wpAnyH_take (i := 1) (v := ?_) (by simp only [List.getElem?_toArray, List.getElem?_cons_succ, List.getElem?_cons_zero]; rfl) (by kernel_rfl) (by kernel_rfl) (by kernel_rfl) (by exact fun _ _ _ h => h) (Or.inl ⟨by kernel_rfl, ?_⟩) hS ?_
          case refine_2 => ((intro w hSw; (try dsimp only at hSw); go_simp) <;> with_reducible rfl)
          try simp only [Act.put, List.setIfInBounds_toArray, List.set_cons_zero, List.set_cons_succ]
          refine wpAnyH_take (i := 2) (v := ?_) (by simp only [List.getElem?_toArray, List.getElem?_cons_succ, List.getElem?_cons_zero]; rfl) (by kernel_rfl) (by kernel_rfl) (by kernel_rfl) (by exact fun _ _ _ h => h) (Or.inl ⟨by kernel_rfl, ?_⟩) hS ?_
          case refine_2 => ((intro w hSw; (try dsimp only at hSw); go_simp) <;> with_reducible rfl)
          try simp only [Act.put, List.setIfInBounds_toArray, List.set_cons_zero, List.set_cons_succ]
          refine wpAnyH_take (i := 3) (v := ?_) (by simp only [List.getElem?_toArray, List.getElem?_cons_succ, List.getElem?_cons_zero]; rfl) (by kernel_rfl) (by kernel_rfl) (by kernel_rfl) (by exact fun _ _ _ h => h) (Or.inl ⟨by kernel_rfl, ?_⟩) hS ?_
          case refine_2 => ((intro w hSw; (try dsimp only at hSw); go_simp) <;> with_reducible rfl)
          try simp only [Act.put, List.setIfInBounds_toArray, List.set_cons_zero, List.set_cons_succ]
          refine wpAnyH_take (i := 4) (v := ?_) (by simp only [List.getElem?_toArray, List.getElem?_cons_succ, List.getElem?_cons_zero]; rfl) (by kernel_rfl) (by kernel_rfl) (by kernel_rfl) (by exact fun _ _ _ h => h) (Or.inl ⟨by kernel_rfl, ?_⟩) hS ?_
          case refine_2 => ((intro w hSw; (try dsimp only at hSw); go_simp) <;> with_reducible rfl)
          try simp only [Act.put, List.setIfInBounds_toArray, List.set_cons_zero, List.set_cons_succ]
          refine wpAnyH_take (i := 5) (v := ?_) (by simp only [List.getElem?_toArray, List.getElem?_cons_succ, List.getElem?_cons_zero]; rfl) (by kernel_rfl) (by kernel_rfl) (by kernel_rfl) (by exact fun _ _ _ h => h) (Or.inl ⟨by kernel_rfl, ?_⟩) hS ?_
          case refine_2 => ((intro w hSw; (try dsimp only at hSw); go_simp) <;> with_reducible rfl)
          try simp only [Act.put, List.setIfInBounds_toArray, List.set_cons_zero, List.set_cons_succ]
          refine wpAnyH_take (i := 6) (v := ?_) (by simp only [List.getElem?_toArray, List.getElem?_cons_succ, List.getElem?_cons_zero]; rfl) (by kernel_rfl) (by kernel_rfl) (by kernel_rfl) (by exact fun _ _ _ h => h) (Or.inl ⟨by kernel_rfl, ?_⟩) hS ?_
          case refine_2 => ((intro w hSw; (try dsimp only at hSw); go_simp) <;> with_reducible rfl)
          try simp only [Act.put, List.setIfInBounds_toArray, List.set_cons_zero, List.set_cons_succ]
          refine wpAnyH_take (i := 7) (v := ?_) (by simp only [List.getElem?_toArray, List.getElem?_cons_succ, List.getElem?_cons_zero]; rfl) (by kernel_rfl) (by kernel_rfl) (by kernel_rfl) (by exact fun _ _ _ h => h) (Or.inl ⟨by kernel_rfl, ?_⟩) hS ?_
          case refine_2 => ((intro w hSw; (try dsimp only at hSw); go_simp) <;> with_reducible rfl)
          try simp only [Act.put, List.setIfInBounds_toArray, List.set_cons_zero, List.set_cons_succ]
          refine wpAnyH_take (i := 8) (v := ?_) (by simp only [List.getElem?_toArray, List.getElem?_cons_succ, List.getElem?_cons_zero]; rfl) (by kernel_rfl) (by kernel_rfl) (by kernel_rfl) (by exact fun _ _ _ h => h) (Or.inl ⟨by kernel_rfl, ?_⟩) hS ?_
          case refine_2 => ((intro w hSw; (try dsimp only at hSw); go_simp) <;> with_reducible rfl)
          try simp only [Act.put, List.setIfInBounds_toArray, List.set_cons_zero, List.set_cons_succ]
          refine wpAnyH_take (i := 9) (v := ?_) (by simp only [List.getElem?_toArray, List.getElem?_cons_succ, List.getElem?_cons_zero]; rfl) (by kernel_rfl) (by kernel_rfl) (by kernel_rfl) (by exact fun _ _ _ h => h) (Or.inl ⟨by kernel_rfl, ?_⟩) hS ?_
          case refine_2 => ((intro w hSw; (try dsimp only at hSw); go_simp) <;> with_reducible rfl)
          try simp only [Act.put, List.setIfInBounds_toArray, List.set_cons_zero, List.set_cons_succ]
          refine wpAnyH_take (i := 10) (v := ?_) (by simp only [List.getElem?_toArray, List.getElem?_cons_succ, List.getElem?_cons_zero]; rfl) (by kernel_rfl) (by kernel_rfl) (by kernel_rfl) (by exact fun _ _ _ h => h) (Or.inl ⟨by kernel_rfl, ?_⟩) hS ?_
          case refine_2 => ((intro w hSw; (try dsimp only at hSw); go_simp) <;> with_reducible rfl)
          try simp only [Act.put, List.setIfInBounds_toArray, List.set_cons_zero, List.set_cons_succ]
          refine wpAnyH_take (i := 11) (v := ?_) (by simp only [List.getElem?_toArray, List.getElem?_cons_succ, List.getElem?_cons_zero]; rfl) (by kernel_rfl) (by kernel_rfl) (by kernel_rfl) (by exact fun _ _ _ h => h) (Or.inl ⟨by kernel_rfl, ?_⟩) hS ?_
          case refine_2 => ((intro w hSw; (try dsimp only at hSw); go_simp) <;> with_reducible rfl)
          try simp only [Act.put, List.setIfInBounds_toArray, List.set_cons_zero, List.set_cons_succ]
          refine wpAnyH_done (by kernel_rfl) ?_ _
          obtain ⟨cr, fr⟩ := HF.out
          clear hS
          gi_wp2
          exact ⟨keepsFrom_chg (S := [b5 + 1]) ((((Chg.refl _ _).setCell _ _ (by simp)) : Chg [b5 + 1] W (W.setCell ⟨b5 + 1, 0, none⟩ (.bool false))).drew) (by
            intro k hk o ho
            simp at hk
            subst hk
            rw [HC.out.2.1] at ho; cases ho; rfl), .inl ⟨rfl, HP.out⟩⟩
      · rintro D xs W hD hxs ⟨h1, h6, h2, h3⟩ hdef
        have hxl : xs.length = n := by rw [hxs, HFw.out.1, HFw.out.2.2.1]
        rw [hxl] at h2
        have cn := cellB h2 (i := 0) (v := .int .i64 n) rfl
        have c7 := cellB h3.l7 (i := 0) (v := .slice a n cap) rfl
        have ct := cellB h3.t (i := 0) (v := .int .i64 0) rfl
        have cl := cellB h3.l5 (i := 0) (v := .int .i64 leave) rfl
        have en : ((n : Int) != (n : Int)) = false := by simp
        have HC := Lib.hid (And.intro h6 (And.intro h2 (And.intro h3 (And.intro hdef hD))))
        clear h1 h6 h2 h3 hdef hD hxs hxl
        rw [HA0.out]
        gi_wp2
        go_wp2
        rw [rounds_succ]
        obtain ⟨bt1, hbt1⟩ : ∃ bt1, bt1 = W.heap.size := ⟨_, rfl⟩
        obtain ⟨W1, hW1⟩ : ∃ W1, W1 = W.alloc (.cells #[.int .i64 1] 3 (0, 0)) := ⟨_, rfl⟩
        rw [← hW1, ← hbt1]
        have hCa : Chg [] W W1 := by rw [hW1]; exact (Chg.refl _ _).alloc _
        have hsz1 : W1.heap.size = W.heap.size + 1 := by rw [hW1]; simp
        have hl8 := lt_of_blk HC.out.1
        have hln := lt_of_blk HC.out.2.1
        have hn0 := HQ0.out.2.2.2.2.1
        have hlt0 := HC.out.2.2.1.lt
        have hDg := HC.out.2.2.2.2
        have HSd1 := Lib.hid (HC.out.2.2.1.next hCa bt1 D 1 (by rw [hW1, hbt1]; exact heap_alloc_eq W _) HC.out.2.2.2.1 (by omega) (by omega) (by omega))
        have Hb81 := Lib.hid (hCa.blk HC.out.1 (by simp))
        have HDb := Lib.hid (show w.heap.size ≤ D from by omega)
        clear cn c7 ct cl HC HSd Hb8 HQ0 HA0 hCa hsz1 hW1 hbt1 hl8 hln hn0 hlt0 hDg
        have ct := cellB HSd1.out.t (i := 0) (v := .int .i64 1) rfl
        go_wp2
        obtain ⟨bn1, hbn1⟩ : ∃ bn, bn = W1.heap.size := ⟨_, rfl⟩
        obtain ⟨W1n, hW1n⟩ : ∃ wn, wn = W1.alloc (.cells #[.int .i64 0] 3 (0, 0)) := ⟨_, rfl⟩
        have hCn : Chg [] W1 W1n := by rw [hW1n]; exact (Chg.refl _ _).alloc _
        have hbn := (show W1n.heap[bn1]? = some (.cells #[.int .i64 0] 3 (0, 0)) from by rw [hW1n, hbn1]; exact heap_alloc_eq W1 _)
        have hS1 := HSd1.out.kept hCn (by simp)
        have hnB : W1n.heap.size = bn1 + 1 := by rw [hW1n, hbn1]; simp
        have hlt1 := hS1.lt
        have hz1 := hS1.ch.size
        have hseq := uall1X w.heap.size [bn1, b5 + 1] [] (by simp) (W1n.heap.size + 2) bq u v N s W1n hS1.lq (HFw.out.2.2.2.1.calm hS1.ch) (fun k hk => by
          have h1 := HFw.out.2.2.2.1.lt k (List.mem_append.2 (.inr hk))
          simp; omega) (fun k hk => by simp at hk; omega) hz1
        have HQ1 := Lib.hid (And.intro hseq (And.intro hS1 (And.intro hbn (And.intro (hCn.blk Hb81.out (by simp)) (And.intro hnB hbn1)))))
        rw [← hW1n, ← hbn1]
        clear hCn hbn hS1 hseq hW1n hbn1 hnB hlt1 hz1
        refine (wpIn_wide (n := 7)).1 ?_
        refine wpIn_act (fun A hA => ?_)
        have HA1 := Lib.hid hA
        refine wpIn_rangeX rfl (by omega) (gf := 70) (lb := #[.pointer (some ⟨bq, 0, none⟩)]) (by rw [hA]; rfl) trivial (enters_of Tryz.func70 (by kernel_rfl) rfl) HQ1.out.1
          KpC.trans (fun W o o' ho h1 h2 => KpC.put o' (by have h3 := HQ1.out.2.1.ch.size; omega) (fun x hx => by cases hx; omega) ho h1 h2) (Below.refl _ _) (fun _ => rfl)
          (fun pre W => pre <+: l ∧ W.heap[b5 + 1]? = some (.cells #[.bool false] 4 (0, 0)) ∧ W.heap[bn1]? = some (.cells #[.int .i64 pre.length] 3 (0, 0)) ∧ Sq w l b5 (b5 + 1) b7 bq bt1 (.pointer (some ⟨u.q, 0, none⟩)) leave 1 a cap n [D] bn1 W)
          (fun c pre W => c = .ret ∧ ¬ pre <+: l)
          (fun s A B row hs hg hr => ⟨hs.1, ownFrom_blk (β := Unit) _ _ _ _ _ () A B row hs.2.1 hg hr, ownFrom_blk (β := Unit) _ _ _ _ _ () A B row hs.2.2.1 hg hr, hs.2.2.2.kept (Chg.of_grown (S := row.toList) hg (fun k hk => by simp [hk])) (fun k hk => by have := (hr k (by simpa using hk)).1; have := HQ1.out.2.2.2.2.1; omega)⟩)
          (fun c s A B row hs hg hr => hs)
          ⟨List.nil_prefix, HQ1.out.2.2.2.1, HQ1.out.2.2.1, (show Sq w l b5 (b5 + 1) b7 bq bt1 (.pointer (some ⟨u.q, 0, none⟩)) leave 1 a cap n [D] bn1 W1n from by rw [HQ1.out.2.2.2.2.2]; exact HQ1.out.2.1)⟩
          (fun x a' W' => ∃ Bx, bn1 < Bx ∧ W'.heap[Bx]? = some (.cells #[.int .i64 x.1, .int .i64 x.2] 33 (0, 0)) ∧ a' = { tmps := (A.tmps.setIfInBounds 103 (msgV x)).setIfInBounds 16 (.pointer (some ⟨Bx, 0, none⟩)), defers := [] })
          (fun x a' _ A' B' row hs hg hr => by
            obtain ⟨Bx, h0, h1, h2⟩ := hs
            exact ⟨Bx, h0, ownFrom_blk (β := Unit) _ _ _ _ _ () A' B' row h1 hg hr, h2⟩)
          ?_ ?_ ?_ ?_
        · rintro l' pre x W K ⟨h1, h6, h2, h3⟩ hK
          have HC := Lib.hid (And.intro h1 (And.intro h6 (And.intro h2 h3)))
          clear h1 h2 h3 h6
          rw [HA1.out]
          unfold encU msgV
          gi_wp2
          exact hK _ _ (keepsFrom_chg ((Chg.refl [] _).alloc _) (by simp)) (KpC.chg ((Chg.refl [] _).alloc _) (by simp)) ⟨HC.out.1, blk_alloc HC.out.2.1 _, blk_alloc HC.out.2.2.1 _, HC.out.2.2.2.kept ((Chg.refl [] _).alloc _) (by simp)⟩ ⟨W.heap.size, lt_of_blk HC.out.2.2.1, heap_alloc_eq _ _, by rw [HA1.out]; rfl⟩
        · rintro l' pre x a' W hl' ⟨r, hr⟩ ⟨hp, h6, h2, h3⟩ ⟨Bx, hBx, hX, rfl⟩ hlt
          have hltn : pre.length < n := by rw [HFw.out.1, HFw.out.2.2.1]; exact hlt
          obtain ⟨y, hy⟩ : ∃ y, l[pre.length]? = some y := ⟨_, List.getElem?_eq_getElem (by have h1 := HFw.out.1; omega)⟩
          obtain ⟨g, rfl, cy0, cy1⟩ := h3.cells HFw.out.1 hy
          have cn := cellB h2 (i := 0) (v := .int .i64 pre.length) rfl
          have fn := frozenB h2 0
          have c7 := cellB h3.l7 (i := 0) (v := .slice (some ⟨g, 0, none⟩) n cap) rfl
          have cx0 := cellB hX (i := 0) (v := .int .i64 x.1) rfl
          have cx1 := cellB hX (i := 1) (v := .int .i64 x.2) rfl
          have ct := cellB h3.t (i := 0) (v := .int .i64 1) rfl
          have cl := cellB h3.l5 (i := 0) (v := .int .i64 leave) rfl
          have cr := cellB h6 (i := 0) (v := .bool false) rfl
          have fr := frozenB h6 0
          have hpl : pre.length ≤ 32 := by have h1 := HFw.out.2.1; have h2 := HFw.out.1; omega
          obtain ⟨y1, y2⟩ := y
          obtain ⟨x1, x2⟩ := x
          dsimp only at cy0 cy1 cx0 cx1
          have HC := Lib.hid (And.intro hp (And.intro h6 (And.intro h2 (And.intro h3 hy))))
          have hlt3 := h3.lt
          clear hp h6 h2 h3 hy hX hr
          rw [HA1.out]
          simp only [msgV, List.setIfInBounds_toArray, List.set_cons_succ, List.set_cons_zero]
          have hdn : decide ((n : Int) ≤ (pre.length : Int)) = false := by simp; omega
          have hdn' : decide (n ≤ pre.length) = false := by simp; omega
          have hz1 : (0 : Int) ≤ (pre.length : Int) ∧ (pre.length : Int) < (n : Int) := by omega
          have hne1 : ¬ b5 + 1 = bn1 := by omega
          have hne2 : ¬ bt1 = bn1 := by omega
          have hne3 : ¬ bn1 = b5 + 1 := by omega
          have hne4 : ¬ bn1 = bt1 := by omega
          have hne5 : ¬ b5 = bn1 := by omega
          clear hlt3
          by_cases hxy : x1 = y1 ∧ x2 = y2
          · obtain ⟨rfl, rfl⟩ := hxy
            have g1 : neqP x1 x2 x1 x2 = false := by simp [neqP]
            have hpre : pre ++ [(x1, x2)] <+: l := by
              obtain ⟨r, hr⟩ := HC.out.1
              have := HC.out.2.2.2.2
              rw [← hr, List.getElem?_append_right (Nat.le_refl _), Nat.sub_self] at this
              cases r with
              | nil => cases this
              | cons z r => simp at this; subst this; exact ⟨r, by rw [← hr]; simp⟩
            have HPre := Lib.hid hpre
            clear hpre
            have HF := Lib.hid (And.intro ct (And.intro cl (And.intro cr (And.intro fr fn))))
            clear ct cl cr fr fn
            gi_wp2_with fail
            refine region_round (S := fun w' => w'.cell? ⟨bn1, 0, none⟩ = some (.int .i64 pre.length) ∧ w'.cell? ⟨b7, 0, none⟩ = some (.slice (some ⟨g, 0, none⟩) n cap) ∧ w'.cell? ⟨Bx, 0, none⟩ = some (.int .i64 x1) ∧ w'.cell? ⟨Bx, 1, none⟩ = some (.int .i64 x2) ∧ w'.cell? ⟨g, pre.length * 2, none⟩ = some (.int .i64 x1) ∧ w'.cell? ⟨g, pre.length * 2 + 1, none⟩ = some (.int .i64 x2)) (by kernel_rfl) (by rintro ⟨_, _, h⟩; exact h) (by kernel_rfl) ⟨cn, c7, cx0, cx1, cy0, cy1⟩ (fun hS => ?_)
            refine wpAnyH_take (i := 0) (v := ?_) (by simp only [List.getElem?_toArray, List.getElem?_cons_zero]; rfl) (by kernel_rfl) (by kernel_rfl) (by kernel_rfl) (by exact fun _ _ _ h => h) (Or.inl ⟨by kernel_rfl, ?_⟩) hS ?_
            case refine_2 => ((intro w hSw; (try dsimp only at hSw); go_simp) <;> with_reducible rfl)
            try simp only [Act.put, List.setIfInBounds_toArray, List.set_cons_zero, List.set_cons_succ]
            refine wpAnyH_take (i := 1) (v := ?_) (by simp only [List.getElem?_toArray, List.getElem?_cons_succ, List.getElem?_cons_zero]; rfl) (by kernel_rfl) (by kernel_rfl) (by kernel_rfl) (by exact fun _ _ _ h => h) (Or.inl ⟨by kernel_rfl, ?_⟩) hS ?_
            case refine_2 => ((intro w hSw; (try dsimp only at hSw); go_simp) <;> with_reducible rfl)
            try simp only [Act.put, List.setIfInBounds_toArray, List.set_cons_zero, List.set_cons_succ]
            refine wpAnyH_take (i := 2) (v := ?_) (by simp only [List.getElem?_toArray, List.getElem?_cons_succ, List.getElem?_cons_zero]; rfl) (by kernel_rfl) (by kernel_rfl) (by kernel_rfl) (by exact fun _ _ _ h => h) (Or.inl ⟨by kernel_rfl, ?_⟩) hS ?_
            case refine_2 => ((intro w hSw; (try dsimp only at hSw); go_simp) <;> with_reducible rfl)
            try simp only [Act.put, List.setIfInBounds_toArray, List.set_cons_zero, List.set_cons_succ]
            refine wpAnyH_take (i := 3) (v := ?_) (by simp only [List.getElem?_toArray, List.getElem?_cons_succ, List.getElem?_cons_zero]; rfl) (by kernel_rfl) (by kernel_rfl) (by kernel_rfl) (by exact fun _ _ _ h => h) (Or.inl ⟨by kernel_rfl, ?_⟩) hS ?_
            case refine_2 => ((intro w hSw; (try dsimp only at hSw); go_simp) <;> with_reducible rfl)
            try simp only [Act.put, List.setIfInBounds_toArray, List.set_cons_zero, List.set_cons_succ]
            refine wpAnyH_take (i := 4) (v := ?_) (by simp only [List.getElem?_toArray, List.getElem?_cons_succ, List.getElem?_cons_zero]; rfl) (by kernel_rfl) (by kernel_rfl) (by kernel_rfl) (by exact fun _ _ _ h => h) (Or.inl ⟨by kernel_rfl, ?_⟩) hS ?_
            case refine_2 => ((intro w hSw; (try dsimp only at hSw); go_simp) <;> with_reducible rfl)
            try simp only [Act.put, List.setIfInBounds_toArray, List.set_cons_zero, List.set_cons_succ]
            refine wpAnyH_take (i := 5) (v := ?_) (by simp only [List.getElem?_toArray, List.getElem?_cons_succ, List.getElem?_cons_zero]; rfl) (by kernel_rfl) (by kernel_rfl) (by kernel_rfl) (by exact fun _ _ _ h => h) (Or.inl ⟨by kernel_rfl, ?_⟩) hS ?_
            case refine_2 => ((intro w hSw; (try dsimp only at hSw); go_simp) <;> with_reducible rfl)
            try simp only [Act.put, List.setIfInBounds_toArray, List.set_cons_zero, List.set_cons_succ]
            refine wpAnyH_take (i := 6) (v := ?_) (by simp only [List.getElem?_toArray, List.getElem?_cons_succ, List.getElem?_cons_zero]; rfl) (by kernel_rfl) (by kernel_rfl) (by kernel_rfl) (by exact fun _ _ _ h => h) (Or.inl ⟨by kernel_rfl, ?_⟩) hS ?_
            case refine_2 => ((intro w hSw; (try dsimp only at hSw); go_simp) <;> with_reducible rfl)
            try simp only [Act.put, List.setIfInBounds_toArray, List.set_cons_zero, List.set_cons_succ]
            refine wpAnyH_take (i := 7) (v := ?_) (by simp only [List.getElem?_toArray, List.getElem?_cons_succ, List.getElem?_cons_zero]; rfl) (by kernel_rfl) (by kernel_rfl) (by kernel_rfl) (by exact fun _ _ _ h => h) (Or.inl ⟨by kernel_rfl, ?_⟩) hS ?_
            case refine_2 => ((intro w hSw; (try dsimp only at hSw); go_simp) <;> with_reducible rfl)
            try simp only [Act.put, List.setIfInBounds_toArray, List.set_cons_zero, List.set_cons_succ]
            refine wpAnyH_take (i := 8) (v := ?_) (by simp only [List.getElem?_toArray, List.getElem?_cons_succ, List.getElem?_cons_zero]; rfl) (by kernel_rfl) (by kernel_rfl) (by kernel_rfl) (by exact fun _ _ _ h => h) (Or.inl ⟨by kernel_rfl, ?_⟩) hS ?_
            case refine_2 => ((intro w hSw; (try dsimp only at hSw); go_simp) <;> with_reducible rfl)
            try simp only [Act.put, List.setIfInBounds_toArray, List.set_cons_zero, List.set_cons_succ]
            refine wpAnyH_take (i := 9) (v := ?_) (by simp only [List.getElem?_toArray, List.getElem?_cons_succ, List.getElem?_cons_zero]; rfl) (by kernel_rfl) (by kernel_rfl) (by kernel_rfl) (by exact fun _ _ _ h => h) (Or.inl ⟨by kernel_rfl, ?_⟩) hS ?_
            case refine_2 => ((intro w hSw; (try dsimp only at hSw); go_simp) <;> with_reducible rfl)
            try simp only [Act.put, List.setIfInBounds_toArray, List.set_cons_zero, List.set_cons_succ]
            refine wpAnyH_take (i := 10) (v := ?_) (by simp only [List.getElem?_toArray, List.getElem?_cons_succ, List.getElem?_cons_zero]; rfl) (by kernel_rfl) (by kernel_rfl) (by kernel_rfl) (by exact fun _ _ _ h => h) (Or.inl ⟨by kernel_rfl, ?_⟩) hS ?_
            case refine_2 => ((intro w hSw; (try dsimp only at hSw); go_simp) <;> with_reducible rfl)
            try simp only [Act.put, List.setIfInBounds_toArray, List.set_cons_zero, List.set_cons_succ]
            refine wpAnyH_take (i := 11) (v := ?_) (by simp only [List.getElem?_toArray, List.getElem?_cons_succ, List.getElem?_cons_zero]; rfl) (by kernel_rfl) (by kernel_rfl) (by kernel_rfl) (by exact fun _ _ _ h => h) (Or.inl ⟨by kernel_rfl, ?_⟩) hS ?_
            case refine_2 => ((intro w hSw; (try dsimp only at hSw); go_simp) <;> with_reducible rfl)
            try simp only [Act.put, List.setIfInBounds_toArray, List.set_cons_zero, List.set_cons_succ]
            refine wpAnyH_done (by kernel_rfl) ?_ _
            obtain ⟨ct, cl, cr, fr, fn⟩ := HF.out
            clear hS
            have hst : Chg [bn1] W ((W.setCell ⟨bn1, 0, none⟩ (.int .i64 ((pre.length : Int) + 1))).drew) := ((Chg.refl _ _).setCell _ _ (by simp)).drew
            have HP := Lib.hid (And.intro HPre.out (And.intro hst (And.intro (show (((pre ++ [(x1, x2)]).length : Nat) : Int) = (pre.length : Int) + 1 by simp) (show ∀ k ∈ [bn1], ∀ o, W.heap[k]? = some o → o.isCells = true from fun k hk o ho => by
              simp at hk
              subst hk
              rw [HC.out.2.2.1] at ho; cases ho; rfl))))
            clear hst
            gi_wp2
            exact ⟨keepsFrom_chg HP.out.2.1 HP.out.2.2.2, KpC.chg HP.out.2.1 (by simp), HP.out.1, HP.out.2.1.blk HC.out.2.1 (by have := HC.out.2.2.2.1.lt; simp; omega), by rw [HP.out.2.2.1]; exact blk_setCell HC.out.2.2.1 _, HC.out.2.2.2.1.kept HP.out.2.1 (by simp)⟩
          · have hnp : ¬ pre ++ [(x1, x2)] <+: l := by
              rintro ⟨r, hr⟩
              have := HC.out.2.2.2.2
              rw [← hr, List.append_assoc, List.getElem?_append_right (Nat.le_refl _), Nat.sub_self] at this
              simp at this
              exact hxy this
            have HP := Lib.hid hnp
            have g1 : neqP x1 x2 y1 y2 = true := decide_eq_true hxy
            clear hnp hxy
            have HF := Lib.hid (And.intro cr fr)
            clear ct cl cr fr fn
            gi_wp2_with fail
            refine region_round (S := fun w' => w'.cell? ⟨bn1, 0, none⟩ = some (.int .i64 pre.length) ∧ w'.cell? ⟨b7, 0, none⟩ = some (.slice (some ⟨g, 0, none⟩) n cap) ∧ w'.cell? ⟨Bx, 0, none⟩ = some (.int .i64 x1) ∧ w'.cell? ⟨Bx, 1, none⟩ = some (.int .i64 x2) ∧ w'.cell? ⟨g, pre.length * 2, none⟩ = some (.int .i64 y1) ∧ w'.cell? ⟨g, pre.length * 2 + 1, none⟩ = some (.int .i64 y2)) (by kernel_rfl) (by rintro ⟨_, _, h⟩; exact h) (by kernel_rfl) ⟨cn, c7, cx0, cx1, cy0, cy1⟩ (fun hS => ?_)
            refine wpAnyH_take (i := 0) (v := ?_) (by simp only [List.getElem?_toArray, List.getElem?_cons_zero]; rfl) (by kernel_rfl) (by kernel_rfl) (by kernel_rfl) (by exact fun _ _ _ h => h) (Or.inl ⟨by kernel_rfl, ?_⟩) hS ?_
            case refine_2 => ((intro w hSw; (try dsimp only at hSw); go_simp) <;> with_reducible rfl)
            try simp only [Act.put, List.setIfInBounds_toArray, List.set_cons_zero, List.set_cons_succ]
            refine wpAnyH_take (i := 1) (v := ?_) (by simp only [List.getElem?_toArray, List.getElem?_cons_succ, List.getElem?_cons_zero]; rfl) (by kernel_rfl) (by kernel_rfl) (by kernel_rfl) (by exact fun _ _ _ h => h) (Or.inl ⟨by kernel_rfl, ?_⟩) hS ?_
            case refine_2 => ((intro w hSw; (try dsimp only at hSw); go_simp) <;> with_reducible rfl)
            try simp only [Act.put, List.setIfInBounds_toArray, List.set_cons_zero, List.set_cons_succ]
            refine wpAnyH_take (i := 2) (v := ?_) (by simp only [List.getElem?_toArray, List.getElem?_cons_succ, List.getElem?_cons_zero]; rfl) (by kernel_rfl) (by kernel_rfl) (by kernel_rfl) (by exact fun _ _ _ h => h) (Or.inl ⟨by kernel_rfl, ?_⟩) hS ?_
            case refine_2 => ((intro w hSw; (try dsimp only at hSw); go_simp) <;> with_reducible rfl)
            try simp only [Act.put, List.setIfInBounds_toArray, List.set_cons_zero, List.set_cons_succ]
            refine wpAnyH_take (i := 3) (v := ?_) (by simp only [List.getElem?_toArray, List.getElem?_cons_succ, List.getElem?_cons_zero]; rfl) (by kernel_rfl) (by kernel_rfl) (by kernel_rfl) (by exact fun _ _ _ h => h) (Or.inl ⟨by kernel_rfl, ?_⟩) hS ?_
            case refine_2 => ((intro w hSw; (try dsimp only at hSw); go_simp) <;> with_reducible rfl)
            try simp only [Act.put, List.setIfInBounds_toArray, List.set_cons_zero, List.set_cons_succ]
            refine wpAnyH_take (i := 4) (v := ?_) (by simp only [List.getElem?_toArray, List.getElem?_cons_succ, List.getElem?_cons_zero]; rfl) (by kernel_rfl) (by kernel_rfl) (by kernel_rfl) (by exact fun _ _ _ h => h) (Or.inl ⟨by kernel_rfl, ?_⟩) hS ?_
            case refine_2 => ((intro w hSw; (try dsimp only at hSw); go_simp) <;> with_reducible rfl)
            try simp only [Act.put, List.setIfInBounds_toArray, List.set_cons_zero, List.set_cons_succ]
            refine wpAnyH_take (i := 5) (v := ?_) (by simp only [List.getElem?_toArray, List.getElem?_cons_succ, List.getElem?_cons_zero]; rfl) (by kernel_rfl) (by kernel_rfl) (by kernel_rfl) (by exact fun _ _ _ h => h) (Or.inl ⟨by kernel_rfl, ?_⟩) hS ?_
            case refine_2 => ((intro w hSw; (try dsimp only at hSw); go_simp) <;> with_reducible rfl)
            try simp only [Act.put, List.setIfInBounds_toArray, List.set_cons_zero, List.set_cons_succ]
            refine wpAnyH_take (i := 6) (v := ?_) (by simp only [List.getElem?_toArray, List.getElem?_cons_succ, List.getElem?_cons_zero]; rfl) (by kernel_rfl) (by kernel_rfl) (by kernel_rfl) (by exact fun _ _ _ h => h) (Or.inl ⟨by kernel_rfl, ?_⟩) hS ?_
            case refine_2 => ((intro w hSw; (try dsimp only at hSw); go_simp) <;> with_reducible rfl)
            try simp only [Act.put, List.setIfInBounds_toArray, List.set_cons_zero, List.set_cons_succ]
            refine wpAnyH_take (i := 7) (v := ?_) (by simp only [List.getElem?_toArray, List.getElem?_cons_succ, List.getElem?_cons_zero]; rfl) (by kernel_rfl) (by kernel_rfl) (by kernel_rfl) (by exact fun _ _ _ h => h) (Or.inl ⟨by kernel_rfl, ?_⟩) hS ?_
            case refine_2 => ((intro w hSw; (try dsimp only at hSw); go_simp) <;> with_reducible rfl)
            try simp only [Act.put, List.setIfInBounds_toArray, List.set_cons_zero, List.set_cons_succ]
            refine wpAnyH_take (i := 8) (v := ?_) (by simp only [List.getElem?_toArray, List.getElem?_cons_succ, List.getElem?_cons_zero]; rfl) (by kernel_rfl) (by kernel_rfl) (by kernel_rfl) (by exact fun _ _ _ h => h) (Or.inl ⟨by kernel_rfl, ?_⟩) hS ?_
            case refine_2 => ((intro w hSw; (try dsimp only at hSw); go_simp) <;> with_reducible rfl)
            try simp only [Act.put, List.setIfInBounds_toArray, List.set_cons_zero, List.set_cons_succ]
            refine wpAnyH_take (i := 9) (v := ?_) (by simp only [List.getElem?_toArray, List.getElem?_cons_succ, List.getElem?_cons_zero]; rfl) (by kernel_rfl) (by kernel_rfl) (by kernel_rfl) (by exact fun _ _ _ h => h) (Or.inl ⟨by kernel_rfl, ?_⟩) hS ?_
            case refine_2 => ((intro w hSw; (try dsimp only at hSw); go_simp) <;> with_reducible rfl)
            try simp only [Act.put, List.setIfInBounds_toArray, List.set_cons_zero, List.set_cons_succ]
            refine wpAnyH_take (i := 10) (v := ?_) (by simp only [List.getElem?_toArray, List.getElem?_cons_succ, List.getElem?_cons_zero]; rfl) (by kernel_rfl) (by kernel_rfl) (by kernel_rfl) (by exact fun _ _ _ h => h) (Or.inl ⟨by kernel_rfl, ?_⟩) hS ?_
            case refine_2 => ((intro w hSw; (try dsimp only at hSw); go_simp) <;> with_reducible rfl)
            try simp only [Act.put, List.setIfInBounds_toArray, List.set_cons_zero, List.set_cons_succ]
            refine wpAnyH_take (i := 11) (v := ?_) (by simp only [List.getElem?_toArray, List.getElem?_cons_succ, List.getElem?_cons_zero]; rfl) (by kernel_rfl) (by kernel_rfl) (by kernel_rfl) (by exact fun _ _ _ h => h) (Or.inl ⟨by kernel_rfl, ?_⟩) hS ?_
            case refine_2 => ((intro w hSw; (try dsimp only at hSw); go_simp) <;> with_reducible rfl)
            try simp only [Act.put, List.setIfInBounds_toArray, List.set_cons_zero, List.set_cons_succ]
            refine wpAnyH_done (by kernel_rfl) ?_ _
            obtain ⟨cr, fr⟩ := HF.out
            clear hS
            gi_wp2
            exact ⟨keepsFrom_chg (S := [b5 + 1]) ((((Chg.refl _ _).setCell _ _ (by simp)) : Chg [b5 + 1] W (W.setCell ⟨b5 + 1, 0, none⟩ (.bool false))).drew) (by
              intro k hk o ho
              simp at hk
              subst hk
              rw [HC.out.2.1] at ho; cases ho; rfl), ⟨rfl, HP.out⟩⟩
        · rintro D2 xs W2 hD2 hxs ⟨h1, h6, h2, h3⟩ hdef2
          have hxl : xs.length = n := by rw [hxs, HFw.out.1, HFw.out.2.2.1]
          rw [hxl] at h2
          have cn := cellB h2 (i := 0) (v := .int .i64 n) rfl
          have c7 := cellB h3.l7 (i := 0) (v := .slice a n cap) rfl
          have ct := cellB h3.t (i := 0) (v := .int .i64 1) rfl
          have cl := cellB h3.l5 (i := 0) (v := .int .i64 leave) rfl
          have en : ((n : Int) != (n : Int)) = false := by simp
          have cr := cellB h6 (i := 0) (v := .bool false) rfl
          have fr := frozenB h6 0
          have HC2 := Lib.hid (And.intro h6 (And.intro h2 (And.intro h3 (And.intro hdef2 hD2))))
          have hl8 := lt_of_blk h6
          have hne8 : ¬ W2.heap.size = b5 + 1 := by omega
          have hne9 : ¬ b5 + 1 = W2.heap.size := by omega
          clear h1 h6 h2 h3 hdef2 hD2 hxs hxl
          rw [HA1.out]
          gi_wp2
          go_wp2
          rw [rounds_succ]
          go_wp2
          obtain ⟨WF, hWF⟩ : ∃ WF, WF = ((W2.setCell ⟨b5 + 1, 0, none⟩ (.bool true)).alloc (.cells #[.int .i64 2] 3 (0, 0))) := ⟨_, rfl⟩
          have l := HC2.out.2.2.1.lt
          have hdl := HC2.out.2.2.1.dl D (by simp)
          have hD2 := HC2.out.2.2.2.2
          have hnB := HQ1.out.2.2.2.2.1
          have hDg := HDb.out
          have nD2 : D2 ≠ b5 + 1 := fun e => by
            have h1 := HC2.out.2.2.2.1
            rw [e, HC2.out.1] at h1
            cases h1
          have hCF : Chg [b5 + 1] W2 WF := by rw [hWF]; exact ((Chg.refl _ _).setCell _ _ (by simp)).alloc _
          have hF8 : WF.heap[b5 + 1]? = some (.cells #[.bool true] 4 (0, 0)) := by rw [hWF]; exact blk_alloc (blk_setCell HC2.out.1 _) _
          have hF2 : WF.heap[D2]? = some (.deferred (some [])) := hCF.blk HC2.out.2.2.2.1 (by simpa using nD2)
          have hF1 : WF.heap[D]? = some (.deferred (some [])) := hCF.blk (HC2.out.2.2.1.df D (by simp)) (by simpa using hdl.2)
          have hCG : Chg [D2] WF (WF.putObj D2 (.deferred none)) := (Chg.refl [D2] WF).setBlock D2 _ (by simp)
          have hDD : D ≠ D2 := by omega
          have hG1 := hCG.blk hF1 (by simpa using hDD)
          have hCH : Chg [D] (WF.putObj D2 (.deferred none)) ((WF.putObj D2 (.deferred none)).putObj D (.deferred none)) := (Chg.refl [D] _).setBlock D _ (by simp)
          have hH6 := cellB (hCH.blk (hCG.blk hF8 (by simpa using fun e => nD2 e.symm)) (by simpa using fun e => hdl.2 e.symm)) (i := 0) rfl
          have hch := HC2.out.2.2.1.ch
          rw [← hWF]
          refine ⟨by simp, .inl ⟨_, _, rfl, run_takeDeferred hF2, ?_⟩⟩
          refine ⟨by simp, .inl ⟨_, _, rfl, run_takeDeferred hG1, ?_⟩⟩
          refine ⟨.bool true, ?_, rfl, ((hch.trans' hCF (fun x hx => .inr (by simp at hx; omega))).trans' hCG (fun x hx => .inr (by simp at hx; omega))).trans' hCH (fun x hx => .inr (by simp at hx; omega))⟩
          simp [results, Tryz.results12, go_sem, hH6]
        · rintro D2 c pre W2 hD2 hp hS hdef2
          rw [← HFw.out.2.2.1] at hp
          exact absurd hp hS.2
      · rintro D c pre W hD hp hS hdef
        rcases hS with ⟨_, h⟩ | ⟨rfl, hl, h6, h2, h3⟩
        · rw [← HFw.out.2.2.1] at hp
          exact absurd hp h
        · have hl1 : ((pre.length : Int) != leave) = false := by simp [hl]
          obtain ⟨bb, hbb⟩ : ∃ b, ((pre.length : Int) != (n : Int)) = b := ⟨_, rfl⟩
          have cn := cellB h2 (i := 0) (v := .int .i64 pre.length) rfl
          have c7 := cellB h3.l7 (i := 0) (v := .slice a n cap) rfl
          have ct := cellB h3.t (i := 0) (v := .int .i64 0) rfl
          have cl := cellB h3.l5 (i := 0) (v := .int .i64 leave) rfl
          have HC := Lib.hid (And.intro h6 (And.intro h2 (And.intro h3 (And.intro hdef hD))))
          clear h6 h2 h3 hp hl hdef hD
          cases bb
          all_goals
            rw [HA0.out]
            gi_wp2
            go_wp2
            rw [rounds_succ]
            obtain ⟨bt1, hbt1⟩ : ∃ bt1, bt1 = W.heap.size := ⟨_, rfl⟩
            obtain ⟨W1, hW1⟩ : ∃ W1, W1 = W.alloc (.cells #[.int .i64 1] 3 (0, 0)) := ⟨_, rfl⟩
            rw [← hW1, ← hbt1]
            have hCa : Chg [] W W1 := by rw [hW1]; exact (Chg.refl _ _).alloc _
            have hsz1 : W1.heap.size = W.heap.size + 1 := by rw [hW1]; simp
            have hl8 := lt_of_blk HC.out.1
            have hln := lt_of_blk HC.out.2.1
            have hn0 := HQ0.out.2.2.2.2.1
            have hlt0 := HC.out.2.2.1.lt
            have hDg := HC.out.2.2.2.2
            have HSd1 := Lib.hid (HC.out.2.2.1.next hCa bt1 D 1 (by rw [hW1, hbt1]; exact heap_alloc_eq W _) HC.out.2.2.2.1 (by omega) (by omega) (by omega))
            have Hb81 := Lib.hid (hCa.blk HC.out.1 (by simp))
            have HDb := Lib.hid (show w.heap.size ≤ D from by omega)
            clear cn c7 ct cl HC HSd Hb8 HQ0 HA0 hCa hsz1 hW1 hbt1 hl8 hln hn0 hlt0 hDg
            have ct := cellB HSd1.out.t (i := 0) (v := .int .i64 1) rfl
            go_wp2
            obtain ⟨bn1, hbn1⟩ : ∃ bn, bn = W1.heap.size := ⟨_, rfl⟩
            obtain ⟨W1n, hW1n⟩ : ∃ wn, wn = W1.alloc (.cells #[.int .i64 0] 3 (0, 0)) := ⟨_, rfl⟩
            have hCn : Chg [] W1 W1n := by rw [hW1n]; exact (Chg.refl _ _).alloc _
            have hbn := (show W1n.heap[bn1]? = some (.cells #[.int .i64 0] 3 (0, 0)) from by rw [hW1n, hbn1]; exact heap_alloc_eq W1 _)
            have hS1 := HSd1.out.kept hCn (by simp)
            have hnB : W1n.heap.size = bn1 + 1 := by rw [hW1n, hbn1]; simp
            have hlt1 := hS1.lt
            have hz1 := hS1.ch.size
            have hseq := uall1X w.heap.size [bn1, b5 + 1] [] (by simp) (W1n.heap.size + 2) bq u v N s W1n hS1.lq (HFw.out.2.2.2.1.calm hS1.ch) (fun k hk => by
              have h1 := HFw.out.2.2.2.1.lt k (List.mem_append.2 (.inr hk))
              simp; omega) (fun k hk => by simp at hk; omega) hz1
            have HQ1 := Lib.hid (And.intro hseq (And.intro hS1 (And.intro hbn (And.intro (hCn.blk Hb81.out (by simp)) (And.intro hnB hbn1)))))
            rw [← hW1n, ← hbn1]
            clear hCn hbn hS1 hseq hW1n hbn1 hnB hlt1 hz1
            refine (wpIn_wide (n := 7)).1 ?_
            refine wpIn_act (fun A hA => ?_)
            have HA1 := Lib.hid hA
            refine wpIn_rangeX rfl (by omega) (gf := 70) (lb := #[.pointer (some ⟨bq, 0, none⟩)]) (by rw [hA]; rfl) trivial (enters_of Tryz.func70 (by kernel_rfl) rfl) HQ1.out.1
              KpC.trans (fun W o o' ho h1 h2 => KpC.put o' (by have h3 := HQ1.out.2.1.ch.size; omega) (fun x hx => by cases hx; omega) ho h1 h2) (Below.refl _ _) (fun _ => rfl)
              (fun pre W => pre <+: l ∧ W.heap[b5 + 1]? = some (.cells #[.bool false] 4 (0, 0)) ∧ W.heap[bn1]? = some (.cells #[.int .i64 pre.length] 3 (0, 0)) ∧ Sq w l b5 (b5 + 1) b7 bq bt1 (.pointer (some ⟨u.q, 0, none⟩)) leave 1 a cap n [D] bn1 W)
              (fun c pre W => c = .ret ∧ ¬ pre <+: l)
              (fun s A B row hs hg hr => ⟨hs.1, ownFrom_blk (β := Unit) _ _ _ _ _ () A B row hs.2.1 hg hr, ownFrom_blk (β := Unit) _ _ _ _ _ () A B row hs.2.2.1 hg hr, hs.2.2.2.kept (Chg.of_grown (S := row.toList) hg (fun k hk => by simp [hk])) (fun k hk => by have := (hr k (by simpa using hk)).1; have := HQ1.out.2.2.2.2.1; omega)⟩)
              (fun c s A B row hs hg hr => hs)
              ⟨List.nil_prefix, HQ1.out.2.2.2.1, HQ1.out.2.2.1, (show Sq w l b5 (b5 + 1) b7 bq bt1 (.pointer (some ⟨u.q, 0, none⟩)) leave 1 a cap n [D] bn1 W1n from by rw [HQ1.out.2.2.2.2.2]; exact HQ1.out.2.1)⟩
              (fun x a' W' => ∃ Bx, bn1 < Bx ∧ W'.heap[Bx]? = some (.cells #[.int .i64 x.1, .int .i64 x.2] 33 (0, 0)) ∧ a' = { tmps := (A.tmps.setIfInBounds 103 (msgV x)).setIfInBounds 16 (.pointer (some ⟨Bx, 0, none⟩)), defers := [] })
              (fun x a' _ A' B' row hs hg hr => by
                obtain ⟨Bx, h0, h1, h2⟩ := hs
                exact ⟨Bx, h0, ownFrom_blk (β := Unit) _ _ _ _ _ () A' B' row h1 hg hr, h2⟩)
              ?_ ?_ ?_ ?_
            · rintro l' pre x W K ⟨h1, h6, h2, h3⟩ hK
              have HC := Lib.hid (And.intro h1 (And.intro h6 (And.intro h2 h3)))
              clear h1 h2 h3 h6
              rw [HA1.out]
              unfold encU msgV
              gi_wp2
              exact hK _ _ (keepsFrom_chg ((Chg.refl [] _).alloc _) (by simp)) (KpC.chg ((Chg.refl [] _).alloc _) (by simp)) ⟨HC.out.1, blk_alloc HC.out.2.1 _, blk_alloc HC.out.2.2.1 _, HC.out.2.2.2.kept ((Chg.refl [] _).alloc _) (by simp)⟩ ⟨W.heap.size, lt_of_blk HC.out.2.2.1, heap_alloc_eq _ _, by rw [HA1.out]; rfl⟩
            · rintro l' pre x a' W hl' ⟨r, hr⟩ ⟨hp, h6, h2, h3⟩ ⟨Bx, hBx, hX, rfl⟩ hlt
              have hltn : pre.length < n := by rw [HFw.out.1, HFw.out.2.2.1]; exact hlt
              obtain ⟨y, hy⟩ : ∃ y, l[pre.length]? = some y := ⟨_, List.getElem?_eq_getElem (by have h1 := HFw.out.1; omega)⟩
              obtain ⟨g, rfl, cy0, cy1⟩ := h3.cells HFw.out.1 hy
              have cn := cellB h2 (i := 0) (v := .int .i64 pre.length) rfl
              have fn := frozenB h2 0
              have c7 := cellB h3.l7 (i := 0) (v := .slice (some ⟨g, 0, none⟩) n cap) rfl
              have cx0 := cellB hX (i := 0) (v := .int .i64 x.1) rfl
              have cx1 := cellB hX (i := 1) (v := .int .i64 x.2) rfl
              have ct := cellB h3.t (i := 0) (v := .int .i64 1) rfl
              have cl := cellB h3.l5 (i := 0) (v := .int .i64 leave) rfl
              have cr := cellB h6 (i := 0) (v := .bool false) rfl
              have fr := frozenB h6 0
              have hpl : pre.length ≤ 32 := by have h1 := HFw.out.2.1; have h2 := HFw.out.1; omega
              obtain ⟨y1, y2⟩ := y
              obtain ⟨x1, x2⟩ := x
              dsimp only at cy0 cy1 cx0 cx1
              have HC := Lib.hid (And.intro hp (And.intro h6 (And.intro h2 (And.intro h3 hy))))
              have hlt3 := h3.lt
              clear hp h6 h2 h3 hy hX hr
              rw [HA1.out]
              simp only [msgV, List.setIfInBounds_toArray, List.set_cons_succ, List.set_cons_zero]
              have hdn : decide ((n : Int) ≤ (pre.length : Int)) = false := by simp; omega
              have hdn' : decide (n ≤ pre.length) = false := by simp; omega
              have hz1 : (0 : Int) ≤ (pre.length : Int) ∧ (pre.length : Int) < (n : Int) := by omega
              have hne1 : ¬ b5 + 1 = bn1 := by omega
              have hne2 : ¬ bt1 = bn1 := by omega
              have hne3 : ¬ bn1 = b5 + 1 := by omega
              have hne4 : ¬ bn1 = bt1 := by omega
              have hne5 : ¬ b5 = bn1 := by omega
              clear hlt3
              by_cases hxy : x1 = y1 ∧ x2 = y2
              · obtain ⟨rfl, rfl⟩ := hxy
                have g1 : neqP x1 x2 x1 x2 = false := by simp [neqP]
                have hpre : pre ++ [(x1, x2)] <+: l := by
                  obtain ⟨r, hr⟩ := HC.out.1
                  have := HC.out.2.2.2.2
                  rw [← hr, List.getElem?_append_right (Nat.le_refl _), Nat.sub_self] at this
                  cases r with
                  | nil => cases this
                  | cons z r => simp at this; subst this; exact ⟨r, by rw [← hr]; simp⟩
                have HPre := Lib.hid hpre
                clear hpre
                have HF := Lib.hid (And.intro ct (And.intro cl (And.intro cr (And.intro fr fn))))
                clear ct cl cr fr fn
                gi_wp2_with fail
                refine region_round (S := fun w' => w'.cell? ⟨bn1, 0, none⟩ = some (.int .i64 pre.length) ∧ w'.cell? ⟨b7, 0, none⟩ = some (.slice (some ⟨g, 0, none⟩) n cap) ∧ w'.cell? ⟨Bx, 0, none⟩ = some (.int .i64 x1) ∧ w'.cell? ⟨Bx, 1, none⟩ = some (.int .i64 x2) ∧ w'.cell? ⟨g, pre.length * 2, none⟩ = some (.int .i64 x1) ∧ w'.cell? ⟨g, pre.length * 2 + 1, none⟩ = some (.int .i64 x2)) (by kernel_rfl) (by rintro ⟨_, _, h⟩; exact h) (by kernel_rfl) ⟨cn, c7, cx0, cx1, cy0, cy1⟩ (fun hS => ?_)
                refine wpAnyH_take (i := 0) (v := ?_) (by simp only [List.getElem?_toArray, List.getElem?_cons_zero]; rfl) (by kernel_rfl) (by kernel_rfl) (by kernel_rfl) (by exact fun _ _ _ h => h) (Or.inl ⟨by kernel_rfl, ?_⟩) hS ?_
                case refine_2 => ((intro w hSw; (try dsimp only at hSw); go_simp) <;> with_reducible rfl)
                try simp only [Act.put, List.setIfInBounds_toArray, List.set_cons_zero, List.set_cons_succ]
                refine wpAnyH_take (i := 1) (v := ?_) (by simp only [List.getElem?_toArray, List.getElem?_cons_succ, List.getElem?_cons_zero]; rfl) (by kernel_rfl) (by kernel_rfl) (by kernel_rfl) (by exact fun _ _ _ h => h) (Or.inl ⟨by kernel_rfl, ?_⟩) hS ?_
                case refine_2 => ((intro w hSw; (try dsimp only at hSw); go_simp) <;> with_reducible rfl)
                try simp only [Act.put, List.setIfInBounds_toArray, List.set_cons_zero, List.set_cons_succ]
                refine wpAnyH_take (i := 2) (v := ?_) (by simp only [List.getElem?_toArray, List.getElem?_cons_succ, List.getElem?_cons_zero]; rfl) (by kernel_rfl) (by kernel_rfl) (by kernel_rfl) (by exact fun _ _ _ h => h) (Or.inl ⟨by kernel_rfl, ?_⟩) hS ?_
                case refine_2 => ((intro w hSw; (try dsimp only at hSw); go_simp) <;> with_reducible rfl)
                try simp only [Act.put, List.setIfInBounds_toArray, List.set_cons_zero, List.set_cons_succ]
                refine wpAnyH_take (i := 3) (v := ?_) (by simp only [List.getElem?_toArray, List.getElem?_cons_succ, List.getElem?_cons_zero]; rfl) (by kernel_rfl) (by kernel_rfl) (by kernel_rfl) (by exact fun _ _ _ h => h) (Or.inl ⟨by kernel_rfl, ?_⟩) hS ?_
                case refine_2 => ((intro w hSw; (try dsimp only at hSw); go_simp) <;> with_reducible rfl)
                try simp only [Act.put, List.setIfInBounds_toArray, List.set_cons_zero, List.set_cons_succ]
                refine wpAnyH_take (i := 4) (v := ?_) (by simp only [List.getElem?_toArray, List.getElem?_cons_succ, List.getElem?_cons_zero]; rfl) (by kernel_rfl) (by kernel_rfl) (by kernel_rfl) (by exact fun _ _ _ h => h) (Or.inl ⟨by kernel_rfl, ?_⟩) hS ?_
                case refine_2 => ((intro w hSw; (try dsimp only at hSw); go_simp) <;> with_reducible rfl)
                try simp only [Act.put, List.setIfInBounds_toArray, List.set_cons_zero, List.set_cons_succ]
                refine wpAnyH_take (i := 5) (v := ?_) (by simp only [List.getElem?_toArray, List.getElem?_cons_succ, List.getElem?_cons_zero]; rfl) (by kernel_rfl) (by kernel_rfl) (by kernel_rfl) (by exact fun _ _ _ h => h) (Or.inl ⟨by kernel_rfl, ?_⟩) hS ?_
                case refine_2 => ((intro w hSw; (try dsimp only at hSw); go_simp) <;> with_reducible rfl)
                try simp only [Act.put, List.setIfInBounds_toArray, List.set_cons_zero, List.set_cons_succ]
                refine wpAnyH_take (i := 6) (v := ?_) (by simp only [List.getElem?_toArray, List.getElem?_cons_succ, List.getElem?_cons_zero]; rfl) (by kernel_rfl) (by kernel_rfl) (by kernel_rfl) (by exact fun _ _ _ h => h) (Or.inl ⟨by kernel_rfl, ?_⟩) hS ?_
                case refine_2 => ((intro w hSw; (try dsimp only at hSw); go_simp) <;> with_reducible rfl)
                try simp only [Act.put, List.setIfInBounds_toArray, List.set_cons_zero, List.set_cons_succ]
                refine wpAnyH_take (i := 7) (v := ?_) (by simp only [List.getElem?_toArray, List.getElem?_cons_succ, List.getElem?_cons_zero]; rfl) (by kernel_rfl) (by kernel_rfl) (by kernel_rfl) (by exact fun _ _ _ h => h) (Or.inl ⟨by kernel_rfl, ?_⟩) hS ?_
                case refine_2 => ((intro w hSw; (try dsimp only at hSw); go_simp) <;> with_reducible rfl)
                try simp only [Act.put, List.setIfInBounds_toArray, List.set_cons_zero, List.set_cons_succ]
                refine wpAnyH_take (i := 8) (v := ?_) (by simp only [List.getElem?_toArray, List.getElem?_cons_succ, List.getElem?_cons_zero]; rfl) (by kernel_rfl) (by kernel_rfl) (by kernel_rfl) (by exact fun _ _ _ h => h) (Or.inl ⟨by kernel_rfl, ?_⟩) hS ?_
                case refine_2 => ((intro w hSw; (try dsimp only at hSw); go_simp) <;> with_reducible rfl)
                try simp only [Act.put, List.setIfInBounds_toArray, List.set_cons_zero, List.set_cons_succ]
                refine wpAnyH_take (i := 9) (v := ?_) (by simp only [List.getElem?_toArray, List.getElem?_cons_succ, List.getElem?_cons_zero]; rfl) (by kernel_rfl) (by kernel_rfl) (by kernel_rfl) (by exact fun _ _ _ h => h) (Or.inl ⟨by kernel_rfl, ?_⟩) hS ?_
                case refine_2 => ((intro w hSw; (try dsimp only at hSw); go_simp) <;> with_reducible rfl)
                try simp only [Act.put, List.setIfInBounds_toArray, List.set_cons_zero, List.set_cons_succ]
                refine wpAnyH_take (i := 10) (v := ?_) (by simp only [List.getElem?_toArray, List.getElem?_cons_succ, List.getElem?_cons_zero]; rfl) (by kernel_rfl) (by kernel_rfl) (by kernel_rfl) (by exact fun _ _ _ h => h) (Or.inl ⟨by kernel_rfl, ?_⟩) hS ?_
                case refine_2 => ((intro w hSw; (try dsimp only at hSw); go_simp) <;> with_reducible rfl)
                try simp only [Act.put, List.setIfInBounds_toArray, List.set_cons_zero, List.set_cons_succ]
                refine wpAnyH_take (i := 11) (v := ?_) (by simp only [List.getElem?_toArray, List.getElem?_cons_succ, List.getElem?_cons_zero]; rfl) (by kernel_rfl) (by kernel_rfl) (by kernel_rfl) (by exact fun _ _ _ h => h) (Or.inl ⟨by kernel_rfl, ?_⟩) hS ?_
                case refine_2 => ((intro w hSw; (try dsimp only at hSw); go_simp) <;> with_reducible rfl)
                try simp only [Act.put, List.setIfInBounds_toArray, List.set_cons_zero, List.set_cons_succ]
                refine wpAnyH_done (by kernel_rfl) ?_ _
                obtain ⟨ct, cl, cr, fr, fn⟩ := HF.out
                clear hS
                have hst : Chg [bn1] W ((W.setCell ⟨bn1, 0, none⟩ (.int .i64 ((pre.length : Int) + 1))).drew) := ((Chg.refl _ _).setCell _ _ (by simp)).drew
                have HP := Lib.hid (And.intro HPre.out (And.intro hst (And.intro (show (((pre ++ [(x1, x2)]).length : Nat) : Int) = (pre.length : Int) + 1 by simp) (show ∀ k ∈ [bn1], ∀ o, W.heap[k]? = some o → o.isCells = true from fun k hk o ho => by
                  simp at hk
                  subst hk
                  rw [HC.out.2.2.1] at ho; cases ho; rfl))))
                clear hst
                gi_wp2
                exact ⟨keepsFrom_chg HP.out.2.1 HP.out.2.2.2, KpC.chg HP.out.2.1 (by simp), HP.out.1, HP.out.2.1.blk HC.out.2.1 (by have := HC.out.2.2.2.1.lt; simp; omega), by rw [HP.out.2.2.1]; exact blk_setCell HC.out.2.2.1 _, HC.out.2.2.2.1.kept HP.out.2.1 (by simp)⟩
              · have hnp : ¬ pre ++ [(x1, x2)] <+: l := by
                  rintro ⟨r, hr⟩
                  have := HC.out.2.2.2.2
                  rw [← hr, List.append_assoc, List.getElem?_append_right (Nat.le_refl _), Nat.sub_self] at this
                  simp at this
                  exact hxy this
                have HP := Lib.hid hnp
                have g1 : neqP x1 x2 y1 y2 = true := decide_eq_true hxy
                clear hnp hxy
                have HF := Lib.hid (And.intro cr fr)
                clear ct cl cr fr fn
                gi_wp2_with fail
                refine region_round (S := fun w' => w'.cell? ⟨bn1, 0, none⟩ = some (.int .i64 pre.length) ∧ w'.cell? ⟨b7, 0, none⟩ = some (.slice (some ⟨g, 0, none⟩) n cap) ∧ w'.cell? ⟨Bx, 0, none⟩ = some (.int .i64 x1) ∧ w'.cell? ⟨Bx, 1, none⟩ = some (.int .i64 x2) ∧ w'.cell? ⟨g, pre.length * 2, none⟩ = some (.int .i64 y1) ∧ w'.cell? ⟨g, pre.length * 2 + 1, none⟩ = some (.int .i64 y2)) (by kernel_rfl) (by rintro ⟨_, _, h⟩; exact h) (by kernel_rfl) ⟨cn, c7, cx0, cx1, cy0, cy1⟩ (fun hS => ?_)
                refine wpAnyH_take (i := 0) (v := ?_) (by simp only [List.getElem?_toArray, List.getElem?_cons_zero]; rfl) (by kernel_rfl) (by kernel_rfl) (by kernel_rfl) (by exact fun _ _ _ h => h) (Or.inl ⟨by kernel_rfl, ?_⟩) hS ?_
                case refine_2 => ((intro w hSw; (try dsimp only at hSw); go_simp) <;> with_reducible rfl)
                try simp only [Act.put, List.setIfInBounds_toArray, List.set_cons_zero, List.set_cons_succ]
                refine wpAnyH_take (i := 1) (v := ?_) (by simp only [List.getElem?_toArray, List.getElem?_cons_succ, List.getElem?_cons_zero]; rfl) (by kernel_rfl) (by kernel_rfl) (by kernel_rfl) (by exact fun _ _ _ h => h) (Or.inl ⟨by kernel_rfl, ?_⟩) hS ?_
                case refine_2 => ((intro w hSw; (try dsimp only at hSw); go_simp) <;> with_reducible rfl)
                try simp only [Act.put, List.setIfInBounds_toArray, List.set_cons_zero, List.set_cons_succ]
                refine wpAnyH_take (i := 2) (v := ?_) (by simp only [List.getElem?_toArray, List.getElem?_cons_succ, List.getElem?_cons_zero]; rfl) (by kernel_rfl) (by kernel_rfl) (by kernel_rfl) (by exact fun _ _ _ h => h) (Or.inl ⟨by kernel_rfl, ?_⟩) hS ?_
                case refine_2 => ((intro w hSw; (try dsimp only at hSw); go_simp) <;> with_reducible rfl)
                try simp only [Act.put, List.setIfInBounds_toArray, List.set_cons_zero, List.set_cons_succ]
                refine wpAnyH_take (i := 3) (v := ?_) (by simp only [List.getElem?_toArray, List.getElem?_cons_succ, List.getElem?_cons_zero]; rfl) (by kernel_rfl) (by kernel_rfl) (by kernel_rfl) (by exact fun _ _ _ h => h) (Or.inl ⟨by kernel_rfl, ?_⟩) hS ?_
                case refine_2 => ((intro w hSw; (try dsimp only at hSw); go_simp) <;> with_reducible rfl)
                try simp only [Act.put, List.setIfInBounds_toArray, List.set_cons_zero, List.set_cons_succ]
                refine wpAnyH_take (i := 4) (v := ?_) (by simp only [List.getElem?_toArray, List.getElem?_cons_succ, List.getElem?_cons_zero]; rfl) (by kernel_rfl) (by kernel_rfl) (by kernel_rfl) (by exact fun _ _ _ h => h) (Or.inl ⟨by kernel_rfl, ?_⟩) hS ?_
                case refine_2 => ((intro w hSw; (try dsimp only at hSw); go_simp) <;> with_reducible rfl)
                try simp only [Act.put, List.setIfInBounds_toArray, List.set_cons_zero, List.set_cons_succ]
                refine wpAnyH_take (i := 5) (v := ?_) (by simp only [List.getElem?_toArray, List.getElem?_cons_succ, List.getElem?_cons_zero]; rfl) (by kernel_rfl) (by kernel_rfl) (by kernel_rfl) (by exact fun _ _ _ h => h) (Or.inl ⟨by kernel_rfl, ?_⟩) hS ?_
                case refine_2 => ((intro w hSw; (try dsimp only at hSw); go_simp) <;> with_reducible rfl)
                try simp only [Act.put, List.setIfInBounds_toArray, List.set_cons_zero, List.set_cons_succ]
                refine wpAnyH_take (i := 6) (v := ?_) (by simp only [List.getElem?_toArray, List.getElem?_cons_succ, List.getElem?_cons_zero]; rfl) (by kernel_rfl) (by kernel_rfl) (by kernel_rfl) (by exact fun _ _ _ h => h) (Or.inl ⟨by kernel_rfl, ?_⟩) hS ?_
                case refine_2 => ((intro w hSw; (try dsimp only at hSw); go_simp) <;> with_reducible rfl)
                try simp only [Act.put, List.setIfInBounds_toArray, List.set_cons_zero, List.set_cons_succ]
                refine wpAnyH_take (i := 7) (v := ?_) (by simp only [List.getElem?_toArray, List.getElem?_cons_succ, List.getElem?_cons_zero]; rfl) (by kernel_rfl) (by kernel_rfl) (by kernel_rfl) (by exact fun _ _ _ h => h) (Or.inl ⟨by kernel_rfl, ?_⟩) hS ?_
                case refine_2 => ((intro w hSw; (try dsimp only at hSw); go_simp) <;> with_reducible rfl)
                try simp only [Act.put, List.setIfInBounds_toArray, List.set_cons_zero, List.set_cons_succ]
                refine wpAnyH_take (i := 8) (v := ?_) (by simp only [List.getElem?_toArray, List.getElem?_cons_succ, List.getElem?_cons_zero]; rfl) (by kernel_rfl) (by kernel_rfl) (by kernel_rfl) (by exact fun _ _ _ h => h) (Or.inl ⟨by kernel_rfl, ?_⟩) hS ?_
                case refine_2 => ((intro w hSw; (try dsimp only at hSw); go_simp) <;> with_reducible rfl)
                try simp only [Act.put, List.setIfInBounds_toArray, List.set_cons_zero, List.set_cons_succ]
                refine wpAnyH_take (i := 9) (v := ?_) (by simp only [List.getElem?_toArray, List.getElem?_cons_succ, List.getElem?_cons_zero]; rfl) (by kernel_rfl) (by kernel_rfl) (by kernel_rfl) (by exact fun _ _ _ h => h) (Or.inl ⟨by kernel_rfl, ?_⟩) hS ?_
                case refine_2 => ((intro w hSw; (try dsimp only at hSw); go_simp) <;> with_reducible rfl)
                try simp only [Act.put, List.setIfInBounds_toArray, List.set_cons_zero, List.set_cons_succ]
                refine wpAnyH_take (i := 10) (v := ?_) (by simp only [List.getElem?_toArray, List.getElem?_cons_succ, List.getElem?_cons_zero]; rfl) (by kernel_rfl) (by kernel_rfl) (by kernel_rfl) (by exact fun _ _ _ h => h) (Or.inl ⟨by kernel_rfl, ?_⟩) hS ?_
                case refine_2 => ((intro w hSw; (try dsimp only at hSw); go_simp) <;> with_reducible rfl)
                try simp only [Act.put, List.setIfInBounds_toArray, List.set_cons_zero, List.set_cons_succ]
                refine wpAnyH_take (i := 11) (v := ?_) (by simp only [List.getElem?_toArray, List.getElem?_cons_succ, List.getElem?_cons_zero]; rfl) (by kernel_rfl) (by kernel_rfl) (by kernel_rfl) (by exact fun _ _ _ h => h) (Or.inl ⟨by kernel_rfl, ?_⟩) hS ?_
                case refine_2 => ((intro w hSw; (try dsimp only at hSw); go_simp) <;> with_reducible rfl)
                try simp only [Act.put, List.setIfInBounds_toArray, List.set_cons_zero, List.set_cons_succ]
                refine wpAnyH_done (by kernel_rfl) ?_ _
                obtain ⟨cr, fr⟩ := HF.out
                clear hS
                gi_wp2
                exact ⟨keepsFrom_chg (S := [b5 + 1]) ((((Chg.refl _ _).setCell _ _ (by simp)) : Chg [b5 + 1] W (W.setCell ⟨b5 + 1, 0, none⟩ (.bool false))).drew) (by
                  intro k hk o ho
                  simp at hk
                  subst hk
                  rw [HC.out.2.1] at ho; cases ho; rfl), ⟨rfl, HP.out⟩⟩
            · rintro D2 xs W2 hD2 hxs ⟨h1, h6, h2, h3⟩ hdef2
              have hxl : xs.length = n := by rw [hxs, HFw.out.1, HFw.out.2.2.1]
              rw [hxl] at h2
              have cn := cellB h2 (i := 0) (v := .int .i64 n) rfl
              have c7 := cellB h3.l7 (i := 0) (v := .slice a n cap) rfl
              have ct := cellB h3.t (i := 0) (v := .int .i64 1) rfl
              have cl := cellB h3.l5 (i := 0) (v := .int .i64 leave) rfl
              have en : ((n : Int) != (n : Int)) = false := by simp
              have cr := cellB h6 (i := 0) (v := .bool false) rfl
              have fr := frozenB h6 0
              have HC2 := Lib.hid (And.intro h6 (And.intro h2 (And.intro h3 (And.intro hdef2 hD2))))
              have hl8 := lt_of_blk h6
              have hne8 : ¬ W2.heap.size = b5 + 1 := by omega
              have hne9 : ¬ b5 + 1 = W2.heap.size := by omega
              clear h1 h6 h2 h3 hdef2 hD2 hxs hxl
              rw [HA1.out]
              gi_wp2
              go_wp2
              rw [rounds_succ]
              go_wp2
              obtain ⟨WF, hWF⟩ : ∃ WF, WF = ((W2.setCell ⟨b5 + 1, 0, none⟩ (.bool true)).alloc (.cells #[.int .i64 2] 3 (0, 0))) := ⟨_, rfl⟩
              have l := HC2.out.2.2.1.lt
              have hdl := HC2.out.2.2.1.dl D (by simp)
              have hD2 := HC2.out.2.2.2.2
              have hnB := HQ1.out.2.2.2.2.1
              have hDg := HDb.out
              have nD2 : D2 ≠ b5 + 1 := fun e => by
                have h1 := HC2.out.2.2.2.1
                rw [e, HC2.out.1] at h1
                cases h1
              have hCF : Chg [b5 + 1] W2 WF := by rw [hWF]; exact ((Chg.refl _ _).setCell _ _ (by simp)).alloc _
              have hF8 : WF.heap[b5 + 1]? = some (.cells #[.bool true] 4 (0, 0)) := by rw [hWF]; exact blk_alloc (blk_setCell HC2.out.1 _) _
              have hF2 : WF.heap[D2]? = some (.deferred (some [])) := hCF.blk HC2.out.2.2.2.1 (by simpa using nD2)
              have hF1 : WF.heap[D]? = some (.deferred (some [])) := hCF.blk (HC2.out.2.2.1.df D (by simp)) (by simpa using hdl.2)
              have hCG : Chg [D2] WF (WF.putObj D2 (.deferred none)) := (Chg.refl [D2] WF).setBlock D2 _ (by simp)
              have hDD : D ≠ D2 := by omega
              have hG1 := hCG.blk hF1 (by simpa using hDD)
              have hCH : Chg [D] (WF.putObj D2 (.deferred none)) ((WF.putObj D2 (.deferred none)).putObj D (.deferred none)) := (Chg.refl [D] _).setBlock D _ (by simp)
              have hH6 := cellB (hCH.blk (hCG.blk hF8 (by simpa using fun e => nD2 e.symm)) (by simpa using fun e => hdl.2 e.symm)) (i := 0) rfl
              have hch := HC2.out.2.2.1.ch
              rw [← hWF]
              refine ⟨by simp, .inl ⟨_, _, rfl, run_takeDeferred hF2, ?_⟩⟩
              refine ⟨by simp, .inl ⟨_, _, rfl, run_takeDeferred hG1, ?_⟩⟩
              refine ⟨.bool true, ?_, rfl, ((hch.trans' hCF (fun x hx => .inr (by simp at hx; omega))).trans' hCG (fun x hx => .inr (by simp at hx; omega))).trans' hCH (fun x hx => .inr (by simp at hx; omega))⟩
              simp [results, Tryz.results12, go_sem, hH6]
            · rintro D2 c pre W2 hD2 hp hS hdef2
              rw [← HFw.out.2.2.1] at hp
              exact absurd hp hS.2

end Go.Proofs.YtiiafhlckmkcnaaGreat
