
/- metronomelaw09.stands: the two lists tell the same. -/
import Derived.Test.YtohkjiibjljmmaaDob
import Derived.Deep.RegionHeld3
import Derived.Sort.CutIn
namespace Go.Proofs.Ytohkjiibjljmmaa
open Go.RowKit Go.Shelf
attribute [local go_sem] Oper.semAt_some

theorem eql_seq_nil (f : Fn) (a b : Array Value) (w : World) : (binOp .eql 71 (.func f a b) .nilFunc).run Try.prog w = .ok (.bool false) w := by
  kernel_rfl

theorem wpIn_act {C : Code} {F : Fence} {n : Nat} {P : Program} {Q : Exit → Act → World → Prop} {a : Act} {w : World} (h : ∀ A : Act, A = a → C.wpIn F n P Q A w) : C.wpIn F n P Q a w := h a rfl

/-- What stands in memory while the list is gone over; all of it below block B0. -/
structure Sd (w : World) (ab mb : Nat) (N : Int) (L : WL) (bc b5 b6 b7 bt : Nat) (leave tau : Int) (va : Option Addr) (vc n : Nat) (Ds : List Nat) (B0 : Nat) (W : World) : Prop where
  WA : WAt W ab mb N L
  cb : W.heap[bc]? = some (.cells #[.pointer (some ⟨ab, 0, none⟩)] 24 (0, 0))
  l5 : W.heap[b5]? = some (.cells #[.int .i64 leave] 3 (0, 0))
  w7 : W.heap[b7]? = some (.cells #[.slice va n vc] 40 (0, 0))
  own : W.ownsRow 0 68 2 (.slice va n vc) n (flatW (ordL L))
  t : W.heap[bt]? = some (.cells #[.int .i64 tau] 3 (0, 0))
  ch : Chg [] w W
  lt : w.heap.size ≤ b6 ∧ ab < B0 ∧ mb < B0 ∧ bc < B0 ∧ b5 < B0 ∧ b6 < B0 ∧ b7 < B0 ∧ bt < B0 ∧ ab ≠ b6 ∧ mb ≠ b6 ∧ bc ≠ b6 ∧ b5 ≠ b6 ∧ b7 ≠ b6 ∧ bt ≠ b6 ∧ w.heap.size ≤ B0
  og : ∀ k ∈ (Value.slice va n vc).ownBlock.toList, k < B0 ∧ k ≠ b6
  df : ∀ k ∈ Ds, W.heap[k]? = some (.deferred (some []))
  dl : ∀ k ∈ Ds, k < B0 ∧ k ≠ b6
theorem Sd.kept {w : World} {ab mb : Nat} {N : Int} {L : WL} {bc b5 b6 b7 bt : Nat} {leave tau : Int} {va : Option Addr} {vc n B0 : Nat} {Ds : List Nat} {W W' : World} {S : List Nat} (h : Sd w ab mb N L bc b5 b6 b7 bt leave tau va vc n Ds B0 W) (hC : Chg S W W') (hS : ∀ k ∈ S, B0 ≤ k ∨ k = b6) : Sd w ab mb N L bc b5 b6 b7 bt leave tau va vc n Ds B0 W' := by
  have l := h.lt
  have hn : ∀ j, j < B0 → j ≠ b6 → j ∉ S := fun j hj hne hm => by rcases hS j hm with h1 | h1; omega; exact hne h1
  exact ⟨h.WA.kept hC (hn _ l.2.1 (by omega)) (hn _ l.2.2.1 (by omega)), hC.blk h.cb (hn _ (by omega) (by omega)), hC.blk h.l5 (hn _ (by omega) (by omega)), hC.blk h.w7 (hn _ (by omega) (by omega)),
    own_kept h.own hC (fun k hk hm => hn k (h.og k hm).1 (h.og k hm).2 hk), hC.blk h.t (hn _ (by omega) (by omega)), h.ch.trans' hC (fun k hk => by rcases hS k hk with h1 | h1 <;> omega), h.lt, h.og, fun k hk => hC.blk (h.df k hk) (hn k (h.dl k hk).1 (h.dl k hk).2), h.dl⟩

/-- The next turn: a variable of its own, the marks kept. -/
theorem Sd.next {w : World} {ab mb : Nat} {N : Int} {L : WL} {bc b5 b6 b7 bt : Nat} {leave tau : Int} {va : Option Addr} {vc n B0 : Nat} {Ds : List Nat} {W W' : World} (h : Sd w ab mb N L bc b5 b6 b7 bt leave tau va vc n Ds B0 W) (hC : Chg [] W W') (bt' D : Nat) (tau' : Int)
    (ht : W'.heap[bt']? = some (.cells #[.int .i64 tau'] 3 (0, 0))) (hD : W.heap[D]? = some (.deferred (some []))) (hne : bt' ≠ b6) (hDne : D ≠ b6) (hB : B0 ≤ W'.heap.size) : Sd w ab mb N L bc b5 b6 b7 bt' leave tau' va vc n (D :: Ds) W'.heap.size W' := by
  have k := h.kept hC (by simp)
  have l := h.lt
  have l1 := lt_of_blk ht
  have l2 := lt_of_blk (hC.blk hD (by simp))
  refine ⟨k.WA, k.cb, k.l5, k.w7, k.own, ht, k.ch, by omega, fun j hj => ⟨Nat.lt_of_lt_of_le (k.og j hj).1 hB, (k.og j hj).2⟩, fun j hj => ?_, fun j hj => ?_⟩
  · rcases List.mem_cons.1 hj with rfl | hj
    · exact hC.blk hD (by simp)
    · exact k.df j hj
  · rcases List.mem_cons.1 hj with rfl | hj
    · exact ⟨l2, hDne⟩
    · exact ⟨Nat.lt_of_lt_of_le (k.dl j hj).1 hB, (k.dl j hj).2⟩


theorem all1_stopsW (S : List Nat) (Ts : List TypeId) (hT1 : 3 ∉ Ts) (hT2 : 24 ∉ Ts) (hT3 : 55 ∉ Ts) (bw ab mb : Nat) (N : Int) (L : WL) (w : World) (hS : ∀ k ∈ S, k < w.heap.size) (hbw : w.heap[bw]? = some (.cells #[.pointer (some ⟨ab, 0, none⟩)] 24 (0, 0)))
    (hW : WAt w ab mb N L) (h1 : bw ∉ S) (h2 : ab ∉ S) (h3 : mb ∉ S) :
    SeqStopsK Fence.wide 4 Try.prog 53 #[.pointer (some ⟨bw, 0, none⟩)] encW (KpS S Ts) (fun xs => xs = ordL L) (fun pre => pre <+: ordL L) (ordL L).length w := by
  obtain ⟨n, L1, h, rfl, hn⟩ := hW
  exact all1_stops S Ts hT1 hT2 hT3 bw ab mb n L1 w hS hbw h h1 h2 h3

set_option maxRecDepth 100000 in
set_option maxHeartbeats 32000000 in
theorem stands09 (ab mb rb : Nat) (N : Int) (L : WL) (leave : Int) (w : World) (hW : WAt w ab mb N L) (hR : RAt w rb L) :
    Calls Try.prog 18 #[.pointer (some ⟨ab, 0, none⟩), .pointer (some ⟨rb, 0, none⟩), .int .i64 leave] w fun e w' => e = .returned (.bool true) ∧ Chg [] w w' := by
  have hlen : (ordT L).length ≤ 16 := by unfold ordT; rw [List.length_map, ordT_len hW.lok]; exact hW.facts.2.2
  have hlo : (ordL L).length = L.length := ordT_len hW.lok
  have hC0 : Chg [] w ((w.alloc (.cells #[.int .i64 leave] 3)).alloc (.cells #[.bool false] 4)) := ((Chg.refl [] w).alloc _).alloc _
  have b5 : ((w.alloc (.cells #[.int .i64 leave] 3)).alloc (.cells #[.bool false] 4)).heap[w.heap.size]? = some (.cells #[.int .i64 leave] 3 (0, 0)) := blk_alloc (heap_alloc_eq w _) _
  have b6 : ((w.alloc (.cells #[.int .i64 leave] 3)).alloc (.cells #[.bool false] 4)).heap[w.heap.size + 1]? = some (.cells #[.bool false] 4 (0, 0)) := by
    have := heap_alloc_eq (w.alloc (.cells #[.int .i64 leave] 3)) (.cells #[.bool false] 4); rwa [World.size_alloc] at this
  have H := Lib.hid (And.intro hW (And.intro hR (And.intro hlen (And.intro hW.facts.2.2 (And.intro hW.lok hlo)))))
  have H0 := Lib.hid (And.intro hC0 (And.intro b5 b6))
  clear hW hR hlen hlo hC0 b5 b6
  refine (callsIn_wide (n := 8)).1 ?_
  refine callsIn_of_wp_marks Try.func18 rfl trivial ?_ rfl
  simp only [Try.ntmps18, List.size_toArray, List.length_cons, List.length_nil, Nat.reduceAdd, Nat.reduceSub, Array.replicate_succ, Array.replicate_zero, List.push_toArray, List.append_toArray, List.nil_append, List.cons_append]
  refine wpIn_wide.2 ?_
  go_wp2_with fail
  refine (rorderc rb L _ (H.out.2.1.calm H0.out.1) (by have := H.out.2.2.2.1; omega)).mono ?_
  rintro e w1 ⟨vw, rfl, how, hC⟩
  have hpw := IsPairs.of_own how
  obtain ⟨va, vc, rfl⟩ := own_slice how
  have hCw : Chg [] w1 (w1.alloc (.cells #[.slice va (ordL L).length vc] 40)) := (Chg.refl _ _).alloc _
  have b7 := heap_alloc_eq w1 (.cells #[.slice va (ordL L).length vc] 40)
  have hB0 : w.heap.size + 1 + 1 ≤ w1.heap.size := by have := hC.size; simpa using this
  obtain ⟨n, hn⟩ : ∃ n, n = (ordL L).length := ⟨_, rfl⟩
  rw [← hn] at b7 hCw
  have how' : w1.ownsRow ((w.alloc (.cells #[.int .i64 leave] 3)).alloc (.cells #[.bool false] 4)).heap.size 68 2 (.slice va n vc) n (flatW (ordL L)) := by rw [hn]; exact how
  have hog : ∀ k ∈ (Value.slice va n vc).ownBlock.toList, w.heap.size + 1 < k ∧ k < w1.heap.size := fun k hk => by
    obtain ⟨cs, hcs⟩ := own_cells how' k hk
    have h1 := own_ge how' k hk
    have h2 := lt_of_blk hcs
    simp at h1
    omega
  have H1 := Lib.hid (And.intro (H0.out.1.trans (hC.trans hCw)) (And.intro ((hC.trans hCw).blk H0.out.2.1 (by simp)) (And.intro ((hC.trans hCw).blk H0.out.2.2 (by simp)) (And.intro b7 (And.intro (own_kept how' (hCw) (by simp)) (And.intro hB0 hn))))))
  rw [← hn]
  have HOg := Lib.hid hog
  clear how how' hog hpw hC hCw b7 hB0 hn H0
  go_wp2_with fail
  refine (firstc ab mb N L _ (H.out.1.kept H1.out.1 (by simp) (by simp))).mono ?_
  rintro e w2 ⟨rfl, hC⟩
  have H2 := Lib.hid hC
  clear hC
  go_wp2_with fail
  refine (rfirstc rb L _ ((H.out.2.1.calm H1.out.1).calm H2.out) (by have := H.out.2.2.2.1; omega)).mono ?_
  rintro e w3 ⟨rfl, hC⟩
  have H3 := Lib.hid (H2.out.trans hC)
  have b7 := H3.out.blk H1.out.2.2.2.1 (by simp)
  have c7 := cellB b7 (i := 0) rfl
  clear hC
  have e1 : (headT (ordL L) != headT (ordL L)) = false := by simp
  have e2 : (headB (ordL L) != headB (ordL L)) = false := by simp
  have e3 : ((n : Int) != (n : Int)) = false := by simp
  have HLn := Lib.hid (lenc ab mb N L w3.drew ((H.out.1.kept H1.out.1 (by simp) (by simp)).kept (H3.out.drew) (by simp) (by simp)))
  have HW3 := Lib.hid (And.intro (H.out.1.kept (H1.out.1.trans H3.out) (by simp) (by simp)) (And.intro (H.out.2.1.calm (H1.out.1.trans H3.out)) b7))
  clear b7
  go_wp2
  go_region_held3 (fun w' => w'.cell? ⟨w1.heap.size, 0, none⟩ = some (.slice va n vc)) (first | exact c7 | exact d7 | exact f7 | exact g7)
    (first
    | (go_at_call 13; refine HLn.out.mono ?_; rintro e w4 ⟨rfl, rfl⟩; rw [← H.out.2.2.2.2.2, ← H1.out.2.2.2.2.2.2])
    | (go_at_call 19; refine (listc ab mb N L _ (HW3.out.1.kept ((Chg.refl [] w3).drew) (by simp) (by simp))).mono ?_; rintro e w4 ⟨v1, rfl, ho1, hC⟩; have HO1 := Lib.hid ho1; have H4 := Lib.hid (show Chg [] w3 w4 from ⟨hC.os, hC.tape, hC.output, hC.size, hC.block⟩); clear hC ho1; have d7 := cellB (H4.out.blk HW3.out.2.2 (by simp)) (i := 0) rfl)
    | (go_at_call 42; refine (rlistc rb L w4 (HW3.out.2.1.calm H4.out) (by have := H.out.2.2.2.1; omega) H.out.2.2.2.2.1).mono ?_; rintro e w5 ⟨v2, rfl, ho2, hC⟩; have HO2 := Lib.hid (And.intro (IsInts.of_own (own_kept HO1.out hC (by simp))) (IsInts.of_own ho2)); have H5 := Lib.hid (H4.out.trans hC); clear hC ho2; have f7 := cellB (H5.out.blk HW3.out.2.2 (by simp)) (i := 0) rfl)
    | (go_at_call 22; refine (sameInts_any v1 v2 (ordT L) (ordT L) w5 HO2.out.1 HO2.out.2 (by have := H.out.2.2.1; omega) (by have := H.out.2.2.1; omega)).mono ?_; rintro e w6 ⟨rfl, hC⟩; rw [show decide (ordT L = ordT L) = true from decide_eq_true rfl]; have H6 := Lib.hid (H5.out.trans hC); clear hC; have g7 := cellB (H6.out.blk HW3.out.2.2 (by simp)) (i := 0) rfl))
  have HG := Lib.hid (H3.out.trans H6.out)
  clear c7 d7 f7 g7 H6 HLn H2 H3 HO1 HO2 H4 H5
  go_wp2
  go_loopw [12] (fun i wr => ∃ k : Nat, k ≤ 18 ∧ i = .int .i64 ((k : Int) - 1) ∧ Chg [] w6 wr) (fun i _ => (17 - intOf i).toNat)
  case atStart => exact ⟨0, by omega, rfl, Chg.refl _ _⟩
  case round =>
    obtain ⟨k, hk, rfl, hC⟩ := hrel
    have H7 := Lib.hid (And.intro (H.out.1.kept (H1.out.1.trans (HG.out.trans hC)) (by simp) (by simp)) (And.intro (H.out.2.1.calm (H1.out.1.trans (HG.out.trans hC))) hC))
    clear hC
    by_cases hlt : k < 18
    · go_wp2_with fail
      refine (prioc ab mb N L ((k : Int) - 1) wr H7.out.1).mono ?_
      rintro e w7 ⟨rfl, hC⟩
      have H8 := Lib.hid hC
      clear hC
      go_wp2_with fail
      refine (rpriocc rb L ((k : Int) - 1) w7 (H7.out.2.1.calm H8.out) (by have := H.out.2.2.2.1; omega)).mono ?_
      rintro e w8 ⟨rfl, rfl⟩
      have HH := Lib.hid (fun (W : World) (h : WAt W ab mb N L) => hasc ab mb N L ((k : Int) - 1) W h)
      generalize prioR L ((k : Int) - 1) = pr
      generalize hasR L ((k : Int) - 1) = hs at *
      have q1 : (pr != pr) = false := by simp
      have q2 : (hs != hs) = false := by simp
      go_wp2_with fail
      refine (HH.out w7 (H7.out.1.kept H8.out (by simp) (by simp))).mono ?_
      rintro e w9 ⟨rfl, hC⟩
      have H9 := Lib.hid (H7.out.2.2.trans (H8.out.trans hC))
      clear hC
      go_wp2
      go_roundw
      case rel => exact ⟨k + 1, by omega, by go_num, H9.out⟩
      case measure => simp [intOf]; omega
    · obtain rfl : k = 18 := by omega
      go_wp2_with fail
      refine (all_any _ _).mono ?_
      rintro e w7 ⟨rfl, rfl⟩
      have hnf := fun (W : World) => eql_seq_nil (.func 53) #[] #[.pointer (some ⟨wr.heap.size, 0, none⟩)] W
      go_wp2
      have hCa := ((Chg.refl [] wr).alloc (.cells #[.pointer (some ⟨ab, 0, none⟩)] 24)).alloc (.cells #[.int .i64 0] 3)
      have hba := blk_alloc (heap_alloc_eq wr (.cells #[.pointer (some ⟨ab, 0, none⟩)] 24)) (.cells #[.int .i64 0] 3)
      have hta := heap_alloc_eq (wr.alloc (.cells #[.pointer (some ⟨ab, 0, none⟩)] 24)) (.cells #[.int .i64 0] 3)
      rw [World.size_alloc] at hta
      have hlt := H.out.1.lt
      have hs1 : w1.heap.size < wr.heap.size := by have := (HG.out.trans H7.out.2.2).size; have := lt_of_blk H1.out.2.2.2.1; omega
      have hog := HOg.out
      have HSd := Lib.hid (show Sd w ab mb N L wr.heap.size w.heap.size (w.heap.size + 1) w1.heap.size (wr.heap.size + 1) leave 0 va vc n [] (wr.heap.size + 1 + 1) ((wr.alloc (.cells #[.pointer (some ⟨ab, 0, none⟩)] 24)).alloc (.cells #[.int .i64 0] 3)) from
        have hall := (HG.out.trans H7.out.2.2).trans hCa
        ⟨H7.out.1.kept hCa (by simp) (by simp), hba, hall.blk H1.out.2.1 (by simp), hall.blk H1.out.2.2.2.1 (by simp), own_mono (own_kept H1.out.2.2.2.2.1 hall (by simp)) (Nat.zero_le _), hta, H1.out.1.trans hall,
          by have := H1.out.2.2.2.2.2.1; omega, fun k hk => by have := hog k hk; omega, by simp, by simp⟩)
      have Hb6 := Lib.hid (((HG.out.trans H7.out.2.2).trans hCa).blk H1.out.2.2.1 (by simp))
      clear hCa hba hta hog hlt hs1
      have hsz : wr.heap.size + 1 + 1 = ((wr.alloc (.cells #[.pointer (some ⟨ab, 0, none⟩)] 24)).alloc (.cells #[.int .i64 0] 3)).heap.size := by simp
      rw [hsz] at HSd
      generalize ((wr.alloc (.cells #[.pointer (some ⟨ab, 0, none⟩)] 24)).alloc (.cells #[.int .i64 0] 3)) = W0 at *
      generalize wr.heap.size = bc at *
      generalize bc + 1 = bt at *
      generalize w1.heap.size = b7 at *
      have HN := Lib.hid H1.out.2.2.2.2.2.2
      have HFw := Lib.hid (And.intro H.out.2.2.2.2.2 H.out.2.2.2.1)
      clear H1 HW3 HG H7 hsz H HOg
      have ct := cellB HSd.out.t (i := 0) rfl
      have cl := cellB HSd.out.l5 (i := 0) rfl
      refine wp_loop_rounds 3 ?_
      rw [rounds_succ]
      go_wp2
      have hCn : Chg [] W0 (W0.alloc (.cells #[.int .i64 0] 3)) := (Chg.refl _ _).alloc _
      have hbn := heap_alloc_eq W0 (.cells #[.int .i64 0] 3)
      have hS1 := HSd.out.kept hCn (by simp)
      have hseq := all1_stopsW [W0.heap.size] [] (by simp) (by simp) (by simp) bc ab mb N L (W0.alloc (.cells #[.int .i64 0] 3)) (by simp) hS1.cb hS1.WA (by have := HSd.out.lt; simp; omega) (by have := HSd.out.lt; simp; omega) (by have := HSd.out.lt; simp; omega)
      have HQ := Lib.hid (And.intro hseq (And.intro hS1 (And.intro hbn (blk_alloc Hb6.out (.cells #[.int .i64 0] 3)))))
      clear hCn hbn hS1 hseq
      refine (wpIn_wide (n := 5)).1 ?_
      refine wpIn_act (fun A hA => ?_)
      have HA := Lib.hid hA
      refine wpIn_rangeFunc_ownH rfl (by omega) (gf := 53) (lb := #[.pointer (some ⟨bc, 0, none⟩)]) (by rw [hA]; rfl) trivial (enters_of Try.func53 (by kernel_rfl) rfl) HQ.out.1
        KpS.trans (fun W l o o' _ ho h1 h2 => KpS.put o' ho h1 h2) (Below.refl _ _) (fun _ => rfl)
        (fun pre W => pre <+: ordL L ∧ W.heap[w.heap.size + 1]? = some (.cells #[.bool false] 4 (0, 0)) ∧ W.heap[W0.heap.size]? = some (.cells #[.int .i64 pre.length] 3 (0, 0)) ∧ Sd w ab mb N L bc w.heap.size (w.heap.size + 1) b7 bt leave 0 va vc n [] W0.heap.size W)
        (fun c pre W => (c = .ret ∧ ¬ pre <+: ordL L) ∨ (c = .exit 4 ∧ (pre.length : Int) = leave ∧ W.heap[w.heap.size + 1]? = some (.cells #[.bool false] 4 (0, 0)) ∧ W.heap[W0.heap.size]? = some (.cells #[.int .i64 pre.length] 3 (0, 0)) ∧ Sd w ab mb N L bc w.heap.size (w.heap.size + 1) b7 bt leave 0 va vc n [] W0.heap.size W))
        (fun s A B row hs hg hr => ⟨hs.1, ownFrom_blk (β := Unit) _ _ _ _ _ () A B row hs.2.1 hg hr, ownFrom_blk (β := Unit) _ _ _ _ _ () A B row hs.2.2.1 hg hr, hs.2.2.2.kept (Chg.of_grown (S := row.toList) hg (fun k hk => by simp [hk])) (fun k hk => by have := (hr k (by simpa using hk)).1; simp at this; omega)⟩)
        (fun c s A B row hs hg hr => by
          rcases hs with h | ⟨h1, h2, h6, h3, h4⟩
          · exact .inl h
          · exact .inr ⟨h1, h2, ownFrom_blk (β := Unit) _ _ _ _ _ () A B row h6 hg hr, ownFrom_blk (β := Unit) _ _ _ _ _ () A B row h3 hg hr, h4.kept (Chg.of_grown (S := row.toList) hg (fun k hk => by simp [hk])) (fun k hk => by have := (hr k (by simpa using hk)).1; simp at this; omega)⟩)
        ⟨List.nil_prefix, HQ.out.2.2.2, HQ.out.2.2.1, HQ.out.2.1⟩
        (fun x a' W => ∃ Bx, W0.heap.size < Bx ∧ W.heap[Bx]? = some (.cells #[.int .i64 x.1, .int .i64 x.2] 68 (0, 0)) ∧ a' = { tmps := (A.tmps.setIfInBounds 96 (.agg #[.int .i64 x.1, .int .i64 x.2])).setIfInBounds 20 (.pointer (some ⟨Bx, 0, none⟩)), defers := [] })
        (fun x a' _ A B row hs hg hr => by
          obtain ⟨Bx, h1, h2, h3⟩ := hs
          exact ⟨Bx, h1, ownFrom_blk (β := Unit) _ _ _ _ _ () A B row h2 hg hr, h3⟩)
        ?_ ?_ ?_ ?_
      · rintro l pre x W K ⟨h1, h6, h2, h3⟩ hK
        have HC := Lib.hid (And.intro h1 (And.intro h6 (And.intro h2 h3)))
        have HSz := Lib.hid (lt_of_blk h2)
        clear h1 h2 h3 h6
        unfold encW
        subst hA
        gi_wp2
        exact hK _ _ (keepsFrom_chg ((Chg.refl [] _).alloc _) (by simp)) (KpS.chg ((Chg.refl [] _).alloc _) (by simp)) ⟨HC.out.1, blk_alloc HC.out.2.1 _, blk_alloc HC.out.2.2.1 _, HC.out.2.2.2.kept ((Chg.refl [] W).alloc _) (by simp)⟩ ⟨W.heap.size, HSz.out, heap_alloc_eq _ _, rfl⟩
      · rintro l pre x a' W hl ⟨r, hr⟩ ⟨hp, h6, h2, h3⟩ ⟨Bx, hBx, hX, rfl⟩ hlt
        subst hA
        simp only [List.setIfInBounds_toArray, List.set_cons_succ, List.set_cons_zero]
        have hltn : pre.length < n := by rw [HN.out]; exact hlt
        obtain ⟨y, hy⟩ : ∃ y, (ordL L)[pre.length]? = some y := ⟨_, List.getElem?_eq_getElem hlt⟩
        obtain ⟨g, cap, cur, hva, _, hgb, hnc, hcm, _, hcur⟩ := own_blk h3.own (by omega)
        simp only [Value.slice.injEq] at hva
        obtain ⟨rfl, -, rfl⟩ := hva
        have cy0 := cellB hgb (own_take hcur _ _ (flatW_at hy).1)
        have cy1 := cellB hgb (own_take hcur _ _ (flatW_at hy).2)
        have cn := cellB h2 (i := 0) rfl
        have fn := frozenB h2 0
        have c7 := cellB h3.w7 (i := 0) rfl
        have cx0 := cellB hX (i := 0) rfl
        have cx1 := cellB hX (i := 1) rfl
        have ct := cellB h3.t (i := 0) rfl
        have cl := cellB h3.l5 (i := 0) rfl
        have cr := cellB h6 (i := 0) rfl
        have fr := frozenB h6 0
        have hpl : pre.length ≤ 16 := by have := HFw.out; omega
        obtain ⟨y1, y2⟩ := y
        obtain ⟨x1, x2⟩ := x
        simp only at cy0 cy1 cx0 cx1
        have HC := Lib.hid (And.intro hp (And.intro h6 (And.intro h2 (And.intro h3 (And.intro hX hy)))))
        clear hp h6 h2 h3 hX hy hgb hcur hr hcm hnc
        have hmo : Try.prog.follows .mixedOrders = true := by kernel_rfl
        have hdn : decide (n ≤ pre.length) = false := by simp; omega
        have hne1 : ¬ w.heap.size = W0.heap.size := by have := HC.out.2.2.2.1.lt; omega
        have hne2 : ¬ bt = W0.heap.size := by have := HC.out.2.2.2.1.lt; omega
        have hne3 : ¬ W0.heap.size = w.heap.size := fun e => hne1 e.symm
        have hne4 : ¬ W0.heap.size = bt := fun e => hne2 e.symm
        gi_upto_region 22 with fail
        gi_cut [108] from 97 (fun s wx => s = .bool (neqP x1 x2 y1 y2) ∧ wx = W.drew)
        case first =>
          gi_region_with_o (fail)
          all_goals
            gi_wp2_with fail
            gi_meet
            exact ⟨by first | rfl | rw [hdn, Bool.false_or], rfl⟩
        case rest =>
          obtain ⟨rfl, rfl⟩ := hcut
          have hCd : Chg [] W W.drew := (Chg.refl [] W).drew
          by_cases hxy : x1 = y1 ∧ x2 = y2
          · obtain ⟨rfl, rfl⟩ := hxy
            have hnq : neqP x1 x2 x1 x2 = false := by simp [neqP]
            have hpre : pre ++ [(x1, x2)] <+: ordL L := by
              obtain ⟨r, hr⟩ := HC.out.1
              have := HC.out.2.2.2.2.2
              rw [← hr, List.getElem?_append_right (Nat.le_refl _), Nat.sub_self] at this
              cases r with
              | nil => cases this
              | cons z r => simp at this; subst this; exact ⟨r, by rw [← hr]; simp⟩
            rw [hnq]
            have hst : Chg [W0.heap.size] W (W.drew.setCell ⟨W0.heap.size, 0, none⟩ (.int .i64 ((pre.length : Int) + 1))) := (hCd.mono (by simp)).setCell _ _ (by simp)
            have hlen1 : (((pre ++ [(x1, x2)]).length : Nat) : Int) = (pre.length : Int) + 1 := by simp
            have HP := Lib.hid (And.intro hpre (And.intro hst hlen1))
            clear hpre hst hlen1 hnq
            have hkf : KeepsFrom (W0.alloc (.cells #[.int .i64 0] 3)).heap.size W (W.drew.setCell ⟨W0.heap.size, 0, none⟩ (.int .i64 ((pre.length : Int) + 1))) := keepsFrom_chg HP.out.2.1 (by
              intro k hk o ho
              simp at hk
              subst hk
              rw [HC.out.2.2.1] at ho; cases ho; rfl)
            have HKf := Lib.hid hkf
            clear hkf
            have hKF : KeepsFrom (W0.heap.size + 1) W (W.drew.setCell ⟨W0.heap.size, 0, none⟩ (.int .i64 ((pre.length : Int) + 1))) := by
              have h := HKf.out
              rwa [World.size_alloc] at h
            have HKF := Lib.hid hKF
            clear hKF
            by_cases hle : ((pre.length : Int) + 1) = leave
            · have hl1 : (((pre.length : Int) + 1) == leave) = true := by simpa using hle
              have HLe := Lib.hid hle
              clear hle
              gi_wp2
              exact ⟨HKF.out, .inr ⟨rfl, by rw [HP.out.2.2]; exact HLe.out, HP.out.2.1.blk HC.out.2.1 (by have := HC.out.2.2.2.1.lt; simp; omega), by rw [HP.out.2.2]; exact blk_setCell HC.out.2.2.1 _, HC.out.2.2.2.1.kept HP.out.2.1 (by simp)⟩⟩
            · have hl1 : (((pre.length : Int) + 1) == leave) = false := by simpa using hle
              clear hle
              gi_wp2
              exact ⟨HKF.out, KpS.chg HP.out.2.1 (by simp), HP.out.1, HP.out.2.1.blk HC.out.2.1 (by have := HC.out.2.2.2.1.lt; simp; omega), by rw [HP.out.2.2]; exact blk_setCell HC.out.2.2.1 _, HC.out.2.2.2.1.kept HP.out.2.1 (by simp)⟩
          · have hnq : neqP x1 x2 y1 y2 = true := by unfold neqP; exact decide_eq_true hxy
            have hnp : ¬ pre ++ [(x1, x2)] <+: ordL L := by
              rintro ⟨r, hr⟩
              have := HC.out.2.2.2.2.2
              rw [← hr, List.append_assoc, List.getElem?_append_right (Nat.le_refl _), Nat.sub_self] at this
              simp at this
              exact hxy this
            rw [hnq]
            have HP := Lib.hid hnp
            clear hnp hnq hxy
            gi_wp2
            exact ⟨keepsFrom_chg (S := [w.heap.size + 1]) ((hCd.mono (by simp)).setCell _ _ (by simp)) (by
              intro k hk o ho
              simp at hk
              subst hk
              rw [HC.out.2.1] at ho; cases ho; rfl), .inl ⟨rfl, HP.out⟩⟩
      · rintro D xs W hD hxs ⟨h1, h6, h2, h3⟩ hdef
        subst hxs
        rw [← HN.out] at h2
        have cn := cellB h2 (i := 0) rfl
        have c7 := cellB h3.w7 (i := 0) rfl
        have ct := cellB h3.t (i := 0) rfl
        have cl := cellB h3.l5 (i := 0) rfl
        have HC := Lib.hid (And.intro h6 (And.intro h2 (And.intro h3 (And.intro hdef hD))))
        clear h1 h6 h2 h3 hdef hD
        gi_wp2
        go_wp2
        rw [rounds_succ]
        go_wp2
        have hsz1 : W.heap.size + 1 = (W.alloc (.cells #[.int .i64 1] 3)).heap.size := by simp
        have hCa : Chg [] W (W.alloc (.cells #[.int .i64 1] 3)) := (Chg.refl _ _).alloc _
        have HSd1 := Lib.hid (HC.out.2.2.1.next hCa W.heap.size D 1 (heap_alloc_eq W _) HC.out.2.2.2.1 (by have := HC.out.2.2.1.lt; have := lt_of_blk HC.out.2.1; omega) (by have hD := HC.out.2.2.2.2; have := HC.out.2.2.1.lt; simp at hD; omega) (by have := lt_of_blk HC.out.2.1; simp; omega))
        have Hb61 := Lib.hid (hCa.blk HC.out.1 (by simp))
        have HDb := Lib.hid (show w.heap.size ≤ D from by have h := HC.out.2.2.2.2; have := HC.out.2.2.1.lt; simp at h; omega)
        rw [hsz1]
        clear cn c7 ct cl HC HSd Hb6 HQ HA hCa hsz1
        generalize (W.alloc (.cells #[.int .i64 1] 3)) = W1 at *
        generalize W.heap.size = bt1 at *
        have ct := cellB HSd1.out.t (i := 0) rfl
        have cl := cellB HSd1.out.l5 (i := 0) rfl
        have hCn : Chg [] W1 (W1.alloc (.cells #[.int .i64 0] 3)) := (Chg.refl _ _).alloc _
        have hbn := heap_alloc_eq W1 (.cells #[.int .i64 0] 3)
        have hS1 := HSd1.out.kept hCn (by simp)
        have hseq := all1_stopsW [W1.heap.size] [] (by simp) (by simp) (by simp) bc ab mb N L (W1.alloc (.cells #[.int .i64 0] 3)) (by simp) hS1.cb hS1.WA (by have := HSd1.out.lt; simp; omega) (by have := HSd1.out.lt; simp; omega) (by have := HSd1.out.lt; simp; omega)
        have HQ := Lib.hid (And.intro hseq (And.intro hS1 (And.intro hbn (blk_alloc Hb61.out (.cells #[.int .i64 0] 3)))))
        clear hCn hbn hS1 hseq
        refine (wpIn_wide (n := 5)).1 ?_
        refine wpIn_act (fun A hA => ?_)
        have HA := Lib.hid hA
        refine wpIn_rangeFunc_ownH rfl (by omega) (gf := 53) (lb := #[.pointer (some ⟨bc, 0, none⟩)]) (by rw [hA]; rfl) trivial (enters_of Try.func53 (by kernel_rfl) rfl) HQ.out.1
          KpS.trans (fun W l o o' _ ho h1 h2 => KpS.put o' ho h1 h2) (Below.refl _ _) (fun _ => rfl)
          (fun pre W => pre <+: ordL L ∧ W.heap[w.heap.size + 1]? = some (.cells #[.bool false] 4 (0, 0)) ∧ W.heap[W1.heap.size]? = some (.cells #[.int .i64 pre.length] 3 (0, 0)) ∧ Sd w ab mb N L bc w.heap.size (w.heap.size + 1) b7 bt1 leave 1 va vc n [D] W1.heap.size W)
          (fun c pre W => c = .ret ∧ ¬ pre <+: ordL L)
          (fun s A B row hs hg hr => ⟨hs.1, ownFrom_blk (β := Unit) _ _ _ _ _ () A B row hs.2.1 hg hr, ownFrom_blk (β := Unit) _ _ _ _ _ () A B row hs.2.2.1 hg hr, hs.2.2.2.kept (Chg.of_grown (S := row.toList) hg (fun k hk => by simp [hk])) (fun k hk => by have := (hr k (by simpa using hk)).1; simp at this; omega)⟩)
          (fun c s A B row hs hg hr => hs)
          ⟨List.nil_prefix, HQ.out.2.2.2, HQ.out.2.2.1, HQ.out.2.1⟩
          (fun x a' W => ∃ Bx, W1.heap.size < Bx ∧ W.heap[Bx]? = some (.cells #[.int .i64 x.1, .int .i64 x.2] 68 (0, 0)) ∧ a' = { tmps := (A.tmps.setIfInBounds 96 (.agg #[.int .i64 x.1, .int .i64 x.2])).setIfInBounds 20 (.pointer (some ⟨Bx, 0, none⟩)), defers := [] })
          (fun x a' _ A B row hs hg hr => by
            obtain ⟨Bx, h1, h2, h3⟩ := hs
            exact ⟨Bx, h1, ownFrom_blk (β := Unit) _ _ _ _ _ () A B row h2 hg hr, h3⟩)
          ?_ ?_ ?_ ?_
        · rintro l pre x W K ⟨h1, h6, h2, h3⟩ hK
          have HC := Lib.hid (And.intro h1 (And.intro h6 (And.intro h2 h3)))
          have HSz := Lib.hid (lt_of_blk h2)
          clear h1 h2 h3 h6
          unfold encW
          subst hA
          gi_wp2
          exact hK _ _ (keepsFrom_chg ((Chg.refl [] _).alloc _) (by simp)) (KpS.chg ((Chg.refl [] _).alloc _) (by simp)) ⟨HC.out.1, blk_alloc HC.out.2.1 _, blk_alloc HC.out.2.2.1 _, HC.out.2.2.2.kept ((Chg.refl [] W).alloc _) (by simp)⟩ ⟨W.heap.size, HSz.out, heap_alloc_eq _ _, rfl⟩
        · rintro l pre x a' W hl ⟨r, hr⟩ ⟨hp, h6, h2, h3⟩ ⟨Bx, hBx, hX, rfl⟩ hlt
          subst hA
          simp only [List.setIfInBounds_toArray, List.set_cons_succ, List.set_cons_zero]
          have hltn : pre.length < n := by rw [HN.out]; exact hlt
          obtain ⟨y, hy⟩ : ∃ y, (ordL L)[pre.length]? = some y := ⟨_, List.getElem?_eq_getElem hlt⟩
          obtain ⟨g, cap, cur, hva, _, hgb, hnc, hcm, _, hcur⟩ := own_blk h3.own (by omega)
          simp only [Value.slice.injEq] at hva
          obtain ⟨rfl, -, rfl⟩ := hva
          have cy0 := cellB hgb (own_take hcur _ _ (flatW_at hy).1)
          have cy1 := cellB hgb (own_take hcur _ _ (flatW_at hy).2)
          have cn := cellB h2 (i := 0) rfl
          have fn := frozenB h2 0
          have c7 := cellB h3.w7 (i := 0) rfl
          have cx0 := cellB hX (i := 0) rfl
          have cx1 := cellB hX (i := 1) rfl
          have ct := cellB h3.t (i := 0) rfl
          have cl := cellB h3.l5 (i := 0) rfl
          have cr := cellB h6 (i := 0) rfl
          have fr := frozenB h6 0
          have hpl : pre.length ≤ 16 := by have := HFw.out; omega
          obtain ⟨y1, y2⟩ := y
          obtain ⟨x1, x2⟩ := x
          simp only at cy0 cy1 cx0 cx1
          have HC := Lib.hid (And.intro hp (And.intro h6 (And.intro h2 (And.intro h3 (And.intro hX hy)))))
          clear hp h6 h2 h3 hX hy hgb hcur hr hcm hnc
          have hmo : Try.prog.follows .mixedOrders = true := by kernel_rfl
          have hdn : decide (n ≤ pre.length) = false := by simp; omega
          have hne1 : ¬ w.heap.size = W1.heap.size := by have := HC.out.2.2.2.1.lt; omega
          have hne2 : ¬ bt1 = W1.heap.size := by have := HC.out.2.2.2.1.lt; omega
          have hne3 : ¬ W1.heap.size = w.heap.size := fun e => hne1 e.symm
          have hne4 : ¬ W1.heap.size = bt1 := fun e => hne2 e.symm
          gi_upto_region 22 with fail
          gi_cut [108] from 97 (fun s wx => s = .bool (neqP x1 x2 y1 y2) ∧ wx = W.drew)
          case first =>
            gi_region_with_o (fail)
            all_goals
              gi_wp2_with fail
              gi_meet
              exact ⟨by first | rfl | rw [hdn, Bool.false_or], rfl⟩
          case rest =>
            obtain ⟨rfl, rfl⟩ := hcut
            have hCd : Chg [] W W.drew := (Chg.refl [] W).drew
            by_cases hxy : x1 = y1 ∧ x2 = y2
            · obtain ⟨rfl, rfl⟩ := hxy
              have hnq : neqP x1 x2 x1 x2 = false := by simp [neqP]
              have hpre : pre ++ [(x1, x2)] <+: ordL L := by
                obtain ⟨r, hr⟩ := HC.out.1
                have := HC.out.2.2.2.2.2
                rw [← hr, List.getElem?_append_right (Nat.le_refl _), Nat.sub_self] at this
                cases r with
                | nil => cases this
                | cons z r => simp at this; subst this; exact ⟨r, by rw [← hr]; simp⟩
              rw [hnq]
              have hst : Chg [W1.heap.size] W (W.drew.setCell ⟨W1.heap.size, 0, none⟩ (.int .i64 ((pre.length : Int) + 1))) := (hCd.mono (by simp)).setCell _ _ (by simp)
              have hlen1 : (((pre ++ [(x1, x2)]).length : Nat) : Int) = (pre.length : Int) + 1 := by simp
              have HP := Lib.hid (And.intro hpre (And.intro hst hlen1))
              clear hpre hst hlen1 hnq
              have hkf : KeepsFrom (W1.alloc (.cells #[.int .i64 0] 3)).heap.size W (W.drew.setCell ⟨W1.heap.size, 0, none⟩ (.int .i64 ((pre.length : Int) + 1))) := keepsFrom_chg HP.out.2.1 (by
                intro k hk o ho
                simp at hk
                subst hk
                rw [HC.out.2.2.1] at ho; cases ho; rfl)
              have HKf := Lib.hid hkf
              clear hkf
              have hKF : KeepsFrom (W1.heap.size + 1) W (W.drew.setCell ⟨W1.heap.size, 0, none⟩ (.int .i64 ((pre.length : Int) + 1))) := by
                have h := HKf.out
                rwa [World.size_alloc] at h
              have HKF := Lib.hid hKF
              clear hKF
              gi_wp2
              exact ⟨HKF.out, KpS.chg HP.out.2.1 (by simp), HP.out.1, HP.out.2.1.blk HC.out.2.1 (by have := HC.out.2.2.2.1.lt; simp; omega), by rw [HP.out.2.2]; exact blk_setCell HC.out.2.2.1 _, HC.out.2.2.2.1.kept HP.out.2.1 (by simp)⟩
            · have hnq : neqP x1 x2 y1 y2 = true := by unfold neqP; exact decide_eq_true hxy
              have hnp : ¬ pre ++ [(x1, x2)] <+: ordL L := by
                rintro ⟨r, hr⟩
                have := HC.out.2.2.2.2.2
                rw [← hr, List.append_assoc, List.getElem?_append_right (Nat.le_refl _), Nat.sub_self] at this
                simp at this
                exact hxy this
              rw [hnq]
              have HP := Lib.hid hnp
              clear hnp hnq hxy
              gi_wp2
              exact ⟨keepsFrom_chg (S := [w.heap.size + 1]) ((hCd.mono (by simp)).setCell _ _ (by simp)) (by
                intro k hk o ho
                simp at hk
                subst hk
                rw [HC.out.2.1] at ho; cases ho; rfl), ⟨rfl, HP.out⟩⟩
        · rintro D2 xs W2 hD2 hxs ⟨h1, h6, h2, h3⟩ hdef2
          subst hxs
          rw [← HN.out] at h2
          have cn := cellB h2 (i := 0) rfl
          have c7 := cellB h3.w7 (i := 0) rfl
          have ct := cellB h3.t (i := 0) rfl
          have cl := cellB h3.l5 (i := 0) rfl
          have cr := cellB h6 (i := 0) rfl
          have fr := frozenB h6 0
          have hlb := lt_of_blk h6
          have HC2 := Lib.hid (And.intro h6 (And.intro h2 (And.intro h3 (And.intro hdef2 hD2))))
          clear h1 h6 h2 h3 hdef2 hD2
          gi_wp2
          go_wp2
          rw [rounds_succ]
          go_wp2
          obtain ⟨WF, hWF⟩ : ∃ WF, WF = ((W2.setCell ⟨w.heap.size + 1, 0, none⟩ (.bool true)).alloc (.cells #[.int .i64 2] 3)) := ⟨_, rfl⟩
          have hl := HC2.out.2.2.1.lt
          have hdl := HC2.out.2.2.1.dl D (by simp)
          have hD2 : W1.heap.size + 1 ≤ D2 := by have h := HC2.out.2.2.2.2; rwa [World.size_alloc] at h
          have hDg : w.heap.size ≤ D := HDb.out
          have hCF : Chg [w.heap.size + 1] W2 WF := by rw [hWF]; exact ((Chg.refl _ _).setCell _ _ (by simp)).alloc _
          have hF6 : WF.heap[w.heap.size + 1]? = some (.cells #[.bool true] 4 (0, 0)) := by rw [hWF]; exact blk_alloc (blk_setCell HC2.out.1 _) _
          have hF2 : WF.heap[D2]? = some (.deferred (some [])) := hCF.blk HC2.out.2.2.2.1 (by simp <;> omega)
          have hF1 : WF.heap[D]? = some (.deferred (some [])) := hCF.blk (HC2.out.2.2.1.df D (by simp)) (by simp <;> omega)
          have hCG : Chg [D2] WF (WF.putObj D2 (.deferred none)) := (Chg.refl [D2] WF).setBlock D2 _ (by simp)
          have hG1 := hCG.blk hF1 (by simp <;> omega)
          have hCH : Chg [D] (WF.putObj D2 (.deferred none)) ((WF.putObj D2 (.deferred none)).putObj D (.deferred none)) := (Chg.refl [D] _).setBlock D _ (by simp)
          have hH6 := cellB (hCH.blk (hCG.blk hF6 (by simp <;> omega)) (by simp <;> omega)) (i := 0) rfl
          rw [← hWF]
          refine ⟨by simp, .inl ⟨_, _, rfl, run_takeDeferred hF2, ?_⟩⟩
          refine ⟨by simp, .inl ⟨_, _, rfl, run_takeDeferred hG1, ?_⟩⟩
          refine ⟨.bool true, ?_, rfl, ((HC2.out.2.2.1.ch.trans' hCF (by simp <;> omega)).trans' hCG (by simp <;> omega)).trans' hCH (by simp <;> omega)⟩
          simp [results, Try.results18, go_sem, hH6]
        · rintro D2 c pre W2 hD2 hp hS hdef2
          exact absurd hp hS.2
      · rintro D c pre W hD hp hS hdef
        rcases hS with ⟨_, h⟩ | ⟨rfl, hl, h6, h2, h3⟩
        · exact absurd hp h
        · have hl1 : ((pre.length : Int) != leave) = false := by simp [hl]
          obtain ⟨bb, hbb⟩ : ∃ b, ((pre.length : Int) != (n : Int)) = b := ⟨_, rfl⟩
          have cn := cellB h2 (i := 0) rfl
          have c7 := cellB h3.w7 (i := 0) rfl
          have ct := cellB h3.t (i := 0) rfl
          have cl := cellB h3.l5 (i := 0) rfl
          have HC := Lib.hid (And.intro h6 (And.intro h2 (And.intro h3 (And.intro hdef hD))))
          clear h6 h2 h3 hp hl hdef hD
          cases bb
          all_goals
            gi_wp2
            go_wp2
            rw [rounds_succ]
            go_wp2
            have hsz1 : W.heap.size + 1 = (W.alloc (.cells #[.int .i64 1] 3)).heap.size := by simp
            have hCa : Chg [] W (W.alloc (.cells #[.int .i64 1] 3)) := (Chg.refl _ _).alloc _
            have HSd1 := Lib.hid (HC.out.2.2.1.next hCa W.heap.size D 1 (heap_alloc_eq W _) HC.out.2.2.2.1 (by have := HC.out.2.2.1.lt; have := lt_of_blk HC.out.2.1; omega) (by have hD := HC.out.2.2.2.2; have := HC.out.2.2.1.lt; simp at hD; omega) (by have := lt_of_blk HC.out.2.1; simp; omega))
            have Hb61 := Lib.hid (hCa.blk HC.out.1 (by simp))
            have HDb := Lib.hid (show w.heap.size ≤ D from by have h := HC.out.2.2.2.2; have := HC.out.2.2.1.lt; simp at h; omega)
            rw [hsz1]
            clear cn c7 ct cl HC HSd Hb6 HQ HA hCa hsz1
            generalize (W.alloc (.cells #[.int .i64 1] 3)) = W1 at *
            generalize W.heap.size = bt1 at *
            have ct := cellB HSd1.out.t (i := 0) rfl
            have cl := cellB HSd1.out.l5 (i := 0) rfl
            have hCn : Chg [] W1 (W1.alloc (.cells #[.int .i64 0] 3)) := (Chg.refl _ _).alloc _
            have hbn := heap_alloc_eq W1 (.cells #[.int .i64 0] 3)
            have hS1 := HSd1.out.kept hCn (by simp)
            have hseq := all1_stopsW [W1.heap.size] [] (by simp) (by simp) (by simp) bc ab mb N L (W1.alloc (.cells #[.int .i64 0] 3)) (by simp) hS1.cb hS1.WA (by have := HSd1.out.lt; simp; omega) (by have := HSd1.out.lt; simp; omega) (by have := HSd1.out.lt; simp; omega)
            have HQ := Lib.hid (And.intro hseq (And.intro hS1 (And.intro hbn (blk_alloc Hb61.out (.cells #[.int .i64 0] 3)))))
            clear hCn hbn hS1 hseq
            refine (wpIn_wide (n := 5)).1 ?_
            refine wpIn_act (fun A hA => ?_)
            have HA := Lib.hid hA
            refine wpIn_rangeFunc_ownH rfl (by omega) (gf := 53) (lb := #[.pointer (some ⟨bc, 0, none⟩)]) (by rw [hA]; rfl) trivial (enters_of Try.func53 (by kernel_rfl) rfl) HQ.out.1
              KpS.trans (fun W l o o' _ ho h1 h2 => KpS.put o' ho h1 h2) (Below.refl _ _) (fun _ => rfl)
              (fun pre W => pre <+: ordL L ∧ W.heap[w.heap.size + 1]? = some (.cells #[.bool false] 4 (0, 0)) ∧ W.heap[W1.heap.size]? = some (.cells #[.int .i64 pre.length] 3 (0, 0)) ∧ Sd w ab mb N L bc w.heap.size (w.heap.size + 1) b7 bt1 leave 1 va vc n [D] W1.heap.size W)
              (fun c pre W => c = .ret ∧ ¬ pre <+: ordL L)
              (fun s A B row hs hg hr => ⟨hs.1, ownFrom_blk (β := Unit) _ _ _ _ _ () A B row hs.2.1 hg hr, ownFrom_blk (β := Unit) _ _ _ _ _ () A B row hs.2.2.1 hg hr, hs.2.2.2.kept (Chg.of_grown (S := row.toList) hg (fun k hk => by simp [hk])) (fun k hk => by have := (hr k (by simpa using hk)).1; simp at this; omega)⟩)
              (fun c s A B row hs hg hr => hs)
              ⟨List.nil_prefix, HQ.out.2.2.2, HQ.out.2.2.1, HQ.out.2.1⟩
              (fun x a' W => ∃ Bx, W1.heap.size < Bx ∧ W.heap[Bx]? = some (.cells #[.int .i64 x.1, .int .i64 x.2] 68 (0, 0)) ∧ a' = { tmps := (A.tmps.setIfInBounds 96 (.agg #[.int .i64 x.1, .int .i64 x.2])).setIfInBounds 20 (.pointer (some ⟨Bx, 0, none⟩)), defers := [] })
              (fun x a' _ A B row hs hg hr => by
                obtain ⟨Bx, h1, h2, h3⟩ := hs
                exact ⟨Bx, h1, ownFrom_blk (β := Unit) _ _ _ _ _ () A B row h2 hg hr, h3⟩)
              ?_ ?_ ?_ ?_
            · rintro l pre x W K ⟨h1, h6, h2, h3⟩ hK
              have HC := Lib.hid (And.intro h1 (And.intro h6 (And.intro h2 h3)))
              have HSz := Lib.hid (lt_of_blk h2)
              clear h1 h2 h3 h6
              unfold encW
              subst hA
              gi_wp2
              exact hK _ _ (keepsFrom_chg ((Chg.refl [] _).alloc _) (by simp)) (KpS.chg ((Chg.refl [] _).alloc _) (by simp)) ⟨HC.out.1, blk_alloc HC.out.2.1 _, blk_alloc HC.out.2.2.1 _, HC.out.2.2.2.kept ((Chg.refl [] W).alloc _) (by simp)⟩ ⟨W.heap.size, HSz.out, heap_alloc_eq _ _, rfl⟩
            · rintro l pre x a' W hl ⟨r, hr⟩ ⟨hp, h6, h2, h3⟩ ⟨Bx, hBx, hX, rfl⟩ hlt
              subst hA
              simp only [List.setIfInBounds_toArray, List.set_cons_succ, List.set_cons_zero]
              have hltn : pre.length < n := by rw [HN.out]; exact hlt
              obtain ⟨y, hy⟩ : ∃ y, (ordL L)[pre.length]? = some y := ⟨_, List.getElem?_eq_getElem hlt⟩
              obtain ⟨g, cap, cur, hva, _, hgb, hnc, hcm, _, hcur⟩ := own_blk h3.own (by omega)
              simp only [Value.slice.injEq] at hva
              obtain ⟨rfl, -, rfl⟩ := hva
              have cy0 := cellB hgb (own_take hcur _ _ (flatW_at hy).1)
              have cy1 := cellB hgb (own_take hcur _ _ (flatW_at hy).2)
              have cn := cellB h2 (i := 0) rfl
              have fn := frozenB h2 0
              have c7 := cellB h3.w7 (i := 0) rfl
              have cx0 := cellB hX (i := 0) rfl
              have cx1 := cellB hX (i := 1) rfl
              have ct := cellB h3.t (i := 0) rfl
              have cl := cellB h3.l5 (i := 0) rfl
              have cr := cellB h6 (i := 0) rfl
              have fr := frozenB h6 0
              have hpl : pre.length ≤ 16 := by have := HFw.out; omega
              obtain ⟨y1, y2⟩ := y
              obtain ⟨x1, x2⟩ := x
              simp only at cy0 cy1 cx0 cx1
              have HC := Lib.hid (And.intro hp (And.intro h6 (And.intro h2 (And.intro h3 (And.intro hX hy)))))
              clear hp h6 h2 h3 hX hy hgb hcur hr hcm hnc
              have hmo : Try.prog.follows .mixedOrders = true := by kernel_rfl
              have hdn : decide (n ≤ pre.length) = false := by simp; omega
              have hne1 : ¬ w.heap.size = W1.heap.size := by have := HC.out.2.2.2.1.lt; omega
              have hne2 : ¬ bt1 = W1.heap.size := by have := HC.out.2.2.2.1.lt; omega
              have hne3 : ¬ W1.heap.size = w.heap.size := fun e => hne1 e.symm
              have hne4 : ¬ W1.heap.size = bt1 := fun e => hne2 e.symm
              gi_upto_region 22 with fail
              gi_cut [108] from 97 (fun s wx => s = .bool (neqP x1 x2 y1 y2) ∧ wx = W.drew)
              case first =>
                gi_region_with_o (fail)
                all_goals
                  gi_wp2_with fail
                  gi_meet
                  exact ⟨by first | rfl | rw [hdn, Bool.false_or], rfl⟩
              case rest =>
                obtain ⟨rfl, rfl⟩ := hcut
                have hCd : Chg [] W W.drew := (Chg.refl [] W).drew
                by_cases hxy : x1 = y1 ∧ x2 = y2
                · obtain ⟨rfl, rfl⟩ := hxy
                  have hnq : neqP x1 x2 x1 x2 = false := by simp [neqP]
                  have hpre : pre ++ [(x1, x2)] <+: ordL L := by
                    obtain ⟨r, hr⟩ := HC.out.1
                    have := HC.out.2.2.2.2.2
                    rw [← hr, List.getElem?_append_right (Nat.le_refl _), Nat.sub_self] at this
                    cases r with
                    | nil => cases this
                    | cons z r => simp at this; subst this; exact ⟨r, by rw [← hr]; simp⟩
                  rw [hnq]
                  have hst : Chg [W1.heap.size] W (W.drew.setCell ⟨W1.heap.size, 0, none⟩ (.int .i64 ((pre.length : Int) + 1))) := (hCd.mono (by simp)).setCell _ _ (by simp)
                  have hlen1 : (((pre ++ [(x1, x2)]).length : Nat) : Int) = (pre.length : Int) + 1 := by simp
                  have HP := Lib.hid (And.intro hpre (And.intro hst hlen1))
                  clear hpre hst hlen1 hnq
                  have hkf : KeepsFrom (W1.alloc (.cells #[.int .i64 0] 3)).heap.size W (W.drew.setCell ⟨W1.heap.size, 0, none⟩ (.int .i64 ((pre.length : Int) + 1))) := keepsFrom_chg HP.out.2.1 (by
                    intro k hk o ho
                    simp at hk
                    subst hk
                    rw [HC.out.2.2.1] at ho; cases ho; rfl)
                  have HKf := Lib.hid hkf
                  clear hkf
                  have hKF : KeepsFrom (W1.heap.size + 1) W (W.drew.setCell ⟨W1.heap.size, 0, none⟩ (.int .i64 ((pre.length : Int) + 1))) := by
                    have h := HKf.out
                    rwa [World.size_alloc] at h
                  have HKF := Lib.hid hKF
                  clear hKF
                  gi_wp2
                  exact ⟨HKF.out, KpS.chg HP.out.2.1 (by simp), HP.out.1, HP.out.2.1.blk HC.out.2.1 (by have := HC.out.2.2.2.1.lt; simp; omega), by rw [HP.out.2.2]; exact blk_setCell HC.out.2.2.1 _, HC.out.2.2.2.1.kept HP.out.2.1 (by simp)⟩
                · have hnq : neqP x1 x2 y1 y2 = true := by unfold neqP; exact decide_eq_true hxy
                  have hnp : ¬ pre ++ [(x1, x2)] <+: ordL L := by
                    rintro ⟨r, hr⟩
                    have := HC.out.2.2.2.2.2
                    rw [← hr, List.append_assoc, List.getElem?_append_right (Nat.le_refl _), Nat.sub_self] at this
                    simp at this
                    exact hxy this
                  rw [hnq]
                  have HP := Lib.hid hnp
                  clear hnp hnq hxy
                  gi_wp2
                  exact ⟨keepsFrom_chg (S := [w.heap.size + 1]) ((hCd.mono (by simp)).setCell _ _ (by simp)) (by
                    intro k hk o ho
                    simp at hk
                    subst hk
                    rw [HC.out.2.1] at ho; cases ho; rfl), ⟨rfl, HP.out⟩⟩
            · rintro D2 xs W2 hD2 hxs ⟨h1, h6, h2, h3⟩ hdef2
              subst hxs
              rw [← HN.out] at h2
              have cn := cellB h2 (i := 0) rfl
              have c7 := cellB h3.w7 (i := 0) rfl
              have ct := cellB h3.t (i := 0) rfl
              have cl := cellB h3.l5 (i := 0) rfl
              have cr := cellB h6 (i := 0) rfl
              have fr := frozenB h6 0
              have hlb := lt_of_blk h6
              have HC2 := Lib.hid (And.intro h6 (And.intro h2 (And.intro h3 (And.intro hdef2 hD2))))
              clear h1 h6 h2 h3 hdef2 hD2
              gi_wp2
              go_wp2
              rw [rounds_succ]
              go_wp2
              obtain ⟨WF, hWF⟩ : ∃ WF, WF = ((W2.setCell ⟨w.heap.size + 1, 0, none⟩ (.bool true)).alloc (.cells #[.int .i64 2] 3)) := ⟨_, rfl⟩
              have hl := HC2.out.2.2.1.lt
              have hdl := HC2.out.2.2.1.dl D (by simp)
              have hD2 : W1.heap.size + 1 ≤ D2 := by have h := HC2.out.2.2.2.2; rwa [World.size_alloc] at h
              have hDg : w.heap.size ≤ D := HDb.out
              have hCF : Chg [w.heap.size + 1] W2 WF := by rw [hWF]; exact ((Chg.refl _ _).setCell _ _ (by simp)).alloc _
              have hF6 : WF.heap[w.heap.size + 1]? = some (.cells #[.bool true] 4 (0, 0)) := by rw [hWF]; exact blk_alloc (blk_setCell HC2.out.1 _) _
              have hF2 : WF.heap[D2]? = some (.deferred (some [])) := hCF.blk HC2.out.2.2.2.1 (by simp <;> omega)
              have hF1 : WF.heap[D]? = some (.deferred (some [])) := hCF.blk (HC2.out.2.2.1.df D (by simp)) (by simp <;> omega)
              have hCG : Chg [D2] WF (WF.putObj D2 (.deferred none)) := (Chg.refl [D2] WF).setBlock D2 _ (by simp)
              have hG1 := hCG.blk hF1 (by simp <;> omega)
              have hCH : Chg [D] (WF.putObj D2 (.deferred none)) ((WF.putObj D2 (.deferred none)).putObj D (.deferred none)) := (Chg.refl [D] _).setBlock D _ (by simp)
              have hH6 := cellB (hCH.blk (hCG.blk hF6 (by simp <;> omega)) (by simp <;> omega)) (i := 0) rfl
              rw [← hWF]
              refine ⟨by simp, .inl ⟨_, _, rfl, run_takeDeferred hF2, ?_⟩⟩
              refine ⟨by simp, .inl ⟨_, _, rfl, run_takeDeferred hG1, ?_⟩⟩
              refine ⟨.bool true, ?_, rfl, ((HC2.out.2.2.1.ch.trans' hCF (by simp <;> omega)).trans' hCG (by simp <;> omega)).trans' hCH (by simp <;> omega)⟩
              simp [results, Try.results18, go_sem, hH6]
            · rintro D2 c pre W2 hD2 hp hS hdef2
              exact absurd hp hS.2

end Go.Proofs.Ytohkjiibjljmmaa
