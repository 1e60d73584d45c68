
/- Package waits: All, First, Take, Clear. -/
import Derived.Test.YtiiafhlckmkcnaaWh
namespace Go.Proofs.Ytiiafhlckmkcnaa
open Go.RowKit Go.Shelf
attribute [local go_sem] Oper.semAt_some

set_option maxRecDepth 100000 in
set_option maxHeartbeats 400000 in
theorem all_any (p : Option Addr) (w : World) : Calls Try.prog 61 #[.pointer p] w fun e w' => e = .returned (.func (.func 73) #[] #[.pointer (some ⟨w.heap.size, 0, none⟩)]) ∧ w' = w.alloc (.cells #[.pointer p] 52) := by
  go_enter Try.func61, Try.ntmps61
  go_wp2
  go_ret
  exact ⟨rfl, rfl⟩

theorem ownFrom_blk {β : Type} (B k : Nat) (cs : Array Value) (T : TypeId) (fr : Nat × Nat) : OwnFrom B (fun (_ : β) W => W.heap[k]? = some (.cells cs T fr)) := fun _ W W' row h hg hr => by
  refine (hg.block k (lt_of_blk h) (fun e => ?_)).trans h
  obtain ⟨_, o, ho, hc⟩ := hr k e.symm
  rw [h] at ho
  cases ho
  cases hc
theorem ownFrom_chg {β : Type} (B : Nat) (S : List Nat) (w : World) (hB : w.heap.size ≤ B) : OwnFrom B (fun (_ : β) W => Chg S w W) := fun _ W W' row h hg hr => by
  refine h.trans' (S2 := row.toList) (Chg.of_grown hg (fun k hk => by simp [hk])) (fun k hk => ?_)
  have := (hr k (by simpa using hk)).1
  exact .inr (by omega)
theorem keepsFrom_chg {B : Nat} {S : List Nat} {W W' : World} (h : Chg S W W') (hS : ∀ k ∈ S, ∀ o, W.heap[k]? = some o → o.isCells = true) : KeepsFrom B W W' :=
  ⟨h.size, fun k o _ hk ho => h.blk hk (fun hm => by rw [hS k hm o hk] at ho; cases ho)⟩

set_option maxRecDepth 100000 in
set_option maxHeartbeats 1000000 in
theorem first_any (ab mb : Nat) (n : Int) (L1 : List W1) (w : World) (hW : WIn w ab mb n L1) :
    Calls Try.prog 43 #[.pointer (some ⟨ab, 0, none⟩)] w fun e w' => e = .returned (.tuple #[.int .i64 (headT (ordL (L1.map W1.pair))), .bool (headB (ordL (L1.map W1.pair)))]) ∧ Chg [] w w' := by
  have hC0 : Chg [] w (((w.alloc (.cells #[.int .i64 0] 3)).alloc (.cells #[.bool false] 4)).alloc (.cells #[.pointer (some ⟨ab, 0, none⟩)] 52)) := (((Chg.refl [] w).alloc _).alloc _).alloc _
  have hab := lt_of_blk hW.head
  have hmb := hW.map.lt
  have hWl := hW.kept hC0 (by simp) (by simp)
  have b4 : (((w.alloc (.cells #[.int .i64 0] 3)).alloc (.cells #[.bool false] 4)).alloc (.cells #[.pointer (some ⟨ab, 0, none⟩)] 52)).heap[w.heap.size]? = some (.cells #[.int .i64 0] 3 (0, 0)) := blk_alloc (blk_alloc (heap_alloc_eq w _) _) _
  have b5 : (((w.alloc (.cells #[.int .i64 0] 3)).alloc (.cells #[.bool false] 4)).alloc (.cells #[.pointer (some ⟨ab, 0, none⟩)] 52)).heap[w.heap.size + 1]? = some (.cells #[.bool false] 4 (0, 0)) := blk_alloc (by have := heap_alloc_eq (w.alloc (.cells #[.int .i64 0] 3)) (.cells #[.bool false] 4); rwa [World.size_alloc] at this) _
  have b2 : (((w.alloc (.cells #[.int .i64 0] 3)).alloc (.cells #[.bool false] 4)).alloc (.cells #[.pointer (some ⟨ab, 0, none⟩)] 52)).heap[w.heap.size + 1 + 1]? = some (.cells #[.pointer (some ⟨ab, 0, none⟩)] 52 (0, 0)) := by
    have := heap_alloc_eq ((w.alloc (.cells #[.int .i64 0] 3)).alloc (.cells #[.bool false] 4)) (.cells #[.pointer (some ⟨ab, 0, none⟩)] 52); rwa [World.size_alloc, World.size_alloc] at this
  have hseq := all1_stops [w.heap.size, w.heap.size + 1] [] (by simp) (by simp) (by simp) (w.heap.size + 1 + 1) ab mb n L1 (((w.alloc (.cells #[.int .i64 0] 3)).alloc (.cells #[.bool false] 4)).alloc (.cells #[.pointer (some ⟨ab, 0, none⟩)] 52)) (by simp; omega) b2 hWl (by simp; omega) (by simp; omega) (by simp; omega)
  have HS := Lib.hid hseq
  have H0 := Lib.hid (And.intro b4 (And.intro b5 (And.intro b2 hC0)))
  clear hW hWl hC0 b4 b5 b2 hseq
  refine (callsIn_wide (n := 6)).1 ?_
  refine callsIn_of_wp_marks Try.func43 rfl trivial ?_ rfl
  simp only [Try.ntmps43, List.size_toArray, List.length_cons, List.length_nil, Nat.reduceAdd, Nat.reduceSub, Array.replicate_succ, Array.replicate_zero, List.push_toArray, List.append_toArray, List.nil_append, List.cons_append]
  refine wpIn_wide.2 ?_
  go_wp2
  go_step3
  go_wp2
  go_step3
  go_wp2_with (go_at_call 61; refine (all_any _ _).mono ?_; rintro e w' ⟨rfl, rfl⟩)
  refine (wpIn_wide (n := 5)).1 ?_
  generalize hWL : (((w.alloc (.cells #[.int .i64 0] 3)).alloc (.cells #[.bool false] 4)).alloc (.cells #[.pointer (some ⟨ab, 0, none⟩)] 52)) = WL at *
  have HWL := Lib.hid (show WL.heap.size = w.heap.size + 1 + 1 + 1 by rw [← hWL]; simp)
  clear hWL
  refine wpIn_rangeFunc_ownH rfl (by omega) (gf := 73) (lb := #[.pointer (some ⟨w.heap.size + 1 + 1, 0, none⟩)]) rfl trivial (enters_of Try.func73 (by kernel_rfl) rfl) HS.out
    KpS.trans (fun W l o o' _ ho h1 h2 => KpS.put o' ho h1 h2) (Below.refl _ _) (fun _ => rfl)
    (fun pre W => pre = [] ∧ W.heap[w.heap.size]? = some (.cells #[.int .i64 0] 3 (0, 0)) ∧ W.heap[w.heap.size + 1]? = some (.cells #[.bool false] 4 (0, 0)) ∧ W.heap[w.heap.size + 1 + 1]? = some (.cells #[.pointer (some ⟨ab, 0, none⟩)] 52 (0, 0)) ∧ Chg [] w W)
    (fun c pre W => c = .exit 0 ∧ ∃ x, pre = [x] ∧ W.heap[w.heap.size]? = some (.cells #[.int .i64 x.1] 3 (0, 0)) ∧ W.heap[w.heap.size + 1]? = some (.cells #[.bool true] 4 (0, 0)) ∧ Chg [] w W)
    (OwnFrom.and (ownFrom_pure _ (fun pre : List (Int × Int) => pre = [])) (OwnFrom.and (ownFrom_blk _ _ _ _ _) (OwnFrom.and (ownFrom_blk _ _ _ _ _) (OwnFrom.and (ownFrom_blk _ _ _ _ _) (ownFrom_chg _ _ _ (by rw [HWL.out]; omega))))))
    (fun c s A B row hs hg hr => by
      obtain ⟨h1, x, h2, h3, h4, h5⟩ := hs
      exact ⟨h1, x, h2, ownFrom_blk (β := Unit) _ _ _ _ _ () A B row h3 hg hr, ownFrom_blk (β := Unit) _ _ _ _ _ () A B row h4 hg hr, ownFrom_chg (β := Unit) _ _ _ (by rw [HWL.out]; omega) () A B row h5 hg hr⟩)
    ⟨rfl, H0.out⟩
    (fun x a' W => ∃ Bx, w.heap.size + 1 + 1 < Bx ∧ W.heap[Bx]? = some (.cells #[.int .i64 x.1, .int .i64 x.2] 96 (0, 0)) ∧ a' = { tmps := #[.pointer (some ⟨ab, 0, none⟩), undef, .int .i64 0, .bool false, .pointer (some ⟨w.heap.size, 0, none⟩), .pointer (some ⟨w.heap.size + 1, 0, none⟩), .pointer (some ⟨Bx, 0, none⟩), .pointer (some ⟨ab, 0, none⟩), .func (.func 73) #[] #[.pointer (some ⟨w.heap.size + 1 + 1, 0, none⟩)], .agg #[.int .i64 x.1, .int .i64 x.2], undef, undef, undef, undef], defers := [] })
    (fun x a' _ A B row hs hg hr => by
      obtain ⟨Bx, h1, h2, h3⟩ := hs
      exact ⟨Bx, h1, ownFrom_blk (β := Unit) _ _ _ _ _ () A B row h2 hg hr, h3⟩)
    ?assign ?body ?done ?stop
  case assign =>
    rintro l pre x W K ⟨rfl, h4, h5, h2, hC⟩ hK
    have HC := Lib.hid (And.intro h4 (And.intro h5 (And.intro h2 hC)))
    have HSz := Lib.hid (lt_of_blk h2)
    clear h4 h5 h2 hC
    unfold encW
    gi_wp2
    exact hK _ _ (keepsFrom_chg ((Chg.refl [] _).alloc _) (by simp)) (KpS.chg ((Chg.refl [] _).alloc _) (by simp)) ⟨by simp, blk_alloc HC.out.1 _, blk_alloc HC.out.2.1 _, blk_alloc HC.out.2.2.1 _, HC.out.2.2.2.alloc _⟩ ⟨W.heap.size, HSz.out, heap_alloc_eq _ _, rfl⟩
  case body =>
    rintro l pre x a' W hl ⟨r, hr⟩ ⟨rfl, h4, h5, h2, hC⟩ ⟨Bx, hBx, hX, rfl⟩ hlt
    have cx := cellB hX (i := 0) rfl
    have c4 := cellB h4 (i := 0) rfl
    have f4 := frozenB h4 0
    have c5 := cellB h5 (i := 0) rfl
    have f5 := frozenB h5 0
    have HC := Lib.hid (And.intro h4 (And.intro h5 hC))
    clear h4 h5 h2 hC hX hr
    gi_wp2
    refine ⟨keepsFrom_chg (S := [w.heap.size, w.heap.size + 1]) (((Chg.refl _ _).setCell _ _ (by simp)).setCell _ _ (by simp)) (by
      intro k hk o ho
      simp at hk
      rcases hk with rfl | rfl
      · rw [HC.out.1] at ho; cases ho; rfl
      · rw [HC.out.2.1] at ho; cases ho; rfl), rfl, x, rfl, ?_, ?_, ?_⟩
    · exact blk_setCell_ne (blk_setCell HC.out.1 _) (by simp) _
    · exact blk_setCell (blk_setCell_ne HC.out.2.1 (by simp) _) _
    · exact (HC.out.2.2.setCell _ _ (by simp)).setCell _ _ (by simp)
  case done =>
    rintro D xs W hD hxs ⟨hnil, h4, h5, h2, hC⟩ hK
    have HN := Lib.hid (hxs.symm.trans hnil)
    have c4 := cellB h4 (i := 0) rfl
    have c5 := cellB h5 (i := 0) rfl
    have HC := Lib.hid hC
    have HK := Lib.hid hK
    clear h4 h5 h2 hC hK hnil hxs
    go_wp2
    go_quiet (fail)
    go_wp2
    refine ⟨by simp, .inl ⟨_, _, rfl, run_takeDeferred (show (W.drewN nq).heap[D]? = _ from HK.out), ?_⟩⟩
    refine ⟨_, results_tmp2 rfl _ _ _, ?_, ((HC.out.drewN nq).setBlock D _ (.inr (by have := HWL.out; omega)))⟩
    rw [HN.out]
    rfl
  case stop =>
    rintro D c pre W hD hpre ⟨rfl, x, rfl, h4, h5, hC⟩ hK
    have HN := Lib.hid hpre
    have c4 := cellB h4 (i := 0) rfl
    have c5 := cellB h5 (i := 0) rfl
    have HC := Lib.hid hC
    have HK := Lib.hid hK
    clear h4 h5 hC hK hpre
    refine wpIn_wide.2 ?_
    go_wp2
    go_quiet (fail)
    go_wp2
    refine ⟨by simp, .inl ⟨_, _, rfl, run_takeDeferred (show (W.drewN nq).heap[D]? = _ from HK.out), ?_⟩⟩
    refine ⟨_, results_tmp2 rfl _ _ _, ?_, ((HC.out.drewN nq).setBlock D _ (.inr (by have := HWL.out; omega)))⟩
    obtain ⟨r, hr⟩ := HN.out
    rw [← hr]
    rfl

theorem ord_nil {w : World} {ab mb : Nat} {n : Int} {L1 : List W1} (h : WIn w ab mb n L1) (hn : ordL (L1.map W1.pair) = []) : L1 = [] := by
  have h1 := (ord1_perm (fun x hx => (h.ok x hx).2.1))
  have : ord1 L1 = [] := by
    rw [← ord1_pair] at hn
    exact List.map_eq_nil_iff.1 hn
  rw [this] at h1
  exact h1.symm.eq_nil

def w1rest (L1 : List W1) : List W1 := match ordL (L1.map W1.pair) with | [] => L1 | x :: _ => w1del L1 x.1

set_option maxRecDepth 100000 in
set_option maxHeartbeats 1000000 in
theorem take_in (ab mb : Nat) (n : Int) (L1 : List W1) (w : World) (hW : WIn w ab mb n L1) :
    Calls Try.prog 24 #[.pointer (some ⟨ab, 0, none⟩)] w fun e w' => e = .returned (.tuple #[.int .i64 (headT (ordL (L1.map W1.pair))), .bool (headB (ordL (L1.map W1.pair)))]) ∧ WIn w' ab mb n (w1rest L1) ∧ Chg [ab, mb] w w' := by
  have hf := first_any ab mb n L1 w hW
  have HW := Lib.hid hW
  have hh := hW.head
  have hm := hW.map
  have hne := hW.ne
  clear hW
  unfold w1rest
  cases ho : ordL (L1.map W1.pair) with
  | nil =>
    rw [ho] at hf
    have HF := Lib.hid hf
    clear hf ho
    simp only [headT, headB] at HF
    go_enter Try.func24, Try.ntmps24
    go_wp2_with (go_at_call 43; refine HF.out.mono ?_; rintro e w' ⟨rfl, hC⟩)
    go_ret2
    exact ⟨rfl, HW.out.kept hC (by simp) (by simp), hC.mono (by simp)⟩
  | cons x r =>
    rw [ho] at hf
    have HF := Lib.hid hf
    clear hf ho
    simp only [headT, headB] at HF
    obtain ⟨t, p⟩ := x
    simp only at HF
    go_enter Try.func24, Try.ntmps24
    go_wp2_with (go_at_call 43; refine HF.out.mono ?_; rintro e w' ⟨rfl, hC⟩; have b0 := hC.blk hh (by simp); have c0 := cellB b0 (i := 0) rfl; obtain ⟨w2, hrun, hM, hC2⟩ := run_delete_P (P := Try.prog) Try.underlying76 Try.underlying3 (hm.kept hC (by simp)) t 3 0)
    have b2 := hC2.blk (k := ab) b0 (by simpa using hne.symm)
    have hC3 : Chg [ab, mb] w w2 := (hC.mono (by simp)).trans' hC2 (by simp)
    clear hC2 b0 hm hh
    go_ret2
    refine ⟨rfl, ⟨b2, ?_, fun x hx => HW.out.ok x ((w1del_sub L1 t).subset hx), HW.out.came.sublist (w1del_sub L1 t), HW.out.low⟩, hC3⟩
    rw [w1del_row]
    exact hM


end Go.Proofs.Ytiiafhlckmkcnaa
