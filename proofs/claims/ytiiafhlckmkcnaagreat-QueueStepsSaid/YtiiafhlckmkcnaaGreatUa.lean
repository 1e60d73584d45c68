
/- Package mqueue: a queue as it lies in memory; there, Len, Room, Full, Waiting, line, Senders, Receivers, ask, New: contracts. -/
import Derived.Test.YtiiafhlckmkcnaaGreatWo
import Derived.Test.YtiiafhlckmkcnaaGreatJK
import Derived.Deep.RegionHeld3
import Derived.OwnWalk
import Derived.StillTailTactics
import Derived.Test.YtiiafhlckmkcnaaGreatRow
namespace Go.Proofs.YtiiafhlckmkcnaaGreat
open Go.RowKit

/-- The blocks of a queue: itself, the map of what is held, the two lists. -/
structure UB where
  q : Nat
  h : Nat
  sa : Nat
  sm : Nat
  ra : Nat
  rm : Nat
def UB.l (u : UB) : List Nat := [u.q, u.h, u.sa, u.sm, u.ra, u.rm]
def msgV (x : Int × Int) : Value := .agg #[.int .i64 x.1, .int .i64 x.2]
def heldM (S M : WL) : List (Int × Value) := S.map fun x => (x.1, msgV (mAt M x.1))
def ucells (u : UB) (v : Value) (room : Int) : Array Value := #[.int .i64 room, v, .pointer (some ⟨u.sa, 0, none⟩), .pointer (some ⟨u.ra, 0, none⟩), .map (some u.h)]
def blkU (u : UB) (v : Value) : List Nat := u.l ++ v.ownBlock.toList

/-- A queue at u; its messages' row is v. -/
structure UAt (w : World) (u : UB) (v : Value) (N : Int) (s : QS) : Prop where
  head : w.heap[u.q]? = some (.cells (ucells u v s.room) 49 (0, 0))
  row : w.ownsRow 0 33 2 v s.ord.length (flatW s.ord)
  held : MapP w u.h (heldM s.S s.M)
  ls : WAt w u.sa u.sm N s.S
  lr : WAt w u.ra u.rm N s.R
  inv : QInv s
  dis : u.l.Nodup

theorem own_cellsU {w : World} {B : Nat} {e : TypeId} {size : Nat} {v : Value} {n : Nat} {xs : List Value} (h : w.ownsRow B e size v n xs) : ∀ k ∈ v.ownBlock.toList, ∃ cs, w.heap[k]? = some (.cells cs e (0, 0)) := own_cells h
theorem cells_ne {w : World} {a b : Nat} {cs ds : Array Value} {T U : TypeId} {fr gr : Nat × Nat} (ha : w.heap[a]? = some (.cells cs T fr)) (hb : w.heap[b]? = some (.cells ds U gr)) (h : T ≠ U) : a ≠ b := by
  rintro rfl
  rw [ha] at hb
  injection hb with hb
  injection hb with _ h2 _
  exact h h2
theorem WAt.neU {w : World} {k ab mb : Nat} {N : Int} {L : WL} {cs : Array Value} {T : TypeId} {fr : Nat × Nat} (h : WAt w ab mb N L) (hk : w.heap[k]? = some (.cells cs T fr)) (hT : T ≠ 87) : ab ≠ k ∧ mb ≠ k := by
  obtain ⟨n, L1, h, rfl, hn⟩ := h
  exact ⟨fun e => cells_ne hk h.head hT e.symm, h.map.ne hk⟩
/-- The messages' row lies apart from the rest. -/
theorem UAt.apart {w : World} {u : UB} {v : Value} {N : Int} {s : QS} (h : UAt w u v N s) : ∀ k ∈ v.ownBlock.toList, k ∉ u.l := by
  intro k hk hm
  obtain ⟨cs, hcs⟩ := own_cells h.row k hk
  have h1 := h.ls.neU hcs (by decide)
  have h2 := h.lr.neU hcs (by decide)
  have h3 := h.held.ne hcs
  have h4 := cells_ne h.head hcs (by decide)
  simp only [UB.l, List.mem_cons, List.not_mem_nil, or_false] at hm
  omega
theorem UAt.kept {S : List Nat} {w w' : World} {u : UB} {v : Value} {N : Int} {s : QS} (h : UAt w u v N s) (hC : Chg S w w') (hS : ∀ k ∈ S, k ∉ blkU u v) : UAt w' u v N s :=
  have hn : ∀ k ∈ u.l, k ∉ S := fun k hk hm => hS k hm (List.mem_append.2 (.inl hk))
  ⟨hC.blk h.head (hn _ (by simp [UB.l])), own_kept h.row hC (fun k hk hm => hS k hk (List.mem_append.2 (.inr hm))), h.held.kept hC (hn _ (by simp [UB.l])), h.ls.kept hC (hn _ (by simp [UB.l])) (hn _ (by simp [UB.l])), h.lr.kept hC (hn _ (by simp [UB.l])) (hn _ (by simp [UB.l])), h.inv, h.dis⟩
theorem UAt.calm {w w' : World} {u : UB} {v : Value} {N : Int} {s : QS} (h : UAt w u v N s) (hC : Chg [] w w') : UAt w' u v N s := h.kept hC (by simp)
theorem UAt.mono {w : World} {u : UB} {v : Value} {N N' : Int} {s : QS} (h : UAt w u v N s) (hN : N ≤ N') : UAt w u v N' s := ⟨h.head, h.row, h.held, h.ls.mono hN, h.lr.mono hN, h.inv, h.dis⟩
theorem UAt.lt {w : World} {u : UB} {v : Value} {N : Int} {s : QS} (h : UAt w u v N s) : ∀ k ∈ blkU u v, k < w.heap.size := by
  have h1 := lt_of_blk h.head
  have h2 := h.held.lt
  have h3 := h.ls.lt
  have h4 := h.lr.lt
  intro k hk
  rcases List.mem_append.1 hk with hk | hk
  · simp only [UB.l, List.mem_cons, List.not_mem_nil, or_false] at hk
    omega
  · obtain ⟨cs, hcs⟩ := own_cells h.row k hk
    exact lt_of_blk hcs
theorem UAt.ne {w : World} {u : UB} {v : Value} {N : Int} {s : QS} (h : UAt w u v N s) : u.q ≠ u.h ∧ u.q ≠ u.sa ∧ u.q ≠ u.sm ∧ u.q ≠ u.ra ∧ u.q ≠ u.rm ∧ u.h ≠ u.sa ∧ u.h ≠ u.sm ∧ u.h ≠ u.ra ∧ u.h ≠ u.rm ∧ u.sa ≠ u.sm ∧ u.sa ≠ u.ra ∧ u.sa ≠ u.rm ∧ u.sm ≠ u.ra ∧ u.sm ≠ u.rm ∧ u.ra ≠ u.rm := by
  have := h.dis
  simp only [UB.l, List.nodup_cons, List.mem_cons, List.not_mem_nil, or_false, not_or, List.nodup_nil, not_false_eq_true, and_true] at this
  omega
theorem UAt.form {w : World} {u : UB} {v : Value} {N : Int} {s : QS} (h : UAt w u v N s) : ∃ a cap, v = .slice a s.ord.length cap := own_slice h.row
theorem QInv.olen {s : QS} (h : QInv s) : s.ord.length = s.L.length := ordM_len h.msg
theorem QInv.few32 {s : QS} (h : QInv s) : s.ord.length ≤ 32 := by have h1 := h.few; have h2 := h.room; have h3 := h.olen; omega


set_option maxRecDepth 100000 in
theorem utherec (u : UB) (v : Value) (N : Int) (s : QS) (w : World) (h : UAt w u v N s) :
    Calls Tryz.prog 24 #[.pointer (some ⟨u.q, 0, none⟩)] w fun e w' => e = .returned (.bool true) ∧ w = w' := by
  have c0 := cellB h.head (i := 0) (v := .int .i64 s.room) rfl
  have b0 : decide (0 < s.room) = true := decide_eq_true (by have := h.inv.room; omega)
  clear h
  go_enter Tryz.func24, Tryz.ntmps24
  go_wp2
  go_ret
  exact ⟨rfl, rfl⟩

set_option maxRecDepth 100000 in
theorem ulenc (u : UB) (v : Value) (N : Int) (s : QS) (w : World) (h : UAt w u v N s) :
    Calls Tryz.prog 31 #[.pointer (some ⟨u.q, 0, none⟩)] w fun e w' => e = .returned (.int .i64 (s.ord.length : Int)) ∧ Chg [] w w' := by
  obtain ⟨a, cap, rfl⟩ := h.form
  have c1 := cellB h.head (i := 1) (v := .slice a s.ord.length cap) rfl
  have HT := Lib.hid (utherec u _ N s w h)
  generalize s.ord.length = n at *
  clear h
  go_enter Tryz.func31, Tryz.ntmps31
  go_wp2_with (go_at_call 24; refine HT.out.mono ?_; rintro e w' ⟨rfl, rfl⟩)
  go_ret
  exact ⟨rfl, Chg.refl _ _⟩

set_option maxRecDepth 100000 in
theorem uroomc (u : UB) (v : Value) (N : Int) (s : QS) (w : World) (h : UAt w u v N s) :
    Calls Tryz.prog 32 #[.pointer (some ⟨u.q, 0, none⟩)] w fun e w' => e = .returned (.int .i64 (s.room - s.ord.length)) ∧ Chg [] w w' := by
  obtain ⟨a, cap, rfl⟩ := h.form
  have c0 := cellB h.head (i := 0) (v := .int .i64 s.room) rfl
  have c1 := cellB h.head (i := 1) (v := .slice a s.ord.length cap) rfl
  have HT := Lib.hid (utherec u _ N s w h)
  have hr := h.inv.room
  have hf := h.inv.few32
  generalize s.ord.length = n at *
  generalize s.room = r at *
  clear h
  have hb : 1 ≤ r ∧ r ≤ 32 ∧ n ≤ 32 := ⟨hr.1, hr.2, hf⟩
  have hwr : IntKind.i64.wrap (r - (n : Int)) = r - n := by rw [IntKind.wrap_i64]; omega
  clear hr hf hb
  go_enter Tryz.func32, Tryz.ntmps32
  go_wp2_with (go_at_call 24; refine HT.out.mono ?_; rintro e w' ⟨rfl, rfl⟩)
  go_region
  all_goals go_wp2
  all_goals go_ret
  all_goals exact ⟨by simp, ((Chg.refl _ _).drewN _)⟩


set_option maxRecDepth 100000 in
theorem ufullc (u : UB) (v : Value) (N : Int) (s : QS) (w : World) (h : UAt w u v N s) :
    Calls Tryz.prog 33 #[.pointer (some ⟨u.q, 0, none⟩)] w fun e w' => e = .returned (.bool s.full) ∧ Chg [] w w' := by
  have HT := Lib.hid (utherec u v N s w h)
  have HR := Lib.hid (uroomc u v N s w h)
  have hb : (s.room - (s.ord.length : Int) == 0) = s.full := by
    unfold QS.full
    rw [h.inv.olen]
    by_cases hx : (s.L.length : Int) = s.room
    · rw [decide_eq_true hx, hx]; simp
    · rw [decide_eq_false hx]; simp; omega
  generalize s.room - (s.ord.length : Int) = r at *
  generalize s.full = f at *
  clear h
  go_enter Tryz.func33, Tryz.ntmps33
  go_wp2_with (go_at_call 24; refine HT.out.mono ?_; rintro e w' ⟨rfl, rfl⟩)
  refine HR.out.mono ?_
  rintro e w1 ⟨rfl, hC⟩
  go_wp2
  go_ret
  exact ⟨rfl, hC⟩

set_option maxRecDepth 100000 in
theorem uwaitc (u : UB) (v : Value) (N : Int) (s : QS) (t : Int) (w : World) (h : UAt w u v N s) :
    Calls Tryz.prog 38 #[.pointer (some ⟨u.q, 0, none⟩), .int .i64 t] w fun e w' => e = .returned (.tuple #[.bool (hasR s.S t), .bool (s.is t)]) ∧ Chg [] w w' := by
  have c2 := cellB h.head (i := 2) (v := .pointer (some ⟨u.sa, 0, none⟩)) rfl
  have c3 := cellB h.head (i := 3) (v := .pointer (some ⟨u.ra, 0, none⟩)) rfl
  have HT := Lib.hid (utherec u v N s w h)
  have HL := Lib.hid h
  have hH := hasc u.sa u.sm N s.S t w h.ls
  have hG := fun (W : World) (hW : WAt W u.ra u.rm N s.R) => hasc u.ra u.rm N s.R t W hW
  unfold QS.is
  generalize hasR s.R t = b at *
  generalize hasR s.S t = c at *
  have HF := Lib.hid (And.intro hH hG)
  clear h hH hG
  cases c
  all_goals
    simp only [Bool.true_or, Bool.false_or]
    go_enter Tryz.func38, Tryz.ntmps38
    go_wp2_with (go_at_call 24; refine HT.out.mono ?_; rintro e w' ⟨rfl, rfl⟩)
    refine HF.out.1.mono ?_
    rintro e w1 ⟨rfl, hC⟩
    have d3 := cell_kept' c3 hC (by simp)
    have HC := Lib.hid hC
    clear hC
  · go_wp2_with fail
    refine (HF.out.2 w1 (HL.out.calm HC.out).lr).mono ?_
    rintro e w2 ⟨rfl, hC⟩
    go_wp2
    go_ret2
    exact ⟨rfl, HC.out.trans hC⟩
  · go_wp2
    go_ret2
    exact ⟨rfl, HC.out⟩

set_option maxRecDepth 100000 in
theorem usendersc (u : UB) (v : Value) (N : Int) (s : QS) (w : World) (h : UAt w u v N s) :
    Calls Tryz.prog 67 #[.pointer (some ⟨u.q, 0, none⟩), .int .i64 0] w (IntsPost (ordT s.S) w) := by
  have c2 := cellB h.head (i := 2) (v := .pointer (some ⟨u.sa, 0, none⟩)) rfl
  have HT := Lib.hid (utherec u v N s w h)
  have HL := Lib.hid (listc u.sa u.sm N s.S w h.ls)
  clear h
  go_enter Tryz.func67, Tryz.ntmps67
  go_wp2_with (go_at_call 24; refine HT.out.mono ?_; rintro e w' ⟨rfl, rfl⟩)
  refine HL.out.mono ?_
  rintro e w1 ⟨v, rfl, ho, hC⟩
  have HO := Lib.hid (And.intro ho hC)
  clear ho hC
  go_wp2
  go_ret
  exact ⟨v, rfl, HO.out.1, HO.out.2⟩

set_option maxRecDepth 100000 in
theorem ureceiversc (u : UB) (v : Value) (N : Int) (s : QS) (w : World) (h : UAt w u v N s) :
    Calls Tryz.prog 67 #[.pointer (some ⟨u.q, 0, none⟩), .int .i64 1] w (IntsPost (ordT s.R) w) := by
  have c3 := cellB h.head (i := 3) (v := .pointer (some ⟨u.ra, 0, none⟩)) rfl
  have HT := Lib.hid (utherec u v N s w h)
  have HL := Lib.hid (listc u.ra u.rm N s.R w h.lr)
  clear h
  go_enter Tryz.func67, Tryz.ntmps67
  go_wp2_with (go_at_call 24; refine HT.out.mono ?_; rintro e w' ⟨rfl, rfl⟩)
  refine HL.out.mono ?_
  rintro e w1 ⟨v, rfl, ho, hC⟩
  have HO := Lib.hid (And.intro ho hC)
  clear ho hC
  go_wp2
  go_ret
  exact ⟨v, rfl, HO.out.1, HO.out.2⟩

set_option maxRecDepth 100000 in
theorem uSendersc (u : UB) (v : Value) (N : Int) (s : QS) (w : World) (h : UAt w u v N s) :
    Calls Tryz.prog 35 #[.pointer (some ⟨u.q, 0, none⟩)] w (IntsPost (ordT s.S) w) := by
  have HL := Lib.hid (usendersc u v N s w h)
  clear h
  go_enter Tryz.func35, Tryz.ntmps35
  go_wp2_with fail
  refine HL.out.mono ?_
  rintro e w1 ⟨v, rfl, ho, hC⟩
  have HO := Lib.hid (And.intro ho hC)
  clear ho hC
  go_wp2
  go_ret
  exact ⟨v, rfl, HO.out.1, HO.out.2⟩
set_option maxRecDepth 100000 in
theorem uReceiversc (u : UB) (v : Value) (N : Int) (s : QS) (w : World) (h : UAt w u v N s) :
    Calls Tryz.prog 37 #[.pointer (some ⟨u.q, 0, none⟩)] w (IntsPost (ordT s.R) w) := by
  have HL := Lib.hid (ureceiversc u v N s w h)
  clear h
  go_enter Tryz.func37, Tryz.ntmps37
  go_wp2_with fail
  refine HL.out.mono ?_
  rintro e w1 ⟨v, rfl, ho, hC⟩
  have HO := Lib.hid (And.intro ho hC)
  clear ho hC
  go_wp2
  go_ret
  exact ⟨v, rfl, HO.out.1, HO.out.2⟩

set_option maxRecDepth 100000 in
set_option maxHeartbeats 1000000 in
theorem uaskc (u : UB) (v : Value) (N : Int) (s : QS) (t p q : Int) (b : Bool) (w : World) (h : UAt w u v N s) :
    Calls Tryz.prog 40 #[.pointer (some ⟨u.q, 0, none⟩), .int .i64 t, .int .i64 p, .int .i64 q, .bool b] w fun e w' => e = .returned (.int .i64 (s.askE t p q b)) ∧ Chg [] w w' := by
  have HT := Lib.hid (utherec u v N s w h)
  have HW := Lib.hid (uwaitc u v N s t w h)
  clear h
  by_cases hb : tpB t p = true ∧ mB q = true
  · have h7 : s.askE t p q b = if s.is t = true then (if b = true then 0 else 7) else (if b = true then 6 else 0) := by unfold QS.askE; rw [if_pos hb]
    rw [h7]
    have h0 : decide (t < 0) = false ∧ decide (16 ≤ t) = false ∧ decide (p < 1) = false ∧ decide (31 < p) = false ∧ decide (q < 0) = false ∧ decide (31 < q) = false := by
      have h1 := tpB_iff.1 hb.1
      have h2 := mB_iff.1 hb.2
      unfold okT okP at h1
      simp only [decide_eq_false_iff_not]
      omega
    obtain ⟨h1, h2, h3, h4, h5, h6⟩ := h0
    clear hb h7
    generalize hasR s.S t = a at *
    generalize s.is t = c at *
    cases b <;> cases c
    all_goals
      simp only [Bool.false_eq_true, if_false, if_true]
      go_enter Tryz.func40, Tryz.ntmps40
      go_wp2_with (go_at_call 24; refine HT.out.mono ?_; rintro e w' ⟨rfl, rfl⟩)
      refine HW.out.mono ?_
      rintro e w1 ⟨rfl, hC⟩
      have HC := Lib.hid hC
      clear hC
      go_wp2
      go_ret
      exact ⟨rfl, HC.out⟩
  · have h7 : s.askE t p q b = 2 := by unfold QS.askE; rw [if_neg hb]
    rw [h7]
    have hc : decide (t < 0) = true ∨ (decide (t < 0) = false ∧ decide (16 ≤ t) = true) ∨ (decide (t < 0) = false ∧ decide (16 ≤ t) = false ∧ decide (p < 1) = true) ∨ (decide (t < 0) = false ∧ decide (16 ≤ t) = false ∧ decide (p < 1) = false ∧ decide (31 < p) = true) ∨
        (decide (t < 0) = false ∧ decide (16 ≤ t) = false ∧ decide (p < 1) = false ∧ decide (31 < p) = false ∧ decide (q < 0) = true) ∨ (decide (t < 0) = false ∧ decide (16 ≤ t) = false ∧ decide (p < 1) = false ∧ decide (31 < p) = false ∧ decide (q < 0) = false ∧ decide (31 < q) = true) := by
      rw [tpB_iff, mB_iff] at hb
      unfold okT okP at hb
      simp only [decide_eq_true_eq, decide_eq_false_iff_not]
      omega
    clear hb h7 HW
    rcases hc with h1 | ⟨h1, h2⟩ | ⟨h1, h2, h3⟩ | ⟨h1, h2, h3, h4⟩ | ⟨h1, h2, h3, h4, h5⟩ | ⟨h1, h2, h3, h4, h5, h6⟩
    all_goals
      go_enter Tryz.func40, Tryz.ntmps40
      go_wp2_with (go_at_call 24; refine HT.out.mono ?_; rintro e w' ⟨rfl, rfl⟩)
      go_ret
      exact ⟨rfl, Chg.refl _ _⟩

def UNewP (w : World) (room : Int) (e : Ending) (w' : World) : Prop := ∃ u : UB, e = .returned (.tuple #[.pointer (some ⟨u.q, 0, none⟩), .int .i64 0]) ∧ (∀ k ∈ u.l, w.heap.size ≤ k) ∧ UAt w' u (.slice none 0 0) 0 (qnew room) ∧ Chg [] w w'

set_option maxRecDepth 100000 in
theorem unewc (room : Int) (w : World) (h : roomB room = true) : Calls Tryz.prog 5 #[.int .i64 room] w (UNewP w room) := by
  have hmm := @run_makeMap Tryz.prog
  have hr : 1 ≤ room ∧ room ≤ 32 := by unfold roomB at h; simpa using h
  have b1 : decide (room < 1) = false := by simp; omega
  have b2 : decide (32 < room) = false := by simp; omega
  have HR := Lib.hid hr
  clear hr h
  go_enter Tryz.func5, Tryz.ntmps5
  go_wp2_with fail
  refine (newc _).mono ?_
  rintro e w1 ⟨a0, m0, rfl, h1, h2, hW, hC⟩
  have H1 := Lib.hid (And.intro h1 (And.intro h2 (And.intro hW hC)))
  clear h1 h2 hW hC
  go_wp2_with fail
  refine (newc _).mono ?_
  rintro e w2 ⟨a1, m1, rfl, h1, h2, hW, hC⟩
  have H2 := Lib.hid (And.intro h1 (And.intro h2 (And.intro hW hC)))
  clear h1 h2 hW hC
  go_wp2
  go_ret2
  have s1 := H1.out.2.2.2.size
  have s2 := H2.out.2.2.2.size
  have l1 := H1.out.2.2.1.lt
  have l2 := H2.out.2.2.1.lt
  have g1 := H1.out.1
  have g2 := H1.out.2.1
  have g3 := H2.out.1
  have g4 := H2.out.2.1
  have hM : Chg [] w2 (w2.alloc (.map #[] 0)) := (Chg.refl _ _).alloc _
  have hsz : (w2.alloc (.map #[] 0)).heap.size = w2.heap.size + 1 := by simp
  have hA : Chg [] (w2.alloc (.map #[] 0)) ((w2.alloc (.map #[] 0)).alloc (.cells #[.int .i64 room, .slice none 0 0, .pointer (some ⟨a0, 0, none⟩), .pointer (some ⟨a1, 0, none⟩), .map (some w2.heap.size)] 49)) := (Chg.refl _ _).alloc _
  refine ⟨⟨w2.heap.size + 1, w2.heap.size, a0, m0, a1, m1⟩, by first | rfl | (rw [← hsz]; rfl), ?_, ⟨?_, World.ownsRow_nil .., ?_, ?_, ?_, QInv.new HR.out, ?_⟩, ((H1.out.2.2.2.trans H2.out.2.2.2).trans hM).trans hA⟩
  · intro k hk
    simp only [UB.l, List.mem_cons, List.not_mem_nil, or_false] at hk
    omega
  · have := heap_alloc_eq (w2.alloc (.map #[] 0)) (.cells #[.int .i64 room, .slice none 0 0, .pointer (some ⟨a0, 0, none⟩), .pointer (some ⟨a1, 0, none⟩), .map (some w2.heap.size)] 49)
    rw [hsz] at this
    exact this
  · exact (MapP.made w2).kept hA (by simp)
  · exact (((H1.out.2.2.1.kept H2.out.2.2.2 (by simp) (by simp))).kept hM (by simp) (by simp)).kept hA (by simp) (by simp)
  · exact (H2.out.2.2.1.kept hM (by simp) (by simp)).kept hA (by simp) (by simp)
  · simp only [UB.l, List.nodup_cons, List.mem_cons, List.not_mem_nil, or_false, not_or, List.nodup_nil, not_false_eq_true, and_true]
    omega

set_option maxRecDepth 100000 in
theorem unewno (room : Int) (w : World) (h : roomB room = false) : Calls Tryz.prog 5 #[.int .i64 room] w fun e w' => e = .returned (.tuple #[.pointer none, .int .i64 2]) ∧ w = w' := by
  have hr : ¬ (1 ≤ room ∧ room ≤ 32) := by unfold roomB at h; simpa using h
  have hc : decide (room < 1) = true ∨ (decide (room < 1) = false ∧ decide (32 < room) = true) := by
    simp only [decide_eq_true_eq, decide_eq_false_iff_not]
    omega
  clear h hr
  rcases hc with h1 | ⟨h1, h2⟩
  all_goals
    go_enter Tryz.func5, Tryz.ntmps5
    go_wp2
    go_ret2
    exact ⟨rfl, rfl⟩

end Go.Proofs.YtiiafhlckmkcnaaGreat
