
/- metronomeref18: the document's queue as it lies in memory; Order, Waiting, ask, New: contracts. -/
import Derived.Test.YtiiafhlckmkcnaaGreatUr
import Derived.Test.YtiiafhlckmkcnaaGreatJR
import Derived.IntWalk
namespace Go.Proofs.YtiiafhlckmkcnaaGreat
open Go.RowKit

def dqcells (rr rw : Nat) (v : Value) (s : QS) : Array Value := (Value.int .i64 s.room :: v :: .pointer (some ⟨rr, 0, none⟩) :: .pointer (some ⟨rw, 0, none⟩) :: flatW s.M).toArray
def blkD (rc rr rw : Nat) (v : Value) : List Nat := [rc, rr, rw] ++ v.ownBlock.toList

/-- The document's queue at block rc: who waits to send at rr, to receive at rw; its messages' row is v. -/
structure DQ (w : World) (rc rr rw : Nat) (v : Value) (s : QS) : Prop where
  head : w.heap[rc]? = some (.cells (dqcells rr rw v s) 56 (0, 0))
  row : w.ownsRow 0 33 2 v s.L.length (flatW s.L)
  sd : RAt w rr s.S
  rv : RAt w rw s.R
  inv : QInv s
  ne : rr ≠ rw
section
variable {S : List Nat} {w w' : World} {rc rr rw : Nat} {v : Value} {s : QS}
theorem DQ.nc (h : DQ w rc rr rw v s) : rc ≠ rr ∧ rc ≠ rw ∧ NotW w rc := by
  obtain ⟨v1, h1, _⟩ := h.sd
  obtain ⟨v2, h2, _⟩ := h.rv
  exact ⟨cells_ne h.head h1 (by decide), cells_ne h.head h2 (by decide), NotW.of h.head (fun cs fr e => by cases e)⟩
theorem DQ.rowNe (h : DQ w rc rr rw v s) : ∀ k ∈ v.ownBlock.toList, k ∉ [rc, rr, rw] ∧ NotW w k := by
  intro k hk
  obtain ⟨cs, hcs⟩ := own_cells h.row k hk
  obtain ⟨v1, h1, _⟩ := h.sd
  obtain ⟨v2, h2, _⟩ := h.rv
  have e1 := cells_ne h.head hcs (by decide)
  have e2 := cells_ne h1 hcs (by decide)
  have e3 := cells_ne h2 hcs (by decide)
  refine ⟨fun hm => ?_, NotW.of hcs (fun cs fr e => by cases e)⟩
  simp only [List.mem_cons, List.not_mem_nil, or_false] at hm
  omega
theorem DQ.kept (h : DQ w rc rr rw v s) (hC : Chg S w w') (hS : ∀ k ∈ S, k ∉ blkD rc rr rw v ∧ NotW w k) : DQ w' rc rr rw v s :=
  ⟨hC.blk h.head (fun hm => (hS _ hm).1 (by simp [blkD])), own_kept h.row hC (fun k hk hm => (hS k hk).1 (List.mem_append.2 (.inr hm))), h.sd.kept hC (fun k hk => ⟨fun e => (hS k hk).1 (by simp [blkD, e]), (hS k hk).2⟩), h.rv.kept hC (fun k hk => ⟨fun e => (hS k hk).1 (by simp [blkD, e]), (hS k hk).2⟩), h.inv, h.ne⟩
theorem DQ.calm (h : DQ w rc rr rw v s) (hC : Chg [] w w') : DQ w' rc rr rw v s := h.kept hC (by simp)
theorem DQ.lt (h : DQ w rc rr rw v s) : ∀ k ∈ blkD rc rr rw v, k < w.heap.size := by
  have h1 := lt_of_blk h.head
  have h2 := h.sd.lt
  have h3 := h.rv.lt
  intro k hk
  rcases List.mem_append.1 hk with hk | hk
  · simp only [List.mem_cons, List.not_mem_nil, or_false] at hk
    omega
  · obtain ⟨cs, hcs⟩ := own_cells h.row k hk
    exact lt_of_blk hcs
theorem DQ.form (h : DQ w rc rr rw v s) : ∃ a cap, v = .slice a s.L.length cap := own_slice h.row
theorem DQ.few (h : DQ w rc rr rw v s) : s.L.length ≤ 32 := by have h1 := h.inv.few; have h2 := h.inv.room; omega
theorem ListOk.few16 {L : WL} (h : ListOk L) : L.length ≤ 16 := by
  have h1 := List.Nodup.length_le_of_subset (l₁ := L.map (·.1)) (l₂ := (List.range 16).map (fun k : Nat => (k : Int))) h.nodup (by
    intro t ht
    obtain ⟨y, hy, rfl⟩ := List.mem_map.1 ht
    have := (h.ok y hy).1
    unfold okT at this
    exact List.mem_map.2 ⟨y.1.toNat, by simp; omega, by omega⟩)
  simpa using h1
theorem DQ.fewS (h : DQ w rc rr rw v s) : s.S.length ≤ 999999 ∧ s.R.length ≤ 999999 := by have h1 := h.inv.ls.few16; have h2 := h.inv.lr.few16; omega
theorem DQ.c0 (h : DQ w rc rr rw v s) : w.cell? ⟨rc, 0, none⟩ = some (.int .i64 s.room) := cellB h.head rfl
theorem DQ.c1 (h : DQ w rc rr rw v s) : w.cell? ⟨rc, 1, none⟩ = some v := cellB h.head rfl
theorem DQ.c2 (h : DQ w rc rr rw v s) : w.cell? ⟨rc, 2, none⟩ = some (.pointer (some ⟨rr, 0, none⟩)) := cellB h.head rfl
theorem DQ.c3 (h : DQ w rc rr rw v s) : w.cell? ⟨rc, 3, none⟩ = some (.pointer (some ⟨rw, 0, none⟩)) := cellB h.head rfl
theorem DQ.cfr (h : DQ w rc rr rw v s) (i : Nat) : w.frozen? ⟨rc, i, none⟩ = false := frozenB h.head i
/-- The messages' row, opened. -/
theorem DQ.open (h : DQ w rc rr rw v s) : ∃ a cap, v = .slice a s.L.length cap ∧ (s.L = [] ∨ ∃ g, a = some ⟨g, 0, none⟩ ∧ ∀ j x, s.L[j]? = some x → w.cell? ⟨g, j * 2, none⟩ = some (.int .i64 x.1) ∧ w.cell? ⟨g, j * 2 + 1, none⟩ = some (.int .i64 x.2)) := by
  obtain ⟨a, cap, rfl⟩ := h.form
  refine ⟨a, cap, rfl, ?_⟩
  cases hl : s.L with
  | nil => exact .inl rfl
  | cons y r =>
    refine .inr ?_
    have hr := h.row
    rw [hl] at hr
    obtain ⟨g, cap', cur, e, _, hb, _, _, _, ht⟩ := own_blk hr (by simp)
    injection e with e1 e2 e3
    subst e1
    refine ⟨g, rfl, fun j x hx => ?_⟩
    have hf : (flatW (y :: r))[j * 2]? = some (.int .i64 x.1) ∧ (flatW (y :: r))[j * 2 + 1]? = some (.int .i64 x.2) := flatW_at hx
    exact ⟨cellB hb (own_take ht _ _ hf.1), cellB hb (own_take ht _ _ hf.2)⟩
end

def DMsgsPost (l : WL) (w : World) (e : Ending) (w' : World) : Prop :=
  ∃ v, e = .returned v ∧ w'.ownsRow w.heap.size 33 2 v l.length (flatW l) ∧ Chg [] w w'

set_option maxRecDepth 100000 in
set_option maxHeartbeats 4000000 in
theorem dqorderc (rc rr rw : Nat) (v : Value) (s : QS) (w : World) (h : DQ w rc rr rw v s) :
    Calls Tryz.prog 28 #[.pointer (some ⟨rc, 0, none⟩)] w (DMsgsPost s.ord w) := by
  obtain ⟨i0, hi, hz0, hz1, hz2⟩ := info_parts infoMessage
  obtain ⟨a, cap, rfl, hc⟩ := h.open
  have hl : s.L.length ≤ 32 := h.few
  obtain ⟨l, hll⟩ : ∃ l, l = s.L := ⟨_, rfl⟩
  have he : s.ord = ordK l 32 := by rw [hll]; rfl
  rw [← hll] at hc hl
  rw [he]
  have HR := Lib.hid (show ∀ W, Chg [] w W → W.cell? ⟨rc, 1, none⟩ = some (.slice a l.length cap) from fun W hC => by rw [hll]; exact (h.calm hC).c1)
  have HB := Lib.hid hc
  obtain ⟨n, hn⟩ : ∃ n, n = l.length := ⟨_, rfl⟩
  rw [← hn] at HR hl
  have HN := Lib.hid hn
  clear hc h hn hll he
  go_enter Tryz.func28, Tryz.ntmps28
  go_wp2
  go_loopw [3, 4] (fun s p wr => ∃ k : Nat, k ≤ 32 ∧ p = .int .i64 (31 - k) ∧ (∃ a c, s = .slice a (ordK l k).length c) ∧ wr.ownsRow w.heap.size 33 2 s (ordK l k).length (flatW (ordK l k)) ∧ Chg [] w wr) (fun _ p _ => (intOf p + 1).toNat)
  case atStart => exact ⟨0, by omega, rfl, ⟨none, 0, rfl⟩, World.ownsRow_nil .., Chg.refl _ _⟩
  case round =>
    obtain ⟨k, hk, rfl, ⟨va, vc, rfl⟩, ho, hC⟩ := hrel
    by_cases hlt : k < 32
    · have HO := Lib.hid (And.intro ho hC)
      clear ho hC
      have hge : decide ((k : Int) ≤ 31) = true := decide_eq_true (by omega)
      go_wp2
      go_loopw [3, 5] (fun s p wr => ∃ i : Nat, i ≤ n ∧ p = .int .i64 i ∧ (∃ a c, s = .slice a (ordI l k i).length c) ∧ wr.ownsRow w.heap.size 33 2 s (ordI l k i).length (flatW (ordI l k i)) ∧ Chg [] w wr) (fun _ p _ => n - (intOf p).toNat)
      case atStart => exact ⟨0, by omega, rfl, by rw [ordI_zero]; exact ⟨va, vc, rfl⟩, by rw [ordI_zero]; exact HO.out.1, HO.out.2⟩
      case round =>
        obtain ⟨i, hin, rfl, ⟨va', vc', rfl⟩, ho, hC⟩ := hrel
        have c0 := HR.out wr hC
        by_cases hlt2 : i < n
        · obtain ⟨x, hx⟩ : ∃ x, l[i]? = some x := ⟨_, List.getElem?_eq_getElem (by have := HN.out; omega)⟩
          obtain ⟨g, hag, hd⟩ := HB.out.resolve_left (fun e => by rw [e] at hx; simp at hx)
          have d1 := SrcAt.calm.cell_calm (hd i x hx).1 hC
          have d2 := SrcAt.calm.cell_calm (hd i x hx).2 hC
          subst hag
          have hlen := ordI_len l k i
          rw [← HN.out] at hlen
          have hkn : (k + 1) * n ≤ 32 * 32 := Nat.mul_le_mul (by omega) hl
          obtain ⟨t, q⟩ := x
          simp only at d1 d2
          have hB1 : w.heap.size ≤ wr.heap.size := hC.size
          have HO2 := Lib.hid (And.intro ho hC)
          by_cases hq : q = 31 - (k : Int)
          · subst hq
            have hbq : ((31 - (k : Int) : Int) == 31 - (k : Int)) = true := by simp
            have HY := Lib.hid (ordI_yes hx rfl)
            have hd1 : (ordI l k i).length + 1 ≤ maxLen := by unfold maxLen; omega
            have hd2 : ((ordI l k i).length + 1) * 16 ≤ 140737488355328 := by omega
            generalize hm : (ordI l k i).length = m at *
            have HMM := Lib.hid hm
            clear hx hd hlen hkn ho hC hm
            go_wp2_with (at_builtin; refine wpList_push rfl _ _ 47 rfl w.heap.size 33 i0 (.agg #[.int .i64 0, .int .i64 0]) 2 16 Tryz.underlying47 hi hz0 hz1 hz2 rfl (by decide) (.slice va' m vc') m _ rfl HO2.out.1 [.int .i64 t, .int .i64 (31 - (k : Int))] rfl rfl (by simp [Value.oneCell']) hd1 hd2 hB1 ?_; intro v2 w2 ho2 hC2 hloc hnn; obtain ⟨va2, vc2, rfl⟩ := own_slice ho2)
            go_roundw
            case rel =>
              have e1 : (ordI l k (i + 1)).length = m + 1 := by rw [HY.out, List.length_append, HMM.out]; rfl
              have e2 : flatW (ordI l k (i + 1)) = flatW (ordI l k i) ++ [.int .i64 t, .int .i64 (31 - (k : Int))] := by rw [HY.out, flatW_snoc]
              exact ⟨i + 1, by omega, by go_num, by rw [e1]; exact ⟨_, _, rfl⟩, by rw [e1, e2]; exact ho2, HO2.out.2.trans' hC2 (fun j hj => .inr (own_ge HO2.out.1 j hj))⟩
            case measure => simp [intOf]; omega
          · have hbq : ((q : Int) == 31 - (k : Int)) = false := by simpa using hq
            have HY := Lib.hid (ordI_no hx hq)
            clear hx hd hlen hkn ho hC hq
            go_wp2
            go_roundw
            case rel => exact ⟨i + 1, by omega, by go_num, by rw [HY.out]; exact ⟨_, _, rfl⟩, by rw [HY.out]; exact HO2.out.1, HO2.out.2⟩
            case measure => simp [intOf]; omega
        · have HO2 := Lib.hid (And.intro ho hC)
          have HY := Lib.hid (ordI_all l k i (by have := HN.out; omega))
          clear ho hC
          go_wp2
          go_roundw
          case rel => exact ⟨k + 1, by omega, by go_num, by rw [← HY.out]; exact ⟨_, _, rfl⟩, by rw [← HY.out]; exact HO2.out.1, HO2.out.2⟩
          case measure => simp [intOf]; omega
    · have hk32 : k = 32 := by omega
      subst hk32
      have HO := Lib.hid (And.intro ho hC)
      clear ho hC hlt hk
      go_wp2
      go_ret
      exact ⟨_, rfl, HO.out.1, HO.out.2⟩


set_option maxRecDepth 100000 in
theorem dqwaitc (rc rr rw : Nat) (v : Value) (s : QS) (t : Int) (w : World) (h : DQ w rc rr rw v s) :
    Calls Tryz.prog 30 #[.pointer (some ⟨rc, 0, none⟩), .int .i64 t] w fun e w' => e = .returned (.tuple #[.bool (hasR s.S t), .bool (s.is t)]) ∧ w = w' := by
  have c1 := h.c2
  have c2 := h.c3
  have HP := Lib.hid (And.intro (rpriocc rr s.S t w h.sd (by have := h.fewS; omega)) (rpriocc rw s.R t w h.rv (by have := h.fewS; omega)))
  unfold QS.is
  generalize prioR s.S t = p at *
  generalize prioR s.R t = q at *
  generalize hasR s.S t = a at *
  generalize hasR s.R t = b at *
  clear h
  cases a
  all_goals
    simp only [Bool.false_or, Bool.true_or]
    go_enter Tryz.func30, Tryz.ntmps30
    go_wp2_with fail
    refine HP.out.1.mono ?_
    rintro e w1 ⟨rfl, rfl⟩
    go_wp2_with fail
    refine HP.out.2.mono ?_
    rintro e w1 ⟨rfl, rfl⟩
    go_wp2
    go_ret2
    exact ⟨rfl, rfl⟩

theorem tp_ways (t p : Int) : (tpB t p = true ∧ decide (t < 0) = false ∧ decide (16 ≤ t) = false ∧ decide (p < 1) = false ∧ decide (31 < p) = false) ∨
    (tpB t p = false ∧ (decide (t < 0) = true ∨ (decide (t < 0) = false ∧ decide (16 ≤ t) = true) ∨ (decide (t < 0) = false ∧ decide (16 ≤ t) = false ∧ decide (p < 1) = true) ∨ (decide (t < 0) = false ∧ decide (16 ≤ t) = false ∧ decide (p < 1) = false ∧ decide (31 < p) = true))) := by
  simp only [decide_eq_true_eq, decide_eq_false_iff_not]
  cases h : tpB t p with
  | true =>
    have h1 := tpB_iff.1 h
    unfold okT okP at h1
    exact .inl ⟨rfl, by omega⟩
  | false =>
    have h1 : ¬ (okT t ∧ okP p) := fun hh => by rw [tpB_iff.2 hh] at h; cases h
    unfold okT okP at h1
    exact .inr ⟨rfl, by omega⟩
set_option maxRecDepth 100000 in
theorem dqaskc (rc : Nat) (t p : Int) (w : World) :
    Calls Tryz.prog 44 #[.pointer (some ⟨rc, 0, none⟩), .int .i64 t, .int .i64 p] w fun e w' => e = .returned (.int .i64 (if tpB t p = true then 0 else 2)) ∧ w = w' := by
  rcases tp_ways t p with ⟨h0, h1, h2, h3, h4⟩ | ⟨h0, h1 | ⟨h1, h2⟩ | ⟨h1, h2, h3⟩ | ⟨h1, h2, h3, h4⟩⟩
  all_goals
    rw [h0]
    clear h0
    go_enter Tryz.func44, Tryz.ntmps44
    go_wp2
    go_ret
    exact ⟨rfl, rfl⟩

def DQNewP (room : Int) (w : World) (e : Ending) (w' : World) : Prop :=
  ∃ rc rr rw, e = .returned (.pointer (some ⟨rc, 0, none⟩)) ∧ (∀ k ∈ blkD rc rr rw (.slice none 0 0), w.heap.size ≤ k) ∧ DQ w' rc rr rw (.slice none 0 0) (qnew room) ∧ Chg [] w w'
set_option maxRecDepth 100000 in
theorem dqnewc (room : Int) (w : World) (h : roomB room = true) : Calls Tryz.prog 6 #[.int .i64 room] w (DQNewP room w) := by
  have hr : 1 ≤ room ∧ room ≤ 32 := by unfold roomB at h; simpa using h
  have b1 : decide (room < 1) = false := by simp; omega
  have b2 : decide (32 < room) = false := by simp; omega
  have HR := Lib.hid hr
  clear hr h
  go_enter Tryz.func6, Tryz.ntmps6
  go_wp2
  go_ret
  have h1 := heap_alloc_eq w (.cells #[.slice none 0 0] 53)
  have h2 := heap_alloc_eq (w.alloc (.cells #[.slice none 0 0] 53)) (.cells #[.slice none 0 0] 53)
  have h3 := heap_alloc_eq ((w.alloc (.cells #[.slice none 0 0] 53)).alloc (.cells #[.slice none 0 0] 53)) (.cells (dqcells w.heap.size (w.heap.size + 1) (.slice none 0 0) (qnew room)) 56)
  simp only [World.size_alloc] at h2 h3
  refine ⟨_, w.heap.size, w.heap.size + 1, rfl, ?_, ⟨h3, World.ownsRow_nil .., ⟨_, blk_alloc (blk_alloc h1 _) _, World.ownsRow_nil ..⟩, ⟨_, blk_alloc h2 _, World.ownsRow_nil ..⟩, QInv.new HR.out, by omega⟩, (((Chg.refl _ _).alloc _).alloc _).alloc _⟩
  intro k hk
  simp only [blkD, Value.ownBlock, Option.toList, List.append_nil, List.mem_cons, List.not_mem_nil, or_false] at hk
  omega
set_option maxRecDepth 100000 in
theorem dqnewno (room : Int) (w : World) (h : roomB room = false) : Calls Tryz.prog 6 #[.int .i64 room] w fun e w' => e = .returned (.pointer none) ∧ w = w' := by
  have hr : ¬ (1 ≤ room ∧ room ≤ 32) := by unfold roomB at h; simpa using h
  have hc : decide (room < 1) = true ∨ (decide (room < 1) = false ∧ decide (32 < room) = true) := by
    simp only [decide_eq_true_eq, decide_eq_false_iff_not]
    omega
  clear h hr
  rcases hc with h1 | ⟨h1, h2⟩
  all_goals
    go_enter Tryz.func6, Tryz.ntmps6
    go_wp2
    go_ret
    exact ⟨rfl, rfl⟩

end Go.Proofs.YtiiafhlckmkcnaaGreat
