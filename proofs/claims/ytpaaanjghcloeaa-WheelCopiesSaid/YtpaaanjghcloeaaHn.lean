
/- metronomeref07: the document's wheel as it lies in memory; At, Cancel: contracts. -/
import Derived.Test.YtpaaanjghcloeaaHi
namespace Go.Proofs.Ytpaaanjghcloeaa
open Go.RowKit

abbrev DL := List (Int × Int)
def rowD (x : Int × Int) : List Value := [.int .i64 x.1, .int .i64 x.2]
def flatD (l : DL) : List Value := l.flatMap rowD
theorem flatD_len (l : DL) : (flatD l).length = l.length * 2 := by
  unfold flatD
  induction l with
  | nil => rfl
  | cons x l ih => rw [List.flatMap_cons, List.length_append, ih, List.length_cons]; simp [rowD]; omega
theorem flatD_at {l : DL} {j : Nat} {x : Int × Int} (h : l[j]? = some x) : (flatD l)[j * 2]? = some (.int .i64 x.1) ∧ (flatD l)[j * 2 + 1]? = some (.int .i64 x.2) := by
  induction l generalizing j with
  | nil => simp at h
  | cons y l ih =>
    have e : flatD (y :: l) = .int .i64 y.1 :: .int .i64 y.2 :: flatD l := rfl
    rw [e]
    cases j with
    | zero =>
      simp at h
      subst h
      exact ⟨rfl, rfl⟩
    | succ j =>
      have := ih (j := j) (by simpa using h)
      rw [show (j + 1) * 2 = j * 2 + 2 by omega]
      exact this
theorem flatD_app (l m : DL) : flatD (l ++ m) = flatD l ++ flatD m := List.flatMap_append
theorem flatD_one (l : DL) : ∀ u ∈ flatD l, u.oneCell' = true := by
  intro u hu
  obtain ⟨x, _, hx⟩ := List.mem_flatMap.1 hu
  simp [rowD] at hx
  rcases hx with rfl | rfl <;> rfl

/-- A row of pairs that is there to be read. -/
def RowD (w : World) (a : Option Addr) (cap : Nat) (l : DL) : Prop := (a = none ∧ cap = 0 ∧ l = []) ∨ ∃ g, a = some ⟨g, 0, none⟩ ∧ l.length ≤ cap ∧ cap ≤ maxLen ∧ ∀ j u, (flatD l)[j]? = some u → w.cell? ⟨g, j, none⟩ = some u
theorem RowD.of_own {w : World} {B : Nat} {v : Value} {l : DL} (h : w.ownsRow B 45 2 v l.length (flatD l)) : ∃ a cap, v = .slice a l.length cap ∧ RowD w a cap l := by
  rcases h.2 with ⟨e1, e2⟩ | ⟨g, cap, cur, e1, _, e3, h1, h2, _, e4⟩
  · exact ⟨none, 0, by rw [e1, e2], .inl ⟨rfl, rfl, List.eq_nil_of_length_eq_zero e2⟩⟩
  · exact ⟨some ⟨g, 0, none⟩, cap, e1, .inr ⟨g, rfl, h1, h2, fun j u hj => cellB e3 (own_takeH e4 _ _ hj)⟩⟩
theorem RowD.cells {w : World} {g cap : Nat} {l : DL} (h : RowD w (some ⟨g, 0, none⟩) cap l) {j : Nat} {x : Int × Int} (hj : l[j]? = some x) : w.cell? ⟨g, j * 2, none⟩ = some (.int .i64 x.1) ∧ w.cell? ⟨g, j * 2 + 1, none⟩ = some (.int .i64 x.2) := by
  rcases h with ⟨e, _⟩ | ⟨g', e, _, _, h⟩
  · cases e
  · cases e
    exact ⟨h _ _ (flatD_at hj).1, h _ _ (flatD_at hj).2⟩
theorem RowD.calm {w w' : World} {a : Option Addr} {cap : Nat} {l : DL} (h : RowD w a cap l) (hC : Chg [] w w') : RowD w' a cap l := by
  rcases h with h | ⟨g, e, h1, h2, h⟩
  · exact .inl h
  · exact .inr ⟨g, e, h1, h2, fun j u hj => cell_kept (h j u hj) hC (by simp)⟩
theorem RowD.pt {w : World} {a : Option Addr} {cap : Nat} {l : DL} (h : RowD w a cap l) (hn : l ≠ []) : ∃ g, a = some ⟨g, 0, none⟩ ∧ l.length ≤ cap ∧ cap ≤ maxLen := by
  rcases h with ⟨_, _, h⟩ | ⟨g, e, h1, h2, _⟩
  · exact absurd h hn
  · exact ⟨g, e, h1, h2⟩
theorem addr_add (g o j : Nat) : ((⟨g, o, none⟩ : Addr).add j) = ⟨g, o + j, none⟩ := by unfold Addr.add; split <;> simp_all
theorem RowD.head {w : World} {g cap : Nat} {l : DL} (h : RowD w (some ⟨g, 0, none⟩) cap l) {i : Nat} (hi : i ≤ l.length) : SrcAt w (.slice (some ⟨g, 0, none⟩) i cap) (l.take i).length (flatD (l.take i)) := by
  rcases h with ⟨e, _⟩ | ⟨g', e, _, _, h⟩
  · cases e
  · cases e
    refine .inr ⟨⟨g, 0, none⟩, cap, by rw [List.length_take, Nat.min_eq_left hi], fun j u hj => ?_⟩
    rw [addr_add, Nat.zero_add]
    refine h j u ?_
    have e : flatD l = flatD (l.take i) ++ flatD (l.drop i) := by rw [← flatD_app, List.take_append_drop]
    rw [e, List.getElem?_append_left (List.getElem?_eq_some_iff.1 hj).1]
    exact hj
theorem RowD.tail {w : World} {g cap : Nat} {l : DL} (h : RowD w (some ⟨g, 0, none⟩) cap l) {i : Nat} (hi : i ≤ l.length) :
    ∃ A, (if cap = i then (some ⟨g, 0, none⟩ : Option Addr) else some ⟨g, i * 2, none⟩) = some A ∧ SrcAt w (.slice (some A) (l.length - i) (cap - i)) (l.drop i).length (flatD (l.drop i)) := by
  rcases h with ⟨e, _⟩ | ⟨g', e, hlc, _, h⟩
  · cases e
  · cases e
    refine ⟨if cap = i then ⟨g, 0, none⟩ else ⟨g, i * 2, none⟩, by split <;> rfl, .inr ⟨_, cap - i, by rw [List.length_drop], fun j u hj => ?_⟩⟩
    have hjl := (List.getElem?_eq_some_iff.1 hj).1
    rw [flatD_len, List.length_drop] at hjl
    rw [if_neg (by omega), addr_add]
    have e : flatD l = flatD (l.take i) ++ flatD (l.drop i) := by rw [← flatD_app, List.take_append_drop]
    have hlen : (flatD (l.take i)).length = i * 2 := by rw [flatD_len, List.length_take, Nat.min_eq_left hi]
    exact h (i * 2 + j) u (by rw [e, ← hlen, List.getElem?_append_right (by omega), Nat.add_sub_cancel_left]; exact hj)

/-- The document's wheel at block rb. -/
def QAt (w : World) (rb : Nat) (l : DL) : Prop := ∃ v, w.heap[rb]? = some (.cells #[v] 39 (0, 0)) ∧ w.ownsRow 0 45 2 v l.length (flatD l)
/-- The block holds no pairs of the document's. -/
def NotD (w : World) (k : Nat) : Prop := ∀ cs fr, w.heap[k]? ≠ some (.cells cs 45 fr)
theorem NotD.of {w : World} {k : Nat} {o : Obj} (h : w.heap[k]? = some o) (ho : ∀ cs fr, o ≠ .cells cs 45 fr) : NotD w k := fun cs fr e => ho cs fr (by rw [h] at e; exact Option.some.inj e)
theorem NotD.ge {w : World} {k : Nat} (h : w.heap.size ≤ k) : NotD w k := fun cs fr e => by
  have := lt_of_blk e
  omega
theorem QAt.lt {w : World} {rb : Nat} {l : DL} (h : QAt w rb l) : rb < w.heap.size := by
  obtain ⟨v, h, _⟩ := h
  exact lt_of_blk h
theorem QAt.kept {S : List Nat} {w w' : World} {rb : Nat} {l : DL} (h : QAt w rb l) (hC : Chg S w w') (hS : ∀ k ∈ S, k ≠ rb ∧ NotD w k) : QAt w' rb l := by
  obtain ⟨v, h1, h2⟩ := h
  refine ⟨v, hC.blk h1 (fun hm => (hS _ hm).1 rfl), own_kept h2 hC (fun k hk hm => ?_)⟩
  obtain ⟨cs, hcs⟩ := own_cellsH h2 k hm
  exact (hS k hk).2 _ _ hcs
theorem QAt.calm {w w' : World} {rb : Nat} {l : DL} (h : QAt w rb l) (hC : Chg [] w w') : QAt w' rb l := h.kept hC (by simp)
theorem HAt.notD {w : World} {b : Nat} {vs : List Value} {s : HS} (h : HAt w b vs s) : ∀ x ∈ blocksH b vs, NotD w x := by
  intro x hx
  rcases mem_blocks.1 hx with rfl | ⟨k, v, hk, hm⟩
  · exact NotD.of h.head (fun cs fr e => by cases e)
  · obtain ⟨cs, hc⟩ := own_cellsH (h.own k v hk) x hm
    exact NotD.of hc (fun cs fr e => by cases e)
theorem QAt.ne {w : World} {rb b : Nat} {l : DL} {vs : List Value} {s : HS} (h : QAt w rb l) (hA : HAt w b vs s) : rb ∉ blocksH b vs := fun hx => by
  obtain ⟨v, h1, _⟩ := h
  rcases mem_blocks.1 hx with e | ⟨k, v, hk, hm⟩
  · rw [e, hA.head] at h1
    injection h1 with h1
    injection h1 with _ h2 _
    exact absurd h2 (by decide)
  · obtain ⟨cs, hc⟩ := own_cellsH (hA.own k v hk) rb hm
    rw [hc] at h1
    cases h1
/-- A step of the program's wheel leaves the document's. -/
theorem QAt.step {w w' : World} {rb b : Nat} {l : DL} {vs : List Value} {s : HS} (h : QAt w rb l) (hA : HAt w b vs s) (hC : Chg (blocksH b vs) w w') : QAt w' rb l :=
  h.kept hC (fun k hk => ⟨fun e => h.ne hA (by rw [← e]; exact hk), hA.notD k hk⟩)
theorem QAt.open {w : World} {rb : Nat} {l : DL} (h : QAt w rb l) : ∃ a cap, w.heap[rb]? = some (.cells #[.slice a l.length cap] 39 (0, 0)) ∧ RowD w a cap l := by
  obtain ⟨v, h1, h2⟩ := h
  obtain ⟨a, cap, rfl, hr⟩ := RowD.of_own h2
  exact ⟨a, cap, h1, hr⟩

theorem infoROne : (Try.prog.info? 45).map (fun i => (i.zero, i.size, i.bytes)) = some (some (.agg #[.int .i64 0, .int .i64 0]), 2, 16) := by kernel_rfl
theorem run_moreD {w : World} (B : Nat) (v : Value) (l m : DL) (hown : w.ownsRow B 45 2 v l.length (flatD l)) {x : Value} (hx : SrcAt w x m.length (flatD m)) (hl : l.length + m.length ≤ 1000000) (hB : B ≤ w.heap.size) :
    ∃ a cap w', (Builtin.append_ #[37, 37] 37 #[v, x]).run Try.prog w = .ok (.slice a (l ++ m).length cap) w' ∧ w'.ownsRow B 45 2 (.slice a (l ++ m).length cap) (l ++ m).length (flatD (l ++ m)) ∧ Chg v.ownBlock.toList w w' := by
  obtain ⟨i0, hi, hz0, hz1, hz2⟩ := info_parts infoROne
  obtain ⟨v', w', hr, h2, h3, _⟩ := run_more (P := Try.prog) (w := w) B 37 37 45 i0 (.agg #[.int .i64 0, .int .i64 0]) 2 16 Try.underlying37 hi hz0 hz1 hz2 rfl (by decide)
    v l.length (flatD l) hown x m.length (flatD m) hx (flatD_len m) (flatD_one m) (by unfold maxLen; omega) (by omega) hB
  rw [← flatD_app, ← List.length_append] at h2
  obtain ⟨a, cap, rfl, _⟩ := RowD.of_own h2
  exact ⟨a, cap, w', hr, h2, h3⟩

/-- The document's wheel has another row now. -/
theorem QAt.made {w w' : World} {rb : Nat} {l' : DL} {v0 v' : Value} {B : Nat} (h : w.heap[rb]? = some (.cells #[v0] 39 (0, 0))) (hC : Chg [] w w') (hB : rb < B) (ho : w'.ownsRow B 45 2 v' l'.length (flatD l')) :
    QAt (w'.setCell ⟨rb, 0, none⟩ v') rb l' :=
  ⟨v', blk_setCell (hC.blk h (by simp)) v', own_mono (own_kept ho ((Chg.refl [rb] w').setCell _ _ (by simp)) (fun q hq => by simp at hq; subst hq; exact own_notin ho hB)) (Nat.zero_le _)⟩

def idxD (l : DL) (n : Int) : Option Nat := l.findIdx? (fun x => x.1 == n)
def delD (l : DL) (n : Int) : DL := match idxD l n with | none => l | some i => l.take i ++ l.drop (i + 1)
def hasD (l : DL) (n : Int) : Bool := (idxD l n).isSome
def canDE (l : DL) (n : Int) : Int := if okId n then (if hasD l n = true then 0 else 6) else 2
def canDS (l : DL) (n : Int) : DL := if okId n then delD l n else l
def atD (l : DL) (n : Int) : Value := match l.find? (fun x => x.1 == n) with | none => .tuple #[.int .i64 0, .bool false] | some x => .tuple #[.int .i64 x.2, .bool true]
theorem idxD_some {l : DL} {n : Int} {i : Nat} (h : idxD l n = some i) : ∃ t, l[i]? = some (n, t) ∧ (∀ j : Nat, j < i → ∀ x, l[j]? = some x → (x.1 == n) = false) := by
  obtain ⟨h1, h2, h3⟩ := List.findIdx?_eq_some_iff_getElem.1 h
  have e : l[i].1 = n := by simpa using h2
  refine ⟨l[i].2, by rw [List.getElem?_eq_getElem h1, ← e], fun j hj x hx => ?_⟩
  have := h3 j hj
  rw [List.getElem?_eq_getElem (by omega)] at hx
  cases hx
  simpa using this
theorem find_idx {l : DL} {n : Int} {i : Nat} {t : Int} (h : idxD l n = some i) (ht : l[i]? = some (n, t)) : l.find? (fun x => x.1 == n) = some (n, t) := by
  obtain ⟨h1, h2, h3⟩ := List.findIdx?_eq_some_iff_getElem.1 h
  rw [List.find?_eq_some_iff_getElem]
  refine ⟨by simp, i, h1, ?_, fun j hj => by have := h3 j hj; simpa using this⟩
  rw [List.getElem?_eq_getElem h1] at ht
  exact Option.some.inj ht
theorem idxD_none {l : DL} {n : Int} (h : idxD l n = none) : ∀ (j : Nat) x, l[j]? = some x → (x.1 == n) = false := fun j x hx => by
  have := List.findIdx?_eq_none_iff.1 h x (List.mem_of_getElem? hx)
  simpa using this

set_option maxRecDepth 100000 in
set_option maxHeartbeats 2000000 in
theorem qatc (rb : Nat) (l : DL) (n : Int) (w : World) (h : QAt w rb l) (hl : l.length ≤ 1000000) :
    Calls Try.prog 29 #[.pointer (some ⟨rb, 0, none⟩), .int .i64 n] w fun e w' => e = .returned (atD l n) ∧ w = w' := by
  obtain ⟨a, cap, hb, hr⟩ := h.open
  have c0 := cellB hb (i := 0) rfl
  clear hb h
  cases hf : idxD l n with
  | none =>
    have hv : atD l n = .tuple #[.int .i64 0, .bool false] := by
      unfold atD
      cases hfd : l.find? (fun x => x.1 == n) with
      | none => rfl
      | some x =>
        obtain ⟨j, hj⟩ := List.getElem?_of_mem (List.mem_of_find?_eq_some hfd)
        have h1 := idxD_none hf j x hj
        have h2 := List.find?_some hfd
        rw [h1] at h2
        cases h2
    rw [hv]
    obtain ⟨m, hm⟩ : ∃ m, m = l.length := ⟨_, rfl⟩
    rw [← hm] at c0 hl
    have H := Lib.hid (And.intro hr (And.intro (idxD_none hf) hm))
    clear hr hf hv hm
    go_enter Try.func29, Try.ntmps29
    go_wp2
    go_loopw [6] (fun s wr => ∃ k : Nat, k ≤ m ∧ s = .int .i64 k ∧ wr = w) (fun s _ => m - (intOf s).toNat)
    case atStart => exact ⟨0, by omega, rfl, rfl⟩
    case round =>
      obtain ⟨k, hk, rfl, rfl⟩ := hrel
      by_cases hlt : k < m
      · obtain ⟨x, hx⟩ : ∃ x, l[k]? = some x := ⟨_, List.getElem?_eq_getElem (by have := H.out.2.2; omega)⟩
        obtain ⟨g, rfl, _, _⟩ := H.out.1.pt (fun e => by subst e; simp at hx)
        obtain ⟨d0, d1⟩ := H.out.1.cells hx
        have hb := H.out.2.1 k x hx
        obtain ⟨x1, x2⟩ := x
        dsimp only at d0 d1 hb
        clear hx
        go_wp2
        go_roundw
        case rel => exact ⟨k + 1, by omega, by go_num, by trivial⟩
        case measure => simp [intOf]; omega
      · go_wp2
        go_ret2
        exact ⟨rfl, rfl⟩
  | some i =>
    obtain ⟨t, hi, hbe⟩ := idxD_some hf
    have hv : atD l n = .tuple #[.int .i64 t, .bool true] := by unfold atD; rw [find_idx hf hi]
    rw [hv]
    have hil := (List.getElem?_eq_some_iff.1 hi).1
    obtain ⟨g, rfl, _, _⟩ := hr.pt (fun e => by subst e; simp at hi)
    obtain ⟨m, hm⟩ : ∃ m, m = l.length := ⟨_, rfl⟩
    rw [← hm] at c0 hl hil
    have H := Lib.hid (And.intro hr (And.intro hi (And.intro hbe hm)))
    clear hr hf hv hi hbe hm
    go_enter Try.func29, Try.ntmps29
    go_wp2
    go_loopw [6] (fun s wr => ∃ k : Nat, k ≤ i ∧ s = .int .i64 k ∧ wr = w) (fun s _ => m - (intOf s).toNat)
    case atStart => exact ⟨0, by omega, rfl, rfl⟩
    case round =>
      obtain ⟨k, hk, rfl, rfl⟩ := hrel
      obtain ⟨x, hx⟩ : ∃ x, l[k]? = some x := ⟨_, List.getElem?_eq_getElem (by have := H.out.2.2.2; omega)⟩
      obtain ⟨d0, d1⟩ := H.out.1.cells hx
      by_cases hki : k = i
      · subst hki
        have e := H.out.2.1
        rw [hx] at e
        cases e
        have hb : (n == n) = true := by simp
        dsimp only at d0 d1
        clear hx
        go_wp2
        go_ret2
        exact ⟨rfl, rfl⟩
      · have hb := H.out.2.2.1 k (by omega) x hx
        obtain ⟨x1, x2⟩ := x
        dsimp only at d0 d1 hb
        clear hx
        go_wp2
        go_roundw
        case rel => exact ⟨k + 1, by omega, by go_num, by trivial⟩
        case measure => simp [intOf]; omega

def CanQ (rb : Nat) (l' : DL) (r : Int) (w : World) (e : Ending) (w' : World) : Prop := e = .returned (.int .i64 r) ∧ QAt w' rb l' ∧ Chg [rb] w w'

set_option maxRecDepth 100000 in
set_option maxHeartbeats 4000000 in
theorem qcanc (rb : Nat) (l : DL) (n : Int) (w : World) (h : QAt w rb l) (hl : l.length ≤ 1000000) :
    Calls Try.prog 27 #[.pointer (some ⟨rb, 0, none⟩), .int .i64 n] w (CanQ rb (canDS l n) (canDE l n) w) := by
  have HQ := Lib.hid h
  unfold canDS canDE
  by_cases hk : okId n
  · rw [if_pos hk, if_pos hk]
    have e1 : decide (n < 0) = false := decide_eq_false (by unfold okId at hk; omega)
    have e2 : decide (64 ≤ n) = false := decide_eq_false (by unfold okId at hk; omega)
    obtain ⟨a, cap, hb, hr⟩ := h.open
    have c0 := cellB hb (i := 0) rfl
    have f0 := frozenB hb 0
    cases hf : idxD l n with
    | none =>
      have hd : delD l n = l := by unfold delD; rw [hf]
      have hh : hasD l n = false := by unfold hasD; rw [hf]; rfl
      rw [hd, if_neg (by rw [hh]; simp)]
      obtain ⟨m, hm⟩ : ∃ m, m = l.length := ⟨_, rfl⟩
      rw [← hm] at c0 hl
      have H := Lib.hid (And.intro hr (And.intro (idxD_none hf) hm))
      clear hr hf hd hh hm h hb hk
      go_enter Try.func27, Try.ntmps27
      go_wp2
      go_loopw [5] (fun s wr => ∃ k : Nat, k ≤ m ∧ s = .int .i64 k ∧ wr = w) (fun s _ => m - (intOf s).toNat)
      case atStart => exact ⟨0, by omega, rfl, rfl⟩
      case round =>
        obtain ⟨k, hk, rfl, rfl⟩ := hrel
        by_cases hlt : k < m
        · obtain ⟨x, hx⟩ : ∃ x, l[k]? = some x := ⟨_, List.getElem?_eq_getElem (by have := H.out.2.2; omega)⟩
          obtain ⟨g, rfl, _, _⟩ := H.out.1.pt (fun e => by subst e; simp at hx)
          obtain ⟨d0, d1⟩ := H.out.1.cells hx
          have hb := H.out.2.1 k x hx
          obtain ⟨x1, x2⟩ := x
          dsimp only at d0 d1 hb
          clear hx
          go_wp2
          go_roundw
          case rel => exact ⟨k + 1, by omega, by go_num, by trivial⟩
          case measure => simp [intOf]; omega
        · go_wp2
          go_ret
          exact ⟨rfl, HQ.out, Chg.refl _ _⟩
    | some i =>
      have hd : delD l n = l.take i ++ l.drop (i + 1) := by unfold delD; rw [hf]
      have hh : hasD l n = true := by unfold hasD; rw [hf]; rfl
      rw [hd, if_pos hh]
      obtain ⟨t, hi, hbe⟩ := idxD_some hf
      have hil := (List.getElem?_eq_some_iff.1 hi).1
      obtain ⟨g, rfl, hlc, hcm⟩ := hr.pt (fun e => by subst e; simp at hi)
      have hrl := h.lt
      obtain ⟨a1, c1, w1, hr1, ho1, hC1⟩ := run_moreD (w := w) w.heap.size (.slice none 0 0) [] (l.take i) (World.ownsRow_nil ..) (hr.head (by omega)) (by rw [List.length_take]; simp; omega) (Nat.le_refl _)
      rw [List.nil_append] at hr1 ho1
      obtain ⟨A, hA, hs2⟩ := (hr.calm (hC1.mono (by simp [Value.ownBlock]))).tail (i := i + 1) (by omega)
      have hC1' : Chg [] w w1 := hC1.mono (by simp [Value.ownBlock])
      obtain ⟨a2, c2, w2, hr2, ho2, hC2⟩ := run_moreD (w := w1) w.heap.size _ _ _ ho1 hs2 (by rw [List.length_take, List.length_drop]; omega) hC1'.size
      have hC3 : Chg [] w w2 := hC1'.trans' hC2 (fun k hk => .inr (own_ge ho1 k hk))
      have hq := QAt.made hb hC3 hrl ho2
      have x1 := cellB (hC1'.blk hb (by simp)) (i := 0) rfl
      have x2 := cellB (hC3.blk hb (by simp)) (i := 0) rfl
      have g2 := frozenB (hC3.blk hb (by simp)) 0
      have hCf : Chg [rb] w (w2.setCell ⟨rb, 0, none⟩ (.slice a2 (l.take i ++ l.drop (i + 1)).length c2)) := (hC3.mono (by simp)).setCell _ _ (by simp)
      obtain ⟨n1, hn1⟩ : ∃ n1, n1 = (l.take i).length := ⟨_, rfl⟩
      obtain ⟨n2, hn2⟩ : ∃ n2, n2 = (l.take i ++ l.drop (i + 1)).length := ⟨_, rfl⟩
      rw [← hn1] at hr1 hr2
      rw [← hn2] at hr2 hq hCf
      obtain ⟨m, hm⟩ : ∃ m, m = l.length := ⟨_, rfl⟩
      rw [← hm] at c0 hl hil hlc x1 x2 hr2
      have H := Lib.hid (And.intro hr (And.intro hi (And.intro hbe hm)))
      have H1 := Lib.hid (And.intro hr1 (And.intro hr2 (And.intro hq hCf)))
      clear hr hf hd hh hm h hb hk hi hbe hr1 hr2 hq hCf ho1 ho2 hC1 hC1' hC2 hC3 hs2 hn1 hn2 hrl
      have hic : i ≤ cap := by omega
      have hin : i + 1 ≤ m := by omega
      have hwr : IntKind.i64.wrap ((i : Int) + 1) = (i : Int) + 1 := by unfold maxLen at hcm; simp [IntKind.wrap, IntKind.signed, IntKind.bits]; omega
      have hw1 : (0 : Int) ≤ (i : Int) + 1 := by omega
      have hw2 : (i : Int) + 1 ≤ (m : Int) := by omega
      go_enter Try.func27, Try.ntmps27
      go_wp2
      go_loopw [5] (fun s wr => ∃ k : Nat, k ≤ i ∧ s = .int .i64 k ∧ wr = w) (fun s _ => m - (intOf s).toNat)
      case atStart => exact ⟨0, by omega, rfl, rfl⟩
      case round =>
        obtain ⟨k, hk, rfl, rfl⟩ := hrel
        obtain ⟨x, hx⟩ : ∃ x, l[k]? = some x := ⟨_, List.getElem?_eq_getElem (by have := H.out.2.2.2; omega)⟩
        obtain ⟨d0, d1⟩ := H.out.1.cells hx
        by_cases hki : k = i
        · subst hki
          have e := H.out.2.1
          rw [hx] at e
          cases e
          have hb : (n == n) = true := by simp
          dsimp only at d0 d1
          clear hx
          go_wp2_with (first | (at_builtin; refine wpList_run rfl _ _ 37 37 rfl rfl (.slice none 0 0) (.slice (some ⟨g, 0, none⟩) k cap) _ rfl rfl w1 H1.out.1 ?_) | (at_builtin; refine wpList_run rfl _ _ 37 37 rfl rfl (.slice a1 n1 c1) (.slice (some A) (m - (k + 1)) (cap - (k + 1))) _ rfl rfl w2 H1.out.2.1 ?_))
          go_ret
          exact ⟨rfl, H1.out.2.2⟩
        · have hb := H.out.2.2.1 k (by omega) x hx
          obtain ⟨x1, x2⟩ := x
          dsimp only at d0 d1 hb
          clear hx
          go_wp2
          go_roundw
          case rel => exact ⟨k + 1, by omega, by go_num, by trivial⟩
          case measure => simp [intOf]; omega
  · rw [if_neg hk, if_neg hk]
    by_cases h0 : n < 0
    · have e1 : decide (n < 0) = true := decide_eq_true h0
      clear h hk h0
      go_enter Try.func27, Try.ntmps27
      go_wp2
      go_ret
      exact ⟨rfl, HQ.out, Chg.refl _ _⟩
    · have e1 : decide (n < 0) = false := decide_eq_false h0
      have e2 : decide (64 ≤ n) = true := decide_eq_true (by unfold okId at hk; omega)
      clear h hk h0
      go_enter Try.func27, Try.ntmps27
      go_wp2
      go_ret
      exact ⟨rfl, HQ.out, Chg.refl _ _⟩

end Go.Proofs.Ytpaaanjghcloeaa
