
/- metronomeref07: Set, Due: contracts. -/
import Derived.Test.YtpaaanjghcloeaaHn
import Derived.Test.YtpaaanjghcloeaaHj
namespace Go.Proofs.Ytpaaanjghcloeaa
open Go.RowKit

def cutD (l : DL) (t : Int) : Nat := (l.takeWhile fun x => decide (x.2 ≤ t)).length
theorem cutD_le (l : DL) (t : Int) : cutD l t ≤ l.length := (List.takeWhile_sublist _).length_le
theorem cutD_take (l : DL) (t : Int) : l.take (cutD l t) = l.takeWhile (fun x => decide (x.2 ≤ t)) := by
  unfold cutD
  induction l with
  | nil => rfl
  | cons x l ih =>
    rw [List.takeWhile_cons]
    split
    · rw [List.length_cons, List.take_succ_cons, ih]
    · rfl
theorem cutD_drop (l : DL) (t : Int) : l.drop (cutD l t) = l.dropWhile (fun x => decide (x.2 ≤ t)) := by
  unfold cutD
  induction l with
  | nil => rfl
  | cons x l ih =>
    rw [List.takeWhile_cons, List.dropWhile_cons]
    split
    · rw [List.length_cons, List.drop_succ_cons, ih]
    · rfl
theorem cutD_lt {l : DL} {t : Int} {j : Nat} (hj : j < cutD l t) {x : Int × Int} (hx : l[j]? = some x) : decide (x.2 ≤ t) = true := by
  have h1 : (l.take (cutD l t))[j]? = some x := by rw [List.getElem?_take_of_lt hj]; exact hx
  rw [cutD_take] at h1
  exact (mem_takeW (List.mem_of_getElem? h1)).2
theorem cutD_at {l : DL} {t : Int} {x : Int × Int} (hx : l[cutD l t]? = some x) : decide (x.2 ≤ t) = false := by
  have h1 : (l.drop (cutD l t))[0]? = some x := by rw [List.getElem?_drop]; simpa using hx
  rw [cutD_drop] at h1
  have := List.head?_dropWhile_not (fun y : Int × Int => decide (y.2 ≤ t)) l
  rw [List.head?_eq_getElem?, h1] at this
  simpa using this
def insD (l : DL) (x : Int × Int) : DL := l.take (cutD l x.2) ++ x :: l.drop (cutD l x.2)
def setDS (l : DL) (n t : Int) : DL := if okId n ∧ okAt t then insD (delD l n) (n, t) else l
theorem delD_len (l : DL) (n : Int) : (delD l n).length ≤ l.length := by
  unfold delD
  split
  · exact Nat.le_refl _
  · rw [List.length_append, List.length_take, List.length_drop]; omega

/-- The three appends of Set. -/
theorem set_chain {w : World} {rb : Nat} {m : DL} {a : Option Addr} {cap K : Nat} {n t : Int} (hb : w.heap[rb]? = some (.cells #[.slice a m.length cap] 39 (0, 0))) (hl : m.length ≤ 999990) (hK : K ≤ m.length) {X1 X2 : Value}
    (h1 : SrcAt w X1 (m.take K).length (flatD (m.take K))) (h2 : SrcAt w X2 (m.drop K).length (flatD (m.drop K))) :
    ∃ v1 w1 v2 w2 a3 n3 c3 w3, (Builtin.append_ #[37, 37] 37 #[.slice none 0 0, X1]).run Try.prog w = .ok v1 w1 ∧
      (Builtin.append_ #[37, 37] 37 #[v1, .slice (some ⟨w1.heap.size, 0, none⟩) 1 1]).run Try.prog (w1.alloc (.cells #[.int .i64 n, .int .i64 t] 45 (0, 0))) = .ok v2 w2 ∧
      (Builtin.append_ #[37, 37] 37 #[v2, X2]).run Try.prog w2 = .ok (.slice a3 n3 c3) w3 ∧
      w2.cell? ⟨rb, 0, none⟩ = some (.slice a m.length cap) ∧ w3.cell? ⟨rb, 0, none⟩ = some (.slice a m.length cap) ∧ w3.frozen? ⟨rb, 0, none⟩ = false ∧
      QAt (w3.setCell ⟨rb, 0, none⟩ (.slice a3 n3 c3)) rb (m.take K ++ (n, t) :: m.drop K) ∧ Chg [rb] w (w3.setCell ⟨rb, 0, none⟩ (.slice a3 n3 c3)) := by
  have hrb := lt_of_blk hb
  obtain ⟨a1, c1, w1, hr1, ho1, hC1⟩ := run_moreD (w := w) w.heap.size (.slice none 0 0) [] (m.take K) (World.ownsRow_nil ..) h1 (by rw [List.length_take]; simp; omega) (Nat.le_refl _)
  rw [List.nil_append] at hr1 ho1
  have hC1' : Chg [] w w1 := hC1.mono (by simp [Value.ownBlock])
  have hs1 := hC1'.size
  have hCa : Chg [] w (w1.alloc (.cells #[.int .i64 n, .int .i64 t] 45 (0, 0))) := hC1'.alloc _
  have hnew := heap_alloc_eq w1 (.cells #[.int .i64 n, .int .i64 t] 45 (0, 0))
  obtain ⟨a2, c2, w2, hr2, ho2, hC2⟩ := run_moreD (w := w1.alloc (.cells #[.int .i64 n, .int .i64 t] 45 (0, 0))) w.heap.size _ _ [(n, t)] (ho1.alloc _) (x := .slice (some ⟨w1.heap.size, 0, none⟩) 1 1)
    (.inr ⟨⟨w1.heap.size, 0, none⟩, 1, rfl, fun j u hj => by rw [addr_add, Nat.zero_add]; exact cellB hnew (by simpa [flatD, rowD] using hj)⟩) (by rw [List.length_take]; simp; omega) (by simp; omega)
  have hC2' : Chg [] w w2 := hCa.trans' hC2 (fun k hk => .inr (own_ge ho1 k hk))
  obtain ⟨a3, c3, w3, hr3, ho3, hC3⟩ := run_moreD (w := w2) w.heap.size _ _ (m.drop K) ho2 (h2.calm hC2') (by rw [List.length_append, List.length_take, List.length_drop]; simp; omega) hC2'.size
  have hC3' : Chg [] w w3 := hC2'.trans' hC3 (fun k hk => .inr (own_ge ho2 k hk))
  refine ⟨_, w1, _, w2, a3, _, c3, w3, hr1, hr2, hr3, cellB (hC2'.blk hb (by simp)) rfl, cellB (hC3'.blk hb (by simp)) rfl, frozenB (hC3'.blk hb (by simp)) 0, ?_, (hC3'.mono (by simp)).setCell _ _ (by simp)⟩
  rw [show (m.take K ++ (n, t) :: m.drop K) = m.take K ++ [(n, t)] ++ m.drop K by simp]
  exact QAt.made hb hC3' hrb ho3

def SetQ (rb : Nat) (l' : DL) (r : Int) (w : World) (e : Ending) (w' : World) : Prop := e = .returned (.int .i64 r) ∧ QAt w' rb l' ∧ Chg [rb] w w'

set_option maxRecDepth 100000 in
set_option maxHeartbeats 8000000 in
theorem qsetc (rb : Nat) (l : DL) (n t : Int) (w : World) (h : QAt w rb l) (hl : l.length ≤ 999990) :
    Calls Try.prog 26 #[.pointer (some ⟨rb, 0, none⟩), .int .i64 n, .int .i64 t] w (SetQ rb (setDS l n t) (HS.setE n t) w) := by
  have HQ := Lib.hid h
  unfold setDS HS.setE
  by_cases hh : okId n ∧ okAt t
  · rw [if_pos hh, if_pos hh]
    have e1 : decide (n < 0) = false := decide_eq_false (by have := hh.1; unfold okId at this; omega)
    have e2 : decide (64 ≤ n) = false := decide_eq_false (by have := hh.1; unfold okId at this; omega)
    have e3 : decide (t < 0) = false := decide_eq_false (by have := hh.2; unfold okAt at this; omega)
    have e4 : decide (1099511627776 < t) = false := decide_eq_false (by have := hh.2; unfold okAt at this; omega)
    have hc := qcanc rb l n w h (by omega)
    unfold canDS at hc
    rw [if_pos hh.1] at hc
    obtain ⟨m, hm⟩ : ∃ m, m = delD l n := ⟨_, rfl⟩
    have hml : m.length ≤ 999990 := by rw [hm]; have := delD_len l n; omega
    rw [← hm] at hc ⊢
    have HC := Lib.hid hc
    clear h hc hl hm hh
    go_enter Try.func26, Try.ntmps26
    go_wp2_with fail
    refine HC.out.mono ?_
    rintro e w1 ⟨rfl, hq1, hC1⟩
    obtain ⟨a, cap, hb, hr⟩ := hq1.open
    have c0 := cellB hb (i := 0) rfl
    obtain ⟨K, hK⟩ : ∃ K, K = cutD m t := ⟨_, rfl⟩
    have hKl : K ≤ m.length := by rw [hK]; exact cutD_le _ _
    have hlt : ∀ j, j < K → ∀ x, m[j]? = some x → decide (x.2 ≤ t) = true := fun j hj x hx => cutD_lt (by rw [← hK]; exact hj) hx
    have hat : ∀ x, m[K]? = some x → decide (x.2 ≤ t) = false := fun x hx => cutD_at (by rw [← hK]; exact hx)
    have hres : insD m (n, t) = m.take K ++ (n, t) :: m.drop K := by unfold insD; rw [hK]
    rcases hr with ⟨rfl, rfl, rfl⟩ | hsome
    · obtain ⟨v1, w2, v2, w3, a3, n3, c3, w4, hr1, hr2, hr3, x2, x3, f3, hq4, hC4⟩ := set_chain (n := n) (t := t) hb hml hKl (X1 := .slice none 0 0) (X2 := .slice none 0 0) (.inl ⟨rfl, by simp, by simp [flatD]⟩) (.inl ⟨rfl, by simp, by simp [flatD]⟩)
      rw [← hres] at hq4
      have hK0 : K = 0 := by simpa using hKl
      subst hK0
      have HF := Lib.hid (And.intro hr1 (And.intro hr2 (And.intro hr3 (And.intro hq4 hC4))))
      have HC1 := Lib.hid hC1
      simp only [List.length_nil] at c0 x2 x3
      clear hb hr1 hr2 hr3 hq4 hC4 hC1 hq1 hK hKl hlt hat hres hml
      go_wp2
      refine wp_loop_rounds 1 ?_
      rw [rounds_succ]
      go_wp2_with (first | (at_builtin; refine wpList_run rfl _ _ 37 37 rfl rfl (.slice none 0 0) (.slice none 0 0) _ rfl rfl w2 HF.out.1 ?_) | (at_builtin; refine wpList_run rfl _ _ 37 37 rfl rfl v1 (.slice (some ⟨w2.heap.size, 0, none⟩) 1 1) _ rfl rfl w3 HF.out.2.1 ?_) | (at_builtin; refine wpList_run rfl _ _ 37 37 rfl rfl v2 (.slice none 0 0) _ rfl rfl w4 HF.out.2.2.1 ?_))
      go_ret
      exact ⟨rfl, HF.out.2.2.2.1, HC1.out.trans HF.out.2.2.2.2⟩
    · have hrow : RowD w1 a cap m := .inr hsome
      obtain ⟨g, rfl, hlc, hcm, _⟩ := hsome
      obtain ⟨A, hA, hs2⟩ := hrow.tail (i := K) hKl
      obtain ⟨v1, w2, v2, w3, a3, n3, c3, w4, hr1, hr2, hr3, x2, x3, f3, hq4, hC4⟩ := set_chain (n := n) (t := t) hb hml hKl (hrow.head hKl) hs2
      rw [← hres] at hq4
      obtain ⟨nm, hnm⟩ : ∃ nm, nm = m.length := ⟨_, rfl⟩
      rw [← hnm] at c0 x2 x3 hlc hKl hml hr3
      have HF := Lib.hid (And.intro hr1 (And.intro hr2 (And.intro hr3 (And.intro hq4 hC4))))
      have H := Lib.hid (And.intro hrow (And.intro hlt (And.intro hat hnm)))
      have HC1 := Lib.hid hC1
      have hcK : K ≤ cap := by omega
      have hz1 : (0 : Int) ≤ (K : Int) := by omega
      have hz2 : (K : Int) ≤ (nm : Int) := by omega
      clear hb hr1 hr2 hr3 hq4 hC4 hC1 hq1 hK hlt hat hres hs2 hrow hnm
      go_wp2
      go_loopw [7] (fun s wr => ∃ k : Nat, k ≤ K ∧ s = .int .i64 k ∧ wr = w1) (fun s _ => K - (intOf s).toNat)
      case atStart => exact ⟨0, by omega, rfl, rfl⟩
      case round =>
        obtain ⟨k, hk, rfl, rfl⟩ := hrel
        by_cases hkK : k < K
        · obtain ⟨x, hx⟩ : ∃ x, m[k]? = some x := ⟨_, List.getElem?_eq_getElem (by have := H.out.2.2.2; omega)⟩
          obtain ⟨d0, d1⟩ := H.out.1.cells hx
          have hd := H.out.2.1 k hkK x hx
          have hkn : decide ((k : Int) < (nm : Int)) = true := decide_eq_true (by omega)
          have hkn2 : k < nm := by omega
          obtain ⟨x1, x2⟩ := x
          dsimp only at d0 d1 hd
          clear hx
          go_wp2
          go_roundw
          case rel => exact ⟨k + 1, by omega, by go_num, by trivial⟩
          case measure => simp [intOf]; omega
        · have hkk : k = K := by omega
          subst hkk
          by_cases hkn : k < nm
          · obtain ⟨x, hx⟩ : ∃ x, m[k]? = some x := ⟨_, List.getElem?_eq_getElem (by have := H.out.2.2.2; omega)⟩
            obtain ⟨d0, d1⟩ := H.out.1.cells hx
            have hd := H.out.2.2.1 x hx
            have hkd : decide ((k : Int) < (nm : Int)) = true := decide_eq_true (by omega)
            obtain ⟨x1, x2⟩ := x
            dsimp only at d0 d1 hd
            clear hx
            rw [if_neg (by omega)] at hA
            cases hA
            go_wp2_with (first | (at_builtin; refine wpList_run rfl _ _ 37 37 rfl rfl (.slice none 0 0) (.slice (some ⟨g, 0, none⟩) k cap) _ rfl rfl w2 HF.out.1 ?_) | (at_builtin; refine wpList_run rfl _ _ 37 37 rfl rfl v1 (.slice (some ⟨w2.heap.size, 0, none⟩) 1 1) _ rfl rfl w3 HF.out.2.1 ?_) | (at_builtin; refine wpList_run rfl _ _ 37 37 rfl rfl v2 (.slice (some ⟨g, k * 2, none⟩) (nm - k) (cap - k)) _ rfl rfl w4 HF.out.2.2.1 ?_))
            go_ret
            exact ⟨rfl, HF.out.2.2.2.1, HC1.out.trans HF.out.2.2.2.2⟩
          · have hkd : decide ((k : Int) < (nm : Int)) = false := decide_eq_false (by omega)
            go_wp2_with (first | (at_builtin; refine wpList_run rfl _ _ 37 37 rfl rfl (.slice none 0 0) (.slice (some ⟨g, 0, none⟩) k cap) _ rfl rfl w2 HF.out.1 ?_) | (at_builtin; refine wpList_run rfl _ _ 37 37 rfl rfl v1 (.slice (some ⟨w2.heap.size, 0, none⟩) 1 1) _ rfl rfl w3 HF.out.2.1 ?_) | (at_builtin; refine wpList_run rfl _ _ 37 37 rfl rfl v2 (.slice (some A) (nm - k) (cap - k)) _ rfl rfl w4 HF.out.2.2.1 ?_))
            go_ret
            exact ⟨rfl, HF.out.2.2.2.1, HC1.out.trans HF.out.2.2.2.2⟩
  · rw [if_neg hh, if_neg hh]
    by_cases h0 : n < 0
    · have e1 : decide (n < 0) = true := decide_eq_true h0
      clear h h0 hh
      go_enter Try.func26, Try.ntmps26
      go_wp2
      go_ret
      exact ⟨rfl, HQ.out, Chg.refl _ _⟩
    · have e1 : decide (n < 0) = false := decide_eq_false h0
      by_cases h1 : 64 ≤ n
      · have e2 : decide (64 ≤ n) = true := decide_eq_true h1
        clear h h0 hh h1
        go_enter Try.func26, Try.ntmps26
        go_wp2
        go_ret
        exact ⟨rfl, HQ.out, Chg.refl _ _⟩
      · have e2 : decide (64 ≤ n) = false := decide_eq_false h1
        by_cases h2 : t < 0
        · have e3 : decide (t < 0) = true := decide_eq_true h2
          clear h h0 hh h1 h2
          go_enter Try.func26, Try.ntmps26
          go_wp2
          go_ret
          exact ⟨rfl, HQ.out, Chg.refl _ _⟩
        · have e3 : decide (t < 0) = false := decide_eq_false h2
          have e4 : decide (1099511627776 < t) = true := decide_eq_true (by unfold okId okAt at hh; omega)
          clear h h0 hh h1 h2
          go_enter Try.func26, Try.ntmps26
          go_wp2
          go_ret
          exact ⟨rfl, HQ.out, Chg.refl _ _⟩

/-- How many pairs the document's wheel has, as the world tells. -/
def qleft (w : World) (rb : Nat) : Nat := match w.heap[rb]? with | some (.cells cs _ _) => (match cs[0]? with | some (Value.slice _ n _) => n | _ => 0) | _ => 0
theorem QAt.left {w : World} {rb : Nat} {l : DL} (h : QAt w rb l) : qleft w rb = l.length := by
  obtain ⟨a, cap, hb, _⟩ := h.open
  unfold qleft
  rw [hb]
  rfl
theorem drop_chain {wr : World} {rb g m cap : Nat} {x : Int × Int} {r : DL} (hb : wr.heap[rb]? = some (.cells #[.slice (some ⟨g, 0, none⟩) m cap] 39 (0, 0))) (hQ : QAt wr rb (x :: r)) (hm : m = (x :: r).length) (hl : r.length ≤ 1000000) {S : List Nat} (hS : ∀ k ∈ S, k ≠ rb ∧ NotD wr k) :
    ∀ w2, Chg S wr w2 → w2.cell? ⟨rb, 0, none⟩ = some (.slice (some ⟨g, 0, none⟩) m cap) ∧ ∃ A a3 n3 c3 w3, (if cap = 1 then (some ⟨g, 0, none⟩ : Option Addr) else some ⟨g, 2, none⟩) = some A ∧
      (Builtin.append_ #[37, 37] 37 #[.slice none 0 0, .slice (some A) (m - 1) (cap - 1)]).run Try.prog w2 = .ok (.slice a3 n3 c3) w3 ∧
      w3.cell? ⟨rb, 0, none⟩ = some (.slice (some ⟨g, 0, none⟩) m cap) ∧ w3.frozen? ⟨rb, 0, none⟩ = false ∧ QAt (w3.setCell ⟨rb, 0, none⟩ (.slice a3 n3 c3)) rb r ∧ Chg [] w2 w3 ∧ Chg [rb] w2 (w3.setCell ⟨rb, 0, none⟩ (.slice a3 n3 c3)) := by
  intro w2 hC
  have hQ2 := hQ.kept hC hS
  have hb2 := hC.blk hb (fun hm => (hS _ hm).1 rfl)
  obtain ⟨a, cap', hb3, hr⟩ := hQ2.open
  rw [hb2] at hb3
  injection hb3 with hb3
  injection hb3 with e1 _ _
  have e2 := congrArg (fun z => z[0]?) e1
  simp at e2
  obtain ⟨rfl, _, rfl⟩ := e2
  refine ⟨cellB hb2 rfl, ?_⟩
  obtain ⟨A, hA, hs⟩ := hr.tail (i := 1) (by simp)
  rw [← hm] at hs
  obtain ⟨a3, c3, w3, hr3, ho3, hC3⟩ := run_moreD (w := w2) w2.heap.size (.slice none 0 0) [] r (World.ownsRow_nil ..) hs (by simp; omega) (Nat.le_refl _)
  have hC3' : Chg [] w2 w3 := hC3.mono (by simp [Value.ownBlock])
  exact ⟨A, a3, _, c3, w3, hA, hr3, cellB (hC3'.blk hb2 (by simp)) rfl, frozenB (hC3'.blk hb2 (by simp)) 0, QAt.made hb2 hC3' (lt_of_blk hb2) ho3, hC3', (hC3'.mono (by simp)).setCell _ _ (by simp)⟩

def DueQ (B rb : Nat) (l : DL) (now : Int) (w : World) (e : Ending) (w' : World) : Prop :=
  ∃ v, e = .returned v ∧ w'.ownsRow B 3 1 v (cutD l now) ((l.take (cutD l now)).map fun x => .int .i64 x.1) ∧ QAt w' rb (l.drop (cutD l now)) ∧ Chg [rb] w w'

set_option maxRecDepth 100000 in
set_option maxHeartbeats 8000000 in
theorem qduec (rb : Nat) (l : DL) (now : Int) (w : World) (h : QAt w rb l) (hl : l.length ≤ 1000000) :
    Calls Try.prog 28 #[.pointer (some ⟨rb, 0, none⟩), .int .i64 now] w (DueQ w.heap.size rb l now w) := by
  obtain ⟨i0, hi, hz0, hz1, hz2⟩ := info_parts infoInt
  unfold DueQ
  obtain ⟨B, hB⟩ : ∃ B, B = w.heap.size := ⟨_, rfl⟩
  obtain ⟨K, hK⟩ : ∃ K, K = cutD l now := ⟨_, rfl⟩
  rw [← hB, ← hK]
  have hKl : K ≤ l.length := by rw [hK]; exact cutD_le _ _
  have hlt : ∀ j, j < K → ∀ x, l[j]? = some x → decide (x.2 ≤ now) = true := fun j hj x hx => cutD_lt (by rw [← hK]; exact hj) hx
  have hat : ∀ x, l[K]? = some x → decide (x.2 ≤ now) = false := fun x hx => cutD_at (by rw [← hK]; exact hx)
  have hrb : rb < B := by rw [hB]; exact h.lt
  have H := Lib.hid (And.intro h (And.intro hlt (And.intro hat (And.intro hB hK))))
  clear h hlt hat hB hK
  go_enter Try.func28, Try.ntmps28
  go_wp2
  go_loopw [5] (fun v wr => ∃ k : Nat, k ≤ K ∧ QAt wr rb (l.drop k) ∧ wr.ownsRow B 3 1 v k ((l.take k).map fun x => .int .i64 x.1) ∧ Chg [rb] w wr) (fun _ wr => qleft wr rb)
  case atStart => exact ⟨0, by omega, H.out.1, World.ownsRow_nil .., Chg.refl _ _⟩
  case round =>
    obtain ⟨k, hk, hQ, hown, hC⟩ := hrel
    obtain ⟨a, cap, hb, hr⟩ := hQ.open
    by_cases hlt : k < K
    · obtain ⟨x, hx⟩ : ∃ x, l[k]? = some x := ⟨_, List.getElem?_eq_getElem (by omega)⟩
      have hdr : l.drop k = x :: l.drop (k + 1) := by
        have := (List.getElem?_eq_some_iff.1 hx).2
        rw [← this, List.getElem_cons_drop]
      have htk : l.take (k + 1) = l.take k ++ [x] := by rw [List.take_add_one, hx]; rfl
      rw [hdr] at hQ hr hb
      obtain ⟨g, rfl, _, _⟩ := hr.pt (by simp)
      obtain ⟨d0, d1⟩ := hr.cells (j := 0) (x := x) rfl
      have hd := H.out.2.1 k hlt x hx
      obtain ⟨m, hm⟩ : ∃ m, m = (x :: l.drop (k + 1)).length := ⟨_, rfl⟩
      rw [← hm] at hb
      have hlen : (l.drop (k + 1)).length ≤ 1000000 := by rw [List.length_drop]; omega
      have hS : ∀ q ∈ u5.ownBlock.toList, q ≠ rb ∧ NotD wr q := fun q hq => ⟨fun e => by have := own_ge hown q hq; omega, by
        obtain ⟨cs, hcs⟩ := own_cellsH hown q hq
        exact NotD.of hcs (fun cs fr e => by cases e)⟩
      have hch := drop_chain hb hQ hm hlen hS
      have hlft := hQ.left
      have c0 := cellB hb (i := 0) (v := .slice (some ⟨g, 0, none⟩) m cap) rfl
      have hm0 : decide (0 < (m : Int)) = true := decide_eq_true (by rw [hm]; simp)
      have hm1 : 0 < m := by rw [hm]; simp
      have hmz : (1 : Int) ≤ (m : Int) := by omega
      obtain ⟨x1, x2⟩ := x
      simp only [Nat.zero_mul, Nat.zero_add] at d0 d1 hd
      have hcap : 1 ≤ cap := by
        rcases hr with ⟨e, _⟩ | ⟨_, _, h1, _⟩
        · cases e
        · simp at h1; omega
      have hwB : B ≤ wr.heap.size := by have := hC.size; have := H.out.2.2.2.1; omega
      have hkm : k + 1 ≤ maxLen := by unfold maxLen; omega
      have hkb : (k + 1) * 8 ≤ 140737488355328 := by omega
      have HX := Lib.hid (And.intro hch (And.intro hown (And.intro hC (And.intro htk (And.intro hlft hm)))))
      clear hx hdr htk hQ hr hb hm hlen hS hch hC hlft
      go_wp2_with (first | (at_builtin; refine wpList_push rfl _ _ 33 rfl B 3 i0 (.int .i64 0) 1 8 Try.underlying33 hi hz0 hz1 hz2 rfl (by decide) u5 k _ rfl hown [.int .i64 x1] rfl rfl (by simp [Value.oneCell']) hkm hkb hwB ?_; intro v' w2 hown2 hC2 hloc hnn; obtain ⟨y1, A, a3, n3, c3, w3, hA, hr3, y2, f3, hq3, hC3, hC4⟩ := HX.out.1 w2 hC2; have H3 := Lib.hid (And.intro hr3 (And.intro hq3 (And.intro hC3 (And.intro hC4 (And.intro hown2 (And.intro hC2 hloc)))))); clear hr3 hq3 hC3 hC4 hown2 hC2 hloc hown) | (at_builtin; refine wpList_run rfl _ _ 37 37 rfl rfl (.slice none 0 0) (.slice (some A) (m - 1) (cap - 1)) _ rfl rfl w3 H3.out.1 ?_))
      go_roundw
      case rel =>
        refine ⟨k + 1, by omega, H3.out.2.1, ?_, (HX.out.2.2.1.trans' H3.out.2.2.2.2.2.1 (fun q hq => .inr (by have := own_ge HX.out.2.1 q hq; have := H.out.2.2.2.1; omega))).trans H3.out.2.2.2.1⟩
        rw [HX.out.2.2.2.1, List.map_append]
        refine own_kept H3.out.2.2.2.2.1 H3.out.2.2.2.1 (fun q hq => by simp at hq; subst hq; exact own_notin H3.out.2.2.2.2.1 hrb)
      case measure =>
        rw [H3.out.2.1.left, HX.out.2.2.2.2.1]
        simp
    · have hkK : k = K := by omega
      subst hkK
      have HX := Lib.hid (And.intro hQ (And.intro hown hC))
      by_cases hnil : l.drop k = []
      · rw [hnil] at hb
        have c0 := cellB hb (i := 0) (v := .slice a 0 cap) rfl
        clear hQ hr hb hown hC hnil
        go_wp2
        go_ret
        exact ⟨_, rfl, HX.out.2.1, HX.out.1, HX.out.2.2⟩
      · obtain ⟨g, rfl, hlc, hcm⟩ := hr.pt hnil
        obtain ⟨x, hx⟩ : ∃ x, (l.drop k)[0]? = some x := by
          cases hd : l.drop k with
          | nil => exact absurd hd hnil
          | cons x r => exact ⟨x, rfl⟩
        obtain ⟨d0, d1⟩ := hr.cells hx
        have hd := H.out.2.2.1 x (by rw [List.getElem?_drop] at hx; simpa using hx)
        obtain ⟨m, hm⟩ : ∃ m, m = (l.drop k).length := ⟨_, rfl⟩
        have hmp : 0 < m := by rw [hm]; exact List.length_pos_iff.2 hnil
        rw [← hm] at hb hlc
        have c0 := cellB hb (i := 0) (v := .slice (some ⟨g, 0, none⟩) m cap) rfl
        have hm0 : decide (0 < (m : Int)) = true := decide_eq_true (by omega)
        have hmz : (1 : Int) ≤ (m : Int) := by omega
        obtain ⟨x1, x2⟩ := x
        simp only [Nat.zero_mul, Nat.zero_add] at d0 d1 hd
        clear hQ hr hb hown hC hnil hx hm
        go_wp2
        go_ret
        exact ⟨_, rfl, HX.out.2.1, HX.out.1, HX.out.2.2⟩

end Go.Proofs.Ytpaaanjghcloeaa
