
/- Package ramfs: steps: the iterator over a path's names: contract. -/
import Derived.Test.YtkkjbnmfjhmobaaDoorFb
import Derived.Test.YtkkjbnmfjhmobaaDoorPr
import Derived.Test.YtkkjbnmfjhmobaaDoorShelf
import Derived.Laws.RangeString
import Derived.Laws.RangeAny
import Derived.RangeFuncNested
import Derived.TacticsInMore
import Derived.LoopNIn
import Derived.LoopIn
import Derived.Sort.CutIn
namespace Go.Proofs.YtkkjbnmfjhmobaaDoor
open Go.RowKit Go.Shelf
attribute [local go_sem] Oper.semAt_some

/-- What a round that goes on keeps: all below block B but the blocks of S. -/
structure KpB (B : Nat) (S : List Nat) (W W' : World) : Prop where
  os : W'.os = W.os
  tape : W'.tape = W.tape
  output : W'.output = W.output
  size : W.heap.size ≤ W'.heap.size
  same : ∀ k, k < B → k < W.heap.size → k ∉ S → W'.heap[k]? = W.heap[k]?
theorem KpB.trans {B : Nat} {S : List Nat} {X Y Z : World} (h : KpB B S X Y) (g : KpB B S Y Z) : KpB B S X Z :=
  ⟨g.os.trans h.os, g.tape.trans h.tape, g.output.trans h.output, Nat.le_trans h.size g.size, fun k hk hl hn => (g.same k hk (Nat.lt_of_lt_of_le hl h.size) hn).trans (h.same k hk hl hn)⟩
theorem KpB.chg {B : Nat} {S S2 : List Nat} {W W' : World} (h : Chg S2 W W') (hS : ∀ k ∈ S2, k ∈ S ∨ B ≤ k) : KpB B S W W' :=
  ⟨h.os, h.tape, h.output, h.size, fun k hk hl hn => h.block k hl (fun hm => by rcases hS k hm with h1 | h1; exact hn h1; omega)⟩
theorem KpB.put {B : Nat} {S : List Nat} {W : World} {l : Nat} (o' : Obj) (hB : B ≤ l) : KpB B S W (W.putObj l o') := by
  have hg := grownBy_putObj' W l o'
  exact ⟨hg.os, hg.tape, hg.output, hg.size, fun k hk hl _ => hg.block k hl (fun e => by cases e; omega)⟩
theorem KpB.blk {B : Nat} {S : List Nat} {W W' : World} {k : Nat} {o : Obj} (h : KpB B S W W') (hb : W.heap[k]? = some o) (hk : k < B) (hn : k ∉ S) : W'.heap[k]? = some o := (h.same k hk (lt_of_blk hb) hn).trans hb
theorem bel_chg {w W : World} (h : Below w.heap.size w W) : Chg [] w W := ⟨h.os, h.tape, h.output, h.size, fun k hk _ => h.block k hk⟩
theorem chg_grown {w w' : World} (h : Chg [] w w') : w.grownBy w' none := ⟨h.os, h.tape, h.output, h.size, fun k hk _ => h.block k hk (by simp)⟩
theorem chg_iter (w : World) (s : ByteArray) (p : Nat) : Chg [] w (w.iter s p) := (Chg.refl _ _).alloc _

theorem cell_heap {w w' : World} {k i : Nat} {v : Value} (hh : w'.heap[k]? = w.heap[k]?) (h : w.cell? ⟨k, i, none⟩ = some v) : w'.cell? ⟨k, i, none⟩ = some v := by
  unfold World.cell? at h ⊢
  simp only at h ⊢
  rw [hh]
  exact h
theorem cell_size {w : World} {k i : Nat} {v : Value} (h : w.cell? ⟨k, i, none⟩ = some v) : k < w.heap.size := by
  unfold World.cell? at h
  simp only at h
  rcases Nat.lt_or_ge k w.heap.size with h1 | h1
  · exact h1
  · rw [Array.getElem?_eq_none h1] at h
    cases h
theorem cell_chg {S : List Nat} {w w' : World} (hC : Chg S w w') {k i : Nat} {v : Value} (hk : k ∉ S) (h : w.cell? ⟨k, i, none⟩ = some v) : w'.cell? ⟨k, i, none⟩ = some v := cell_heap (hC.block k (cell_size h) hk) h
theorem KpB.cell {B : Nat} {S : List Nat} {W W' : World} {k i : Nat} {v : Value} (h : KpB B S W W') (hb : W.cell? ⟨k, i, none⟩ = some v) (hk : k < B) (hn : k ∉ S) : W'.cell? ⟨k, i, none⟩ = some v := cell_heap (h.same k hk (cell_size hb) hn) hb
def encS (x : ByteArray × Bool) : Array Value := #[.string x.1, .bool x.2]
def strLen : Value → Nat
  | .string s => s.size
  | _ => 0
theorem ba_size (l : List UInt8) : (ba l).size = l.length := by unfold ba; simp [ByteArray.size]
theorem stepsGo_cons {k : Nat} {rest : List UInt8} (h : rest ≠ []) : stepsGo (k + 1) rest = (ba (Lib.cut rest [47]).1, mayF (ba (Lib.cut rest [47]).1) (ba (Lib.cut rest [47]).2.1) (Lib.cut rest [47]).2.2) :: (if (Lib.cut rest [47]).2.2 = true then stepsGo k (Lib.cut rest [47]).2.1 else []) := by
  conv => lhs; unfold stepsGo
  rw [if_neg h]

theorem runesF_end (s : ByteArray) {k pos : Nat} (h : ¬ pos < s.size) : runesF s k pos = (0, false) := by
  cases k with
  | zero => rfl
  | succ k => simp only [runesF, if_neg h]
def mayT (acc : Nat) (z : Bool) (l1 l2 : List UInt8) (c : Bool) : Bool := decide (1 ≤ (acc : Int)) && decide ((acc : Int) ≤ 16) && !z && !decide (l1 = [46]) && !decide (l1 = [46, 46]) && !(c && l2.isEmpty)
theorem toList_inj {a b : ByteArray} (h : a.toList = b.toList) : a = b := by
  rw [ByteArray.toList_eq, ByteArray.toList_eq] at h
  obtain ⟨⟨l⟩⟩ := a
  obtain ⟨⟨m⟩⟩ := b
  simp at h
  rw [h]
theorem mayF_eq {s more : ByteArray} {c : Bool} {acc : Nat} {z : Bool} (h1 : (runesF s s.size 0).1 = acc) (h2 : (runesF s s.size 0).2 = z) : mayF s more c = mayT acc z s.toList more.toList c := by
  have e1 : decide (s = dot1) = decide (s.toList = [46]) := by
    have : s = dot1 ↔ s.toList = [46] := ⟨fun h => by rw [h]; exact ByteArray.toList_mk [46], fun h => toList_inj (by rw [h]; exact (ByteArray.toList_mk [46]).symm)⟩
    simp only [this]
  have e2 : decide (s = dot2) = decide (s.toList = [46, 46]) := by
    have : s = dot2 ↔ s.toList = [46, 46] := ⟨fun h => by rw [h]; exact ByteArray.toList_mk [46, 46], fun h => toList_inj (by rw [h]; exact (ByteArray.toList_mk [46, 46]).symm)⟩
    simp only [this]
  have e3 : decide (more.size = 0) = more.toList.isEmpty := by
    rw [ByteArray.toList_eq]
    obtain ⟨⟨l⟩⟩ := more
    cases l <;> simp [ByteArray.size]
  have e4 : decide (1 ≤ acc) = decide (1 ≤ (acc : Int)) := by congr 1; simp; omega
  have e5 : decide (acc ≤ 16) = decide ((acc : Int) ≤ 16) := by congr 1; simp; omega
  unfold mayF mayT
  rw [h1, h2, e1, e2, e3, e4, e5]
theorem rune0 (n : Nat) : ((n : Int) == 0) = decide (n = 0) := by
  cases n with
  | zero => rfl
  | succ n => simp; omega
theorem trim_le (p : ByteArray) : (Lib.trimPrefix p.data.toList [47]).length ≤ p.size := by
  have e : p.data.toList.length = p.size := (Lib.size_eq p).symm
  unfold Lib.trimPrefix
  split
  · rw [List.length_drop]; omega
  · omega
theorem cut_le {s : List UInt8} (h : s ≠ []) : (Lib.cut s [47]).1.length ≤ s.length ∧ ((Lib.cut s [47]).2.2 = true → (Lib.cut s [47]).2.1.length < s.length) := by
  have hl : 0 < s.length := by cases s with | nil => exact absurd rfl h | cons => simp
  unfold Lib.cut
  split
  · exact ⟨by rw [List.length_take]; omega, fun _ => by simp only [List.length_drop, List.length_cons, List.length_nil]; omega⟩
  · exact ⟨Nat.le_refl _, fun h => by cases h⟩
set_option maxRecDepth 100000 in
set_option maxHeartbeats 4000000 in
theorem fsteps1P (p : ByteArray) (bp : Nat) (B : Nat) (S : List Nat) (L : Nat) (m : Int) (w : World) (hb : w.heap[bp]? = some (.cells #[.string p] 9 (0, 0))) (hbB : bp < B) (hbS : bp ∉ S)
    (hm : w.cell? ⟨2, 0, none⟩ = some (.int .i64 m)) (hmB : 2 < B ∧ 2 ∉ S) (hp : p.size ≤ 600) (hp0 : p.size ≠ 0) :
    SeqP Fence.wide 5 Tryd.prog 61 #[.pointer (some ⟨bp, 0, none⟩)] encS (KpB B S) (fun xs => xs = stepsF p) (fun pre => pre <+: stepsF p) (stepsF p).length L w := fun lp J Jx Jp W hBW hLW hJ hJx hJp hY h0 => by
  have hCW := bel_chg hBW
  have hbW := hCW.blk hb (by simp)
  have cb := cellB hbW (i := 0) (v := .string p) rfl
  have HJ := Lib.hid hJ
  have HJx := Lib.hid hJx
  have HJp := Lib.hid hJp
  have HY := Lib.hid hY
  clear hJ hJx hJp hY hBW hb
  refine callsIn_of_wp Tryd.func61 rfl trivial ?_ rfl
  simp only [Tryd.ntmps61, List.size_toArray, List.length_cons, List.length_nil, Nat.reduceAdd, Nat.reduceSub, Array.replicate_succ, Array.replicate_zero, List.push_toArray, List.append_toArray, List.nil_append, List.cons_append]
  gi_wp2
  refine ⟨trivial, (callsIn_wide.2 (Tryd.strings_TrimPrefix p ⟨#[47]⟩ W)).mono ?_⟩
  rintro e w' ⟨rfl, rfl⟩
  have hmW := cell_chg hCW (by simp) hm
  clear hm cb
  gi_wp2
  gi_loopw [3] (fun r wr => ∃ (k : Nat) (pre : List (ByteArray × Bool)) (rest : List UInt8), r = .string ⟨rest.toArray⟩ ∧ stepsF p = pre ++ stepsGo k rest ∧ rest.length < k ∧ rest.length ≤ 600 ∧ J pre wr ∧ w'.heap.size ≤ wr.heap.size ∧ wr.heap[bp]? = some (.cells #[.string p] 9 (0, 0)) ∧ wr.cell? ⟨2, 0, none⟩ = some (.int .i64 m)) (fun r _ => strLen r)
  case atStart =>
    refine ⟨p.size + 1, [], Lib.trimPrefix p.data.toList [47], rfl, ?_, ?_, ?_, h0, Nat.le_refl _, hbW, hmW⟩
    · unfold stepsF; rw [if_neg hp0]; rfl
    · have := trim_le p; omega
    · have := trim_le p; omega
  case round =>
    obtain ⟨k, pre, rest, rfl, hst, hk, h6, hJ, hsz, hbp, hmx⟩ := hrel
    have cp := cellB hbp (i := 0) (v := .string p) rfl
    have HR := Lib.hid (And.intro hst (And.intro hJ (And.intro hsz (And.intro hbp hmx))))
    clear hst hJ hsz hbp
    by_cases hr : rest = []
    · have e2 : ((p.size : Int) == 0) = false := by simpa using hp0
      subst hr
      have hst : stepsF p = pre := by rw [HR.out.1]; cases k <;> simp [stepsGo]
      have HT := Lib.hid hst
      clear hst
      gi_wp2
      exact ⟨rfl, _, results_none rfl _ _ _, .inl ⟨⟨_, rfl⟩, .inl ⟨_, rfl, by rw [HT.out]; exact HR.out.2.1⟩⟩⟩
    · have hcut := Lib.hid (show Calls Tryd.prog 63 #[.string ⟨rest.toArray⟩, .string ⟨#[47]⟩] wr fun e w' => e = .returned (.tuple #[.string ⟨(Lib.cut rest [47]).1.toArray⟩, .string ⟨(Lib.cut rest [47]).2.1.toArray⟩, .bool (Lib.cut rest [47]).2.2]) ∧ ∃ n, w' = wr.drewN n from Tryd.strings_Cut ⟨rest.toArray⟩ ⟨#[47]⟩ m wr (by simp [ByteArray.size]; omega) hmx)
      have hre : rest.isEmpty = false := by simpa using hr
      clear hmx cp
      gi_wp2
      refine ⟨trivial, (callsIn_wide.2 hcut.out).mono ?_⟩
      rintro e wc ⟨rfl, nd, rfl⟩
      obtain ⟨⟨c1, c2, c3⟩, hc⟩ : ∃ c, c = Lib.cut rest [47] := ⟨_, rfl⟩
      rw [← hc]
      have hcl := cut_le hr
      rw [← hc] at hcl
      have HC := Lib.hid (And.intro hc hcl)
      obtain ⟨s1, hs1⟩ : ∃ s1 : ByteArray, s1 = ⟨c1.toArray⟩ := ⟨_, rfl⟩
      obtain ⟨s2, hs2⟩ : ∃ s2 : ByteArray, s2 = ⟨c2.toArray⟩ := ⟨_, rfl⟩
      simp only [← hs1, ← hs2]
      have hs6 : s1.size ≤ 600 := by rw [hs1]; simp only [ByteArray.size, List.size_toArray]; have := hcl.1; simp only at this; omega
      have HS := Lib.hid (And.intro hs1 hs2)
      clear hc hcl
      obtain ⟨Wd, hWd⟩ : ∃ Wd, Wd = wr.drewN nd := ⟨_, rfl⟩
      rw [← hWd]
      have HD := Lib.hid hWd
      clear hs1 hs2 hWd hcut
      gi_wp2
      gi_loopw [7, 8] (fun n z w' => ∃ (pos b acc : Nat) (zb : Bool), w' = Wd.iter s1 pos ∧ n = .int .i64 acc ∧ z = .bool zb ∧ acc + (runesF s1 b pos).1 = (runesF s1 s1.size 0).1 ∧ (zb || (runesF s1 b pos).2) = (runesF s1 s1.size 0).2 ∧ s1.size ≤ pos + b ∧ acc ≤ pos) (fun _ _ w' => s1.size - w'.iterPos Wd.heap.size)
      case atStart => exact ⟨0, s1.size, 0, false, rfl, rfl, rfl, by simp, by simp, by omega, Nat.le_refl _⟩
      case round =>
        obtain ⟨pos, b, acc, zb, rfl, rfl, rfl, h1, h2, h3, h4⟩ := hrel
        have HL := Lib.hid (And.intro h1 (And.intro h2 (And.intro h3 h4)))
        clear h1 h2 h3
        by_cases hp : pos < s1.size
        · have hnx : ∀ ty, (Instr.next (.pointer (some ⟨Wd.heap.size, 0, none⟩)) true ty).run Tryd.prog (Wd.iter s1 pos) = _ := fun ty => run_next_any Wd s1 pos ty hp
          have hwd := Lib.decode_width_pos s1 pos hp
          cases zb
          all_goals
            gi_wp2
            refine ⟨?_, ?_⟩
            · cases b with
              | zero => have := HL.out.2.2.1; omega
              | succ b =>
                obtain ⟨h1, h2, h3, _⟩ := HL.out
                simp only [runesF, if_pos hp] at h1 h2
                refine ⟨pos + (Utf8.decode s1 pos).2, b, acc + 1, _, rfl, ?_, rfl, by omega, ?_, by omega, by omega⟩
                · go_num
                · first | (rw [← h2, rune0]; simp) | (rw [← h2]; simp)
            · simp; omega
        · have hnx : ∀ ty, (Instr.next (.pointer (some ⟨Wd.heap.size, 0, none⟩)) true ty).run Tryd.prog (Wd.iter s1 pos) = _ := fun ty => run_next_end Wd s1 pos ty hp
          have hmay : mayF s1 s2 c3 = mayT acc zb s1.toList s2.toList c3 := by
            obtain ⟨h1, h2, _⟩ := HL.out
            rw [runesF_end s1 hp] at h1 h2
            exact mayF_eq (by rw [← h1]; rfl) (by rw [← h2]; simp)
          obtain ⟨mb, hmb⟩ : ∃ mb, mb = mayF s1 s2 c3 := ⟨_, rfl⟩
          have HM := Lib.hid (hmb.trans hmay)
          have HXS := Lib.hid (show (ba c1, mayF (ba c1) (ba c2) c3) = (s1, mb) by rw [hmb, HS.out.1, HS.out.2]; rfl)
          clear hmay hmb
          cases c3
          all_goals
            gi_upto_region 9 with fail
            gi_cut [8, 11] from 39 (fun _ x wx => x = .bool mb ∧ wx = Wd.iter s1 pos)
            case first =>
              gi_wp2
              all_goals gi_meet
              all_goals (case rel => exact ⟨by rw [HM.out]; first | (simp [mayT, *]; done) | (have hx : ¬ ((acc : Int) ≤ 16) := (by omega); simp [mayT, hx]; done) | (have hx : ¬ (1 ≤ (acc : Int)) := (by omega); simp [mayT, hx]; done), rfl⟩)
            case rest =>
              obtain ⟨rfl, rfl⟩ := hcut
              have hW := Lib.hid (show Chg [] wr (Wd.iter s1 pos) from by rw [HD.out]; exact ((Chg.refl [] wr).drewN nd).trans (chg_iter _ _ _))
              obtain ⟨We, hWe⟩ : ∃ We, We = Wd.iter s1 pos := ⟨_, rfl⟩
              rw [← hWe] at hW ⊢
              clear hWe
              have hst := HR.out.1
              have hk0 : ∃ k', k = k' + 1 := ⟨k - 1, by omega⟩
              obtain ⟨k', rfl⟩ := hk0
              rw [stepsGo_cons hr, ← HC.out.1] at hst
              simp only at hst
              rw [HXS.out] at hst
              have hlen : pre.length < (stepsF p).length := by rw [hst]; simp
              obtain ⟨fn, tmps, assign, body, hy, hRo⟩ := HY.out pre (s1, mb) We (HJ.out _ _ _ none HR.out.2.1 (chg_grown hW.out) (by simp)) hlen
              simp only [encS] at hy
              have HT := Lib.hid hst
              clear hst hlen
              gi_wp2
              refine hRo.mono ?_
              rintro e W3 (⟨rfl, hJ3, hK⟩ | ⟨rfl, hJx3, hKf⟩ | ⟨ch, rfl, hp3⟩)
              · have HU := Lib.hid (And.intro hJ3 hK)
                clear hJ3 hK hy hRo
                gi_wp2
                first
                | (refine bodyPost_ret (results_none rfl _ _ _) rfl ?_
                   refine .inl ⟨⟨_, rfl⟩, .inl ⟨_, rfl, ?_⟩⟩
                   rw [HT.out]
                   exact HU.out.1)
                | (have hbp3 := HU.out.2.blk (hW.out.blk HR.out.2.2.2.1 (by simp)) hbB hbS
                   have hmx3 := HU.out.2.cell (cell_chg hW.out (by simp) HR.out.2.2.2.2) hmB.1 hmB.2
                   have hc2 : c2.length < rest.length := HC.out.2.2 (by trivial)
                   have hz1 := hW.out.size
                   have hz2 := HU.out.2.size
                   have hz3 := HR.out.2.2.1
                   refine ⟨⟨k', pre ++ [(s1, mb)], c2, by rw [HS.out.2], by rw [HT.out]; simp, by omega, by omega, HU.out.1, by omega, hbp3, hmx3⟩, ?_⟩
                   rw [HS.out.2]
                   simpa [strLen, ByteArray.size] using hc2)
              · have HU := Lib.hid hJx3
                clear hJx3 hKf hy hRo
                gi_wp2
                refine bodyPost_ret (results_none rfl _ _ _) rfl ?_
                exact .inl ⟨⟨_, rfl⟩, .inr ⟨pre ++ [(s1, mb)], ⟨_, by rw [HT.out, List.append_assoc]; rfl⟩, HU.out⟩⟩
              · exact ⟨rfl, .inr ⟨ch, pre ++ [(s1, mb)], rfl, ⟨_, by rw [HT.out, List.append_assoc]; rfl⟩, hp3⟩⟩

end Go.Proofs.YtkkjbnmfjhmobaaDoor
