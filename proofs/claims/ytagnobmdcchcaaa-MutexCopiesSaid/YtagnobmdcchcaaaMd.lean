
/- Package mutex: next, Unlock, Ended: contracts. -/
import Derived.Test.YtagnobmdcchcaaaMc
import Derived.Test.YtagnobmdcchcaaaOrd
import Derived.BigRegion
namespace Go.Proofs.Ytagnobmdcchcaaa
open Go.RowKit

theorem infoWoken : (Try.prog.info? 38).map (fun i => (i.zero, i.size, i.bytes)) = some (some (.agg #[.int .i64 0, .int .i64 0]), 2, 16) := by kernel_rfl

/-- A slice of those who go on, made behind block B. -/
def OwnK (w : World) (B : Nat) (v : Value) (l : WL) : Prop := w.ownsRow B 38 2 v l.length (flatW l)

theorem own_one (w : World) (x : Int × Int) : OwnK (w.alloc (.cells #[.int .i64 x.1, .int .i64 x.2] 38)) w.heap.size (.slice (some ⟨w.heap.size, 0, none⟩) 1 1) [x] :=
  ⟨rfl, .inr ⟨w.heap.size, 1, _, rfl, Nat.le_refl _, heap_alloc_eq w _, Nat.le_refl _, by unfold maxLen; omega, rfl, rfl⟩⟩

def GiveP (cb ab mb : Nat) (N : Int) (s : MS) (t : Int) (w : World) (e : Ending) (w' : World) : Prop :=
  ∃ v, e = .returned v ∧ OwnK w' w.heap.size v [(t, s.told)] ∧ MAt w' cb ab mb N (s.took t) ∧ Chg [cb] w w'

set_option maxRecDepth 100000 in
theorem mgivec (xb cb ab mb : Nat) (N : Int) (s : MS) (t : Int) (w : World) (h : MAt w cb ab mb N s) (hx : w.heap[xb]? = some (.cells #[.pointer (some ⟨cb, 0, none⟩)] 25 (0, 0))) :
    Calls Try.prog 57 #[.int .i64 t, .pointer (some ⟨xb, 0, none⟩)] w (GiveP cb ab mb N s t w) := by
  have x0 := cellB hx (i := 0) rfl
  have HM := Lib.hid h
  clear h hx
  go_enter Try.func57, Try.ntmps57
  go_wp2_with fail
  refine (mtakec cb ab mb N s t _ HM.out).mono ?_
  rintro e w1 ⟨rfl, hM, hC⟩
  have hC2 : Chg [] w1 (w1.alloc (.cells #[.int .i64 t, .int .i64 s.told] 38)) := (Chg.refl _ _).alloc _
  have H1 := Lib.hid (And.intro (hM.calm hC2) (And.intro (hC.trans (hC2.mono (by simp))) (own_mono (own_one w1 (t, s.told)) hC.size)))
  clear hM hC hC2
  go_wp2
  go_ret
  exact ⟨_, rfl, H1.out.2.2, H1.out.1, H1.out.2.1⟩

def WokP (cb ab mb : Nat) (N : Int) (s' : MS) (l : WL) (w : World) (e : Ending) (w' : World) : Prop :=
  ∃ v, e = .returned v ∧ OwnK w' w.heap.size v l ∧ MAt w' cb ab mb N s' ∧ Chg [cb, ab, mb] w w'

set_option maxRecDepth 100000 in
set_option maxHeartbeats 1000000 in
theorem mnextc (cb ab mb : Nat) (N : Int) (s : MS) (w : World) (h : MAt w cb ab mb N s) :
    Calls Try.prog 38 #[.pointer (some ⟨cb, 0, none⟩)] w (WokP cb ab mb N s.nextS s.nextW w) := by
  have hP := (h.putOwn (-1)).1.putCnt 0
  have hC : Chg [cb] w (((w.setCell ⟨cb, 4, none⟩ (.int .i64 (-1))).setCell ⟨cb, 5, none⟩ (.int .i64 0)).alloc (.cells #[.pointer (some ⟨cb, 0, none⟩)] 25)).drew := (((h.putOwn (-1)).2.trans hP.2).alloc _).drew
  have hM : MAt (((w.setCell ⟨cb, 4, none⟩ (.int .i64 (-1))).setCell ⟨cb, 5, none⟩ (.int .i64 0)).alloc (.cells #[.pointer (some ⟨cb, 0, none⟩)] 25)).drew cb ab mb N { s with own := -1, cnt := 0 } := hP.1.calm (((Chg.refl [] _).alloc _).drew)
  have hb : (((w.setCell ⟨cb, 4, none⟩ (.int .i64 (-1))).setCell ⟨cb, 5, none⟩ (.int .i64 0)).alloc (.cells #[.pointer (some ⟨cb, 0, none⟩)] 25)).drew.heap[w.heap.size]? = some (.cells #[.pointer (some ⟨cb, 0, none⟩)] 25) := by
    have h1 := heap_alloc_eq ((w.setCell ⟨cb, 4, none⟩ (.int .i64 (-1))).setCell ⟨cb, 5, none⟩ (.int .i64 0)) (.cells #[.pointer (some ⟨cb, 0, none⟩)] 25)
    have h2 : ((w.setCell ⟨cb, 4, none⟩ (.int .i64 (-1))).setCell ⟨cb, 5, none⟩ (.int .i64 0)).heap.size = w.heap.size := by simp
    rw [h2] at h1
    exact h1
  have x0 := cellB (heap_alloc_eq w (.cells #[.pointer (some ⟨cb, 0, none⟩)] 25)) (i := 0) rfl
  have c4 := cellB h.head (i := 4) (v := .int .i64 s.own) rfl
  have c5 := cellB h.head (i := 5) (v := .int .i64 s.cnt) rfl
  have c7 := cellB h.head (i := 7) (v := .pointer (some ⟨ab, 0, none⟩)) rfl
  have f4 := frozenB h.head 4
  have f5 := frozenB h.head 5
  have hT := takec ab mb N s.L _ hM.list
  have hlt := h.lt
  have HP := Lib.hid (And.intro hM (And.intro hC (And.intro hb h.lt)))
  clear h hP hC hM hb
  unfold MS.nextS MS.nextW
  cases ho : ordL s.L with
  | nil =>
    rw [ho] at hT
    have htk : takeL s.L = s.L := by unfold takeL; rw [ho]
    rw [htk] at hT
    have HT := Lib.hid hT
    clear hT htk ho
    go_enter Try.func38, Try.ntmps38
    go_wp2
    go_region
    go_wp2_with fail
    refine HT.out.mono ?_
    rintro e w2 ⟨rfl, hW, hC⟩
    rw [show headB ([] : WL) = false from rfl]
    have H2 := Lib.hid (And.intro (HP.out.1.step hW hC) ((HP.out.2.1.mono (show ∀ k ∈ [cb], k ∈ [cb, ab, mb] ∨ _ by simp)).trans (hC.mono (show ∀ k ∈ [ab, mb], k ∈ [cb, ab, mb] ∨ _ by simp))))
    clear hW hC
    go_wp2
    go_ret
    exact ⟨_, rfl, World.ownsRow_nil .., H2.out.1, H2.out.2⟩
  | cons x r =>
    rw [ho] at hT
    have HT := Lib.hid hT
    clear hT ho
    go_enter Try.func38, Try.ntmps38
    go_wp2
    go_region
    go_wp2_with fail
    refine HT.out.mono ?_
    rintro e w2 ⟨rfl, hW, hC⟩
    rw [show headB (x :: r) = true from rfl, show headT (x :: r) = x.1 from rfl]
    have H2 := Lib.hid (And.intro (HP.out.1.step hW hC) (And.intro ((HP.out.2.1.mono (show ∀ k ∈ [cb], k ∈ [cb, ab, mb] ∨ _ by simp)).trans (hC.mono (show ∀ k ∈ [ab, mb], k ∈ [cb, ab, mb] ∨ _ by simp))) (hC.blk HP.out.2.2.1 (by simp; omega))))
    clear hW hC
    go_wp2_with fail
    refine (mgivec _ cb ab mb N _ x.1 w2 H2.out.1 H2.out.2.2).mono ?_
    rintro e w3 ⟨v, rfl, hO, hM, hC⟩
    have H3 := Lib.hid (And.intro (own_mono hO H2.out.2.1.size) (And.intro hM (H2.out.2.1.trans (hC.mono (by simp)))))
    clear hO hM hC
    go_wp2
    go_ret
    exact ⟨v, rfl, H3.out.1, H3.out.2.1, H3.out.2.2⟩

def slen : Value → Nat | .slice _ n _ => n | _ => 0
/-- Those who are told that it is lost. -/
def lostW (l : List Int) : WL := l.map fun x => (x, 131)

set_option maxRecDepth 100000 in
set_option maxHeartbeats 2000000 in
theorem mlostc (cb ab mb : Nat) (N : Int) (s : MS) (t : Int) (w : World) (h : MAt w cb ab mb N s) (ht : thB t = true) (ho : s.own = t) (hc : ¬ 1 < s.cnt) (hs : s.st = 1) :
    Calls Try.prog 13 #[.pointer (some ⟨cb, 0, none⟩), .int .i64 t] w fun e w' => ∃ v, e = .returned (.tuple #[v, .int .i64 0]) ∧ OwnK w' w.heap.size v (lostW (ordT s.L)) ∧ MAt w' cb ab mb N { s with own := -1, cnt := 0, st := 2, L := [] } ∧ Chg [cb, ab, mb] w w' := by
  have hP := ((h.putOwn (-1)).1.putCnt 0).1.putSt 2
  have hC : Chg [cb] w (((w.setCell ⟨cb, 4, none⟩ (.int .i64 (-1))).setCell ⟨cb, 5, none⟩ (.int .i64 0)).setCell ⟨cb, 6, none⟩ (.int .i64 2)) := ((h.putOwn (-1)).2.trans ((h.putOwn (-1)).1.putCnt 0).2).trans hP.2
  have c4 := cellB h.head (i := 4) (v := .int .i64 s.own) rfl
  have c5 := cellB h.head (i := 5) (v := .int .i64 s.cnt) rfl
  have c6 := cellB h.head (i := 6) (v := .int .i64 s.st) rfl
  have f4 := frozenB h.head 4
  have f5 := frozenB h.head 5
  have f6 := frozenB h.head 6
  have q1 : (s.own != t) = false := by simpa using ho
  have q2 : (s.own == t) = true := by simpa using ho
  have q3 : decide (1 < s.cnt) = false := decide_eq_false hc
  have q4 : (s.st != 1) = false := by simpa using hs
  have HI := Lib.hid (misc cb ab mb N s w h)
  have HT := Lib.hid ht
  have HP := Lib.hid (And.intro hP.1 (hC.mono (show ∀ k ∈ [cb], k ∈ [cb, ab, mb] ∨ _ by simp)))
  have HL : Hid ((ordL s.L).length ≤ 16) := Lib.hid (by rw [ordT_len h.list.lok]; exact h.list.facts.2.2)
  have HLT := Lib.hid h.lt
  obtain ⟨i0, hi, hz0, hz1, hz2⟩ := info_parts infoWoken
  clear h hP hC ht ho hc hs
  go_enter Try.func13, Try.ntmps13
  go_wp2_with (first | (go_at_call 36; refine HI.out.mono ?_; rintro e w' ⟨rfl, rfl⟩) | (go_at_call 37; refine (mthreadc t _).mono ?_; rintro e w' ⟨rfl, rfl⟩; rw [HT.out]))
  go_loopw [6] (fun o wr => ∃ (m : Nat) (L' : WL), (∃ a c, o = .slice a m c) ∧ wr.ownsRow w.heap.size 38 2 o m (flatW ((lostW (ordT s.L)).take m)) ∧ ordT L' = (ordT s.L).drop m ∧ m ≤ 16 ∧ MAt wr cb ab mb N { s with own := -1, cnt := 0, st := 2, L := L' } ∧ Chg [cb, ab, mb] w wr) (fun o _ => 17 - slen o)
  case atStart => exact ⟨0, s.L, ⟨none, 0, rfl⟩, World.ownsRow_nil .., rfl, by omega, HP.out.1, HP.out.2⟩
  case round =>
    obtain ⟨m, L', ⟨va, vc, rfl⟩, ho, hd, hm, hM, hC⟩ := hrel
    have c7 := cellB hM.head (i := 7) (v := .pointer (some ⟨ab, 0, none⟩)) rfl
    have hT := takec ab mb N L' wr hM.list
    have hB0 := hC.size
    have HK := Lib.hid (And.intro ho (And.intro hM (And.intro hC hd)))
    clear ho hM hC
    have hlen : (ordT s.L).length ≤ 16 := by
      unfold ordT; rw [List.length_map]
      exact HL.out
    cases hq : ordL L' with
    | nil =>
      rw [hq] at hT
      have hL' : L' = [] := (ord_nil_iff HK.out.2.1.list.lok).1 hq
      subst hL'
      have hall : (lostW (ordT s.L)).take m = lostW (ordT s.L) := by
        have h0 : (ordT s.L).drop m = [] := by rw [← hd]; rfl
        have := List.drop_eq_nil_iff.1 h0
        exact List.take_of_length_le (by unfold lostW; rw [List.length_map]; exact this)
      have hlm : m = (lostW (ordT s.L)).length := by
        have h0 : (ordT s.L).drop m = [] := by rw [← hd]; rfl
        have h1 := List.drop_eq_nil_iff.1 h0
        have h2 := HK.out.1.1
        rw [hall, flatW_len] at h2
        omega
      rw [show takeL ([] : WL) = [] from rfl] at hT
      have HT2 := Lib.hid hT
      have HH := Lib.hid (And.intro hall hlm)
      clear hT hq hall hlm hd
      go_wp2_with fail
      refine HT2.out.mono ?_
      rintro e w2 ⟨rfl, hW, hC⟩
      rw [show headB ([] : WL) = false from rfl]
      have H2 := Lib.hid (And.intro (HK.out.2.1.step hW hC) (And.intro hC HK.out.2.2.1))
      clear hW hC
      go_wp2
      go_ret2
      refine ⟨_, rfl, ?_, H2.out.1, H2.out.2.2.trans (H2.out.2.1.mono (by simp))⟩
      have h5 := HK.out.1
      rw [HH.out.1] at h5
      have h6 := own_kept h5 H2.out.2.1 (fun k hk => own_notin h5 (by have := HLT.out; simp at hk; omega))
      unfold OwnK
      rw [← HH.out.2]
      exact h6
    | cons x r =>
      rw [hq] at hT
      have hr : ordT (takeL L') = (ordT s.L).drop (m + 1) := by
        unfold ordT at hd ⊢
        rw [ord_take HK.out.2.1.list.lok, hq, List.tail_cons]
        rw [hq, List.map_cons] at hd
        rw [← List.drop_drop, ← hd]
        rfl
      have hx : (ordT s.L)[m]? = some x.1 := by
        have h0 : (ordT s.L).drop m = x.1 :: r.map (·.1) := by rw [← hd]; unfold ordT; rw [hq]; rfl
        have h1 : ((ordT s.L).drop m)[0]? = some x.1 := by rw [h0]; rfl
        simpa using h1
      have hm2 : m + 1 ≤ 16 := by
        have := (List.getElem?_eq_some_iff.1 hx).1
        omega
      have hsn : flatW ((lostW (ordT s.L)).take (m + 1)) = flatW ((lostW (ordT s.L)).take m) ++ [.int .i64 x.1, .int .i64 131] := by
        rw [List.take_add_one]
        have : (lostW (ordT s.L))[m]?.toList = [(x.1, 131)] := by unfold lostW; rw [List.getElem?_map, hx]; rfl
        rw [this, flatW_snoc]
      have HT2 := Lib.hid hT
      have HH := Lib.hid (And.intro hr hsn)
      have hd1 : m + 1 ≤ maxLen := by unfold maxLen; omega
      have hd2 : (m + 1) * 16 ≤ 140737488355328 := by omega
      obtain ⟨x1, x2⟩ := x
      clear hT hq hr hsn hx hd hlen
      go_wp2_with fail
      refine HT2.out.mono ?_
      rintro e w2 ⟨rfl, hW, hC⟩
      rw [show headB ((x1, x2) :: r) = true from rfl, show headT ((x1, x2) :: r) = x1 from rfl]
      have H2 := Lib.hid (And.intro (HK.out.2.1.step hW hC) (And.intro (HK.out.2.2.1.trans (hC.mono (by simp))) (own_kept HK.out.1 hC (fun k hk => own_notin HK.out.1 (by have := HLT.out; simp at hk; omega)))))
      have hB2 : w.heap.size ≤ w2.heap.size := Nat.le_trans hB0 hC.size
      clear hW hC
      go_wp2_with (at_builtin; refine wpList_push rfl _ _ 34 rfl w.heap.size 38 i0 (.agg #[.int .i64 0, .int .i64 0]) 2 16 Try.underlying34 hi hz0 hz1 hz2 rfl (by decide) (.slice va m vc) m _ rfl H2.out.2.2 [.int .i64 x1, .int .i64 131] rfl rfl (by simp [Value.oneCell']) hd1 hd2 hB2 ?_; intro v3 w3 ho3 hC3 hloc hnn; obtain ⟨va3, vc3, rfl⟩ := own_slice ho3)
      go_roundw
      case rel =>
        refine ⟨m + 1, takeL L', ⟨_, _, rfl⟩, by rw [HH.out.2]; exact ho3, HH.out.1, hm2, ?_, H2.out.2.1.trans' hC3 (fun j hj => .inr (own_ge H2.out.2.2 j hj))⟩
        have hne : ∀ k, k < w.heap.size → k ∉ (Value.slice va m vc).ownBlock.toList := fun k hk => own_notin H2.out.2.2 hk
        exact H2.out.1.kept hC3 (hne _ HLT.out.1) (hne _ HLT.out.2.1) (hne _ HLT.out.2.2)
      case measure => simp [slen]; omega

end Go.Proofs.Ytagnobmdcchcaaa
