
/- Queue.All: the iterator's contract. -/
import Derived.Test.YtiiafhlckmkcnaaGreatUl
import Derived.Deep.CutBlock
namespace Go.Proofs.YtiiafhlckmkcnaaGreat
open Go.RowKit Go.Shelf
attribute [local go_sem] Oper.semAt_some

set_option maxRecDepth 100000 in
set_option maxHeartbeats 400000 in
theorem uallc (p : Option Addr) (w : World) : Calls Tryz.prog 39 #[.pointer p] w fun e w' => e = .returned (.func (.func 70) #[] #[.pointer (some ⟨w.heap.size, 0, none⟩)]) ∧ w' = w.alloc (.cells #[.pointer p] 24 (0, 0)) := by
  go_enter Tryz.func39, Tryz.ntmps39
  go_wp2
  go_ret
  exact ⟨rfl, rfl⟩

theorem ownFrom_up {β : Type} {B B' : Nat} {I : β → World → Prop} (h : OwnFrom B I) (hB : B ≤ B') : OwnFrom B' I := fun s A W row hs hg hr => h s A W row hs hg (fun r e => ⟨Nat.le_trans hB (hr r e).1, (hr r e).2⟩)
theorem bel_chg {w W : World} (h : Below w.heap.size w W) : Chg [] w W := ⟨h.os, h.tape, h.output, h.size, fun k hk _ => h.block k hk⟩
theorem wpIn_act {C : Code} {F : Fence} {n : Nat} {P : Program} {Q : Exit → Act → World → Prop} {a : Act} {w : World} (h : ∀ A : Act, A = a → C.wpIn F n P Q A w) : C.wpIn F n P Q a w := h a rfl

set_option maxRecDepth 100000 in
set_option maxHeartbeats 4000000 in
theorem uall1X (B : Nat) (S : List Nat) (Ts : List TypeId) (hT : 114 ∉ Ts) (L : Nat) (bq : Nat) (u : UB) (v : Value) (N : Int) (s : QS) (w : World) (hbq : w.heap[bq]? = some (.cells #[.pointer (some ⟨u.q, 0, none⟩)] 24 (0, 0))) (hU : UAt w u v N s)
    (hrow : ∀ k ∈ v.ownBlock.toList, k < B ∧ k ∉ S) (hS : ∀ k ∈ S, k < w.heap.size) (hBw : B ≤ w.heap.size) :
    SeqX Fence.wide 6 Tryz.prog 70 #[.pointer (some ⟨bq, 0, none⟩)] encU (KpC B S Ts (some L)) (fun xs => xs = s.ord) (fun pre => pre <+: s.ord) s.ord.length L w := fun lp J Jx W hBW hLW hJ hJx hY h0 => by
  have hCW := bel_chg hBW
  have hUW := hU.calm hCW
  have hbW := hCW.blk hbq (by simp)
  obtain ⟨a, cap, rfl⟩ := hUW.form
  obtain ⟨W1, hW1⟩ : ∃ W1, W1 = W.alloc (.cells #[.func (.yield lp) #[] #[]] 114 (0, 0)) := ⟨_, rfl⟩
  obtain ⟨by', hby⟩ : ∃ b, b = W.heap.size := ⟨_, rfl⟩
  have hC1 : Chg [] W W1 := by rw [hW1]; exact (Chg.refl _ _).alloc _
  have hy1 : W1.heap[by']? = some (.cells #[.func (.yield lp) #[] #[]] 114 (0, 0)) := by rw [hW1, hby]; exact heap_alloc_eq W _
  have hU1 := hUW.calm hC1
  have cb := cellB (hC1.blk hbW (by simp)) (i := 0) (v := .pointer (some ⟨u.q, 0, none⟩)) rfl
  have cl := cellB hU1.head (i := 1) (v := .slice a s.ord.length cap) rfl
  have HT := Lib.hid (utherec u _ N s W1 hU1)
  have hJ1 := hJ _ _ _ none h0 hC1.grown (by simp)
  have HR := Lib.hid (RowLow.of (B := B) (S := S) hU1.row hrow)
  have HJ := Lib.hid hJ
  have HJx := Lib.hid hJx
  have HY := Lib.hid hY
  have H1 := Lib.hid (And.intro hJ1 (And.intro hy1 (And.intro hC1 (And.intro hCW.size (And.intro hLW hby)))))
  have HSB := Lib.hid (And.intro hS (And.intro hBw (And.intro hrow hU1.inv.few32)))
  obtain ⟨n, hn⟩ : ∃ n, n = s.ord.length := ⟨_, rfl⟩
  rw [← hn] at cl
  have HN := Lib.hid hn
  clear hbq hU hrow hS hBw hCW hUW hbW hC1 hy1 hU1 hJ1 hJ hJx hY hBW hLW hn
  refine callsIn_of_wp_marks Tryz.func70 rfl trivial ?_ rfl
  simp only [Tryz.ntmps70, List.size_toArray, List.length_cons, List.length_nil, Nat.reduceAdd, Nat.reduceSub, Array.replicate_succ, Array.replicate_zero, List.push_toArray, List.append_toArray, List.nil_append, List.cons_append]
  refine wpIn_wide.2 ?_
  go_upto_region 1 with fail
  rw [← hby, ← hW1]
  clear hby hW1
  go_wp2_with fail
  refine HT.out.mono ?_
  rintro e w' ⟨rfl, rfl⟩
  go_wp2_with fail
  refine (uvalsc a n cap _).mono ?_
  rintro e w' ⟨rfl, rfl⟩
  go_wp2
  obtain ⟨bs, hbs⟩ : ∃ bs, bs = W1.heap.size := ⟨_, rfl⟩
  obtain ⟨W2, hW2⟩ : ∃ W2, W2 = W1.alloc (.cells #[.slice a n cap] 47 (0, 0)) := ⟨_, rfl⟩
  have hC2 : Chg [] W1 W2 := by rw [hW2]; exact (Chg.refl _ _).alloc _
  have hs2 : W2.heap[bs]? = some (.cells #[.slice a n cap] 47 (0, 0)) := by rw [hW2, hbs]; exact heap_alloc_eq W1 _
  have hz2 : W2.heap.size = bs + 1 := by rw [hW2, hbs]; simp
  rw [← hbs, ← hW2]
  have hR2 := HR.out.chg hC2
  have hseq := uvals_stops B S Ts bs (.slice a s.ord.length cap) s.ord W2 (by rw [← HN.out]; exact hs2) hR2 (by have := HSB.out.2.2.2; omega)
  have HQ := Lib.hid (And.intro hseq (And.intro hC2 (And.intro hz2 hbs)))
  clear hC2 hs2 hz2 hR2 hseq hbs hW2 cb cl
  refine (wpIn_wide (n := 6)).1 ?_
  refine wpIn_act (fun A hA => ?_)
  have HA := Lib.hid hA
  have hsz : W.heap.size ≤ W2.heap.size := by have h1 := H1.out.2.2.1.size; have h2 := HQ.out.2.1.size; omega
  refine wpIn_rangeFunc_ownH rfl (by omega) (gf := 89) (lb := #[.pointer (some ⟨bs, 0, none⟩)]) (by rw [hA]; rfl) trivial (enters_of Tryz.func89 (by kernel_rfl) rfl) HQ.out.1
    KpC.trans (fun W' l o o' hl ho h1 h2 => KpC.put o' (by have := HSB.out.2.1; have := H1.out.2.2.2.1; omega) (fun x hx => by cases hx) ho h1 h2) (Below.refl _ _) (fun _ => rfl)
    (fun pre W' => J pre W' ∧ W'.heap[by']? = some (.cells #[.func (.yield lp) #[] #[]] 114 (0, 0)) ∧ W2.heap.size ≤ W'.heap.size)
    (fun c pre W' => c = .ret ∧ Jx pre W')
    (fun s' A' B' row hs hg hr => ⟨(ownFrom_up HJ.out hsz) s' A' B' row hs.1 hg hr, ownFrom_blk (β := Unit) _ _ _ _ _ () A' B' row hs.2.1 hg hr, Nat.le_trans hs.2.2 hg.size⟩)
    (fun c s' A' B' row hs hg hr => ⟨hs.1, (ownFrom_up HJx.out hsz) s' A' B' row hs.2 hg hr⟩)
    ⟨HJ.out _ _ _ none H1.out.1 HQ.out.2.1.grown (by simp), HQ.out.2.1.blk H1.out.2.1 (by simp), Nat.le_refl _⟩
    (fun x a' W' => ∃ Bx, W'.heap[Bx]? = some (.cells #[.int .i64 x.1, .int .i64 x.2] 33 (0, 0)) ∧ a' = { tmps := (A.tmps.setIfInBounds 12 (msgV x)).setIfInBounds 3 (.pointer (some ⟨Bx, 0, none⟩)), defers := [] })
    (fun x a' _ A' B' row hs hg hr => by
      obtain ⟨Bx, h1, h2⟩ := hs
      exact ⟨Bx, ownFrom_blk (β := Unit) _ _ _ _ _ () A' B' row h1 hg hr, h2⟩)
    ?assign ?body ?done ?stop
  case assign =>
    rintro l pre x W' K ⟨h1, h2, h3⟩ hK
    have HC := Lib.hid (And.intro h1 (And.intro h2 h3))
    clear h1 h2 h3
    rw [HA.out]
    unfold encU msgV
    gi_wp2
    exact hK _ _ (keepsFrom_chg ((Chg.refl [] _).alloc _) (by simp)) (KpC.chg ((Chg.refl [] _).alloc _) (by simp)) ⟨HJ.out _ _ _ none HC.out.1 (((Chg.refl [] W').alloc _).grown) (by simp), blk_alloc HC.out.2.1 _, by have := HC.out.2.2; simp; omega⟩ ⟨W'.heap.size, heap_alloc_eq _ _, by rw [HA.out]; rfl⟩
  case body =>
    rintro l pre x a' W' hl ⟨r, hr⟩ ⟨h1, h2, h3⟩ ⟨Bx, hX, rfl⟩ hlt
    obtain ⟨fn, tmps, assign, body, hy, hRr⟩ := HY.out pre x W' h1 hlt
    have cy := cellB h2 (i := 0) (v := .func (.yield lp) #[] #[]) rfl
    have x0 := cellB hX (i := 0) (v := .int .i64 x.1) rfl
    have x1 := cellB hX (i := 1) (v := .int .i64 x.2) rfl
    have HC := Lib.hid (And.intro h1 (And.intro h2 h3))
    have hbS : by' ∉ S := fun hm => by have h4 := HSB.out.1 _ hm; have h5 := H1.out.2.2.2.2.2; have h6 := H1.out.2.2.2.1; omega
    have HB := Lib.hid hbS
    clear hr hX h1 h2 h3 hbS
    rw [HA.out]
    simp only [encU, msgV, List.setIfInBounds_toArray, List.set_cons_zero, List.set_cons_succ] at hy ⊢
    gi_wp2
    have hRR := round_any (F := Fence.wide) rfl (m' := 3) hRr
    refine RoundIn.mono (show RoundIn (Fence.wide.inRound l) _ Tryz.prog lp fn tmps assign body W' _ from hRR) ?_
    rintro e W3 (⟨rfl, hJ3, hK⟩ | ⟨rfl, hJx3, hKf⟩)
    · have H3 := Lib.hid (And.intro hJ3 hK)
      clear hJ3 hK hy hRr hRR
      gi_wp2
      refine ⟨KpC.recs H3.out.2 (by have h4 := H1.out.2.2.2.2.1; omega) (fun k hk => by have h4 := HSB.out.1 k hk; have h5 := H1.out.2.2.2.1; omega), KpC.weak H3.out.2, H3.out.1, KpC.typ H3.out.2 HC.out.2.1 HB.out hT, by have := H3.out.2.size; have := HC.out.2.2; omega⟩
    · have H3 := Lib.hid (And.intro hJx3 hKf)
      clear hJx3 hKf hy hRr hRR
      gi_wp2
      exact ⟨keepsFrom_up H3.out.2 (by have h4 := H1.out.2.2.2.2.1; omega), rfl, H3.out.1⟩
  case done =>
    rintro D xs W' hD rfl ⟨h1, h2, h3⟩ hK
    have HK := Lib.hid hK
    have HC := Lib.hid h1
    clear h1 h2 h3 hK
    rw [HA.out]
    go_wp2
    refine ⟨by simp, .inl ⟨_, _, rfl, run_takeDeferred HK.out, ?_⟩⟩
    exact ⟨_, results_none rfl _ _ _, ⟨_, rfl⟩, .inl ⟨_, rfl, HJ.out _ _ _ _ HC.out (grownBy_putObj' W' D _) (fun r e => by cases e; exact ⟨by omega, _, HK.out, rfl⟩)⟩⟩
  case stop =>
    rintro D c pre W' hD hSp ⟨rfl, h1⟩ hK
    have HK := Lib.hid hK
    have HC := Lib.hid h1
    clear h1 hK
    rw [HA.out]
    gi_wp2
    refine ⟨by simp, .inl ⟨_, _, rfl, run_takeDeferred HK.out, ?_⟩⟩
    exact ⟨_, results_none rfl _ _ _, ⟨_, rfl⟩, .inr ⟨_, hSp, HJx.out _ _ _ _ HC.out (grownBy_putObj' W' D _) (fun r e => by cases e; exact ⟨by omega, _, HK.out, rfl⟩)⟩⟩

end Go.Proofs.YtiiafhlckmkcnaaGreat
