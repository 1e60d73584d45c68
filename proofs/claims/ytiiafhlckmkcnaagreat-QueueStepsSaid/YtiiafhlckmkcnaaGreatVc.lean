
/- slices.Collect over a queue's All: the messages, as a slice of one's own; maps.Clone; Queue.Copy: contracts. -/
import Derived.Test.YtiiafhlckmkcnaaGreatUr
import Derived.Shelf.SlMaps.Clone
namespace Go.Proofs.YtiiafhlckmkcnaaGreat
open Go.RowKit Go.Shelf
attribute [local go_sem] Oper.semAt_some

def MsgsPost (l : WL) (w : World) (e : Ending) (w' : World) : Prop :=
  ∃ v, e = .returned v ∧ w'.ownsRow w.heap.size 33 2 v l.length (flatW l) ∧ Chg [] w w'

set_option maxRecDepth 100000 in
set_option maxHeartbeats 4000000 in
theorem uappc (bq : Nat) (u : UB) (v : Value) (N : Int) (s : QS) (w : World) (hbq : w.heap[bq]? = some (.cells #[.pointer (some ⟨u.q, 0, none⟩)] 24 (0, 0))) (h : UAt w u v N s) :
    Calls Tryz.prog 80 #[.slice none 0 0, .func (.func 70) #[] #[.pointer (some ⟨bq, 0, none⟩)]] w (MsgsPost s.ord w) := by
  obtain ⟨i0, hi, hz0, hz1, hz2⟩ := info_parts infoMessage
  obtain ⟨B, hB⟩ : ∃ B, B = w.heap.size := ⟨_, rfl⟩
  obtain ⟨W0, hW0⟩ : ∃ W0, W0 = w.alloc (.cells #[.slice none 0 0] 47 (0, 0)) := ⟨_, rfl⟩
  have hC0 : Chg [] w W0 := by rw [hW0]; exact (Chg.refl _ _).alloc _
  have hb0 : W0.heap[B]? = some (.cells #[.slice none 0 0] 47 (0, 0)) := by rw [hW0, hB]; exact heap_alloc_eq w _
  have hz : W0.heap.size = B + 1 := by rw [hW0, hB]; simp
  have hX := uall1X B [B] [33] (by decide) (W0.heap.size + 2) bq u v N s W0 (hC0.blk hbq (by simp)) (h.calm hC0) (fun k hk => by
    have := h.lt k (List.mem_append.2 (.inr hk))
    exact ⟨by omega, by simp; omega⟩) (by simp; omega) (by omega)
  have hfew := h.inv.few32
  have HX := Lib.hid hX
  have H0 := Lib.hid (And.intro hC0 (And.intro hb0 (And.intro hz hB)))
  obtain ⟨l, hl⟩ : ∃ l, l = s.ord := ⟨_, rfl⟩
  rw [← hl] at HX hfew ⊢
  clear hC0 hb0 hX h hbq hl
  refine (callsIn_wide (n := 7)).1 ?_
  refine callsIn_of_wp_marks Tryz.func80 rfl trivial ?_ rfl
  simp only [Tryz.ntmps80, List.size_toArray, List.length_cons, List.length_nil, Nat.reduceAdd, Nat.reduceSub, Array.replicate_succ, Array.replicate_zero, List.push_toArray, List.append_toArray, List.nil_append, List.cons_append]
  refine wpIn_wide.2 ?_
  go_upto_region 1 with fail
  rw [← hB, ← hW0]
  clear hB hW0
  go_wp2
  refine (wpIn_wide (n := 7)).1 ?_
  refine wpIn_act (fun A hA => ?_)
  have HA := Lib.hid hA
  refine wpIn_rangeX rfl (by omega) (gf := 70) (lb := #[.pointer (some ⟨bq, 0, none⟩)]) (by rw [hA]; rfl) trivial (enters_of Tryz.func70 (by kernel_rfl) rfl) HX.out
    KpC.trans (fun W o o' ho h1 h2 => KpC.put o' (by omega) (fun x hx => by cases hx; omega) ho h1 h2) (Below.refl _ _) (fun _ => rfl)
    (fun pre W => ∃ v, W.heap[B]? = some (.cells #[v] 47 (0, 0)) ∧ W.ownsRow (B + 1) 33 2 v pre.length (flatW pre) ∧ Chg [] w W)
    (fun _ _ _ => False)
    (fun s' A' B' row hs hg hr => by
      obtain ⟨v, h1, h2, h3⟩ := hs
      exact ⟨v, ownFrom_blk (β := Unit) _ _ _ _ _ () A' B' row h1 hg hr, ownFrom_own (β := Unit) _ _ _ _ _ _ _ () A' B' row h2 hg hr, ownFrom_chg (β := Unit) _ _ _ (by have := H0.out.2.2.2; omega) () A' B' row h3 hg hr⟩)
    (fun _ _ _ _ _ hs _ _ => hs)
    ⟨_, H0.out.2.1, World.ownsRow_nil .., H0.out.1⟩
    (fun x a' W' => ∃ Bx, B < Bx ∧ W'.heap[Bx]? = some (.cells #[.int .i64 x.1, .int .i64 x.2] 33 (0, 0)) ∧ a' = { tmps := (A.tmps.setIfInBounds 7 (msgV x)).setIfInBounds 5 (.pointer (some ⟨Bx, 0, none⟩)), defers := [] })
    (fun x a' _ A' B' row hs hg hr => by
      obtain ⟨Bx, h0, h1, h2⟩ := hs
      exact ⟨Bx, h0, ownFrom_blk (β := Unit) _ _ _ _ _ () A' B' row h1 hg hr, h2⟩)
    ?assign ?body ?done ?stop
  case assign =>
    rintro l' pre x W K ⟨v, h1, h2, h3⟩ hK
    have HC := Lib.hid (And.intro h1 (And.intro h2 (And.intro h3 (lt_of_blk h1))))
    clear h1 h2 h3
    rw [HA.out]
    unfold encU msgV
    gi_wp2
    exact hK _ _ (keepsFrom_chg ((Chg.refl [] _).alloc _) (by simp)) (KpC.chg ((Chg.refl [] _).alloc _) (by simp)) ⟨v, blk_alloc HC.out.1 _, own_kept HC.out.2.1 ((Chg.refl [] _).alloc _) (by simp), HC.out.2.2.1.alloc _⟩ ⟨W.heap.size, HC.out.2.2.2, heap_alloc_eq _ _, by rw [HA.out]; rfl⟩
  case body =>
    rintro l' pre x a' W hl' ⟨r, hr⟩ ⟨v, h1, h2, h3⟩ ⟨Bx, hBx, hX, rfl⟩ hlt
    have x0 := cellB hX (i := 0) (v := .int .i64 x.1) rfl
    have x1 := cellB hX (i := 1) (v := .int .i64 x.2) rfl
    have cs := cellB h1 (i := 0) (v := v) rfl
    have hB1 : B + 1 ≤ W.heap.size := lt_of_blk h1
    have hd1 : pre.length + 1 ≤ maxLen := by unfold maxLen; omega
    have hd2 : (pre.length + 1) * 16 ≤ 140737488355328 := by omega
    have HC := Lib.hid (And.intro h1 (And.intro h2 h3))
    have HO := Lib.hid h2
    obtain ⟨va, vc, hv⟩ := own_slice h2
    subst hv
    clear hr hX h1 h2 h3
    rw [HA.out]
    simp only [msgV, List.setIfInBounds_toArray, List.set_cons_zero, List.set_cons_succ]
    gi_wp2_with (gi_at_builtin; refine wpListIn_push rfl _ _ 47 rfl (B + 1) 33 i0 (.agg #[.int .i64 0, .int .i64 0]) 2 16 Tryz.underlying47 hi hz0 hz1 hz2 rfl (by decide) (.slice va pre.length vc) pre.length _ rfl HO.out [.int .i64 x.1, .int .i64 x.2] rfl rfl (by simp [Value.oneCell']) hd1 hd2 hB1 ?_; intro v' w1 hown' hC1 hloc hnn; obtain ⟨va', vc', rfl⟩ := own_slice hown'; have hb1 := hC1.blk HC.out.1 (own_notin HO.out (by omega)); have cs1 := cellB hb1 (i := 0) rfl; have fs1 := frozenB hb1 0)
    have hCC : Chg ((Value.slice va pre.length vc).ownBlock.toList ++ [B]) W (w1.setCell ⟨B, 0, none⟩ (.slice va' (pre.length + 1) vc')) := (hC1.mono (fun k hk => .inl (List.mem_append.2 (.inl hk)))).setCell _ _ (by simp)
    have hk : ∀ k ∈ (Value.slice va pre.length vc).ownBlock.toList ++ [B], k = B ∨ (B + 1 ≤ k ∧ ∃ cs, W.heap[k]? = some (.cells cs 33 (0, 0))) := fun k hk => by
      rcases List.mem_append.1 hk with h | h
      · exact .inr ⟨own_ge HO.out k h, own_cells HO.out k h⟩
      · exact .inl (by simpa using h)
    refine ⟨keepsFrom_chg hCC (fun k hm o ho => ?_), KpC.chg hCC (fun k hm => ?_), ⟨_, blk_setCell hb1 _, ?_, ?_⟩⟩
    · rcases hk k hm with rfl | ⟨_, cs, hcs⟩
      · rw [HC.out.1] at ho; cases ho; rfl
      · rw [hcs] at ho; cases ho; rfl
    · rcases hk k hm with rfl | ⟨hge, cs, hcs⟩
      · exact .inl (by simp)
      · exact .inr ⟨by omega, fun o ho => by rw [hcs] at ho; cases ho; simp [keepT, Obj.isCells]⟩
    · rw [List.length_append, flatW_snoc]
      exact own_kept hown' ((Chg.refl [B] w1).setCell _ _ (by simp)) (fun k hk => by simp at hk; subst hk; exact own_notin hown' (by omega))
    · exact HC.out.2.2.trans' hCC (fun k hm => by
        have := H0.out.2.2.2
        rcases List.mem_append.1 hm with h | h
        · have := own_ge HO.out k h; exact .inr (by omega)
        · simp at h; exact .inr (by omega))
  case done =>
    rintro D xs W hD rfl ⟨v, h1, h2, hC⟩ hK
    have HK := Lib.hid hK
    have HC := Lib.hid (And.intro h2 hC)
    obtain ⟨va, vc, hv⟩ := own_slice h2
    have HV := Lib.hid hv
    subst hv
    have cs := cellB h1 (i := 0) (v := .slice va xs.length vc) rfl
    clear h1 h2 hC hK
    rw [HA.out]
    go_wp2
    refine ⟨by simp, .inl ⟨_, _, rfl, run_takeDeferred HK.out, ?_⟩⟩
    refine ⟨_, results_tmp rfl _ _ _, _, rfl, ?_, HC.out.2.trans' (KeepsD D W) (fun k hk => by simp at hk; subst hk; exact .inr (by have := H0.out.2.2.2; omega))⟩
    refine own_kept (own_mono HC.out.1 (by have := H0.out.2.2.2; omega)) (KeepsD D W) (fun k hk hm => ?_)
    simp at hk
    subst hk
    obtain ⟨cs, hcs⟩ := own_cells HC.out.1 k hm
    rw [HK.out] at hcs
    cases hcs
  case stop =>
    rintro D c pre W _ _ h _
    exact h.elim

theorem ucollc (bq : Nat) (u : UB) (v : Value) (N : Int) (s : QS) (w : World) (hbq : w.heap[bq]? = some (.cells #[.pointer (some ⟨u.q, 0, none⟩)] 24 (0, 0))) (h : UAt w u v N s) :
    Calls Tryz.prog 55 #[.func (.func 70) #[] #[.pointer (some ⟨bq, 0, none⟩)]] w (MsgsPost s.ord w) := by
  have H := Lib.hid (uappc bq u v N s w hbq h)
  clear h hbq
  go_enter Tryz.func55, Tryz.ntmps55
  go_wp2_with (go_at_call 80; refine H.out.mono ?_; rintro e w' ⟨v, rfl, ho, hC⟩)
  go_ret
  exact ⟨v, rfl, ho, hC⟩

set_option maxRecDepth 100000 in
theorem umclonec (b : Nat) (M : List (Int × Value)) (w : World) (h : MapP w b M) :
    Calls Tryz.prog 57 #[.map (some b)] w fun e w' => ∃ b', e = .returned (.map (some b')) ∧ w.heap.size ≤ b' ∧ MapP w' b' M ∧ Chg [] w w' := by
  obtain ⟨M', ⟨es, clock, hb, hE⟩, hp⟩ := h
  have hq := fun w => run_eql_map_nil_sl (P := Tryz.prog) w 46 _ _ (some b) Tryz.underlying46
  have H := Lib.hid (And.intro hE hp)
  clear hE hp
  go_enter Tryz.func57, Tryz.ntmps57
  go_wp2
  rw [run_callFunc_extern Tryz.func81 (by kernel_rfl) (by kernel_rfl) (by kernel_rfl) (e := Extern.MapsClone.clone) (by kernel_rfl), run_maps_clone_sl w 46 hb]
  simp only [Result.andThen]
  rw [Oper.upon_value]
  go_wp2
  rw [run_typeAssert_map_sl _ 46 20 _ _ _ Tryz.underlying46]
  simp only [Result.andThen]
  rw [Oper.upon_value]
  go_wp2
  go_ret
  exact ⟨_, rfl, Nat.le_refl _, ⟨M', ⟨es, clock, heap_alloc_eq w _, H.out.1⟩, H.out.2⟩, (Chg.refl _ _).alloc _⟩

end Go.Proofs.YtiiafhlckmkcnaaGreat
