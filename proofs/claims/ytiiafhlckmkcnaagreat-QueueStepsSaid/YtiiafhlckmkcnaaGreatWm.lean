
/- slices.Collect over a waiting list's All: the list, as a slice of one's own. -/
import Derived.Test.YtiiafhlckmkcnaaGreatJX
import Derived.Test.YtiiafhlckmkcnaaGreatWl
namespace Go.Proofs.YtiiafhlckmkcnaaGreat
open Go.RowKit Go.Shelf
attribute [local go_sem] Oper.semAt_some

theorem wpListIn_push {F : Fence} {m : Nat} {P : Program} {w : World} {ops : Array Oper} {rest : List Oper} {o : Oper} {a : Act} {Q : Exit → Act → World → Prop} (hgd : o.guard = none) (s x : Operand) (t : TypeId)
    (ho : o.op = .call { callee := .builtin .append, args := #[s, x], argTypes := #[t, t] })
    (B : Nat) (e : TypeId) (i : TypeInfo) (z : Value) (size bytes : Nat) (ht : P.underlying t = some (.slice e)) (hi : P.info? e = some i) (hz : i.zero = some z)
    (hsize : i.size = size) (hby : i.bytes = bytes) (hzs : z.cells.size = size) (hsz : 0 < size)
    (v : Value) (n : Nat) (xs : List Value) (hs : a.eval s = v) (hown : w.ownsRow B e size v n xs) (news : List Value) (hx : a.eval x = .slice (some ⟨w.heap.size, 0, none⟩) 1 1) (hl : news.length = size) (h1 : ∀ u ∈ news, u.oneCell' = true)
    (h63 : n + 1 ≤ maxLen) (hbytes : (n + 1) * bytes ≤ 140737488355328) (hB : B ≤ w.heap.size)
    (h : ∀ v' w', w'.ownsRow B e size v' (n + 1) (xs ++ news) → Chg v.ownBlock.toList w w' → (v'.ownBlock = v.ownBlock ∨ ∃ k, w.heap.size ≤ k ∧ v'.ownBlock = some k) → v' ≠ .slice none 0 0 → wpListIn F m P ops Q rest (a.put o.dst v') w') :
    wpListIn F m P ops Q (o :: rest) a (w.alloc (.cells news.toArray e)) := by
  refine wpListIn_plain hgd fun K hK => ?_
  obtain ⟨v', w', hr, h2, h3, h4, h5⟩ := run_push (P := P) (w := w) B t o.type e i z size bytes ht hi hz hsize hby hzs hsz v n xs hown news hl h1 h63 hbytes hB
  unfold Oper.wpIn
  refine ⟨?_, ?_⟩
  · simp [Oper.about, ho, resolve, Target.leads, Sem.run_pure]
  · rw [Oper.semAt_plain F _ _ (by rw [ho]; intro c hc'; cases hc')]
    unfold execOp
    simp only [ho, resolve, invoke, builtin, Sem.run_bind, Sem.run_pure, Result.andThen_ok, List.map_toArray, List.map_cons, List.map_nil, hs, hx, hr]
    exact hK _ _ (h v' w' h2 h3 h4 h5)

theorem own_cells {w : World} {B : Nat} {e : TypeId} {size : Nat} {v : Value} {n : Nat} {xs : List Value} (h : w.ownsRow B e size v n xs) : ∀ k ∈ v.ownBlock.toList, ∃ cs, w.heap[k]? = some (.cells cs e (0, 0)) := by
  intro k hk
  rcases h.2 with ⟨rfl, _⟩ | ⟨g, cap, cur, rfl, h4, h5, h6⟩
  · simp [Value.ownBlock] at hk
  · simp [Value.ownBlock] at hk
    subst hk
    exact ⟨cur, h5⟩
theorem ownFrom_own {β : Type} (B0 B : Nat) (e : TypeId) (size : Nat) (v : Value) (n : Nat) (xs : List Value) : OwnFrom B0 (fun (_ : β) W => W.ownsRow B e size v n xs) := fun _ W W' row h hg hr =>
  own_kept h (Chg.of_grown (S := row.toList) hg (fun k hk => by simp [hk])) (fun k hk hm => by
    obtain ⟨_, o, ho, hc⟩ := hr k (by simpa using hk)
    obtain ⟨cs, hcs⟩ := own_cells h k hm
    rw [hcs] at ho
    cases ho
    cases hc)
/-- The slice of one's own is there, and not nil where it holds something. -/
theorem own_slice {w : World} {B : Nat} {e : TypeId} {size : Nat} {v : Value} {n : Nat} {xs : List Value} (h : w.ownsRow B e size v n xs) : ∃ a cap, v = .slice a n cap := by
  rcases h.2 with ⟨h1, h2⟩ | ⟨g, cap, cur, rfl, _⟩
  · exact ⟨none, 0, by rw [h1, h2]⟩
  · exact ⟨_, _, rfl⟩

theorem infoWaiter : (Tryz.prog.info? 104).map (fun i => (i.zero, i.size, i.bytes)) = some (some (.agg #[.int .i64 0, .int .i64 0]), 2, 16) := by kernel_rfl

/-- The cells of a list of pairs. -/
def flatW (l : WL) : List Value := l.flatMap fun x => [.int .i64 x.1, .int .i64 x.2]
theorem flatW_snoc (l : WL) (x : Int × Int) : flatW (l ++ [x]) = flatW l ++ [.int .i64 x.1, .int .i64 x.2] := by simp [flatW]
theorem flatW_len (l : WL) : (flatW l).length = l.length * 2 := by
  induction l with
  | nil => rfl
  | cons x l ih => simp [flatW] at ih ⊢; omega

def PairsPost (l : WL) (w : World) (e : Ending) (w' : World) : Prop :=
  ∃ v, e = .returned v ∧ w'.ownsRow w.heap.size 104 2 v l.length (flatW l) ∧ Chg [] w w'

set_option maxRecDepth 100000 in
set_option maxHeartbeats 1000000 in
theorem appWaiters_any (bw ab mb : Nat) (n : Int) (L1 : List W1) (w : World) (hbw : w.heap[bw]? = some (.cells #[.pointer (some ⟨ab, 0, none⟩)] 43 (0, 0))) (hW : WIn w ab mb n L1) :
    Calls Tryz.prog 85 #[.slice none 0 0, .func (.func 86) #[] #[.pointer (some ⟨bw, 0, none⟩)]] w (PairsPost (ordL (L1.map W1.pair)) w) := by
  obtain ⟨i0, hi, hz0, hz1, hz2⟩ := info_parts infoWaiter
  have hC0 : Chg [] w (w.alloc (.cells #[.slice none 0 0] 51)) := (Chg.refl [] w).alloc _
  have hab := lt_of_blk hW.head
  have hmb := hW.map.lt
  have hbwl := lt_of_blk hbw
  have b2 : (w.alloc (.cells #[.slice none 0 0] 51)).heap[w.heap.size]? = some (.cells #[.slice none 0 0] 51 (0, 0)) := heap_alloc_eq w _
  have hseq := all1_stops [w.heap.size] [104] (by decide) (by decide) (by decide) bw ab mb n L1 (w.alloc (.cells #[.slice none 0 0] 51)) (by simp) (blk_alloc hbw _) (hW.kept hC0 (by simp) (by simp)) (by simp; omega) (by simp; omega) (by simp; omega)
  have hfew : (ordL (L1.map W1.pair)).length ≤ 16 := by
    have h1 := (ord1_perm (fun x hx => (hW.ok x hx).2.1)).length_eq
    rw [← ord1_pair, List.length_map, h1]
    exact hW.few
  have HS := Lib.hid hseq
  have H0 := Lib.hid (And.intro b2 hC0)
  clear hW hC0 b2 hseq hbw
  refine (callsIn_wide (n := 6)).1 ?_
  refine callsIn_of_wp_marks Tryz.func85 rfl trivial ?_ rfl
  simp only [Tryz.ntmps85, List.size_toArray, List.length_cons, List.length_nil, Nat.reduceAdd, Nat.reduceSub, Array.replicate_succ, Array.replicate_zero, List.push_toArray, List.append_toArray, List.nil_append, List.cons_append]
  refine wpIn_wide.2 ?_
  go_wp2
  refine (wpIn_wide (n := 5)).1 ?_
  generalize hWL : (w.alloc (.cells #[.slice none 0 0] 51)) = WL at *
  have HWL := Lib.hid (show WL.heap.size = w.heap.size + 1 by rw [← hWL]; simp)
  clear hWL
  refine wpIn_rangeFunc_ownH rfl (by omega) (gf := 86) (lb := #[.pointer (some ⟨bw, 0, none⟩)]) rfl trivial (enters_of Tryz.func86 (by kernel_rfl) rfl) HS.out
    KpS.trans (fun W l o o' _ ho h1 h2 => KpS.put o' ho h1 h2) (Below.refl _ _) (fun _ => rfl)
    (fun pre W => ∃ v, W.heap[w.heap.size]? = some (.cells #[v] 51 (0, 0)) ∧ W.ownsRow (w.heap.size + 1) 104 2 v pre.length (flatW pre) ∧ Chg [] w W)
    (fun _ _ _ => False)
    (fun s A B row hs hg hr => by
      obtain ⟨v, h1, h2, h3⟩ := hs
      exact ⟨v, ownFrom_blk (β := Unit) _ _ _ _ _ () A B row h1 hg hr, ownFrom_own (β := Unit) _ _ _ _ _ _ _ () A B row h2 hg hr, ownFrom_chg (β := Unit) _ _ _ (by rw [HWL.out]; omega) () A B row h3 hg hr⟩)
    (fun _ _ _ _ _ hs _ _ => hs)
    ⟨_, H0.out.1, World.ownsRow_nil .., H0.out.2⟩
    (fun x a' W => ∃ Bx, w.heap.size < Bx ∧ W.heap[Bx]? = some (.cells #[.int .i64 x.1, .int .i64 x.2] 104 (0, 0)) ∧ a' = { tmps := #[.slice none 0 0, .func (.func 86) #[] #[.pointer (some ⟨bw, 0, none⟩)], .pointer (some ⟨w.heap.size, 0, none⟩), undef, .slice none 0 0, .pointer (some ⟨Bx, 0, none⟩), .func (.func 86) #[] #[.pointer (some ⟨bw, 0, none⟩)], .agg #[.int .i64 x.1, .int .i64 x.2], undef, undef, undef, undef, undef], defers := [] })
    (fun x a' _ A B row hs hg hr => by
      obtain ⟨Bx, h1, h2, h3⟩ := hs
      exact ⟨Bx, h1, ownFrom_blk (β := Unit) _ _ _ _ _ () A B row h2 hg hr, h3⟩)
    ?assign ?body ?done ?stop
  case assign =>
    rintro l pre x W K ⟨v, h1, h2, hC⟩ hK
    have HC := Lib.hid (And.intro h1 (And.intro h2 hC))
    have HSz := Lib.hid (lt_of_blk h1)
    clear h1 h2 hC
    unfold encW
    gi_wp2
    exact hK _ _ (keepsFrom_chg ((Chg.refl [] _).alloc _) (by simp)) (KpS.chg ((Chg.refl [] _).alloc _) (by simp)) ⟨v, blk_alloc HC.out.1 _, own_kept HC.out.2.1 ((Chg.refl [] _).alloc _) (by simp), HC.out.2.2.alloc _⟩ ⟨W.heap.size, HSz.out, heap_alloc_eq _ _, rfl⟩
  case body =>
    rintro l pre x a' W hl ⟨r, hr⟩ ⟨v, h1, h2, hC⟩ ⟨Bx, hBx, hX, rfl⟩ hlt
    have cx0 := cellB hX (i := 0) rfl
    have cx1 := cellB hX (i := 1) rfl
    have cs := cellB h1 (i := 0) rfl
    have hB1 : w.heap.size + 1 ≤ W.heap.size := lt_of_blk h1
    have hd1 : pre.length + 1 ≤ maxLen := by unfold maxLen; omega
    have hd2 : (pre.length + 1) * 16 ≤ 140737488355328 := by omega
    have HC := Lib.hid (And.intro h1 (And.intro h2 hC))
    have HO := Lib.hid h2
    obtain ⟨va, vc, hv⟩ := own_slice h2
    subst hv
    clear h1 h2 hC hX hr
    gi_wp2_with (gi_at_builtin; refine wpListIn_push rfl _ _ 51 rfl (w.heap.size + 1) 104 i0 (.agg #[.int .i64 0, .int .i64 0]) 2 16 Tryz.underlying51 hi hz0 hz1 hz2 rfl (by decide) (.slice va pre.length vc) pre.length _ rfl HO.out [.int .i64 x.1, .int .i64 x.2] rfl rfl (by simp [Value.oneCell']) hd1 hd2 hB1 ?_; intro v' w1 hown' hC1 hloc hnn; obtain ⟨va', vc', rfl⟩ := own_slice hown'; have hb1 := hC1.blk HC.out.1 (own_notin HO.out (by omega)); have cs1 := cellB hb1 (i := 0) rfl; have fs1 := frozenB hb1 0)
    have hCC : Chg ((Value.slice va pre.length vc).ownBlock.toList ++ [w.heap.size]) W (w1.setCell ⟨w.heap.size, 0, none⟩ (.slice va' (pre.length + 1) vc')) := (hC1.mono (fun k hk => .inl (List.mem_append.2 (.inl hk)))).setCell _ _ (by simp)
    have hk : ∀ k ∈ (Value.slice va pre.length vc).ownBlock.toList ++ [w.heap.size], k = w.heap.size ∨ ∃ cs, W.heap[k]? = some (.cells cs 104 (0, 0)) := fun k hk => by
      rcases List.mem_append.1 hk with h | h
      · exact .inr (own_cells HO.out k h)
      · exact .inl (by simpa using h)
    refine ⟨keepsFrom_chg hCC (fun k hm o ho => ?_), KpS.chg hCC (fun k hm => ?_), ⟨_, blk_setCell hb1 _, ?_, ?_⟩⟩
    · rcases hk k hm with rfl | ⟨cs, hcs⟩
      · rw [HC.out.1] at ho; cases ho; rfl
      · rw [hcs] at ho; cases ho; rfl
    · rcases hk k hm with rfl | ⟨cs, hcs⟩
      · exact .inl (by simp)
      · exact .inr (fun o ho => by rw [hcs] at ho; cases ho; simp [keepT])
    · rw [List.length_append, flatW_snoc]
      exact own_kept hown' ((Chg.refl [w.heap.size] w1).setCell _ _ (by simp)) (fun k hk => by simp at hk; subst hk; exact own_notin hown' (by omega))
    · exact HC.out.2.2.trans' hCC (fun k hm => by
        rcases List.mem_append.1 hm with h | h
        · have := own_ge HO.out k h; exact .inr (by omega)
        · simp at h; exact .inr (by omega))
  case done =>
    rintro D xs W hD rfl ⟨v, h1, h2, hC⟩ hK
    have HK := Lib.hid hK
    have HC := Lib.hid (And.intro h2 hC)
    obtain ⟨va, vc, hv⟩ := own_slice h2
    have HV := Lib.hid hv
    subst hv
    have cs := cellB h1 (i := 0) rfl
    clear h1 h2 hC hK
    go_wp2
    refine ⟨by simp, .inl ⟨_, _, rfl, run_takeDeferred HK.out, ?_⟩⟩
    refine ⟨_, results_tmp rfl _ _ _, _, rfl, ?_, HC.out.2.setBlock D _ (.inr (by have := HWL.out; omega))⟩
    refine own_kept (own_mono HC.out.1 (by omega)) ((Chg.refl [D] W).setBlock D _ (by simp)) (fun k hk hm => ?_)
    simp at hk
    subst hk
    obtain ⟨cs, hcs⟩ := own_cells HC.out.1 k hm
    rw [HK.out] at hcs
    cases hcs
  case stop =>
    rintro D c pre W _ _ h _
    exact h.elim


theorem colWaiters_any (bw ab mb : Nat) (n : Int) (L1 : List W1) (w : World) (hbw : w.heap[bw]? = some (.cells #[.pointer (some ⟨ab, 0, none⟩)] 43 (0, 0))) (hW : WIn w ab mb n L1) :
    Calls Tryz.prog 64 #[.func (.func 86) #[] #[.pointer (some ⟨bw, 0, none⟩)]] w (PairsPost (ordL (L1.map W1.pair)) w) := by
  have h := appWaiters_any bw ab mb n L1 w hbw hW
  have H := Lib.hid h
  clear h hW hbw
  go_enter Tryz.func64, Tryz.ntmps64
  go_wp2_with (go_at_call 85; refine H.out.mono ?_; rintro e w' ⟨v, rfl, ho, hC⟩)
  go_ret
  exact ⟨v, rfl, ho, hC⟩

end Go.Proofs.YtiiafhlckmkcnaaGreat
