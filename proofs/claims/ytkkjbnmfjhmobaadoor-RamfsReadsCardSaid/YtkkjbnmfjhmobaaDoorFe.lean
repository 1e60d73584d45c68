
/- Package ramfs: split: a path's names: contract. -/
import Derived.Test.YtkkjbnmfjhmobaaDoorFd
import Derived.Deep.CutBlock
import Derived.RangeFuncCalls
import Derived.RangeFuncLeaves
namespace Go.Proofs.YtkkjbnmfjhmobaaDoor
open Go.RowKit Go.Shelf
attribute [local go_sem] Oper.semAt_some

theorem wpListIn_push {F : Fence} {m : Nat} {P : Program} {w : World} {ops : Array Oper} {rest : List Oper} {o : Oper} {a : Act} {Q : Exit → Act → World → Prop} (hgd : o.guard = none) (s x : Operand) (t : TypeId)
    (ho : o.op = .call { callee := .builtin .append, args := #[s, x], argTypes := #[t, t] })
    (B : Nat) (e : TypeId) (i : TypeInfo) (z : Value) (size bytes : Nat) (ht : P.underlying t = some (.slice e)) (hi : P.info? e = some i) (hz : i.zero = some z)
    (hsize : i.size = size) (hby : i.bytes = bytes) (hzs : z.cells.size = size) (hsz : 0 < size)
    (v : Value) (n : Nat) (xs : List Value) (hs : a.eval s = v) (hown : w.ownsRow B e size v n xs) (news : List Value) (hx : a.eval x = .slice (some ⟨w.heap.size, 0, none⟩) 1 1) (hl : news.length = size) (h1 : ∀ u ∈ news, u.oneCell' = true)
    (h63 : n + 1 ≤ maxLen) (hbytes : (n + 1) * bytes ≤ 140737488355328) (hB : B ≤ w.heap.size)
    (h : ∀ v' w', w'.ownsRow B e size v' (n + 1) (xs ++ news) → Chg v.ownBlock.toList w w' → (v'.ownBlock = v.ownBlock ∨ ∃ k, w.heap.size ≤ k ∧ v'.ownBlock = some k) → v' ≠ .slice none 0 0 → wpListIn F m P ops Q rest (a.put o.dst v') w') :
    wpListIn F m P ops Q (o :: rest) a (w.alloc (.cells news.toArray e)) := by
  refine wpListIn_plain hgd fun K hK => ?_
  obtain ⟨v', w', hr, h2, h3, h4, h5⟩ := run_push (P := P) (w := w) B t o.type e i z size bytes ht hi hz hsize hby hzs hsz v n xs hown news hl h1 h63 hbytes hB
  unfold Oper.wpIn
  refine ⟨?_, ?_⟩
  · simp [Oper.about, ho, resolve, Target.leads, Sem.run_pure]
  · rw [Oper.semAt_plain F _ _ (by rw [ho]; intro c hc'; cases hc')]
    unfold execOp
    simp only [ho, resolve, invoke, builtin, Sem.run_bind, Sem.run_pure, Result.andThen_ok, List.map_toArray, List.map_cons, List.map_nil, hs, hx, hr]
    exact hK _ _ (h v' w' h2 h3 h4 h5)

theorem ownFrom_own {β : Type} (B0 B : Nat) (e : TypeId) (size : Nat) (v : Value) (n : Nat) (xs : List Value) : OwnFrom B0 (fun (_ : β) W => W.ownsRow B e size v n xs) := fun _ W W' row h hg hr =>
  own_kept h (Chg.of_grown (S := row.toList) hg (fun k hk => by simp [hk])) (fun k hk hm => by
    obtain ⟨_, o, ho, hc⟩ := hr k (by simpa using hk)
    obtain ⟨cs, hcs⟩ := own_cells h k hm
    rw [hcs] at ho
    cases ho
    cases hc)
theorem ownFrom_blk {β : Type} (B k : Nat) (cs : Array Value) (T : TypeId) (fr : Nat × Nat) : OwnFrom B (fun (_ : β) W => W.heap[k]? = some (.cells cs T fr)) := fun _ W W' row h hg hr => by
  refine (hg.block k (lt_of_blk h) (fun e => ?_)).trans h
  obtain ⟨_, o, ho, hc⟩ := hr k e.symm
  rw [h] at ho
  cases ho
  cases hc
theorem ownFrom_chg {β : Type} (B : Nat) (S : List Nat) (w : World) (hB : w.heap.size ≤ B) : OwnFrom B (fun (_ : β) W => Chg S w W) := fun _ W W' row h hg hr => by
  refine h.trans' (S2 := row.toList) (Chg.of_grown hg (fun k hk => by simp [hk])) (fun k hk => ?_)
  have := (hr k (by simpa using hk)).1
  exact .inr (by omega)
theorem keepsFrom_chg {B : Nat} {S : List Nat} {W W' : World} (h : Chg S W W') (hS : ∀ k ∈ S, ∀ o, W.heap[k]? = some o → o.isCells = true) : KeepsFrom B W W' :=
  ⟨h.size, fun k o _ hk ho => h.blk hk (fun hm => by rw [hS k hm o hk] at ho; cases ho)⟩

theorem wpIn_act {C : Code} {F : Fence} {n : Nat} {P : Program} {Q : Exit → Act → World → Prop} {a : Act} {w : World} (h : ∀ A : Act, A = a → C.wpIn F n P Q A w) : C.wpIn F n P Q a w := h a rfl
theorem wpAt_act {C : Code} {f : FuncId} {P : Program} {Q : Exit → Act → World → Prop} {a : Act} {w : World} (h : ∀ A : Act, A = a → Code.wpAt f P C Q A w) : Code.wpAt f P C Q a w := h a rfl
theorem keepsD (D : Nat) (W : World) : Chg [D] W (W.putObj D (.deferred none)) := (Chg.refl [D] W).setBlock D _ (by simp)

theorem infoStr : (Tryd.prog.info? 9).map (fun i => (i.zero, i.size, i.bytes)) = some (some (.string ⟨#[]⟩), 1, 16) := by kernel_rfl
/-- What the library's functions read: the longest needle, the tables of runes. -/
structure LibW (w : World) : Prop where
  mx : ∃ m : Int, w.cell? ⟨2, 0, none⟩ = some (.int .i64 m)
  tb : Lib.Utf8Tabs 0 1 w
theorem LibW.kept {S : List Nat} {w w' : World} (h : LibW w) (hC : Chg S w w') (h1 : 2 ∉ S) (h2 : 0 ∉ S) (h3 : 1 ∉ S) : LibW w' := by
  obtain ⟨m, hm⟩ := h.mx
  exact ⟨⟨m, cell_chg hC h1 hm⟩, fun c hc => cell_chg hC h2 (h.tb.1 c hc), fun i hi => ⟨cell_chg hC h3 (h.tb.2 i hi).1, cell_chg hC h3 (h.tb.2 i hi).2⟩⟩
theorem LibW.calm {w w' : World} (h : LibW w) (hC : Chg [] w w') : LibW w' := h.kept hC (by simp) (by simp) (by simp)
theorem LibW.lt {w : World} (h : LibW w) : 2 < w.heap.size := by
  obtain ⟨m, hm⟩ := h.mx
  exact cell_size hm

set_option maxRecDepth 100000 in
theorem fstepsc (p : ByteArray) (w : World) : Calls Tryd.prog 53 #[.string p] w fun e w' => e = .returned (.func (.func 61) #[] #[.pointer (some ⟨w.heap.size, 0, none⟩)]) ∧ w' = w.alloc (.cells #[.string p] 9 (0, 0)) := by
  have hmf : ∀ (fn : Fn) (first cap : Array Value) (w : World), (Instr.makeFunc fn first cap).run Tryd.prog w = .ok (.func fn first cap) w := fun _ _ _ _ => rfl
  go_enter Tryd.func53, Tryd.ntmps53
  go_wp2
  go_ret
  exact ⟨rfl, rfl⟩

def strsV (l : List ByteArray) : List Value := l.map Value.string
/-- A path's names, or that it has none. -/
def SplitP (p : ByteArray) (w : World) (e : Ending) (w' : World) : Prop :=
  (∃ l v, splitF p = some l ∧ e = .returned v ∧ w'.ownsRow w.heap.size 9 1 v l.length (strsV l) ∧ Chg [] w w') ∨ (splitF p = none ∧ e = .panicked (refP 22) ∧ Chg [] w w')
theorem splitF_no {p : ByteArray} (h : (!Lib.hasPrefix p.data.toList [47] || decide (600 < p.size) || !Lib.validD p.data.toList) = true) : splitF p = none := by
  unfold splitF; rw [if_pos h]
theorem splitF_yes {p : ByteArray} (h1 : Lib.hasPrefix p.data.toList [47] = true) (h2 : decide (600 < p.size) = false) (h3 : Lib.validD p.data.toList = true) : splitF p = if ((stepsF p).all (·.2) && decide ((stepsF p).length ≤ 8)) = true then some ((stepsF p).map (·.1)) else none := by
  unfold splitF; rw [h1, h2, h3]; rfl

set_option maxRecDepth 100000 in
set_option maxHeartbeats 4000000 in
theorem fsplit_no (p : ByteArray) (w : World) (hL : LibW w) (h : Lib.hasPrefix p.data.toList [47] = false ∨ (Lib.hasPrefix p.data.toList [47] = true ∧ decide (600 < p.size) = true) ∨ (Lib.hasPrefix p.data.toList [47] = true ∧ decide (600 < p.size) = false ∧ Lib.validD p.data.toList = false)) :
    Calls Tryd.prog 24 #[.string p] w fun e w' => e = .panicked (refP 22) ∧ Chg [] w w' := by
  have HP := Lib.hid (Tryd.strings_HasPrefix p ⟨#[47]⟩ w)
  have e2 : decide ((600 : Int) < (p.size : Int)) = decide (600 < p.size) := by congr 1; simp; omega
  have hn := fun W : World => notc 22 W
  have HN := Lib.hid hn
  clear hn
  refine (callsIn_wide (n := 7)).1 ?_
  refine callsIn_of_wp_marks Tryd.func24 rfl trivial ?_ rfl
  simp only [Tryd.ntmps24, List.size_toArray, List.length_cons, List.length_nil, Nat.reduceAdd, Nat.reduceSub, Array.replicate_succ, Array.replicate_zero, List.push_toArray, List.append_toArray, List.nil_append, List.cons_append]
  refine wpIn_wide.2 ?_
  have HV := Lib.hid (fun hs => Tryd.utf8_ValidString p w hs hL.tb)
  rw [show (⟨#[47]⟩ : ByteArray).data.toList = [47] from rfl] at HP
  clear hL
  rcases h with h1 | ⟨h1, h2⟩ | ⟨h1, h2, h3⟩
  · rw [h1] at HP
    go_wp2_with (go_at_call 51; refine HP.out.mono ?_; rintro e w' ⟨rfl, rfl⟩)
    refine (HN.out _).mono ?_
    rintro e w1 ⟨rfl, rfl⟩
    exact ⟨rfl, Chg.refl _ _⟩
  · rw [h1] at HP
    rw [h2] at e2
    go_wp2_with (go_at_call 51; refine HP.out.mono ?_; rintro e w' ⟨rfl, rfl⟩)
    refine (HN.out _).mono ?_
    rintro e w1 ⟨rfl, rfl⟩
    exact ⟨rfl, Chg.refl _ _⟩
  · rw [h1] at HP
    rw [h2] at e2
    have hv := HV.out (by have := of_decide_eq_false h2; omega)
    rw [h3] at hv
    have HV2 := Lib.hid hv
    clear hv
    go_wp2_with (go_at_call 51; refine HP.out.mono ?_; rintro e w' ⟨rfl, rfl⟩)
    refine HV2.out.mono ?_
    rintro e w1 ⟨rfl, hB⟩
    have hC := bel_chg hB
    go_wp2_with fail
    refine (HN.out _).mono ?_
    rintro e w2 ⟨rfl, rfl⟩
    exact ⟨rfl, hC⟩
set_option maxRecDepth 100000 in
set_option maxHeartbeats 4000000 in
theorem fsplit_ok (p : ByteArray) (w : World) (hL : LibW w) (h1 : Lib.hasPrefix p.data.toList [47] = true) (h2 : decide (600 < p.size) = false) (h3 : Lib.validD p.data.toList = true) :
    Calls Tryd.prog 24 #[.string p] w fun e w' => (((stepsF p).all (·.2) && decide ((stepsF p).length ≤ 8)) = true ∧ ∃ v, e = .returned v ∧ w'.ownsRow w.heap.size 9 1 v ((stepsF p).map (·.1)).length (strsV ((stepsF p).map (·.1))) ∧ Chg [] w w') ∨ (((stepsF p).all (·.2) && decide ((stepsF p).length ≤ 8)) = false ∧ e = .panicked (refP 22) ∧ Chg [] w w') := by
  have HP := Lib.hid (Tryd.strings_HasPrefix p ⟨#[47]⟩ w)
  rw [show (⟨#[47]⟩ : ByteArray).data.toList = [47] from rfl, h1] at HP
  have e2 : decide ((600 : Int) < (p.size : Int)) = decide (600 < p.size) := by congr 1; simp; omega
  rw [h2] at e2
  have hp6 : p.size ≤ 600 := by have := of_decide_eq_false h2; omega
  have hp0 : p.size ≠ 0 := by
    intro h0
    have e : p.data.toList = [] := List.eq_nil_of_length_eq_zero (by rw [← Lib.size_eq]; exact h0)
    rw [e] at h1
    cases h1
  have hv := Tryd.utf8_ValidString p w (by omega) hL.tb
  rw [h3] at hv
  have HV := Lib.hid hv
  have HL := Lib.hid hL
  obtain ⟨i0, hi, hz0, hz1, hz2⟩ := info_parts infoStr
  clear hv hL h1
  refine calls_of_wpAt 7 Tryd.func24 rfl ?_
  simp only [Tryd.ntmps24, List.size_toArray, List.length_cons, List.length_nil, Nat.reduceAdd, Nat.reduceSub, Array.replicate_succ, Array.replicate_zero, List.push_toArray, List.append_toArray, List.nil_append, List.cons_append]
  refine wpAt_seq_wp fun K hK => ?_
  go_wp2
  refine wpAt_seq_wp fun K hK => ?_
  go_wp2_with (go_at_call 51; refine HP.out.mono ?_; rintro e w' ⟨rfl, hw⟩; obtain rfl := hw.symm; clear hw)
  refine HV.out.mono ?_
  rintro e w1 ⟨rfl, hB⟩
  have HC1 := Lib.hid (bel_chg hB)
  clear hB
  go_wp2_with (go_at_call 25; refine (nofc 22 _).mono ?_; rintro e w' ⟨rfl, rfl⟩)
  refine wpAt_seq_wp fun K hK => ?_
  go_wp2
  obtain ⟨b3, hb3⟩ : ∃ b, b = w1.heap.size := ⟨_, rfl⟩
  obtain ⟨W0, hW0⟩ : ∃ W, W = w1.alloc (.cells #[.slice none 0 0] 48 (0, 0)) := ⟨_, rfl⟩
  rw [← hb3]
  refine wpAt_seq ?_
  refine wpAt_seq_wp fun K hK => ?_
  go_wp2_with fail
  rw [← hW0]
  refine (fstepsc p W0).mono ?_
  rintro e w2 ⟨rfl, hW2⟩
  have hC0 : Chg [] w1 W0 := by rw [hW0]; exact (Chg.refl _ _).alloc _
  have hC2 : Chg [] W0 w2 := by rw [hW2]; exact (Chg.refl _ _).alloc _
  have hl0 : W0.heap[b3]? = some (.cells #[.slice none 0 0] 48 (0, 0)) := by rw [hW0, hb3]; exact heap_alloc_eq w1 _
  have hz0 : W0.heap.size = b3 + 1 := by rw [hW0, hb3]; simp
  have hz2 : w2.heap.size = b3 + 2 := by rw [hW2]; simp [hz0]
  have hp2 : w2.heap[b3 + 1]? = some (.cells #[.string p] 9 (0, 0)) := by rw [hW2, ← hz0]; exact heap_alloc_eq W0 _
  have hLw := HL.out.calm ((HC1.out.trans hC0).trans hC2)
  have hLl := HL.out.lt
  obtain ⟨mm, hmm⟩ := hLw.mx
  have hs1 := HC1.out.size
  have hseq := fsteps1P p (b3 + 1) w2.heap.size [b3] (w2.heap.size + 2) mm w2 hp2 (by omega) (by simp) hmm (by simp; omega) hp6 hp0
  rw [hz0]
  have HQ := Lib.hid (And.intro hseq (And.intro ((HC1.out.trans hC0).trans hC2) (And.intro (hC2.blk hl0 (by simp)) (And.intro hz2 (show w.heap.size ≤ b3 by omega)))))
  clear hC0 hC2 hl0 hz0 hz2 hp2 hLw hLl hmm hs1 hseq hW2 hW0 hb3
  go_wp2
  refine wpAt_block ?_
  refine wpAt_act (fun A hA => ?_)
  have HA := Lib.hid hA
  refine wpAt_rangeP (n := 6) Tryd.func24 (gf := 61) (lb := #[.pointer (some ⟨b3 + 1, 0, none⟩)]) (by rw [hA]; rfl) (enters_of Tryd.func61 (by kernel_rfl) rfl) HQ.out.1
    KpB.trans (fun W o o' ho h1 h2 => KpB.put o' (by omega)) (Below.refl _ _) (fun _ => rfl)
    (fun pre W => (∀ x ∈ pre, x.2 = true) ∧ pre.length ≤ 8 ∧ ∃ v, W.heap[b3]? = some (.cells #[v] 48 (0, 0)) ∧ W.ownsRow w2.heap.size 9 1 v pre.length (strsV (pre.map (·.1))) ∧ Chg [] w W ∧ w2.heap.size ≤ W.heap.size)
    (fun _ _ _ => False)
    (fun ch pre W => ch = refP 22 ∧ (pre.all (·.2) && decide (pre.length ≤ 8)) = false ∧ Chg [] w W)
    (fun s' A' B' row hs hg hr => by
      obtain ⟨h0, h8, v, h1, h2, h3, h4⟩ := hs
      exact ⟨h0, h8, v, ownFrom_blk (β := Unit) _ _ _ _ _ () A' B' row h1 hg hr, ownFrom_own (β := Unit) _ _ _ _ _ _ _ () A' B' row h2 hg hr, ownFrom_chg (β := Unit) _ _ _ (by have := HQ.out.2.2.2; omega) () A' B' row h3 hg hr, Nat.le_trans h4 hg.size⟩)
    (fun _ _ _ _ _ hs _ _ => hs)
    (fun ch s' A' B' row hs hg hr => ⟨hs.1, hs.2.1, ownFrom_chg (β := Unit) _ _ _ (by have := HQ.out.2.2.2; omega) () A' B' row hs.2.2 hg hr⟩)
    ⟨by simp, by simp, _, HQ.out.2.2.1, World.ownsRow_nil .., HQ.out.2.1, Nat.le_refl _⟩
    (fun x a' W' => a' = { tmps := (((A.tmps.setIfInBounds 22 (.string x.1)).setIfInBounds 23 (.bool x.2)).setIfInBounds 4 (.string x.1)).setIfInBounds 5 (.bool x.2), defers := [] })
    (fun x a' _ A' B' row hs hg hr => hs)
    ?assign ?body ?done ?stop ?panic
  case assign =>
    rintro l' pre x W K ⟨h0, h8, v, h1, h2, h3⟩ hK
    have HC := Lib.hid (And.intro h0 (And.intro h8 (And.intro h1 (And.intro h2 h3))))
    clear h0 h8 h1 h2 h3
    rw [HA.out]
    unfold encS
    gi_wp2
    exact hK _ _ (keepsFrom_chg (Chg.refl [] _) (by simp)) (KpB.chg (Chg.refl [] _) (by simp)) ⟨HC.out.1, HC.out.2.1, v, HC.out.2.2.1, HC.out.2.2.2.1, HC.out.2.2.2.2⟩ (by rw [HA.out]; rfl)
  case body =>
    rintro l' pre x a' W hl' ⟨r, hr⟩ ⟨h0, h8, v, h1, h2, h3, hWs⟩ rfl hlt
    obtain ⟨x1, x2⟩ := x
    have cs := cellB h1 (i := 0) (v := v) rfl
    have hB1 : w2.heap.size ≤ W.heap.size := hWs
    have HC := Lib.hid (And.intro h0 (And.intro h8 (And.intro h1 (And.intro h2 h3))))
    have HO := Lib.hid h2
    obtain ⟨va, vc, hv⟩ := own_slice h2
    subst hv
    clear hr h0 h1 h2 h3
    rw [HA.out]
    simp only [List.setIfInBounds_toArray, List.set_cons_zero, List.set_cons_succ]
    have hways : (x2 = true ∧ decide ((8 : Int) ≤ (pre.length : Int)) = false ∧ decide (8 ≤ pre.length) = false) ∨ (x2 = false) ∨ (x2 = true ∧ decide ((8 : Int) ≤ (pre.length : Int)) = true ∧ decide (8 ≤ pre.length) = true) := by
      cases x2
      · exact .inr (.inl rfl)
      · by_cases h9 : 8 ≤ pre.length
        · exact .inr (.inr ⟨rfl, decide_eq_true (by omega), decide_eq_true h9⟩)
        · exact .inl ⟨rfl, decide_eq_false (by omega), decide_eq_false h9⟩
    rcases hways with ⟨rfl, e8, e8'⟩ | rfl | ⟨rfl, e8, e8'⟩
    · have hln : pre.length < 8 := by have := of_decide_eq_false e8'; omega
      have hd1 : pre.length + 1 ≤ maxLen := by unfold maxLen; omega
      have hd2 : (pre.length + 1) * 16 ≤ 140737488355328 := by omega
      gi_wp2
      refine ⟨trivial, (CallsIn.inRound l' (callsIn_wide.2 (nofc 22 _))).mono ?_⟩
      rintro e w' ⟨rfl, rfl⟩
      gi_wp2_with (gi_at_builtin; refine wpListIn_push rfl _ _ 48 rfl w2.heap.size 9 i0 (.string ⟨#[]⟩) 1 16 Tryd.underlying48 hi hz0 hz1 hz2 rfl (by decide) (.slice va pre.length vc) pre.length _ rfl HO.out [.string x1] rfl rfl (by simp [Value.oneCell']) hd1 hd2 hB1 ?_; intro v' w1' hown' hC1 hloc hnn; obtain ⟨va', vc', rfl⟩ := own_slice hown'; have hb1 := hC1.blk HC.out.2.2.1 (own_notin HO.out (by have := HQ.out.2.2.2; omega)); have cs1 := cellB hb1 (i := 0) rfl; have fs1 := frozenB hb1 0)
      have hCC : Chg ((Value.slice va pre.length vc).ownBlock.toList ++ [b3]) W (w1'.setCell ⟨b3, 0, none⟩ (.slice va' (pre.length + 1) vc')) := (hC1.mono (fun k hk => .inl (List.mem_append.2 (.inl hk)))).setCell _ _ (by simp)
      have hk : ∀ k ∈ (Value.slice va pre.length vc).ownBlock.toList ++ [b3], k = b3 ∨ (w2.heap.size ≤ k ∧ ∃ cs, W.heap[k]? = some (.cells cs 9 (0, 0))) := fun k hk => by
        rcases List.mem_append.1 hk with h | h
        · exact .inr ⟨own_ge HO.out k h, own_cells HO.out k h⟩
        · exact .inl (by simpa using h)
      have hsz := HQ.out.2.2.2
      refine ⟨keepsFrom_chg hCC (fun k hm o ho => ?_), KpB.chg hCC (fun k hm => ?_), ⟨?_, by simp; omega, _, blk_setCell hb1 _, ?_, HC.out.2.2.2.2.trans' hCC (fun k hm => ?_), Nat.le_trans hB1 hCC.size⟩⟩
      · rcases hk k hm with rfl | ⟨_, cs, hcs⟩
        · rw [HC.out.2.2.1] at ho; cases ho; rfl
        · rw [hcs] at ho; cases ho; rfl
      · rcases hk k hm with rfl | ⟨hge, _⟩
        · exact .inl (by simp)
        · exact .inr hge
      · intro x hx
        rcases List.mem_append.1 hx with h | h
        · exact HC.out.1 x h
        · simp at h; rw [h]
      · rw [List.length_append, List.map_append]
        have e : strsV (pre.map (·.1) ++ [(x1, true)].map (·.1)) = strsV (pre.map (·.1)) ++ [.string x1] := by simp [strsV]
        rw [e]
        exact own_kept hown' ((Chg.refl [b3] w1').setCell _ _ (by simp)) (fun k hk => by simp at hk; subst hk; exact own_notin hown' (by omega))
      · rcases hk k hm with rfl | ⟨hge, _⟩
        · exact .inr (by omega)
        · exact .inr (by omega)
    · gi_wp2
      refine ⟨trivial, (CallsIn.inRound l' (callsIn_wide.2 (notc 22 _))).mono ?_⟩
      rintro e w' ⟨rfl, rfl⟩
      refine ⟨rfl, keepsFrom_chg (Chg.refl [] _) (by simp), rfl, ?_, HC.out.2.2.2.2⟩
      simp
    · gi_wp2
      refine ⟨trivial, (CallsIn.inRound l' (callsIn_wide.2 (notc 22 _))).mono ?_⟩
      rintro e w' ⟨rfl, rfl⟩
      refine ⟨rfl, keepsFrom_chg (Chg.refl [] _) (by simp), rfl, ?_, HC.out.2.2.2.2⟩
      have := of_decide_eq_true e8'
      rw [Bool.and_eq_false_iff]
      exact .inr (decide_eq_false (by simp; omega))
  case done =>
    rintro D xs W hD rfl ⟨h0, h8, v, h1, h2, hC, _⟩ hK
    refine .inl ⟨rfl, wpAt_of_wp ?_⟩
    have HK := Lib.hid hK
    have hall : ((stepsF p).all (·.2) && decide ((stepsF p).length ≤ 8)) = true := by
      rw [Bool.and_eq_true, List.all_eq_true, decide_eq_true_eq]
      exact ⟨h0, h8⟩
    have HC := Lib.hid (And.intro h2 (And.intro hC hall))
    obtain ⟨va, vc, hv⟩ := own_slice h2
    subst hv
    have cs := cellB h1 (i := 0) (v := .slice va (stepsF p).length vc) rfl
    clear h0 h8 h1 h2 hC hK hall
    rw [HA.out]
    obtain ⟨RR, hRR⟩ : ∃ RR : Ending → World → Prop, RR = fun e w' => (((stepsF p).all (·.2) && decide ((stepsF p).length ≤ 8)) = true ∧ ∃ v, e = .returned v ∧ w'.ownsRow w.heap.size 9 1 v ((stepsF p).map (·.1)).length (strsV ((stepsF p).map (·.1))) ∧ Chg [] w w') ∨ (((stepsF p).all (·.2) && decide ((stepsF p).length ≤ 8)) = false ∧ e = .panicked (refP 22) ∧ Chg [] w w') := ⟨_, rfl⟩
    rw [← hRR]
    have HRR := Lib.hid hRR
    clear hRR
    go_wp2
    refine ⟨by simp, .inl ⟨_, _, rfl, run_takeDeferred HK.out, ?_⟩⟩
    refine ⟨_, results_tmp rfl _ _ _, ?_⟩
    rw [HRR.out]
    have hsz := HQ.out.2.2.2
    refine .inl ⟨HC.out.2.2, _, rfl, ?_, HC.out.2.1.trans' (keepsD D W) (fun k hk => by simp at hk; subst hk; exact .inr (by omega))⟩
    rw [List.length_map]
    refine own_kept (own_mono HC.out.1 (by omega)) (keepsD D W) (fun k hk hm => ?_)
    simp at hk
    subst hk
    obtain ⟨cs, hcs⟩ := own_cells HC.out.1 k hm
    rw [HK.out] at hcs
    cases hcs
  case stop =>
    rintro D c pre W _ _ h _
    exact h.elim
  case panic =>
    rintro D ch pre W hD ⟨X, hX⟩ ⟨rfl, hno, hC⟩ hK
    refine .inr (.inr ⟨_, rfl, by simp, .inl ⟨_, _, rfl, run_takeDeferred hK, ?_⟩⟩)
    have hsz := HQ.out.2.2.2
    have hd : A.defers = [] := by rw [HA.out]
    rw [hd]
    refine Or.inr ⟨?_, rfl, hC.trans' (keepsD D W) (fun k hk => by simp at hk; subst hk; exact .inr (by omega))⟩
    rw [← hX, List.all_append, List.length_append]
    rw [Bool.and_eq_false_iff] at hno ⊢
    rcases hno with h | h
    · exact .inl (by rw [h]; rfl)
    · exact .inr (decide_eq_false (by have := of_decide_eq_false h; omega))

/-- A path's names, or the panic. -/
theorem fsplitc (p : ByteArray) (w : World) (hL : LibW w) : Calls Tryd.prog 24 #[.string p] w (SplitP p w) := by
  cases h1 : Lib.hasPrefix p.data.toList [47] with
  | false => exact (fsplit_no p w hL (.inl h1)).mono fun e w' h => .inr ⟨splitF_no (by rw [h1]; rfl), h⟩
  | true =>
    cases h2 : decide (600 < p.size) with
    | true => exact (fsplit_no p w hL (.inr (.inl ⟨h1, h2⟩))).mono fun e w' h => .inr ⟨splitF_no (by rw [h1, h2]; rfl), h⟩
    | false =>
      cases h3 : Lib.validD p.data.toList with
      | false => exact (fsplit_no p w hL (.inr (.inr ⟨h1, h2, h3⟩))).mono fun e w' h => .inr ⟨splitF_no (by rw [h1, h2, h3]; rfl), h⟩
      | true =>
        refine (fsplit_ok p w hL h1 h2 h3).mono fun e w' h => ?_
        have hs := splitF_yes h1 h2 h3
        rcases h with ⟨ha, v, he, ho, hC⟩ | ⟨ha, he, hC⟩
        · exact .inl ⟨_, v, by rw [hs, if_pos ha], he, ho, hC⟩
        · exact .inr ⟨by rw [hs, if_neg (by rw [ha]; simp)], he, hC⟩

end Go.Proofs.YtkkjbnmfjhmobaaDoor
