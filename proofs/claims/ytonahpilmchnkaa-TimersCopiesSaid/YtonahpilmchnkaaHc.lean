
/- The wheel: the append of a whole slice; slices.Clone at deadlines: contract. -/
import Derived.Test.YtonahpilmchnkaaHb
import Derived.Deep.RegionLaw
namespace Go.Proofs.Ytonahpilmchnkaa
open Go.RowKit

/-- The value is m elements that are there to be read: news. -/
def SrcAt (w : World) (x : Value) (m : Nat) (news : List Value) : Prop :=
  (x = .slice none 0 0 ∧ m = 0 ∧ news = []) ∨ ∃ ad c, x = .slice (some ad) m c ∧ ∀ j u, news[j]? = some u → w.cell? (ad.add j) = some u

theorem SrcAt.calm {w w' : World} {x : Value} {m : Nat} {news : List Value} (h : SrcAt w x m news) (hC : Chg [] w w') : SrcAt w' x m news := by
  rcases h with h | ⟨ad, c, h1, h2⟩
  · exact .inl h
  · exact .inr ⟨ad, c, h1, fun j u hj => cell_calm (h2 j u hj) hC⟩
where cell_calm {w w' : World} {p : Addr} {v : Value} (h : w.cell? p = some v) (hC : Chg [] w w') : w'.cell? p = some v :=
  (World.cell?_of_block (hC.block p.block (World.block_lt_of_cell? _ _ h) (by simp))).trans h

section
variable {P : Program}
theorem run_more {w : World} (B : Nat) (t ty e : TypeId) (i : TypeInfo) (z : Value) (size bytes : Nat) (ht : P.underlying t = some (.slice e)) (hi : P.info? e = some i) (hz : i.zero = some z)
    (hsize : i.size = size) (hby : i.bytes = bytes) (hzs : z.cells.size = size) (hsz : 0 < size)
    (v : Value) (n : Nat) (xs : List Value) (hown : w.ownsRow B e size v n xs) (x : Value) (m : Nat) (news : List Value) (hx : SrcAt w x m news) (hl : news.length = m * size) (h1 : ∀ u ∈ news, u.oneCell' = true)
    (h63 : n + m ≤ maxLen) (hbytes : (n + m) * bytes ≤ 140737488355328) (hB : B ≤ w.heap.size) :
    ∃ v' w', (Builtin.append_ #[t, t] ty #[v, x]).run P w = .ok v' w' ∧ w'.ownsRow B e size v' (n + m) (xs ++ news) ∧
      Chg v.ownBlock.toList w w' ∧ (v'.ownBlock = v.ownBlock ∨ ∃ k, w.heap.size ≤ k ∧ v'.ownBlock = some k) := by
  rcases hx with ⟨rfl, rfl, rfl⟩ | ⟨ad, c, rfl, hc⟩
  · exact ⟨v, w, run_append_owned_none w B t ty e i size ht hi v n xs hown, by simpa using hown, Chg.refl _ _, .inl rfl⟩
  · obtain ⟨v', w', hr, h2, h3, h4, h5⟩ := run_append_own_at (P := P) w B t ty e i z size bytes ht hi hz hsize hby hzs hsz v n xs hown ad m c news hl hc h1 h63 hbytes hB
    refine ⟨v', w', hr, h2, Chg.of_grown h3 (fun k hk => by simp [hk]), ?_⟩
    rcases h5 with h5 | h5
    · exact .inl h5
    · exact .inr ⟨_, Nat.le_refl _, h5⟩

theorem wpList_run {w : World} {ops : Array Oper} {rest : List Oper} {o : Oper} {a : Act} {Q : Exit → Act → World → Prop} (hgd : o.guard = none) (s x : Operand) (t ty : TypeId)
    (ho : o.op = .call { callee := .builtin .append, args := #[s, x], argTypes := #[t, t] }) (hty : o.type = ty) (v u v' : Value) (hs : a.eval s = v) (hx : a.eval x = u) (w' : World)
    (hr : (Builtin.append_ #[t, t] ty #[v, u]).run P w = .ok v' w') (h : wpList P ops Q rest (a.put o.dst v') w') : wpList P ops Q (o :: rest) a w := by
  subst hty
  refine wpList_plain hgd fun K hK => ?_
  unfold Oper.wp execOp
  simp only [ho, resolve, invoke, builtin, Sem.run_bind, Sem.run_pure, Result.andThen_ok, List.map_toArray, List.map_cons, List.map_nil, hs, hx, hr]
  exact hK _ _ h

/-- The same, at a step of a region that draws its order. -/
theorem step_run {ops : Array Oper} {o : Oper} {a : Act} {w : World} {K : Act → World → Prop} {Q : Exit → Act → World → Prop} {E : Prop} (hgd : o.guard = none) (s x : Operand) (t ty : TypeId)
    (ho : o.op = .call { callee := .builtin .append, args := #[s, x], argTypes := #[t, t] }) (hty : o.type = ty) (v u v' : Value) (hs : a.eval s = v) (hx : a.eval x = u) (w' : World)
    (hr : (Builtin.append_ #[t, t] ty #[v, u]).run P w = .ok v' w') (hK : K (a.put o.dst v') w') : if Region.wanted o (yielded ops a.tmps) = true then Oper.wp P o a w K Q else E := by
  have hw : Region.wanted o (yielded ops a.tmps) = true := by simp [Region.wanted, hgd]
  rw [if_pos hw]
  subst hty
  unfold Oper.wp execOp
  simp only [ho, resolve, invoke, builtin, Sem.run_bind, Sem.run_pure, Result.andThen_ok, List.map_toArray, List.map_cons, List.map_nil, hs, hx, hr]
  exact hK
end


theorem infoHone : (Try.prog.info? 84).map (fun i => (i.zero, i.size, i.bytes)) = some (some (.agg #[.int .i64 0, .int .i64 0, .int .i64 0]), 3, 24) := by kernel_rfl

theorem IsT.src {w : World} {a : Addr} {cap : Nat} {l : HL} {g : Nat} (ha : a = ⟨g, 0, none⟩) (h : RowT w g cap l) : SrcAt w (.slice (some a) l.length cap) l.length (flatH l) := by
  subst ha
  obtain ⟨cur, h1, _, h3⟩ := h
  refine .inr ⟨_, _, rfl, fun j u hj => ?_⟩
  rw [show ((⟨g, 0, none⟩ : Addr).add j) = ⟨g, j, none⟩ by unfold Addr.add; split <;> simp_all]
  exact cellB h1 (own_takeH h3 j u hj)

theorem run_freshH {w : World} (B : Nat) (hB : B ≤ w.heap.size) (v : Value) (hv : w.ownsRow B 84 3 v 0 []) {x : Value} {l : HL} (hx : SrcAt w x l.length (flatH l)) (hl : l.length ≤ 1000000) (ty : TypeId) : ∃ v' w', (Builtin.append_ #[78, 78] ty #[v, x]).run Try.prog w = .ok v' w' ∧ w'.ownsRow B 84 3 v' l.length (flatH l) ∧ Chg v.ownBlock.toList w w' := by
  obtain ⟨i0, hi, hz0, hz1, hz2⟩ := info_parts infoHone
  obtain ⟨v', w', hr, h2, h3, _⟩ := run_more (P := Try.prog) (w := w) B 78 ty 84 i0 (.agg #[.int .i64 0, .int .i64 0, .int .i64 0]) 3 24 Try.underlying78 hi hz0 hz1 hz2 rfl (by decide)
    v 0 [] hv x l.length (flatH l) hx (flatH_len l) (flatH_one l) (by unfold maxLen; omega) (by omega) hB
  exact ⟨v', w', hr, by simpa using h2, h3⟩

set_option maxRecDepth 100000 in
set_option maxHeartbeats 1000000 in
theorem clonec (g cap : Nat) (l : HL) (w : World) (h : RowT w g cap l) (hl : l.length ≤ 1000000) :
    Calls Try.prog 48 #[.slice (some ⟨g, 0, none⟩) l.length cap] w fun e w' => ∃ v', e = .returned v' ∧ w'.ownsRow w.heap.size 84 3 v' l.length (flatH l) ∧ Chg [] w w' := by
  have hCa : Chg [] w (w.alloc (.cells #[] 84)) := (Chg.refl _ _).alloc _
  have hv : (w.alloc (.cells #[] 84)).ownsRow w.heap.size 84 3 (.slice (some ⟨w.heap.size, 0, none⟩) 0 0) 0 [] :=
    ⟨rfl, .inr ⟨w.heap.size, 0, #[], rfl, Nat.le_refl _, heap_alloc_eq w _, Nat.le_refl _, Nat.zero_le _, rfl, rfl⟩⟩
  obtain ⟨v', w', hr, ho, hC⟩ := run_freshH (w := w.alloc (.cells #[] 84)) w.heap.size (by simp) _ hv (IsT.src rfl (h.kept hCa (by simp))) hl 78
  have HO := Lib.hid (And.intro ho (hCa.trans' hC (fun k hk => .inr (by simp [Value.ownBlock] at hk; omega))))
  obtain ⟨n, hn⟩ : ∃ n, n = l.length := ⟨_, rfl⟩
  rw [← hn] at HO hr ⊢
  have hq := fun w => Lib.run_eql_slice_nil (P := Try.prog) w 78 84 (some ⟨g, 0, none⟩) n cap 0 0 Try.underlying78
  simp only [Option.isNone_some] at hq
  clear h hl hn hCa hv ho hC
  go_enter Try.func48, Try.ntmps48
  go_wp2_with (at_builtin; refine wpList_run rfl _ _ 78 78 rfl rfl _ _ v' rfl rfl w' hr ?_)
  go_ret
  exact ⟨v', rfl, HO.out⟩
set_option maxRecDepth 100000 in
theorem clone_nil (w : World) : Calls Try.prog 48 #[.slice none 0 0] w fun e w' => e = .returned (.slice none 0 0) ∧ w = w' := by
  have hq := fun w => Lib.run_eql_slice_nil (P := Try.prog) w 78 84 none 0 0 0 0 Try.underlying78
  simp only [Option.isNone_none] at hq
  go_enter Try.func48, Try.ntmps48
  go_wp2
  go_ret
  exact ⟨rfl, rfl⟩

end Go.Proofs.Ytonahpilmchnkaa
