
/- slices.Equal at []api.Waiter. -/
import Derived.Test.YtiiafhlckmkcnaaGreatWm
namespace Go.Proofs.YtiiafhlckmkcnaaGreat
open Go.RowKit

theorem undWaiter : Tryz.prog.underlying 104 = some (.struct (Tryz.prog.fieldsOf 104)) := by kernel_rfl
theorem heldWaiter : Tryz.prog.stoodInHeld 104 = false := by kernel_rfl
theorem guardWaiter : Tryz.prog.eqGuardType Tryz.prog.depth 104 = false := by kernel_rfl
theorem fieldsWaiter : (Tryz.prog.fieldsOf 104).toList.map (fun f => (f.name == "_", f.type, f.offset)) = [(false, 3, 0), (false, 3, 1)] := by kernel_rfl

theorem part_int0 (w : World) (a b : Int) : (part 3 #[.int .i64 a, .int .i64 b] 0).run Tryz.prog w = .ok (.int .i64 a) w := by simp [go_sem, part]
theorem part_int1 (w : World) (a b : Int) : (part 3 #[.int .i64 a, .int .i64 b] 1).run Tryz.prog w = .ok (.int .i64 b) w := by simp [go_sem, part]
theorem equalIn_i (x y : Int) (w : World) : (Op.equalIn 9999 3 (.int .i64 x) (.int .i64 y)).run Tryz.prog w = .ok (x == y) w := run_equalIn_int w 9998 _ _ _ x y Tryz.underlying3
theorem eqFields_one (w : World) (xs ys : Array Value) (f : Field) (fs : List Field) (a c : Int) (h1 : f.name ≠ "_") (h2 : f.type = 3) (hx : (part 3 xs f.offset).run Tryz.prog w = .ok (.int .i64 a) w) (hy : (part 3 ys f.offset).run Tryz.prog w = .ok (.int .i64 c) w) :
    (Op.eqFields 9999 xs ys (f :: fs)).run Tryz.prog w = if a = c then (Op.eqFields 9999 xs ys fs).run Tryz.prog w else .ok false w := by
  rw [Op.eqFields, if_pos h1, h2]
  simp only [Sem.run_bind, hx, hy, Result.andThen_ok, equalIn_i]
  by_cases h : a = c
  · subst h
    simp
  · have hb : (a == c) = false := by simpa using h
    simp [hb, h]
theorem eqFields_pair (w : World) (a b c d : Int) : (Op.eqFields 9999 #[.int .i64 a, .int .i64 b] #[.int .i64 c, .int .i64 d] (Tryz.prog.fieldsOf 104).toList).run Tryz.prog w = .ok (decide (a = c ∧ b = d)) w := by
  have hf := fieldsWaiter
  generalize (Tryz.prog.fieldsOf 104).toList = fs at hf
  obtain ⟨f, g, rfl⟩ : ∃ f g, fs = [f, g] := by
    have hl := congrArg List.length hf
    simp at hl
    exact (match fs, hl with | [f, g], _ => ⟨f, g, rfl⟩)
  simp only [List.map_cons, List.map_nil, List.cons.injEq, Prod.mk.injEq, and_true] at hf
  obtain ⟨⟨f1, f2, f3⟩, g1, g2, g3⟩ := hf
  rw [eqFields_one w _ _ f [g] a c (by simpa using f1) f2 (by rw [f3]; exact part_int0 w a b) (by rw [f3]; exact part_int0 w c d),
    eqFields_one w _ _ g [] b d (by simpa using g1) g2 (by rw [g3]; exact part_int1 w a b) (by rw [g3]; exact part_int1 w c d)]
  by_cases h1 : a = c
  · by_cases h2 : b = d
    · simp [h1, h2, Op.eqFields]
    · simp [h1, h2]
  · simp [h1]

def neqP (a b c d : Int) : Bool := decide (¬ (a = c ∧ b = d))
@[go_sem high] theorem neq_pair (w : World) (a b c d : Int) : (binOp .neq 104 (.agg #[.int .i64 a, .int .i64 b]) (.agg #[.int .i64 c, .int .i64 d])).run Tryz.prog w = .ok (.bool (neqP a b c d)) w := by
  unfold neqP
  rw [run_neq_struct, show (10000 : Nat) = 9999 + 1 from rfl, run_equalIn_struct w 9999 _ _ _ undWaiter heldWaiter, eqFields_pair]
  simp [Result.andThen]
@[go_sem high] theorem neq_guard (x y : Operand) (w : World) (xs ys : Array Value) : (eqGuard .neq 104 x y (.agg xs) (.agg ys)).run Tryz.prog w = .ok () w := run_eqGuard_agg w _ _ _ _ _ _ guardWaiter

/-- The value is a slice that reads as the pairs l. -/
def IsPairs (w : World) (v : Value) (l : WL) : Prop :=
  (l = [] ∧ ∃ a cap, v = .slice a 0 cap) ∨ ∃ b o cap, v = .slice (some ⟨b, o, none⟩) l.length cap ∧ ∀ j x, l[j]? = some x → w.cell? ⟨b, o + j * 2, none⟩ = some (.int .i64 x.1) ∧ w.cell? ⟨b, o + j * 2 + 1, none⟩ = some (.int .i64 x.2)

theorem flatW_at {l : WL} {j : Nat} {x : Int × Int} (h : l[j]? = some x) : (flatW l)[j * 2]? = some (.int .i64 x.1) ∧ (flatW l)[j * 2 + 1]? = some (.int .i64 x.2) := by
  induction l generalizing j with
  | nil => simp at h
  | cons y l ih =>
    cases j with
    | zero => simp at h; subst h; simp [flatW]
    | succ j =>
      have := ih (j := j) (by simpa using h)
      have e : flatW (y :: l) = .int .i64 y.1 :: .int .i64 y.2 :: flatW l := by simp [flatW]
      rw [e, show (j + 1) * 2 = (j * 2 + 1) + 1 by omega, show (j * 2 + 1) + 1 + 1 = (j * 2 + 1 + 1) + 1 by omega]
      simpa using this

theorem IsPairs.of_own {w : World} {B : Nat} {e : TypeId} {v : Value} {l : WL} (h : w.ownsRow B e 2 v l.length (flatW l)) : IsPairs w v l := by
  rcases h.2 with ⟨h1, h2⟩ | ⟨g, cap, cur, h1, h2, h3, h4, h5, h6, h7⟩
  · exact .inl ⟨List.eq_nil_of_length_eq_zero h2, none, 0, by rw [h1]⟩
  · refine .inr ⟨g, 0, cap, h1, fun j x hj => ?_⟩
    have hx := flatW_at hj
    have hc : ∀ (k : Nat) (u : Value), (flatW l)[k]? = some u → cur[k]? = some u := fun k u hk => by
      rw [← h7, List.getElem?_take] at hk
      split at hk
      · simpa using hk
      · cases hk
    refine ⟨cellB h3 ?_, cellB h3 ?_⟩
    · rw [Nat.zero_add]; exact hc _ _ hx.1
    · rw [Nat.zero_add]; exact hc _ _ hx.2
theorem IsPairs.slice {w : World} {v : Value} {l : WL} (h : IsPairs w v l) : ∃ a cap, v = .slice a l.length cap := by
  rcases h with ⟨rfl, a, cap, rfl⟩ | ⟨b, o, cap, rfl, _⟩
  · exact ⟨a, cap, rfl⟩
  · exact ⟨_, cap, rfl⟩
theorem IsPairs.addr {w : World} {v : Value} {l : WL} (h : IsPairs w v l) (hn : l ≠ []) : ∃ b o cap, v = .slice (some ⟨b, o, none⟩) l.length cap ∧ ∀ j x, l[j]? = some x → w.cell? ⟨b, o + j * 2, none⟩ = some (.int .i64 x.1) ∧ w.cell? ⟨b, o + j * 2 + 1, none⟩ = some (.int .i64 x.2) := by
  rcases h with ⟨rfl, _⟩ | h
  · exact absurd rfl hn
  · exact h

set_option maxRecDepth 100000 in
set_option maxHeartbeats 1000000 in
theorem equalPairs_any (v u : Value) (ts us : WL) (w : World) (hv : IsPairs w v ts) (hu : IsPairs w u us) (ht : ts.length < 4611686018427387904) (hu' : us.length < 4611686018427387904) :
    Calls Tryz.prog 63 #[v, u] w fun e w' => e = .returned (.bool (decide (ts = us))) ∧ Chg [] w w' := by
  by_cases hl : ts.length = us.length
  · by_cases hnil : ts = []
    · subst hnil
      have : us = [] := List.eq_nil_of_length_eq_zero hl.symm
      subst this
      obtain ⟨a1, cap1, rfl⟩ := hv.slice
      obtain ⟨a2, cap2, rfl⟩ := hu.slice
      clear hv hu ht hu' hl
      go_enter Tryz.func63, Tryz.ntmps63
      go_wp2
      refine wp_loop_rounds 1 ?_
      rw [rounds_succ]
      go_wp2
      go_ret
      exact ⟨rfl, Chg.refl _ _⟩
    · have hnil' : us ≠ [] := fun e => hnil (List.eq_nil_of_length_eq_zero (by rw [hl, e]; rfl))
      obtain ⟨b1, o1, cap1, rfl, hc1⟩ := hv.addr hnil
      obtain ⟨b2, o2, cap2, rfl, hc2⟩ := hu.addr hnil'
      rw [hl]
      have HL := Lib.hid hl
      have H1 := Lib.hid hc1
      have H2 := Lib.hid hc2
      generalize hn : us.length = n at *
      have HN := Lib.hid hn
      have hb : ((n : Int) != (n : Int)) = false := by simp
      clear hv hu hl hc1 hc2 hn hnil hnil' ht
      go_enter Tryz.func63, Tryz.ntmps63
      go_wp2
      go_loopw [13] (fun i wr => ∃ k : Nat, k ≤ n ∧ i = .int .i64 k ∧ ts.take k = us.take k ∧ ∃ q, wr = w.drewN q) (fun i _ => n - (intOf i).toNat)
      case atStart => exact ⟨0, by omega, rfl, by simp, 0, rfl⟩
      case round =>
        obtain ⟨k, hk, rfl, htk, q, rfl⟩ := hrel
        have HK := Lib.hid htk
        clear htk
        by_cases hlt : k < n
        · obtain ⟨t, hkt⟩ : ∃ t, ts[k]? = some t := ⟨_, List.getElem?_eq_getElem (by rw [HL.out]; exact hlt)⟩
          obtain ⟨u, hku⟩ : ∃ u, us[k]? = some u := ⟨_, List.getElem?_eq_getElem (by rw [HN.out]; exact hlt)⟩
          obtain ⟨t1, t2⟩ := t
          obtain ⟨u1, u2⟩ := u
          obtain ⟨d1, d1'⟩ := H1.out k _ hkt
          obtain ⟨d2, d2'⟩ := H2.out k _ hku
          have HT := Lib.hid (And.intro hkt hku)
          clear hkt hku
          by_cases htu : t1 = u1 ∧ t2 = u2
          · obtain ⟨rfl, rfl⟩ := htu
            have hne : neqP t1 t2 t1 t2 = false := by simp [neqP]
            go_wp2
            go_quiet (fail)
            go_wp2
            go_roundw
            case rel => exact ⟨k + 1, by omega, by go_num, by rw [List.take_add_one, List.take_add_one, HK.out, HT.out.1, HT.out.2], q + nq, rfl⟩
            case measure => simp [intOf]; omega
          · have hne : neqP t1 t2 u1 u2 = true := decide_eq_true htu
            have hd : decide (ts = us) = false := by
              apply decide_eq_false
              intro e
              have h1 := HT.out.1
              rw [e, HT.out.2] at h1
              have h1 := Option.some.inj h1
              exact htu ⟨(congrArg Prod.fst h1).symm, (congrArg Prod.snd h1).symm⟩
            have HD := Lib.hid hd
            clear hd htu
            go_wp2
            go_quiet (fail)
            go_wp2
            go_ret
            exact ⟨ret_bool HD.out.symm, ((Chg.refl _ _).drewN _).drewN _⟩
        · have : k = n := by omega
          have hd : decide (ts = us) = true := by
            apply decide_eq_true
            have := HK.out
            rwa [List.take_of_length_le (by rw [HL.out]; omega), List.take_of_length_le (by rw [HN.out]; omega)] at this
          have HD := Lib.hid hd
          clear hd
          go_wp2
          go_ret
          exact ⟨ret_bool HD.out.symm, (Chg.refl _ _).drewN _⟩
  · have hd : decide (ts = us) = false := by
      apply decide_eq_false
      intro e
      exact hl (by rw [e])
    rw [hd]
    obtain ⟨a1, cap1, rfl⟩ := hv.slice
    obtain ⟨a2, cap2, rfl⟩ := hu.slice
    have hb : ((ts.length : Int) != (us.length : Int)) = true := by rw [bne_iff_ne]; omega
    generalize ts.length = n1 at *
    generalize us.length = n2 at *
    clear hd hv hu hl
    go_enter Tryz.func63, Tryz.ntmps63
    go_wp2
    go_ret
    exact ⟨rfl, Chg.refl _ _⟩



end Go.Proofs.YtiiafhlckmkcnaaGreat
