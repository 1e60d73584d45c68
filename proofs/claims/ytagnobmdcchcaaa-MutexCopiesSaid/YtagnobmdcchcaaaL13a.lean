
/- metronomelaw13: sameInts, woken, lock; tests of structs (written by wip/l13a.py). -/
import Derived.Test.YtagnobmdcchcaaaMe
import Derived.Test.YtagnobmdcchcaaaMf
import Derived.Test.YtagnobmdcchcaaaRow
namespace Go.Proofs.Ytagnobmdcchcaaa
open Go.RowKit

theorem undWoken : Try.prog.underlying 38 = some (.struct (Try.prog.fieldsOf 38)) := by kernel_rfl
theorem heldWoken : Try.prog.stoodInHeld 38 = false := by kernel_rfl
theorem guardWoken : Try.prog.eqGuardType Try.prog.depth 38 = false := by kernel_rfl
theorem fieldsWoken : (Try.prog.fieldsOf 38).toList.map (fun f => (f.name == "_", f.type, f.offset)) = [(false, 3, 0), (false, 30, 1)] := by kernel_rfl
theorem undLockState : Try.prog.underlying 41 = some (.struct (Try.prog.fieldsOf 41)) := by kernel_rfl
theorem heldLockState : Try.prog.stoodInHeld 41 = false := by kernel_rfl
theorem guardLockState : Try.prog.eqGuardType Try.prog.depth 41 = false := by kernel_rfl
theorem fieldsLockState : (Try.prog.fieldsOf 41).toList.map (fun f => (f.name == "_", f.type, f.offset)) = [(false, 3, 0), (false, 3, 1), (false, 39, 2), (false, 3, 3)] := by kernel_rfl

theorem eqFields_oneT (w : World) (T : TypeId) (hT : Try.prog.underlying T = some (.int .i64)) (xs ys : Array Value) (f : Field) (fs : List Field) (a c : Int) (h1 : f.name ≠ "_") (h2 : f.type = T) (hx : (part T xs f.offset).run Try.prog w = .ok (.int .i64 a) w) (hy : (part T ys f.offset).run Try.prog w = .ok (.int .i64 c) w) :
    (Op.eqFields 9999 xs ys (f :: fs)).run Try.prog w = if a = c then (Op.eqFields 9999 xs ys fs).run Try.prog w else .ok false w := by
  have hE : (Op.equalIn 9999 T (.int .i64 a) (.int .i64 c)).run Try.prog w = .ok (a == c) w := run_equalIn_int w 9998 _ _ _ a c hT
  rw [Op.eqFields, if_pos h1, h2]
  simp only [Sem.run_bind, hx, hy, Result.andThen_ok, hE]
  by_cases h : a = c
  · subst h
    simp
  · have hb : (a == c) = false := by simpa using h
    simp [hb, h]

theorem part_posix1 (w : World) (a b : Int) : (part 30 #[.int .i64 a, .int .i64 b] 1).run Try.prog w = .ok (.int .i64 b) w := by simp [go_sem, part]
theorem eqFields_woken (w : World) (a b c d : Int) : (Op.eqFields 9999 #[.int .i64 a, .int .i64 b] #[.int .i64 c, .int .i64 d] (Try.prog.fieldsOf 38).toList).run Try.prog w = .ok (decide (a = c ∧ b = d)) w := by
  have hf := fieldsWoken
  generalize (Try.prog.fieldsOf 38).toList = fs at hf
  obtain ⟨f, g, rfl⟩ : ∃ f g, fs = [f, g] := by
    have hl := congrArg List.length hf
    simp at hl
    exact (match fs, hl with | [f, g], _ => ⟨f, g, rfl⟩)
  simp only [List.map_cons, List.map_nil, List.cons.injEq, Prod.mk.injEq, and_true] at hf
  obtain ⟨⟨f1, f2, f3⟩, g1, g2, g3⟩ := hf
  rw [eqFields_oneT w 3 Try.underlying3 _ _ f [g] a c (by simpa using f1) f2 (by rw [f3]; exact part_int0 w a b) (by rw [f3]; exact part_int0 w c d),
    eqFields_oneT w 30 Try.underlying30 _ _ g [] b d (by simpa using g1) g2 (by rw [g3]; exact part_posix1 w a b) (by rw [g3]; exact part_posix1 w c d)]
  by_cases h1 : a = c
  · by_cases h2 : b = d
    · simp [h1, h2, Op.eqFields]
    · simp [h1, h2]
  · simp [h1]

@[go_sem high] theorem neq_woken (w : World) (a b c d : Int) : (binOp .neq 38 (.agg #[.int .i64 a, .int .i64 b]) (.agg #[.int .i64 c, .int .i64 d])).run Try.prog w = .ok (.bool (neqP a b c d)) w := by
  unfold neqP
  rw [run_neq_struct, show (10000 : Nat) = 9999 + 1 from rfl, run_equalIn_struct w 9999 _ _ _ undWoken heldWoken, eqFields_woken]
  simp [Result.andThen]
@[go_sem high] theorem neq_guard_woken (x y : Operand) (w : World) (xs ys : Array Value) : (eqGuard .neq 38 x y (.agg xs) (.agg ys)).run Try.prog w = .ok () w := run_eqGuard_agg w _ _ _ _ _ _ guardWoken

theorem part_l0 (w : World) (a b c d : Int) : (part 3 #[.int .i64 a, .int .i64 b, .int .i64 c, .int .i64 d] 0).run Try.prog w = .ok (.int .i64 a) w := by simp [go_sem, part]
theorem part_l1 (w : World) (a b c d : Int) : (part 3 #[.int .i64 a, .int .i64 b, .int .i64 c, .int .i64 d] 1).run Try.prog w = .ok (.int .i64 b) w := by simp [go_sem, part]
theorem part_l2 (w : World) (a b c d : Int) : (part 39 #[.int .i64 a, .int .i64 b, .int .i64 c, .int .i64 d] 2).run Try.prog w = .ok (.int .i64 c) w := by simp [go_sem, part]
theorem part_l3 (w : World) (a b c d : Int) : (part 3 #[.int .i64 a, .int .i64 b, .int .i64 c, .int .i64 d] 3).run Try.prog w = .ok (.int .i64 d) w := by simp [go_sem, part]
theorem eqFields_lock (w : World) (a b c d a' b' c' d' : Int) : (Op.eqFields 9999 #[.int .i64 a, .int .i64 b, .int .i64 c, .int .i64 d] #[.int .i64 a', .int .i64 b', .int .i64 c', .int .i64 d'] (Try.prog.fieldsOf 41).toList).run Try.prog w = .ok (decide (a = a' ∧ b = b' ∧ c = c' ∧ d = d')) w := by
  have hf := fieldsLockState
  generalize (Try.prog.fieldsOf 41).toList = fs at hf
  obtain ⟨f, g, i, j, rfl⟩ : ∃ f g i j, fs = [f, g, i, j] := by
    have hl := congrArg List.length hf
    simp at hl
    exact (match fs, hl with | [f, g, i, j], _ => ⟨f, g, i, j, rfl⟩)
  simp only [List.map_cons, List.map_nil, List.cons.injEq, Prod.mk.injEq, and_true] at hf
  obtain ⟨⟨f1, f2, f3⟩, ⟨g1, g2, g3⟩, ⟨i1, i2, i3⟩, j1, j2, j3⟩ := hf
  rw [eqFields_oneT w 3 Try.underlying3 _ _ f [g, i, j] a a' (by simpa using f1) f2 (by rw [f3]; exact part_l0 w a b c d) (by rw [f3]; exact part_l0 w a' b' c' d'),
    eqFields_oneT w 3 Try.underlying3 _ _ g [i, j] b b' (by simpa using g1) g2 (by rw [g3]; exact part_l1 w a b c d) (by rw [g3]; exact part_l1 w a' b' c' d'),
    eqFields_oneT w 39 Try.underlying39 _ _ i [j] c c' (by simpa using i1) i2 (by rw [i3]; exact part_l2 w a b c d) (by rw [i3]; exact part_l2 w a' b' c' d'),
    eqFields_oneT w 3 Try.underlying3 _ _ j [] d d' (by simpa using j1) j2 (by rw [j3]; exact part_l3 w a b c d) (by rw [j3]; exact part_l3 w a' b' c' d')]
  by_cases h1 : a = a' <;> by_cases h2 : b = b' <;> by_cases h3 : c = c' <;> by_cases h4 : d = d' <;> simp [h1, h2, h3, h4, Op.eqFields]

def eqL (a b c d a' b' c' d' : Int) : Bool := decide (a = a' ∧ b = b' ∧ c = c' ∧ d = d')
@[go_sem high] theorem neq_lock (w : World) (a b c d a' b' c' d' : Int) : (binOp .neq 41 (.agg #[.int .i64 a, .int .i64 b, .int .i64 c, .int .i64 d]) (.agg #[.int .i64 a', .int .i64 b', .int .i64 c', .int .i64 d'])).run Try.prog w = .ok (.bool (!eqL a b c d a' b' c' d')) w := by
  unfold eqL
  rw [run_neq_struct, show (10000 : Nat) = 9999 + 1 from rfl, run_equalIn_struct w 9999 _ _ _ undLockState heldLockState, eqFields_lock]
  simp [Result.andThen]
@[go_sem high] theorem neq_guard_lock (x y : Operand) (w : World) (xs ys : Array Value) : (eqGuard .neq 41 x y (.agg xs) (.agg ys)).run Try.prog w = .ok () w := run_eqGuard_agg w _ _ _ _ _ _ guardLockState
@[go_sem high] theorem eql_lock (w : World) (a b c d a' b' c' d' : Int) : (binOp .eql 41 (.agg #[.int .i64 a, .int .i64 b, .int .i64 c, .int .i64 d]) (.agg #[.int .i64 a', .int .i64 b', .int .i64 c', .int .i64 d'])).run Try.prog w = .ok (.bool (eqL a b c d a' b' c' d')) w := by
  unfold eqL
  rw [run_eql_struct, show (10000 : Nat) = 9999 + 1 from rfl, run_equalIn_struct w 9999 _ _ _ undLockState heldLockState, eqFields_lock]
  simp [Result.andThen]
@[go_sem high] theorem eql_guard_lock (x y : Operand) (w : World) (xs ys : Array Value) : (eqGuard .eql 41 x y (.agg xs) (.agg ys)).run Try.prog w = .ok () w := run_eqGuard_agg w _ _ _ _ _ _ guardLockState

set_option maxRecDepth 100000 in
set_option maxHeartbeats 1000000 in
theorem sameInts13 (v u : Value) (ts us : List Int) (w : World) (hv : IsInts w v ts) (hu : IsInts w u us) (ht : ts.length < 4611686018427387904) (hu' : us.length < 4611686018427387904) :
    Calls Try.prog 50 #[v, u] w fun e w' => e = .returned (.bool (decide (ts = us))) ∧ Chg [] w w' := by
  by_cases hl : ts.length = us.length
  · by_cases hnil : ts = []
    · subst hnil
      have : us = [] := List.eq_nil_of_length_eq_zero hl.symm
      subst this
      obtain ⟨a1, cap1, rfl⟩ := hv.slice
      obtain ⟨a2, cap2, rfl⟩ := hu.slice
      clear hv hu ht hu' hl
      go_enter Try.func50, Try.ntmps50
      go_wp2
      refine wp_loop_rounds 1 ?_
      rw [rounds_succ]
      go_wp2
      go_ret
      exact ⟨rfl, Chg.refl _ _⟩
    · have hnil' : us ≠ [] := fun e => hnil (List.eq_nil_of_length_eq_zero (by rw [hl, e]; rfl))
      obtain ⟨b1, o1, cap1, rfl, hc1⟩ := hv.addr hnil
      obtain ⟨b2, o2, cap2, rfl, hc2⟩ := hu.addr hnil'
      rw [hl]
      have HL := Lib.hid hl
      have H1 := Lib.hid hc1
      have H2 := Lib.hid hc2
      generalize hn : us.length = n at *
      have HN := Lib.hid hn
      have hb : ((n : Int) != (n : Int)) = false := by simp
      clear hv hu hl hc1 hc2 hn hnil hnil' ht
      go_enter Try.func50, Try.ntmps50
      go_wp2
      go_loopw [5] (fun i wr => ∃ k : Nat, k ≤ n ∧ i = .int .i64 k ∧ ts.take k = us.take k ∧ ∃ q, wr = w.drewN q) (fun i _ => n - (intOf i).toNat)
      case atStart => exact ⟨0, by omega, rfl, by simp, 0, rfl⟩
      case round =>
        obtain ⟨k, hk, rfl, htk, q, rfl⟩ := hrel
        have HK := Lib.hid htk
        clear htk
        by_cases hlt : k < n
        · obtain ⟨t, hkt⟩ : ∃ t, ts[k]? = some t := ⟨_, List.getElem?_eq_getElem (by rw [HL.out]; exact hlt)⟩
          obtain ⟨u, hku⟩ : ∃ u, us[k]? = some u := ⟨_, List.getElem?_eq_getElem (by rw [HN.out]; exact hlt)⟩
          have d1 : w.cell? ⟨b1, o1 + k, none⟩ = some (.int .i64 t) := H1.out k t hkt
          have d2 : w.cell? ⟨b2, o2 + k, none⟩ = some (.int .i64 u) := H2.out k u hku
          have HT := Lib.hid (And.intro hkt hku)
          clear hkt hku
          by_cases htu : t = u
          · subst htu
            have hne : (t != t) = false := by simp
            go_wp2
            go_quiet (fail)
            go_wp2
            go_roundw
            case rel => exact ⟨k + 1, by omega, by go_num, by rw [List.take_add_one, List.take_add_one, HK.out, HT.out.1, HT.out.2], q + nq, rfl⟩
            case measure => simp [intOf]; omega
          · have hne : (t != u) = true := by simpa using htu
            have hd : decide (ts = us) = false := by
              apply decide_eq_false
              intro e
              have h1 := HT.out.1
              rw [e, HT.out.2] at h1
              exact htu (Option.some.inj h1).symm
            have HD := Lib.hid hd
            clear hd htu
            go_wp2
            go_quiet (fail)
            go_wp2
            go_ret
            exact ⟨ret_bool HD.out.symm, ((Chg.refl _ _).drewN _).drewN _⟩
        · have : k = n := by omega
          have hd : decide (ts = us) = true := by
            apply decide_eq_true
            have := HK.out
            rwa [List.take_of_length_le (by rw [HL.out]; omega), List.take_of_length_le (by rw [HN.out]; omega)] at this
          have HD := Lib.hid hd
          clear hd
          go_wp2
          go_ret
          exact ⟨ret_bool HD.out.symm, (Chg.refl _ _).drewN _⟩
  · have hd : decide (ts = us) = false := by
      apply decide_eq_false
      intro e
      exact hl (by rw [e])
    rw [hd]
    obtain ⟨a1, cap1, rfl⟩ := hv.slice
    obtain ⟨a2, cap2, rfl⟩ := hu.slice
    have hb : ((ts.length : Int) != (us.length : Int)) = true := by rw [bne_iff_ne]; omega
    generalize ts.length = n1 at *
    generalize us.length = n2 at *
    clear hd hv hu hl
    go_enter Try.func50, Try.ntmps50
    go_wp2
    go_ret
    exact ⟨rfl, Chg.refl _ _⟩

set_option maxRecDepth 100000 in
set_option maxHeartbeats 1000000 in
theorem woken13 (v u : Value) (ts us : WL) (w : World) (hv : IsPairs w v ts) (hu : IsPairs w u us) (ht : ts.length < 4611686018427387904) (hu' : us.length < 4611686018427387904) :
    Calls Try.prog 31 #[v, u] w fun e w' => e = .returned (.bool (decide (ts = us))) ∧ Chg [] w w' := by
  by_cases hl : ts.length = us.length
  · by_cases hnil : ts = []
    · subst hnil
      have : us = [] := List.eq_nil_of_length_eq_zero hl.symm
      subst this
      obtain ⟨a1, cap1, rfl⟩ := hv.slice
      obtain ⟨a2, cap2, rfl⟩ := hu.slice
      clear hv hu ht hu' hl
      go_enter Try.func31, Try.ntmps31
      go_wp2
      refine wp_loop_rounds 1 ?_
      rw [rounds_succ]
      go_wp2
      go_ret
      exact ⟨rfl, Chg.refl _ _⟩
    · have hnil' : us ≠ [] := fun e => hnil (List.eq_nil_of_length_eq_zero (by rw [hl, e]; rfl))
      obtain ⟨b1, o1, cap1, rfl, hc1⟩ := hv.addr hnil
      obtain ⟨b2, o2, cap2, rfl, hc2⟩ := hu.addr hnil'
      rw [hl]
      have HL := Lib.hid hl
      have H1 := Lib.hid hc1
      have H2 := Lib.hid hc2
      generalize hn : us.length = n at *
      have HN := Lib.hid hn
      have hb : ((n : Int) != (n : Int)) = false := by simp
      clear hv hu hl hc1 hc2 hn hnil hnil' ht
      go_enter Try.func31, Try.ntmps31
      go_wp2
      go_loopw [5] (fun i wr => ∃ k : Nat, k ≤ n ∧ i = .int .i64 k ∧ ts.take k = us.take k ∧ ∃ q, wr = w.drewN q) (fun i _ => n - (intOf i).toNat)
      case atStart => exact ⟨0, by omega, rfl, by simp, 0, rfl⟩
      case round =>
        obtain ⟨k, hk, rfl, htk, q, rfl⟩ := hrel
        have HK := Lib.hid htk
        clear htk
        by_cases hlt : k < n
        · obtain ⟨t, hkt⟩ : ∃ t, ts[k]? = some t := ⟨_, List.getElem?_eq_getElem (by rw [HL.out]; exact hlt)⟩
          obtain ⟨u, hku⟩ : ∃ u, us[k]? = some u := ⟨_, List.getElem?_eq_getElem (by rw [HN.out]; exact hlt)⟩
          obtain ⟨t1, t2⟩ := t
          obtain ⟨u1, u2⟩ := u
          obtain ⟨d1, d1'⟩ := H1.out k _ hkt
          obtain ⟨d2, d2'⟩ := H2.out k _ hku
          have HT := Lib.hid (And.intro hkt hku)
          clear hkt hku
          by_cases htu : t1 = u1 ∧ t2 = u2
          · obtain ⟨rfl, rfl⟩ := htu
            have hne : neqP t1 t2 t1 t2 = false := by simp [neqP]
            go_wp2
            go_quiet (fail)
            go_wp2
            go_roundw
            case rel => exact ⟨k + 1, by omega, by go_num, by rw [List.take_add_one, List.take_add_one, HK.out, HT.out.1, HT.out.2], q + nq, rfl⟩
            case measure => simp [intOf]; omega
          · have hne : neqP t1 t2 u1 u2 = true := decide_eq_true htu
            have hd : decide (ts = us) = false := by
              apply decide_eq_false
              intro e
              have h1 := HT.out.1
              rw [e, HT.out.2] at h1
              have h1 := Option.some.inj h1
              exact htu ⟨(congrArg Prod.fst h1).symm, (congrArg Prod.snd h1).symm⟩
            have HD := Lib.hid hd
            clear hd htu
            go_wp2
            go_quiet (fail)
            go_wp2
            go_ret
            exact ⟨ret_bool HD.out.symm, ((Chg.refl _ _).drewN _).drewN _⟩
        · have : k = n := by omega
          have hd : decide (ts = us) = true := by
            apply decide_eq_true
            have := HK.out
            rwa [List.take_of_length_le (by rw [HL.out]; omega), List.take_of_length_le (by rw [HN.out]; omega)] at this
          have HD := Lib.hid hd
          clear hd
          go_wp2
          go_ret
          exact ⟨ret_bool HD.out.symm, (Chg.refl _ _).drewN _⟩
  · have hd : decide (ts = us) = false := by
      apply decide_eq_false
      intro e
      exact hl (by rw [e])
    rw [hd]
    obtain ⟨a1, cap1, rfl⟩ := hv.slice
    obtain ⟨a2, cap2, rfl⟩ := hu.slice
    have hb : ((ts.length : Int) != (us.length : Int)) = true := by rw [bne_iff_ne]; omega
    generalize ts.length = n1 at *
    generalize us.length = n2 at *
    clear hd hv hu hl
    go_enter Try.func31, Try.ntmps31
    go_wp2
    go_ret
    exact ⟨rfl, Chg.refl _ _⟩




set_option maxRecDepth 100000 in
theorem lock13 (cb ab mb : Nat) (N : Int) (s : MS) (t q : Int) (has : Bool) (r : Int) (w : World) (h : MAt w cb ab mb N s) (hN : N < 4611686018427387904) (hcnt : 0 ≤ s.cnt) :
    Calls Try.prog 30 #[.pointer (some ⟨cb, 0, none⟩), .int .i64 t, .int .i64 q, .bool has, .int .i64 r] w fun e w' => e = .returned (.bool (s.lockB t q q == has && s.lockE t q q == r)) ∧ MAt w' cb ab mb (N + 1) (s.lockS t q q) ∧ Chg [cb, ab, mb] w w' := by
  have hL := mlockc cb ab mb N s t q q w h hN hcnt
  obtain ⟨x, hx⟩ : ∃ x, x = s.lockB t q q := ⟨_, rfl⟩
  obtain ⟨y, hy⟩ : ∃ y, y = s.lockE t q q := ⟨_, rfl⟩
  rw [← hx, ← hy] at hL ⊢
  have HL := Lib.hid hL
  clear hL hx hy h
  cases hc : (x == has) with
  | true =>
    rw [Bool.true_and]
    go_enter Try.func30, Try.ntmps30
    go_wp2_with fail
    refine HL.out.mono ?_
    rintro e w1 ⟨rfl, hM, hC⟩
    have H1 := Lib.hid (And.intro hM hC)
    clear hM hC
    go_wp2
    go_ret
    exact ⟨rfl, H1.out.1, H1.out.2⟩
  | false =>
    rw [Bool.false_and]
    go_enter Try.func30, Try.ntmps30
    go_wp2_with fail
    refine HL.out.mono ?_
    rintro e w1 ⟨rfl, hM, hC⟩
    have H1 := Lib.hid (And.intro hM hC)
    clear hM hC
    go_wp2
    go_ret
    exact ⟨rfl, H1.out.1, H1.out.2⟩

end Go.Proofs.Ytagnobmdcchcaaa
