
/- slices.Equal at messages; maps.Equal at maps of messages (with the same keys): contracts. -/
import Derived.Test.YtiiafhlckmkcnaaGreatVd
import Derived.Test.YtiiafhlckmkcnaaGreatJW
namespace Go.Proofs.YtiiafhlckmkcnaaGreat
open Go.RowKit

theorem guardMessage : Tryz.prog.eqGuardType Tryz.prog.depth 33 = false := by kernel_rfl
@[go_sem high] theorem neq_msgs (w : World) (a b c d : Int) : (binOp .neq 33 (.agg #[.int .i64 a, .int .i64 b]) (.agg #[.int .i64 c, .int .i64 d])).run Tryz.prog w = .ok (.bool (neqP a b c d)) w := by
  have h := neqM (a, b) (c, d) w
  unfold msgV at h
  rw [h]
  have e : (!(eqbM (a, b) (c, d))) = neqP a b c d := by
    unfold eqbM neqP
    by_cases h1 : a = c <;> by_cases h2 : b = d <;> simp [h1, h2]
  rw [e]
@[go_sem high] theorem neq_msgs_guard (x y : Operand) (w : World) (xs ys : Array Value) : (eqGuard .neq 33 x y (.agg xs) (.agg ys)).run Tryz.prog w = .ok () w := run_eqGuard_agg w _ _ _ _ _ _ guardMessage

set_option maxRecDepth 100000 in
set_option maxHeartbeats 1000000 in
theorem umsgsEq (v u : Value) (ts us : WL) (w : World) (hv : IsPairs w v ts) (hu : IsPairs w u us) (ht : ts.length < 4611686018427387904) (hu' : us.length < 4611686018427387904) :
    Calls Tryz.prog 26 #[v, u] w fun e w' => e = .returned (.bool (decide (ts = us))) ∧ Chg [] w w' := by
  by_cases hl : ts.length = us.length
  · by_cases hnil : ts = []
    · subst hnil
      have : us = [] := List.eq_nil_of_length_eq_zero hl.symm
      subst this
      obtain ⟨a1, cap1, rfl⟩ := hv.slice
      obtain ⟨a2, cap2, rfl⟩ := hu.slice
      clear hv hu ht hu' hl
      go_enter Tryz.func26, Tryz.ntmps26
      go_wp2
      refine wp_loop_rounds 1 ?_
      rw [rounds_succ]
      go_wp2
      go_ret
      exact ⟨rfl, Chg.refl _ _⟩
    · have hnil' : us ≠ [] := fun e => hnil (List.eq_nil_of_length_eq_zero (by rw [hl, e]; rfl))
      obtain ⟨b1, o1, cap1, rfl, hc1⟩ := hv.addr hnil
      obtain ⟨b2, o2, cap2, rfl, hc2⟩ := hu.addr hnil'
      rw [hl]
      have HL := Lib.hid hl
      have H1 := Lib.hid hc1
      have H2 := Lib.hid hc2
      generalize hn : us.length = n at *
      have HN := Lib.hid hn
      have hb : ((n : Int) != (n : Int)) = false := by simp
      clear hv hu hl hc1 hc2 hn hnil hnil' ht
      go_enter Tryz.func26, Tryz.ntmps26
      go_wp2
      go_loopw [13] (fun i wr => ∃ k : Nat, k ≤ n ∧ i = .int .i64 k ∧ ts.take k = us.take k ∧ ∃ q, wr = w.drewN q) (fun i _ => n - (intOf i).toNat)
      case atStart => exact ⟨0, by omega, rfl, by simp, 0, rfl⟩
      case round =>
        obtain ⟨k, hk, rfl, htk, q, rfl⟩ := hrel
        have HK := Lib.hid htk
        clear htk
        by_cases hlt : k < n
        · obtain ⟨t, hkt⟩ : ∃ t, ts[k]? = some t := ⟨_, List.getElem?_eq_getElem (by rw [HL.out]; exact hlt)⟩
          obtain ⟨u, hku⟩ : ∃ u, us[k]? = some u := ⟨_, List.getElem?_eq_getElem (by rw [HN.out]; exact hlt)⟩
          obtain ⟨t1, t2⟩ := t
          obtain ⟨u1, u2⟩ := u
          obtain ⟨d1, d1'⟩ := H1.out k _ hkt
          obtain ⟨d2, d2'⟩ := H2.out k _ hku
          have HT := Lib.hid (And.intro hkt hku)
          clear hkt hku
          by_cases htu : t1 = u1 ∧ t2 = u2
          · obtain ⟨rfl, rfl⟩ := htu
            have hne : neqP t1 t2 t1 t2 = false := by simp [neqP]
            go_wp2
            go_quiet (fail)
            go_wp2
            go_roundw
            case rel => exact ⟨k + 1, by omega, by go_num, by rw [List.take_add_one, List.take_add_one, HK.out, HT.out.1, HT.out.2], q + nq, rfl⟩
            case measure => simp [intOf]; omega
          · have hne : neqP t1 t2 u1 u2 = true := decide_eq_true htu
            have hd : decide (ts = us) = false := by
              apply decide_eq_false
              intro e
              have h1 := HT.out.1
              rw [e, HT.out.2] at h1
              have h1 := Option.some.inj h1
              exact htu ⟨(congrArg Prod.fst h1).symm, (congrArg Prod.snd h1).symm⟩
            have HD := Lib.hid hd
            clear hd htu
            go_wp2
            go_quiet (fail)
            go_wp2
            go_ret
            exact ⟨ret_bool HD.out.symm, ((Chg.refl _ _).drewN _).drewN _⟩
        · have : k = n := by omega
          have hd : decide (ts = us) = true := by
            apply decide_eq_true
            have := HK.out
            rwa [List.take_of_length_le (by rw [HL.out]; omega), List.take_of_length_le (by rw [HN.out]; omega)] at this
          have HD := Lib.hid hd
          clear hd
          go_wp2
          go_ret
          exact ⟨ret_bool HD.out.symm, (Chg.refl _ _).drewN _⟩
  · have hd : decide (ts = us) = false := by
      apply decide_eq_false
      intro e
      exact hl (by rw [e])
    rw [hd]
    obtain ⟨a1, cap1, rfl⟩ := hv.slice
    obtain ⟨a2, cap2, rfl⟩ := hu.slice
    have hb : ((ts.length : Int) != (us.length : Int)) = true := by rw [bne_iff_ne]; omega
    generalize ts.length = n1 at *
    generalize us.length = n2 at *
    clear hd hv hu hl
    go_enter Tryz.func26, Tryz.ntmps26
    go_wp2
    go_ret
    exact ⟨rfl, Chg.refl _ _⟩




/-- What those who wait to send send, is the same. -/
def heldEq (S M M2 : WL) : Bool := S.all fun x => eqbM (mAt M x.1) (mAt M2 x.1)
theorem heldM_mem {S M : WL} {t : Int} {x : Value} (h : (t, x) ∈ heldM S M) : hasR S t = true ∧ x = msgV (mAt M t) := by
  obtain ⟨y, hy, e⟩ := List.mem_map.1 h
  cases e
  exact ⟨hasR_mem.2 ⟨y.2, hy⟩, rfl⟩
theorem heldM_len (S M : WL) : (heldM S M).length = S.length := by simp [heldM]

set_option maxRecDepth 100000 in
set_option maxHeartbeats 2000000 in
theorem umequalc (b1 b2 : Nat) (S M1 M2 : WL) (w : World) (hS : ListOk S) (h1 : MapP w b1 (heldM S M1)) (h2 : MapP w b2 (heldM S M2)) :
    Calls Tryz.prog 27 #[.map (some b1), .map (some b2)] w fun e w' => e = .returned (.bool (heldEq S M1 M2)) ∧ Chg [] w w' := by
  have hr1 := run_len_P (P := Tryz.prog) Tryz.underlying46 h1 3
  have hr2 := run_len_P (P := Tryz.prog) Tryz.underlying46 h2 3
  rw [heldM_len] at hr1 hr2
  obtain ⟨n1, hn1⟩ : ∃ n, n = S.length := ⟨_, rfl⟩
  rw [← hn1] at hr1 hr2
  have hb : ((n1 : Int) != (n1 : Int)) = false := by simp
  have hz : ∀ W : World, (zeroValue 33).run Tryz.prog W = .ok (.agg #[.int .i64 0, .int .i64 0]) W := fun W => by kernel_rfl
  obtain ⟨M, hM, hMp⟩ := h1
  obtain ⟨o, hrange, hR0⟩ := run_range_I (P := Tryz.prog) Tryz.underlying46 hM
  have hD0 := h2.kept ((Chg.refl [] w).alloc o) (by simp)
  have H0 := Lib.hid (And.intro hR0 (And.intro hD0 ((Chg.refl [] w).alloc o)))
  have HH := Lib.hid (And.intro hMp (And.intro hS hz))
  clear hR0 hD0 h2 hM hMp hS hn1 hz
  go_enter Tryz.func27, Tryz.ntmps27
  go_wp2
  go_loopw [16] (fun _ wr => ∃ done rest, RngP wr b1 w.heap.size M rest ∧ M.Perm (done ++ rest) ∧ (∀ x ∈ done, eqbM (mAt M1 x.1) (mAt M2 x.1) = true) ∧ MapP wr b2 (heldM S M2) ∧ Chg [] w wr) (fun _ wr => rleft wr b1 w.heap.size)
  case atStart => exact ⟨[], M, H0.out.1, by simp, by simp, H0.out.2.1, H0.out.2.2⟩
  case round =>
    obtain ⟨done, rest, hR, hP, hD, h2, hC⟩ := hrel
    rcases run_next_I (P := Tryz.prog) hR with ⟨hr0, hnx⟩ | ⟨p, q1, q2, w1, hr0, hnx, hR1, hen, hC1, hsz1⟩
    · subst hr0
      rw [List.append_nil] at hP
      have HF := Lib.hid (And.intro hP (And.intro hD hC))
      clear hP hD hC hR h2
      go_wp2
      go_ret
      obtain ⟨hP, hD, hC⟩ := HF.out
      refine ⟨?_, hC⟩
      have : heldEq S M1 M2 = true := by
        unfold heldEq
        rw [List.all_eq_true]
        intro x hx
        have hm : (x.1, msgV (mAt M1 x.1)) ∈ heldM S M1 := List.mem_map.2 ⟨x, hx, rfl⟩
        exact hD _ (hP.mem_iff.1 (HH.out.1.mem_iff.2 hm))
      rw [this]
      rfl
    · have hin : p ∈ heldM S M1 := HH.out.1.mem_iff.1 (hP.mem_iff.2 (by rw [hr0]; simp))
      obtain ⟨a, v⟩ := p
      obtain ⟨ha, rfl⟩ := heldM_mem hin
      have hl1 := hR.left
      have hrl : rest.length = (q1 ++ q2).length + 1 := by rw [hr0]; simp; omega
      have h2' := h2.kept hC1 (by
        have hlt := h2.lt
        have := H0.out.2.1.lt
        simp
        intro e
        subst e
        obtain ⟨M', ⟨es, cl, hb, _⟩, _⟩ := h2
        obtain ⟨_, _, _, _, _, hr, _⟩ := hR
        rw [hr] at hb
        cases hb)
      obtain ⟨x1, x2, hx⟩ : ∃ x1 x2, mAt M1 a = (x1, x2) := ⟨_, _, rfl⟩
      obtain ⟨y1, y2, hy⟩ : ∃ y1 y2, mAt M2 a = (y1, y2) := ⟨_, _, rfl⟩
      have hlk := fun (W : World) (hW : Chg [] w1 W) => run_lookup_P (P := Tryz.prog) Tryz.underlying46 Tryz.underlying3 (HH.out.2.2 W) (h2'.kept hW (by simp)) a
      rw [heldM_look HH.out.2.1 ha, hy] at hlk
      simp only [Option.getD_some, Option.isSome_some, msgV] at hlk
      simp only at hnx hen
      rw [hx] at hnx hen
      simp only [msgV] at hnx hen
      have hlk1 := hlk (w1.alloc (.cells #[.int .i64 x1, .int .i64 x2] 33)) ((Chg.refl _ _).alloc _)
      have HF := Lib.hid (And.intro hR1 (And.intro hP (And.intro hD (And.intro h2' (And.intro (hC.trans' hC1 (fun k hk => by simp at hk; subst hk; exact .inr (Nat.le_refl _))) (And.intro hl1 (And.intro hrl hr0)))))))
      have HE := Lib.hid (And.intro hx (And.intro hy (And.intro ha hin)))
      clear hlk hR1 hP hD h2' hC hC1 hl1 hrl hr0 hR h2 hx hy ha hin hsz1
      by_cases hnm : x1 = y1 ∧ x2 = y2
      · obtain ⟨rfl, rfl⟩ := hnm
        have hne : neqP x1 x2 x1 x2 = false := by simp [neqP]
        go_wp2
        obtain ⟨wz, hwz⟩ : ∃ wz, wz = (w1.alloc (.cells #[.int .i64 x1, .int .i64 x2] 33)).alloc (.cells #[.int .i64 x1, .int .i64 x2] 33) := ⟨_, rfl⟩
        have hCz : Chg [] w1 wz := by rw [hwz]; exact ((Chg.refl _ _).alloc _).alloc _
        rw [← hwz]
        obtain ⟨hR1, hP, hD, h2', hC, hl1, hrl, hr0⟩ := HF.out
        have hR2 := hR1.kept hCz (by simp) (by simp)
        refine ⟨⟨done ++ [(a, msgV (mAt M1 a))], q1 ++ q2, hR2, ?_, ?_, h2'.kept hCz (by simp), hC.trans hCz⟩, ?_⟩
        · rw [hr0] at hP
          refine hP.trans ?_
          simp only [List.append_assoc, List.singleton_append]
          exact List.Perm.append_left done List.perm_middle
        · intro y hy
          rcases List.mem_append.1 hy with hy | hy
          · exact hD y hy
          · simp at hy
            subst hy
            simp only
            rw [HE.out.1, HE.out.2.1]
            exact eqbM_self _
        · rw [hR2.left, hl1]
          omega
      · have hne : neqP x1 x2 y1 y2 = true := decide_eq_true hnm
        have HN := Lib.hid hnm
        clear hnm
        go_wp2
        go_ret
        have hf : heldEq S M1 M2 = false := by
          cases hq : heldEq S M1 M2 with
          | false => rfl
          | true =>
            exfalso
            unfold heldEq at hq
            rw [List.all_eq_true] at hq
            obtain ⟨q, hq2⟩ := hasR_mem.1 HE.out.2.2.1
            have h5 := hq _ hq2
            rw [HE.out.1, HE.out.2.1] at h5
            have h6 := eqbM_iff.1 h5
            exact HN.out ⟨congrArg Prod.fst h6, congrArg Prod.snd h6⟩
        rw [hf]
        exact ⟨rfl, (HF.out.2.2.2.2.1.alloc _).alloc _⟩

end Go.Proofs.YtiiafhlckmkcnaaGreat
