
/- metronomelaw09.WaitsTake answers true, whatever the steps. -/
import Derived.Test.YtohkjiibjljmmaaL09b
import Derived.Test.YtohkjiibjljmmaaL09known
namespace Go.Proofs.Ytohkjiibjljmmaa
open Go.RowKit

/-- The value is a slice of steps of three ints. -/
def IsSteps (w : World) (v : Value) (R : List (Int × Int × Int)) : Prop :=
  (R = [] ∧ ∃ a cap, v = .slice a 0 cap) ∨ ∃ b o cap, v = .slice (some ⟨b, o, none⟩) R.length cap ∧ ∀ j x, R[j]? = some x →
    w.cell? ⟨b, o + j * 3, none⟩ = some (.int .i64 x.1) ∧ w.cell? ⟨b, o + j * 3 + 1, none⟩ = some (.int .i64 x.2.1) ∧ w.cell? ⟨b, o + j * 3 + 2, none⟩ = some (.int .i64 x.2.2)

theorem IsSteps.slice {w : World} {v : Value} {R : List (Int × Int × Int)} (h : IsSteps w v R) : ∃ a cap, v = .slice a R.length cap := by
  rcases h with ⟨rfl, a, cap, rfl⟩ | ⟨b, o, cap, rfl, _⟩
  · exact ⟨a, cap, rfl⟩
  · exact ⟨_, cap, rfl⟩
theorem IsSteps.addr {w : World} {v : Value} {R : List (Int × Int × Int)} (h : IsSteps w v R) (hn : R ≠ []) : ∃ b o cap, v = .slice (some ⟨b, o, none⟩) R.length cap ∧ b < w.heap.size ∧ ∀ j x, R[j]? = some x →
    w.cell? ⟨b, o + j * 3, none⟩ = some (.int .i64 x.1) ∧ w.cell? ⟨b, o + j * 3 + 1, none⟩ = some (.int .i64 x.2.1) ∧ w.cell? ⟨b, o + j * 3 + 2, none⟩ = some (.int .i64 x.2.2) := by
  rcases h with ⟨rfl, _⟩ | ⟨b, o, cap, h1, h2⟩
  · exact absurd rfl hn
  · refine ⟨b, o, cap, h1, ?_, h2⟩
    cases R with
    | nil => exact absurd rfl hn
    | cons x R => exact World.block_lt_of_cell? _ _ (h2 0 x rfl).1

theorem addr_spot {w : World} {a : Addr} {v : Value} (h : w.cell? a = some v) : a.spot = none := by
  unfold World.cell? at h
  split at h
  · cases hs : a.spot with
    | none => rfl
    | some x => simp [hs] at h
  · cases h
/-- The rows of a slice that came in. -/
theorem IsSteps.of_rows {w : World} {x : Addr} {l c : Nat} (hr : ∀ i, i < l → ∃ r : Nat → Int, ∀ j, j < 3 → w.cell? (x.add (i * 3 + j)) = some (.int .i64 (r j))) : ∃ R, IsSteps w (.slice (some x) l c) R := by
  by_cases hl : l = 0
  · subst hl
    exact ⟨[], .inl ⟨rfl, _, _, rfl⟩⟩
  · have key : ∀ i, ∃ r : Nat → Int, i < l → ∀ j, j < 3 → w.cell? (x.add (i * 3 + j)) = some (.int .i64 (r j)) := fun i => by
      by_cases hi : i < l
      · obtain ⟨r, h⟩ := hr i hi
        exact ⟨r, fun _ => h⟩
      · exact ⟨fun _ => 0, fun h => absurd h hi⟩
    obtain ⟨f, hf⟩ : ∃ f : Nat → Nat → Int, ∀ i, i < l → ∀ j, j < 3 → w.cell? (x.add (i * 3 + j)) = some (.int .i64 (f i j)) := ⟨fun i => (key i).choose, fun i => (key i).choose_spec⟩
    clear key hr
    obtain ⟨b, o, spot⟩ := x
    have hs : spot = none := by
      have := hf 0 (by omega) 0 (by omega)
      have := addr_spot this
      simpa [Addr.add] using this
    subst hs
    have e : ∀ n, (Addr.add ⟨b, o, none⟩ n) = ⟨b, o + n, none⟩ := fun n => by unfold Addr.add; split <;> simp_all
    refine ⟨(List.range l).map fun i => (f i 0, f i 1, f i 2), .inr ⟨b, o, c, by simp, fun j y hj => ?_⟩⟩
    have hjl : j < l := by
      have := (List.getElem?_eq_some_iff.1 hj).1
      simpa using this
    simp [hjl] at hj
    subst hj
    have h3 := hf j hjl
    have h0 := h3 0 (by omega)
    have h1 := h3 1 (by omega)
    have h2 := h3 2 (by omega)
    rw [e] at h0 h1 h2
    exact ⟨h0, by rw [Nat.add_assoc]; exact h1, by rw [Nat.add_assoc]; exact h2⟩

theorem cell_kept {S : List Nat} {w w' : World} {p : Addr} {v : Value} (h : w.cell? p = some v) (hC : Chg S w w') (hn : p.block ∉ S) : w'.cell? p = some v :=
  (World.cell?_of_block (hC.block p.block (World.block_lt_of_cell? _ _ h) hn)).trans h

theorem takeL_len {L : WL} (hL : ListOk L) (hn : L ≠ []) : (takeL L).length + 1 = L.length := by
  have hp := ordL_perm hL
  unfold takeL
  cases ho : ordL L with
  | nil => rw [ho] at hp; exact absurd hp.symm.eq_nil hn
  | cons x r =>
    have hx : x ∈ L := hp.mem_iff.1 (by rw [ho]; simp)
    clear ho hp
    show (wdel L x.1).length + 1 = L.length
    have hnd := hL.nodup
    clear hL hn
    induction L with
    | nil => cases hx
    | cons y L ih =>
      obtain ⟨k, q⟩ := y
      have h' := List.nodup_cons.1 hnd
      by_cases hc : x.1 = k
      · simp [wdel, hc]
      · rcases List.mem_cons.1 hx with h | h
        · exact absurd (by rw [h]) hc
        · have := ih h h'.2
          simp [wdel, hc]
          omega

theorem agree_take {L : WL} {C : CL} (hL : ListOk L) (hA : Agree L C) : Agree (takeL L) (setHead L C) := by
  unfold takeL setHead
  cases ho : ordL L with
  | nil => exact hA
  | cons x r =>
    have hx : x ∈ L := (ordL_perm hL).mem_iff.1 (by rw [ho]; simp)
    exact agree_del hA hL (hL.ok x hx).1
theorem setHead_le {L : WL} {C : CL} {k : Int} (h : ∀ j, cAt C j ≤ k) (hk : 0 ≤ k) (hL : ListOk L) (hs : C.length = 16) : ∀ j, cAt (setHead L C) j ≤ k := by
  intro j
  unfold setHead
  cases ho : ordL L with
  | nil => exact h j
  | cons x r =>
    have hx : x ∈ L := (ordL_perm hL).mem_iff.1 (by rw [ho]; simp)
    have := (hL.ok x hx).1
    unfold okT at this
    show cAt (C.set x.1.toNat 0) j ≤ k
    rw [cAt_set _ _ _ _ (by omega)]
    split
    · exact hk
    · exact h j

theorem CameAt.set {w : World} {cb : Nat} {C : CL} (h : CameAt w cb C) (t : Nat) (x : Int) : CameAt (w.setCell ⟨cb, t, none⟩ (.int .i64 x)) cb (C.set t x) := by
  unfold CameAt
  rw [blk_setCell h]
  simp [List.map_set]
theorem askR_zero {L : WL} {t p : Int} {b : Bool} (ha : askR L t p b = 0) : okT t ∧ okP p ∧ hasR L t = b := by
  unfold askR at ha
  split at ha
  · omega
  · refine ⟨by unfold okT; omega, by unfold okP; omega, ?_⟩
    unfold hasR
    cases hc : (L.lookup t).isSome <;> cases b <;> simp [hc] at ha ⊢

set_option maxRecDepth 100000 in
set_option maxHeartbeats 2000000 in
theorem waitsTake_any (v : Value) (R : List (Int × Int × Int)) (w : World) (hv : IsSteps w v R) :
    Calls Try.prog 3 #[v] w fun e w' => e = .returned (.bool true) ∧ Chg [] w w' := by
  obtain ⟨a, cap, rfl⟩ := hv.slice
  have HV := Lib.hid hv
  clear hv
  go_enter Try.func3, Try.ntmps3
  go_wp2_with (first | (go_at_call 6; refine (known09 _).mono ?_; rintro e w0 ⟨rfl, hC0⟩) | (go_at_call 7; refine (newc _).mono ?_; rintro e w1 ⟨ab, mb, rfl, hab, hmb, hW, hC1⟩))
  have HB := Lib.hid (And.intro (Nat.le_trans hC0.size hab) (And.intro (Nat.le_trans hC0.size hmb) (Nat.le_trans hC0.size hC1.size)))
  have hlt' := hW.lt
  have HC1 : Hid (Chg [] w (w1.alloc (.cells #[.int .i64 0, .int .i64 0, .int .i64 0, .int .i64 0, .int .i64 0, .int .i64 0, .int .i64 0, .int .i64 0, .int .i64 0, .int .i64 0, .int .i64 0, .int .i64 0, .int .i64 0, .int .i64 0, .int .i64 0, .int .i64 0] 26))) := (hC0.trans hC1).alloc _
  have HWs := Lib.hid (And.intro (hW.kept ((Chg.refl [] w1).alloc (.cells #[.int .i64 0, .int .i64 0, .int .i64 0, .int .i64 0, .int .i64 0, .int .i64 0, .int .i64 0, .int .i64 0, .int .i64 0, .int .i64 0, .int .i64 0, .int .i64 0, .int .i64 0, .int .i64 0, .int .i64 0, .int .i64 0] 26)) (by simp) (by simp)) (Nat.le_trans hC0.size hC1.size))
  have hn1 : ab ≠ w1.heap.size := by omega
  have hn2 : mb ≠ w1.heap.size := by omega
  clear hab hmb hC1 hW
  go_loopw [5] (fun i wr => ∃ (k : Nat) (L : WL) (C : CL), k ≤ R.length ∧ k ≤ 200 ∧ i = .int .i64 k ∧ WAt wr ab mb k L ∧ CameAt wr w1.heap.size C ∧ Agree L C ∧ (∀ j, cAt C j ≤ k) ∧ Chg [] w wr) (fun i _ => 200 - (intOf i).toNat)
  case atStart => exact ⟨0, [], List.replicate 16 0, by omega, by omega, rfl, HWs.out.1, heap_alloc_eq w1 _, agree_new, fun j => by rw [cAt_rep]; omega, HC1.out⟩
  case round =>
    obtain ⟨k, L, C, hk1, hk2, rfl, hWk, hCk, hAk, hle, hCg⟩ := hrel
    have HK := Lib.hid (And.intro hWk (And.intro hCk (And.intro hAk (And.intro hle hCg))))
    have hs16 := hAk.size
    clear hWk hCk hAk hle
    by_cases hlt : k < R.length
    · by_cases hlt2 : k < 200
      · have hne : R ≠ [] := fun e => by rw [e] at hlt; simp at hlt
        obtain ⟨b, o, cap', hsl, hb, hcells⟩ := HV.out.addr hne
        cases hsl
        obtain ⟨x, hx⟩ : ∃ x, R[k]? = some x := ⟨_, List.getElem?_eq_getElem hlt⟩
        have hc3 := hcells k x hx
        have d0 := cell_kept hc3.1 hCg (by simp)
        have d1 := cell_kept hc3.2.1 hCg (by simp)
        have d2 := cell_kept hc3.2.2 hCg (by simp)
        obtain ⟨kd, th, pr⟩ := x
        simp only at d0 d1 d2
        clear hcells hc3 hx hCg hne
        have hWa := fun (z : Int) => HK.out.1.kept ((Chg.refl [] wr).alloc (.cells #[.int .i64 z, .int .i64 th, .int .i64 pr] 28)) (by simp) (by simp)
        have HWa := Lib.hid hWa
        clear hWa
        by_cases h1 : kd = 1
        · subst h1
          by_cases ha : askR L th pr false = 0
          · obtain ⟨hot, hop, hno⟩ := askR_zero ha
            have HO := Lib.hid hot
            unfold okT at hot
            obtain ⟨tn, rfl⟩ : ∃ tn : Nat, th = (tn : Int) := ⟨th.toNat, by omega⟩
            have htn : tn < 16 := by omega
            have HA := Lib.hid (And.intro ha (And.intro hno hop))
            have hpl : putL L tn pr = L ++ [((tn : Int), pr)] := by unfold putL; rw [if_pos ha]
            have HPL := Lib.hid hpl
            clear ha hot hop hno hpl
            go_wp2_with (first
              | (go_at_call 9; refine (putc ab mb k L tn pr _ (HWa.out 1) (by omega)).mono ?_; rintro e w2 ⟨rfl, hW2, hC2⟩; rw [HA.out.1]; have hCk2 := hC2.blk (blk_alloc HK.out.2.1 _) (by simp; omega); have f0 := frozenB hCk2 tn; have cc := (show CameAt w2 w1.heap.size C from hCk2).cell hs16 tn htn; have bL := hC2.blk (heap_alloc_eq wr _) (by have := HK.out.1.lt; simp; omega); have e1 := cellB bL (i := 1) rfl)
              | go_in)
            go_roundw
            case rel => exact ⟨k + 1, L ++ [((tn : Int), pr)], C.set tn ((k : Int) + 1), by omega, by omega, by go_num, by rw [HPL.out] at hW2; exact (hW2.mono (by omega)).kept ((Chg.refl [w1.heap.size] w2).setCell ⟨w1.heap.size, tn, none⟩ _ (by simp)) (by simpa using hn1) (by simpa using hn2), CameAt.set hCk2 tn _, by have := agree_put HK.out.2.2.1 HK.out.1.lok (x := (k : Int) + 1) (p := pr) HO.out HA.out.2.1 (fun j => by have := HK.out.2.2.2.1 j; omega); simpa using this, fun j => by rw [cAt_set _ _ _ _ (by omega)]; have := HK.out.2.2.2.1 j; split <;> omega, ((HK.out.2.2.2.2.alloc _).trans' hC2 (fun j hj => by have := HB.out; simp at hj; omega)).setCell _ _ (.inr (by have := HB.out; simp; omega))⟩
            case measure => simp [intOf]; omega
          · have ha' : (askR L th pr false == 0) = false := by simpa using ha
            have hpl : putL L th pr = L := by unfold putL; rw [if_neg ha]
            have HPL := Lib.hid hpl
            clear ha hpl
            go_wp2_with (first
              | (go_at_call 9; refine (putc ab mb k L th pr _ (HWa.out 1) (by omega)).mono ?_; rintro e w2 ⟨rfl, hW2, hC2⟩)
              | go_in)
            go_roundw
            case rel => exact ⟨k + 1, L, C, by omega, by omega, by go_num, by rw [HPL.out] at hW2; exact hW2.mono (by omega), hC2.blk (blk_alloc HK.out.2.1 _) (by simp; omega), HK.out.2.2.1, fun j => by have := HK.out.2.2.2.1 j; omega, (HK.out.2.2.2.2.alloc _).trans' hC2 (fun j hj => by have := HB.out; simp at hj; omega)⟩
            case measure => simp [intOf]; omega
        · by_cases h2 : kd = 2
          · subst h2
            have hag : Agree (chgL L th pr) C := by
              unfold chgL
              split
              · exact agree_chg HK.out.2.2.1 HK.out.1.lok th pr
              · exact HK.out.2.2.1
            have HAG := Lib.hid hag
            clear hag
            go_wp2_with (go_at_call 10; refine (changec ab mb k L th pr _ (HWa.out 2)).mono ?_; rintro e w2 ⟨rfl, hW2, hC2⟩)
            go_roundw
            case rel => exact ⟨k + 1, chgL L th pr, C, by omega, by omega, by go_num, hW2.mono (by omega), hC2.blk (blk_alloc HK.out.2.1 _) (by simp; omega), HAG.out, fun j => by have := HK.out.2.2.2.1 j; omega, (HK.out.2.2.2.2.alloc _).trans' hC2 (fun j hj => by have := HB.out; simp at hj; omega)⟩
            case measure => simp [intOf]; omega
          · by_cases h3 : kd = 3
            · subst h3
              by_cases ha : askR L th 1 true = 0
              · obtain ⟨hot, hop, hno⟩ := askR_zero ha
                have HO := Lib.hid hot
                unfold okT at hot
                obtain ⟨tn, rfl⟩ : ∃ tn : Nat, th = (tn : Int) := ⟨th.toNat, by omega⟩
                have htn : tn < 16 := by omega
                have HA := Lib.hid ha
                have hpl : lvL L tn = wdel L (tn : Int) := by unfold lvL; rw [if_pos ha]
                have HPL := Lib.hid hpl
                clear ha hot hop hno hpl
                go_wp2_with (first
                  | (go_at_call 11; refine (leavec ab mb k L tn _ (HWa.out 3)).mono ?_; rintro e w2 ⟨rfl, hW2, hC2⟩; rw [HA.out]; have hCk2 := hC2.blk (blk_alloc HK.out.2.1 _) (by simp; omega); have f0 := frozenB hCk2 tn; have cc := (show CameAt w2 w1.heap.size C from hCk2).cell hs16 tn htn; have bL := hC2.blk (heap_alloc_eq wr _) (by have := HK.out.1.lt; simp; omega); have e1 := cellB bL (i := 1) rfl)
                  | go_in)
                go_roundw
                case rel => exact ⟨k + 1, wdel L (tn : Int), C.set tn 0, by omega, by omega, by go_num, by rw [HPL.out] at hW2; exact (hW2.mono (by omega)).kept ((Chg.refl [w1.heap.size] w2).setCell ⟨w1.heap.size, tn, none⟩ _ (by simp)) (by simpa using hn1) (by simpa using hn2), CameAt.set hCk2 tn _, by have := agree_del HK.out.2.2.1 HK.out.1.lok HO.out; simpa using this, fun j => by rw [cAt_set _ _ _ _ (by omega)]; have := HK.out.2.2.2.1 j; split <;> omega, ((HK.out.2.2.2.2.alloc _).trans' hC2 (fun j hj => by have := HB.out; simp at hj; omega)).setCell _ _ (.inr (by have := HB.out; simp; omega))⟩
                case measure => simp [intOf]; omega
              · have ha' : (askR L th 1 true == 0) = false := by simpa using ha
                have hpl : lvL L th = L := by unfold lvL; rw [if_neg ha]
                have HPL := Lib.hid hpl
                clear ha hpl
                go_wp2_with (first
                  | (go_at_call 11; refine (leavec ab mb k L th _ (HWa.out 3)).mono ?_; rintro e w2 ⟨rfl, hW2, hC2⟩)
                  | go_in)
                go_roundw
                case rel => exact ⟨k + 1, L, C, by omega, by omega, by go_num, by rw [HPL.out] at hW2; exact hW2.mono (by omega), hC2.blk (blk_alloc HK.out.2.1 _) (by simp; omega), HK.out.2.2.1, fun j => by have := HK.out.2.2.2.1 j; omega, (HK.out.2.2.2.2.alloc _).trans' hC2 (fun j hj => by have := HB.out; simp at hj; omega)⟩
                case measure => simp [intOf]; omega
            · by_cases h4 : kd = 4
              · subst h4
                go_wp2_with (go_at_call 12; refine (best_any ab mb w1.heap.size k L C _ (HWa.out 4) (blk_alloc HK.out.2.1 _) HK.out.2.2.1 hn1 hn2).mono ?_; rintro e w2 ⟨rfl, hW2, hCk2, hC2⟩)
                go_roundw
                case rel => exact ⟨k + 1, takeL L, setHead L C, by omega, by omega, by go_num, hW2.mono (by omega), hCk2, agree_take HK.out.1.lok HK.out.2.2.1, fun j => by have := setHead_le HK.out.2.2.2.1 (by omega) HK.out.1.lok hs16 j; omega, (HK.out.2.2.2.2.alloc _).trans' hC2 (fun j hj => by have := HB.out; simp at hj; omega)⟩
                case measure => simp [intOf]; omega
              · have g1 : (kd == 1) = false := by simpa using h1
                have g2 : (kd == 2) = false := by simpa using h2
                have g3 : (kd == 3) = false := by simpa using h3
                have g4 : (kd == 4) = false := by simpa using h4
                clear h1 h2 h3 h4
                go_wp2
                go_roundw
                case rel => exact ⟨k + 1, L, C, by omega, by omega, by go_num, (HWa.out kd).mono (by omega), blk_alloc HK.out.2.1 _, HK.out.2.2.1, fun j => by have := HK.out.2.2.2.1 j; omega, HK.out.2.2.2.2.alloc _⟩
                case measure => simp [intOf]; omega
      · obtain ⟨wo, rfl⟩ : ∃ wo : World, wo = wr := ⟨_, rfl⟩
        clear hCg hs16
        obtain ⟨n, hn⟩ : ∃ n, n = L.length := ⟨_, rfl⟩
        have hnf : n ≤ 16 := by rw [hn]; exact HK.out.1.facts.2.2
        have hLn := lenc ab mb k L wo HK.out.1
        rw [← hn] at hLn
        have HN := Lib.hid hn
        have HLn := Lib.hid hLn
        clear hn hLn
        go_wp2_with (go_at_call 13; refine HLn.out.mono ?_; rintro e w2 ⟨rfl, rfl⟩)
        go_loopw [8] (fun i wr => ∃ (m : Nat) (L2 : WL) (C2 : CL), m ≤ n ∧ i = .int .i64 m ∧ L2.length + m = n ∧ WAt wr ab mb k L2 ∧ CameAt wr w1.heap.size C2 ∧ Agree L2 C2 ∧ Chg [] w wr) (fun i _ => n - (intOf i).toNat)
        case atStart => exact ⟨0, L, C, by omega, rfl, by have := HN.out; omega, HK.out.1, HK.out.2.1, HK.out.2.2.1, HK.out.2.2.2.2⟩
        case round =>
          obtain ⟨m, L2, C2, hm, rfl, hlen, hW2, hC2, hA2, hG2⟩ := hrel
          have HM := Lib.hid (And.intro hW2 (And.intro hC2 (And.intro hA2 (And.intro hG2 hlen))))
          clear hW2 hC2 hA2 hG2 hlen
          by_cases hmn : m < n
          · go_wp2_with (go_at_call 12; refine (best_any ab mb w1.heap.size k L2 C2 _ HM.out.1 HM.out.2.1 HM.out.2.2.1 hn1 hn2).mono ?_; rintro e w2 ⟨rfl, hW3, hCk3, hC3⟩)
            go_roundw
            case rel => exact ⟨m + 1, takeL L2, setHead L2 C2, by omega, by go_num, by have h1 := takeL_len HM.out.1.lok (fun e => by have := HM.out.2.2.2.2; rw [e] at this; simp at this; omega); have h2 := HM.out.2.2.2.2; omega, hW3, hCk3, agree_take HM.out.1.lok HM.out.2.2.1, HM.out.2.2.2.1.trans' hC3 (fun j hj => by have := HB.out; simp at hj; omega)⟩
            case measure => simp [intOf]; omega
          · have hL2 : L2 = [] := List.eq_nil_of_length_eq_zero (by have := HM.out.2.2.2.2; omega)
            subst hL2
            have hT := takec ab mb k [] wr HM.out.1
            have e1 : headT (ordL []) = 0 := by decide
            have e2 : headB (ordL []) = false := by decide
            have e3 : takeL [] = [] := by decide
            rw [e1, e2, e3] at hT
            have HT := Lib.hid hT
            clear hT e1 e2 e3
            go_wp2_with (first
              | (go_at_call 14; refine HT.out.mono ?_; rintro e w3 ⟨rfl, hW3, hC3⟩)
              | (go_at_call 13; refine (lenc ab mb k [] _ hW3).mono ?_; rintro e w4 ⟨rfl, rfl⟩; rw [show (([] : WL).length : Int) = 0 from rfl]))
            go_ret
            exact ⟨rfl, HM.out.2.2.2.1.trans' hC3 (fun j hj => by have := HB.out; simp at hj; omega)⟩
    · obtain ⟨wo, rfl⟩ : ∃ wo : World, wo = wr := ⟨_, rfl⟩
      clear hCg hs16
      obtain ⟨n, hn⟩ : ∃ n, n = L.length := ⟨_, rfl⟩
      have hnf : n ≤ 16 := by rw [hn]; exact HK.out.1.facts.2.2
      have hLn := lenc ab mb k L wo HK.out.1
      rw [← hn] at hLn
      have HN := Lib.hid hn
      have HLn := Lib.hid hLn
      clear hn hLn
      go_wp2_with (go_at_call 13; refine HLn.out.mono ?_; rintro e w2 ⟨rfl, rfl⟩)
      go_loopw [8] (fun i wr => ∃ (m : Nat) (L2 : WL) (C2 : CL), m ≤ n ∧ i = .int .i64 m ∧ L2.length + m = n ∧ WAt wr ab mb k L2 ∧ CameAt wr w1.heap.size C2 ∧ Agree L2 C2 ∧ Chg [] w wr) (fun i _ => n - (intOf i).toNat)
      case atStart => exact ⟨0, L, C, by omega, rfl, by have := HN.out; omega, HK.out.1, HK.out.2.1, HK.out.2.2.1, HK.out.2.2.2.2⟩
      case round =>
        obtain ⟨m, L2, C2, hm, rfl, hlen, hW2, hC2, hA2, hG2⟩ := hrel
        have HM := Lib.hid (And.intro hW2 (And.intro hC2 (And.intro hA2 (And.intro hG2 hlen))))
        clear hW2 hC2 hA2 hG2 hlen
        by_cases hmn : m < n
        · go_wp2_with (go_at_call 12; refine (best_any ab mb w1.heap.size k L2 C2 _ HM.out.1 HM.out.2.1 HM.out.2.2.1 hn1 hn2).mono ?_; rintro e w2 ⟨rfl, hW3, hCk3, hC3⟩)
          go_roundw
          case rel => exact ⟨m + 1, takeL L2, setHead L2 C2, by omega, by go_num, by have h1 := takeL_len HM.out.1.lok (fun e => by have := HM.out.2.2.2.2; rw [e] at this; simp at this; omega); have h2 := HM.out.2.2.2.2; omega, hW3, hCk3, agree_take HM.out.1.lok HM.out.2.2.1, HM.out.2.2.2.1.trans' hC3 (fun j hj => by have := HB.out; simp at hj; omega)⟩
          case measure => simp [intOf]; omega
        · have hL2 : L2 = [] := List.eq_nil_of_length_eq_zero (by have := HM.out.2.2.2.2; omega)
          subst hL2
          have hT := takec ab mb k [] wr HM.out.1
          have e1 : headT (ordL []) = 0 := by decide
          have e2 : headB (ordL []) = false := by decide
          have e3 : takeL [] = [] := by decide
          rw [e1, e2, e3] at hT
          have HT := Lib.hid hT
          clear hT e1 e2 e3
          go_wp2_with (first
            | (go_at_call 14; refine HT.out.mono ?_; rintro e w3 ⟨rfl, hW3, hC3⟩)
            | (go_at_call 13; refine (lenc ab mb k [] _ hW3).mono ?_; rintro e w4 ⟨rfl, rfl⟩; rw [show (([] : WL).length : Int) = 0 from rfl]))
          go_ret
          exact ⟨rfl, HM.out.2.2.2.1.trans' hC3 (fun j hj => by have := HB.out; simp at hj; omega)⟩

end Go.Proofs.Ytohkjiibjljmmaa
