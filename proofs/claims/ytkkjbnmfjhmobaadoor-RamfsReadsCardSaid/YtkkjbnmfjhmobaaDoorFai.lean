
/- Package ramfs: Rename: contracts. -/
import Derived.Test.YtkkjbnmfjhmobaaDoorFag
namespace Go.Proofs.YtkkjbnmfjhmobaaDoor
open Go.RowKit

/-- Does one of the first k ways to a path lead to a node? -/
def FS.into (f : FS) (n : Int) (m : List ByteArray) : Nat → Except Int Unit
  | 0 => .ok ()
  | k + 1 => match f.into n m k with
    | .error e => .error e
    | .ok () => if f.isDir n = true then (match f.walk (m.take k) with
        | .error e => .error e
        | .ok x => if x = n then .error 22 else .ok ()) else .ok ()
def FS.nmLen (f : FS) (n : Int) : Nat := match (f.nd n).dir with
  | none => 0
  | some m => m.length
def FS.renChk (f : FS) (n o : Int) : Except Int Unit :=
  if 0 ≤ o then (if f.isDir n = true ∧ f.isDir o = false then .error 20 else if f.isDir n = false ∧ f.isDir o = true then .error 21 else if 0 < f.nmLen o then .error 39 else .ok ()) else .ok ()
def FS.renDo (f : FS) (pl pl2 : Option (Int × ByteArray)) (n o : Int) : FS := match pl, pl2 with
  | some (d, s), some (d2, s2) => if 0 ≤ o then ((f.unname d2 s2).name d s n).gone o else (f.unname d2 s2).name d s n
  | _, _ => f
def FS.renameE (f : FS) (l m : List ByteArray) : Except Int FS :=
  match f.must l with
  | .error e => .error e
  | .ok n => if l = [] ∨ m = [] then .error 16 else match f.place m with
    | .error e => .error e
    | .ok pl => match f.into n m m.length with
      | .error e => .error e
      | .ok () => match f.walk m with
        | .error e => .error e
        | .ok o => if o = n then .ok f else match f.renChk n o with
          | .error e => .error e
          | .ok () => match f.place l with
            | .error e => .error e
            | .ok pl2 => .ok (f.renDo pl pl2 n o)
theorem into_bad {f : FS} {n : Int} {m : List ByteArray} {k : Nat} {e : Int} (h : f.into n m k = .error e) : ∀ j, f.into n m (k + j) = .error e
  | 0 => h
  | j + 1 => by
    have := into_bad h j
    show f.into n m (k + j + 1) = _
    unfold FS.into
    rw [this]
theorem walk_prefix {f : FS} : ∀ (l : List ByteArray) (n k : Int), f.walkF n l = .ok k → 0 ≤ k → ∀ j, ∃ y, f.walkF n (l.take j) = .ok y := by
  intro l
  induction l with
  | nil => intro n k h _ j; exact ⟨k, by simpa using h⟩
  | cons s r ih =>
    intro n k h hk j
    cases j with
    | zero => exact ⟨n, rfl⟩
    | succ j =>
      rw [List.take_succ_cons]
      unfold FS.walkF at h ⊢
      cases hd : (f.nd n).dir with
      | none => rw [hd] at h; cases h
      | some m =>
        rw [hd] at h
        simp only at h ⊢
        cases hm : m.lookup s with
        | none =>
          rw [hm] at h
          simp only at h
          split at h
          · injection h with h; omega
          · cases h
        | some t =>
          rw [hm] at h
          simp only at h ⊢
          exact ih t k h hk j

theorem str_h (a : Option Addr) (ln cap k : Nat) (h : k ≤ cap) (W : World) : (Instr.slice 48 (.slice a ln cap) none (some (.int .i64 (k : Int))) none).run Tryd.prog W = .ok (sliced a 0 k cap 1) W := by
  rw [run_slice_h W 48 a ln cap (by kernel_rfl) .i64 k (by omega) (by omega)]
  rw [show (sizeOf (Tryd.prog.elem 48)).run Tryd.prog W = .ok 1 W by kernel_rfl]
  rfl
theorem StrsAt.take {w : World} {a : Option Addr} {ln cap : Nat} {m : List ByteArray} (h : StrsAt w (.slice a ln cap) m) (k : Nat) (hk : k ≤ m.length) : StrsAt w (sliced a 0 k cap 1) (m.take k) := by
  obtain ⟨a', cap', e, h⟩ := h
  injection e with e1 e2 e3
  subst e1 e3
  have hs : sliced a 0 k cap 1 = .slice a k cap := by
    unfold sliced
    rw [Nat.sub_zero, Nat.sub_zero]
    congr 1
    split
    · rfl
    · cases a with
      | none => rfl
      | some x => simp [Addr.add]
  rw [hs]
  refine ⟨a, cap, by rw [List.length_take, Nat.min_eq_left hk], ?_⟩
  rcases h with h | ⟨g, o, rfl, hc, h⟩
  · exact .inl (by rw [h]; simp)
  · exact .inr ⟨g, o, rfl, by rw [List.length_take]; omega, fun j x hx => h j x (by rw [List.getElem?_take] at hx; split at hx; exact hx; cases hx)⟩
theorem len_nilmap (W : World) : (Builtin.len_ #[49] 3 #[.map none]).run Tryd.prog W = .ok (.int .i64 0) W := by kernel_rfl
theorem names_name (f : FS) (d : Int) (s : ByteArray) (v : Int) : (f.name d s v).names ≤ f.names + 1 := by
  unfold FS.names
  refine sum_set_add _ nd0 1 _ _ _ ?_
  show (match ((f.nd d).dir.map (nmPut · s v)) with | none => 0 | some m => m.length) ≤ (match (f.nd d).dir with | none => 0 | some m => m.length) + 1
  cases (f.nd d).dir with
  | none => exact Nat.zero_le _
  | some m => exact nmPut_len m s v
/-- What Rename does behind its loop. -/
def FS.renT (f : FS) (l m : List ByteArray) (pl : Option (Int × ByteArray)) (n : Int) : Except Int FS := match f.walk m with
  | .error e => .error e
  | .ok o => if o = n then .ok f else match f.renChk n o with
    | .error e => .error e
    | .ok () => match f.place l with
      | .error e => .error e
      | .ok pl2 => .ok (f.renDo pl pl2 n o)
set_option maxRecDepth 100000 in
set_option maxHeartbeats 8000000 in
/-- Rename's closure. -/
theorem frename1c (fb : Nat) (mb : Nat → Nat) (vs : Nat → Value) (f : FS) (bp bq bf : Nat) (p q : ByteArray) (w : World) (h : FAt w fb mb vs f) (hL : LibW w) (hN : f.names + 1 < 4611686018427387904) (cp : w.cell? ⟨bp, 0, none⟩ = some (.string p)) (cq : w.cell? ⟨bq, 0, none⟩ = some (.string q)) (cf : w.cell? ⟨bf, 0, none⟩ = some (.pointer (some ⟨fb, 0, none⟩))) (hbd : ∀ d, d < 64 → (f.nodes.getD d nd0).dir.isSome = true → mb d ≠ bf) :
    Calls Tryd.prog 38 #[.pointer (some ⟨bp, 0, none⟩), .pointer (some ⟨bq, 0, none⟩), .pointer (some ⟨bf, 0, none⟩)] w fun e W' => EDo w W' fb mb vs f (onPaths p q f.renameE) (fun W' => Chg (blkF fb mb vs f) w W') e := by
  have H := Lib.hid (And.intro h (And.intro hL hN))
  clear h hL hN
  go_enter Tryd.func38, Tryd.ntmps38
  go_upto_region 0 with fail
  rcases hs : splitF p with _ | l
  · have HE := Lib.hid (onPaths_none (α := FS) (g := f.renameE) (.inl hs) : onPaths p q f.renameE = .error 22)
    have HS := Lib.hid (fun W (hC : Chg [] w W) => fsplit_none hs W (H.out.2.1.calm hC))
    clear hs
    rcases ht : splitF q with _ | m
    · have HT := Lib.hid (fun W (hC : Chg [] w W) => fsplit_none ht W (H.out.2.1.calm hC))
      clear ht
      go_region_with (go_at_call 24; (first | with_reducible refine (HS.out _ ?hc).mono ?_ | with_reducible refine (HT.out _ ?hc).mono ?_); (case hc => exact (Chg.refl _ _).drewN 1); rintro e w' ⟨rfl, hC⟩; refine via (P := Tryd.prog) (md := .any) (w := w) ⟨rfl, EDo.err HE.out (((Chg.refl _ _).drewN _).trans hC) ((((Chg.refl _ _).drewN _).trans hC).mono (by simp))⟩ ?_)
      all_goals trivial
    · have HT := Lib.hid (fun W (hC : Chg [] w W) => fsplit_some ht W (H.out.2.1.calm hC))
      clear ht
      go_region_with (go_at_call 24; (first | ((with_reducible refine (HT.out _ ?hc).mono ?_); (case hc => exact (Chg.refl _ _).drewN 1); rintro e w' ⟨v, rfl, hv, hC⟩; have cp1 := cell_chg (((Chg.refl _ _).drewN _).trans hC) (by simp) cp; have HC1 := Lib.hid (((Chg.refl _ _).drewN _).trans hC); clear hv hC) | ((with_reducible refine (HS.out _ ?hc).mono ?_); (case hc => first | exact (Chg.refl _ _).drewN 1 | exact HC1.out); rintro e w' ⟨rfl, hC⟩; first | (refine via (P := Tryd.prog) (md := .any) (w := w) ⟨rfl, EDo.err HE.out (((Chg.refl _ _).drewN _).trans hC) ((((Chg.refl _ _).drewN _).trans hC).mono (by simp))⟩ ?_) | (refine via (P := Tryd.prog) (md := .any) (w := w) ⟨rfl, EDo.err HE.out (HC1.out.trans hC) ((HC1.out.trans hC).mono (by simp))⟩ ?_))))
      all_goals trivial
  · rcases ht : splitF q with _ | m
    · have HE := Lib.hid (onPaths_none (α := FS) (g := f.renameE) (.inr ht) : onPaths p q f.renameE = .error 22)
      have HS := Lib.hid (fun W (hC : Chg [] w W) => fsplit_some hs W (H.out.2.1.calm hC))
      have HT := Lib.hid (fun W (hC : Chg [] w W) => fsplit_none ht W (H.out.2.1.calm hC))
      clear hs ht
      go_region_with (go_at_call 24; (first | ((with_reducible refine (HS.out _ ?hc).mono ?_); (case hc => exact (Chg.refl _ _).drewN 1); rintro e w' ⟨v, rfl, hv, hC⟩; have cp1 := cell_chg (((Chg.refl _ _).drewN _).trans hC) (by simp) cq; have HC1 := Lib.hid (((Chg.refl _ _).drewN _).trans hC); clear hv hC) | ((with_reducible refine (HT.out _ ?hc).mono ?_); (case hc => first | exact (Chg.refl _ _).drewN 1 | exact HC1.out); rintro e w' ⟨rfl, hC⟩; first | (refine via (P := Tryd.prog) (md := .any) (w := w) ⟨rfl, EDo.err HE.out (((Chg.refl _ _).drewN _).trans hC) ((((Chg.refl _ _).drewN _).trans hC).mono (by simp))⟩ ?_) | (refine via (P := Tryd.prog) (md := .any) (w := w) ⟨rfl, EDo.err HE.out (HC1.out.trans hC) ((HC1.out.trans hC).mono (by simp))⟩ ?_))))
      all_goals trivial
    · have HLL := Lib.hid (show l.length ≤ 600 by have := splitF_len hs; omega)
      have HLM := Lib.hid (show m.length ≤ 600 by have := splitF_len ht; omega)
      have HOP := Lib.hid (fun r (h : f.renameE l m = r) => onPaths_some (p := p) (q := q) hs ht h)
      have HS := Lib.hid (fun W (hC : Chg [] w W) => fsplit_some hs W (H.out.2.1.calm hC))
      have HT := Lib.hid (fun W (hC : Chg [] w W) => fsplit_some ht W (H.out.2.1.calm hC))
      clear hs ht
      go_cut [3, 4] from 12 to 106 (fun a b wx => StrsAt wx a l ∧ StrsAt wx b m ∧ Chg [] w wx)
      case first =>
        go_region_with (go_at_call 24; (first | ((with_reducible refine (HS.out _ ?hc).mono ?_); (case hc => first | exact (Chg.refl _ _).drewN 1 | exact HC1.out.2); rintro e w' ⟨v1, rfl, hv, hC⟩; first | (have HC2 := Lib.hid (And.intro hv (And.intro (HC1.out.1.calm hC) (HC1.out.2.trans hC))); clear hv hC) | (have cq1 := cell_chg (((Chg.refl _ _).drewN _).trans hC) (by simp) cq; have HC1 := Lib.hid (And.intro hv (((Chg.refl _ _).drewN _).trans hC)); clear hv hC)) | ((with_reducible refine (HT.out _ ?hc).mono ?_); (case hc => first | exact (Chg.refl _ _).drewN 1 | exact HC1.out.2); rintro e w' ⟨v2, rfl, hv, hC⟩; first | (have HC2 := Lib.hid (And.intro (HC1.out.1.calm hC) (And.intro hv (HC1.out.2.trans hC))); clear hv hC) | (have cp1 := cell_chg (((Chg.refl _ _).drewN _).trans hC) (by simp) cp; have HC1 := Lib.hid (And.intro hv (((Chg.refl _ _).drewN _).trans hC)); clear hv hC))))
        all_goals
          go_wp2_with fail
          go_meet
          exact HC2.out
      case rest =>
        obtain ⟨⟨la, lc, rfl, hlc⟩, ⟨ma, mc, rfl, hmc⟩, hC⟩ := hcut
        have hcL : l.length ≤ lc ∨ l.length = 0 := by rcases hlc with h | ⟨_, _, _, h, _⟩; exact .inr (by rw [h]; rfl); exact .inl h
        have hcM : m.length ≤ mc ∨ m.length = 0 := by rcases hmc with h | ⟨_, _, _, h, _⟩; exact .inr (by rw [h]; rfl); exact .inl h
        have HC := Lib.hid (And.intro (show StrsAt wc (.slice la l.length lc) l from ⟨la, lc, rfl, hlc⟩) (And.intro (show StrsAt wc (.slice ma m.length mc) m from ⟨ma, mc, rfl, hmc⟩) hC))
        have cf1 := cell_chg hC (by simp) cf
        clear hlc hmc hC cf cp cq
        obtain ⟨ll, hll⟩ : ∃ ll, ll = l.length := ⟨_, rfl⟩
        obtain ⟨ml, hml⟩ : ∃ ml, ml = m.length := ⟨_, rfl⟩
        rw [← hll] at hcL
        rw [← hml] at hcM
        rw [← hll, ← hml] at HC ⊢
        have HE0 := Lib.hid (And.intro hll hml)
        clear hll hml
        go_wp2_with fail
        refine (fmustc fb mb vs f _ l HLL.out _ (H.out.1.calm HC.out.2.2) HC.out.1).mono ?_
        rcases hm : f.must l with c | n0
        · rintro e w' ⟨rfl, rfl⟩
          exact ⟨rfl, EDo.err (HOP.out _ (by unfold FS.renameE; rw [hm])) HC.out.2.2 (HC.out.2.2.mono (by simp))⟩
        obtain ⟨n, rfl, hn, hni⟩ := must_bound H.out.1.inv hm
        rintro e w' ⟨rfl, rfl⟩
        have HM := Lib.hid hm
        clear hm
        have HNI := Lib.hid hni
        clear hni
        by_cases hne : l = [] ∨ m = []
        · have HE := Lib.hid (HOP.out (.error 16) (by unfold FS.renameE; rw [HM.out]; simp only; rw [if_pos hne]))
          by_cases hl0 : ll = 0
          · have k1 : ((ll : Int) == 0) = true := by simp [hl0]
            have k1' : (ll == 0) = true := by simp [hl0]
            have k1'' : decide (ll = 0) = true := by simp [hl0]
            clear hne hl0
            go_wp2_with fail
            refine (notc 16 _).mono ?_
            rintro e w' ⟨rfl, rfl⟩
            exact ⟨rfl, EDo.err HE.out HC.out.2.2 (HC.out.2.2.mono (by simp))⟩
          · have hm0 : ml = 0 := by
              rcases hne with h | h
              · exact absurd (by rw [HE0.out.1, h]; rfl) hl0
              · rw [HE0.out.2, h]; rfl
            have k1 : ((ll : Int) == 0) = false := by simp [hl0]
            have k1' : (ll == 0) = false := by simp [hl0]
            have k2 : ((ml : Int) == 0) = true := by simp [hm0]
            have k2' : (ml == 0) = true := by simp [hm0]
            clear hne hl0 hm0
            go_wp2_with fail
            refine (notc 16 _).mono ?_
            rintro e w' ⟨rfl, rfl⟩
            exact ⟨rfl, EDo.err HE.out HC.out.2.2 (HC.out.2.2.mono (by simp))⟩
        have HNE := Lib.hid hne
        have hl0 : ll ≠ 0 := fun e => hne (.inl (List.eq_nil_of_length_eq_zero (HE0.out.1.symm.trans e)))
        have hm0 : ml ≠ 0 := fun e => hne (.inr (List.eq_nil_of_length_eq_zero (HE0.out.2.symm.trans e)))
        have k1 : ((ll : Int) == 0) = false := by simp [hl0]
        have k1' : (ll == 0) = false := by simp [hl0]
        have k2 : ((ml : Int) == 0) = false := by simp [hm0]
        have k2' : (ml == 0) = false := by simp [hm0]
        clear hne
        go_wp2_with fail
        refine (nofc 16 _).mono ?_
        rintro e w' ⟨rfl, rfl⟩
        clear k1 k1' k2 k2'
        go_wp2_with fail
        refine (fplacec fb mb vs f _ m HLM.out _ (H.out.1.calm HC.out.2.2) HC.out.2.1).mono ?_
        rcases hp : f.place m with c | o1
        · rintro e w2 ⟨rfl, hC2⟩
          have hC := HC.out.2.2.trans hC2
          exact ⟨rfl, EDo.err (HOP.out _ (by unfold FS.renameE; rw [HM.out]; simp only; rw [if_neg HNE.out, hp])) hC (hC.mono (by simp))⟩
        rcases o1 with _ | ⟨d0, s⟩
        · exact absurd (place_none hp) (fun e => HNE.out (.inr e))
        obtain ⟨d, rfl, hd64, hddd⟩ := place_some H.out.1.inv hp
        rintro e w2 ⟨he, hC2⟩
        have he' : e = .returned (.tuple #[.map (some (mb d)), .string s]) := he
        subst he'
        clear he
        have HC2 := Lib.hid (HC.out.2.2.trans hC2)
        have HV := Lib.hid (And.intro (HC.out.1.calm hC2) (HC.out.2.1.calm hC2))
        have cf2 := cell_chg hC2 (by simp) cf1
        have HPX := Lib.hid (show ∀ k, k < ml → ∃ y, f.walk (m.take k) = .ok y from by
          intro k hk
          have hx : ∃ x, f.must m.dropLast = .ok x := by
            unfold FS.place at hp
            rw [if_neg (fun e => HNE.out (.inr e))] at hp
            cases hq : f.must m.dropLast with
            | error e => rw [hq] at hp; cases hp
            | ok x => exact ⟨x, rfl⟩
          obtain ⟨x, hx⟩ := hx
          obtain ⟨xk, rfl, _, _⟩ := must_bound H.out.1.inv hx
          unfold FS.must at hx
          cases hw : f.walk m.dropLast with
          | error e => rw [hw] at hx; cases hx
          | ok z =>
            rw [hw] at hx
            simp only at hx
            split at hx
            · cases hx
            · injection hx with hx
              subst hx
              obtain ⟨y, hy⟩ := walk_prefix m.dropLast 0 _ hw (by omega) k
              refine ⟨y, ?_⟩
              rw [← hy]
              show f.walkF 0 (m.take k) = f.walkF 0 (m.dropLast.take k)
              rw [List.dropLast_eq_take, List.take_take, Nat.min_eq_left (by have := HE0.out.2; omega)])
        have HU := Lib.hid (fun (hi : f.into n m ml = .ok ()) => show f.renameE l m = f.renT l m (some ((d : Int), s)) n from by
          unfold FS.renameE
          rw [HM.out]
          simp only
          rw [if_neg HNE.out, hp]
          simp only
          rw [← HE0.out.2, hi]
          rfl)
        have HUB := Lib.hid (fun k e (hk : k ≤ ml) (hi : f.into n m k = .error e) => show f.renameE l m = .error e from by
          have h2 := into_bad hi (ml - k)
          rw [Nat.add_sub_cancel' hk] at h2
          unfold FS.renameE
          rw [HM.out]
          simp only
          rw [if_neg HNE.out, hp]
          simp only
          rw [← HE0.out.2, h2])
        clear hp hC2 cf1
        have hmc : ml ≤ mc := by rcases hcM with h | h; exact h; omega
        have hml6 : ml ≤ 600 := by rw [HE0.out.2]; exact HLM.out
        go_wp2_with fail
        go_loopw [36] (fun iv wr => ∃ k : Nat, k ≤ ml ∧ iv = .int .i64 k ∧ f.into n m k = .ok () ∧ Chg [] w2 wr) (fun iv _ => ml - (intOf iv).toNat)
        case atStart => exact ⟨0, by omega, rfl, rfl, Chg.refl _ _⟩
        case round =>
          obtain ⟨k, hk, rfl, hin, hCr⟩ := hrel
          have HIN := Lib.hid hin
          have HCR := Lib.hid hCr
          have cfr := cell_chg hCr (by simp) cf2
          clear hin hCr
          by_cases hlt : k < ml
          · have k3 : decide ((k : Int) < (ml : Int)) = true := decide_eq_true (by omega)
            have k3' : decide (k < ml) = true := decide_eq_true hlt
            have hwr : IntKind.i64.wrap ((k : Int) + 1) = (k : Int) + 1 := by rw [IntKind.wrap_i64] <;> omega
            cases hdn : f.isDir n with
            | false =>
              have HDN := Lib.hid (fun W (hC : Chg [] wr W) => show Calls Tryd.prog 29 #[.pointer (some ⟨fb, 0, none⟩), .int .i64 n] W (fun e w' => e = .returned (.bool false) ∧ W = w') from by
                have := fdirc fb mb vs f n hn W (H.out.1.calm ((HC2.out.trans HCR.out).trans hC))
                rw [hdn] at this
                exact this)
              have HI2 := Lib.hid (show f.into n m (k + 1) = .ok () by unfold FS.into; rw [HIN.out]; simp only; rw [if_neg (by rw [hdn]; simp)])
              clear hdn
              go_upto_region 7 with fail
              go_quiet (first | (go_at_call 29; exact Calls.quiet_of_same ((HDN.out _ ((Chg.refl _ _).drewN _)).mono fun _ _ ⟨a, b⟩ => And.intro a b.symm)) | (go_at_call 25; exact Calls.quiet_of_same ((nofc 22 _).mono fun _ _ ⟨a, b⟩ => And.intro a b.symm)))
              go_wp2
              go_roundw
              case rel => exact ⟨k + 1, by omega, by first | rfl | go_num, HI2.out, HCR.out.drewN _⟩
              case measure => simp [intOf]; omega
            | true =>
              obtain ⟨y, hy⟩ := HPX.out k hlt
              have hCd := (HC2.out.trans HCR.out).drewN 1
              have HDN := fdirc fb mb vs f n hn wr.drew (H.out.1.calm hCd)
              rw [hdn] at HDN
              have HDQ := Lib.hid (HDN.mono fun e w' ⟨a, b⟩ => (⟨a, b.symm⟩ : e = Ending.returned (.bool true) ∧ w' = wr.drew))
              have hst := (HV.out.2.calm (HCR.out.drewN 1)).take k (by have := HE0.out.2; omega)
              have HWK := fwalkc fb mb vs f _ (m.take k) (by rw [List.length_take]; have := HLM.out; omega) wr.drew (H.out.1.calm hCd) hst
              rw [hy] at HWK
              have HWQ := Lib.hid (HWK.mono fun e w' (h : e = Ending.returned (.int .i64 y) ∧ wr.drew = w') => (⟨h.1, h.2.symm⟩ : e = Ending.returned (.int .i64 y) ∧ w' = wr.drew))
              have hsl := str_h ma ml mc k (by omega)
              have hkc : (k : Int) ≤ (mc : Int) := by omega
              have HID := Lib.hid (And.intro hdn hy)
              clear HDN HWK hst hCd hdn hy
              generalize sliced ma 0 k mc 1 = SV at *
              by_cases hyn : y = n
              · have hyb : (y == (n : Int)) = true := by simp [hyn]
                have HIB := Lib.hid (show f.into n m (k + 1) = .error 22 by unfold FS.into; rw [HIN.out]; simp only; rw [if_pos HID.out.1, HID.out.2]; simp only; rw [if_pos hyn])
                clear hyn
                go_upto_region 7 with fail
                refine region_still_tail 12 (by kernel_rfl) (by kernel_rfl) ?_
                simp only [List.take_succ_cons, List.take_zero, List.drop_succ_cons, List.drop_zero]
                iterate 2 still_step
                still_call HDQ.out
                iterate 5 still_step
                still_call HWQ.out
                repeat still_step
                refine wpStill_nil ?_
                go_wp2_with fail
                refine (notc 22 _).mono ?_
                rintro e w' ⟨rfl, rfl⟩
                have hC := (HC2.out.trans HCR.out).drewN 1
                exact ⟨rfl, EDo.err (HOP.out _ (HUB.out (k + 1) 22 (by omega) HIB.out)) hC (hC.mono (by simp))⟩
              · have hyb : (y == (n : Int)) = false := by simp [hyn]
                have HI2 := Lib.hid (show f.into n m (k + 1) = .ok () by unfold FS.into; rw [HIN.out]; simp only; rw [if_pos HID.out.1, HID.out.2]; simp only; rw [if_neg hyn])
                clear hyn
                go_upto_region 7 with fail
                refine region_still_tail 12 (by kernel_rfl) (by kernel_rfl) ?_
                simp only [List.take_succ_cons, List.take_zero, List.drop_succ_cons, List.drop_zero]
                iterate 2 still_step
                still_call HDQ.out
                iterate 5 still_step
                still_call HWQ.out
                repeat still_step
                refine wpStill_nil ?_
                go_wp2_with fail
                refine (nofc 22 _).mono ?_
                rintro e w' ⟨rfl, rfl⟩
                go_wp2
                go_roundw
                case rel => exact ⟨k + 1, by omega, by first | rfl | go_num, HI2.out, HCR.out.drewN 1⟩
                case measure => simp [intOf]; omega
          · obtain rfl : k = ml := by omega
            have k3 : decide ((k : Int) < (k : Int)) = false := decide_eq_false (by omega)
            have HU' := Lib.hid (HU.out HIN.out)
            have HT2 := Lib.hid (HC2.out.trans HCR.out)
            have HTV := Lib.hid HCR.out
            have cft := cfr
            clear HU
            have HU := HU'
            clear HU' hlt hk
            have hni := HNI.out
            go_wp2_with fail
            refine (fwalkc fb mb vs f _ m HLM.out _ (H.out.1.calm HT2.out) (HV.out.2.calm HTV.out)).mono ?_
            rcases hw : f.walk m with c | o
            · rintro e w' ⟨rfl, rfl⟩
              exact ⟨rfl, EDo.err (HOP.out _ (by rw [HU.out]; unfold FS.renT; rw [hw])) HT2.out (HT2.out.mono (by simp))⟩
            rintro e w' ⟨rfl, rfl⟩
            have HW := Lib.hid hw
            by_cases hon : o = n
            · have hob : (o == (n : Int)) = true := by simp [hon]
              have HE := Lib.hid (HOP.out (.ok f) (by rw [HU.out]; unfold FS.renT; rw [hw]; simp only; rw [if_pos hon]))
              clear hw hon hni
              go_wp2
              refine bodyPost_ret (v := .tuple #[]) ?_ rfl (EDo.ok HE.out (H.out.1.step HT2.out) (HT2.out.mono (by simp)))
              simp [results, Tryd.results38, go_sem]
            · have hob : (o == (n : Int)) = false := by simp [hon]
              have HON := Lib.hid hon
              have hwb := walk_bound H.out.1.inv hw
              clear hw hon
              by_cases ho : 0 ≤ o
              · obtain ⟨oo, rfl⟩ := Int.eq_ofNat_of_zero_le ho
                have ho64 : oo < 64 := by omega
                have koz : (oo : Int) < 64 := by omega
                have ko : decide ((oo : Int) ≥ 0) = true := decide_eq_true ho
                have HDN := Lib.hid (fdirc fb mb vs f n hn wr (H.out.1.calm HT2.out))
                have HDO := Lib.hid (fdirc fb mb vs f oo ho64 wr (H.out.1.calm HT2.out))
                have HO := Lib.hid ho
                clear hwb ho
                cases hdn : f.isDir n with
                | true =>
                  rw [hdn] at HDN
                  cases hdo : f.isDir oo with
                  | false =>
                    rw [hdo] at HDO
                    have HE := Lib.hid (HOP.out (.error 20) (by rw [HU.out]; unfold FS.renT; rw [HW.out]; simp only; rw [if_neg HON.out, show f.renChk n oo = .error 20 by unfold FS.renChk; rw [if_pos HO.out, if_pos ⟨hdn, hdo⟩]]))
                    clear hdn hdo
                    go_wp2_with fail
                    refine HDN.out.mono ?_
                    rintro e w' ⟨rfl, rfl⟩
                    go_wp2_with fail
                    refine HDO.out.mono ?_
                    rintro e w' ⟨rfl, rfl⟩
                    go_wp2_with fail
                    refine (notc 20 _).mono ?_
                    rintro e w' ⟨rfl, rfl⟩
                    exact ⟨rfl, EDo.err HE.out HT2.out (HT2.out.mono (by simp))⟩
                  | true =>
                    rw [hdo] at HDO
                    have hF := H.out.1.calm HT2.out
                    have c1 := (hF.cN ho64).2.1
                    have hdo' : (f.nodes.getD oo nd0).dir.isSome = true := hdo
                    obtain ⟨mo, hmo⟩ := Option.isSome_iff_exists.1 hdo'
                    rw [hdo', if_pos rfl] at c1
                    have hln := sRun_len_P (P := Tryd.prog) Tryd.underlying49 (hF.mp oo ho64 mo hmo) 3
                    rw [show (namesV mo).length = mo.length from List.length_map _] at hln
                    have hnl : f.nmLen oo = mo.length := by unfold FS.nmLen; rw [show (f.nd (oo : Int)).dir = some mo from hmo]
                    have HCK0 := Lib.hid (show f.renChk n oo = if 0 < mo.length then .error 39 else .ok () by unfold FS.renChk; rw [if_pos HO.out, if_neg (by rw [hdo]; simp), if_neg (by rw [hdn]; simp), hnl])
                    clear hdn hdo hF hdo' hmo hnl
                    generalize mo.length = mol at *
                    go_wp2_with fail
                    refine HDN.out.mono ?_
                    rintro e w' ⟨rfl, rfl⟩
                    go_wp2_with fail
                    refine HDO.out.mono ?_
                    rintro e w' ⟨rfl, rfl⟩
                    go_wp2_with fail
                    refine (nofc 20 _).mono ?_
                    rintro e w' ⟨rfl, rfl⟩
                    go_wp2_with fail
                    refine HDN.out.mono ?_
                    rintro e w' ⟨rfl, rfl⟩
                    go_wp2_with fail
                    refine (nofc 21 _).mono ?_
                    rintro e w' ⟨rfl, rfl⟩
                    by_cases hmz : 0 < mol
                    · have k5 : decide ((mol : Int) > 0) = true := decide_eq_true (by omega)
                      have k5' : decide (0 < mol) = true := decide_eq_true hmz
                      have HE := Lib.hid (HOP.out (.error 39) (by rw [HU.out]; unfold FS.renT; rw [HW.out]; simp only; rw [if_neg HON.out, HCK0.out, if_pos hmz]))
                      clear hmz
                      go_wp2_with fail
                      refine (notc 39 _).mono ?_
                      rintro e w' ⟨rfl, rfl⟩
                      exact ⟨rfl, EDo.err HE.out HT2.out (HT2.out.mono (by simp))⟩
                    · have k5 : decide ((mol : Int) > 0) = false := decide_eq_false (by omega)
                      have k5' : decide (0 < mol) = false := decide_eq_false hmz
                      have HCK := Lib.hid (show f.renChk n oo = .ok () by rw [HCK0.out, if_neg hmz])
                      clear hmz
                      go_wp2_with fail
                      refine (nofc 39 _).mono ?_
                      rintro e w' ⟨rfl, rfl⟩
                      clear k5 k5' hln c1
                      -- the world wt, HT2 : Chg [] w wt; HCK : f.renChk n o = .ok ()
                      go_wp2_with fail
                      refine (fplacec fb mb vs f _ l HLL.out _ (H.out.1.calm HT2.out) (HV.out.1.calm HTV.out)).mono ?_
                      rcases hp2 : f.place l with c | o2
                      · rintro e w5 ⟨rfl, hC5⟩
                        have hC := HT2.out.trans hC5
                        exact ⟨rfl, EDo.err (HOP.out _ (by rw [HU.out]; unfold FS.renT; rw [HW.out]; simp only; rw [if_neg HON.out, HCK.out]; simp only; rw [hp2])) hC (hC.mono (by simp))⟩
                      rcases o2 with _ | ⟨d20, s2⟩
                      · exact absurd (place_none hp2) (fun e => HNE.out (.inl e))
                      obtain ⟨d2, rfl, hd264, hdd2⟩ := place_some H.out.1.inv hp2
                      rintro e w5 ⟨he, hC5⟩
                      have he' : e = .returned (.tuple #[.map (some (mb d2)), .string s2]) := he
                      subst he'
                      clear he
                      have HC5 := Lib.hid (HT2.out.trans hC5)
                      have cf5 := cell_chg hC5 (by simp) cft
                      have hF5 := H.out.1.calm HC5.out
                      obtain ⟨m2, hm2⟩ := Option.isSome_iff_exists.1 hdd2
                      obtain ⟨W6, hdl, hmd, hC6⟩ := sRun_delete_P (P := Tryd.prog) Tryd.underlying49 Tryd.underlying9 (hF5.mp d2 hd264 m2 hm2) s2 9 0
                      rw [sMdel_names] at hmd
                      obtain ⟨t1, t2⟩ := H.out.1.inv.dirAt hd264 hm2
                      have hs6 := hF5.setDir hd264 hdd2 (m := nmDel m2 s2) (fun p hp => t1 p ((nmDel_sub m2 s2).subset hp)) (((nmDel_sub m2 s2).map _).nodup t2) hC6 hmd
                      have hu6 : f.unname d2 s2 = f.setN d2 { f.nodes.getD d2 nd0 with dir := some (nmDel m2 s2) } := by
                        unfold FS.unname
                        rw [show f.nd (d2 : Int) = f.nodes.getD d2 nd0 from rfl, hm2]
                        rfl
                      rw [← hu6] at hs6
                      have hmb6 : updN mb d2 (mb d2) = mb := by funext j; unfold updN; split <;> simp_all
                      have hvs6 : updN vs d2 (vs d2) = vs := by funext j; unfold updN; split <;> simp_all
                      rw [hmb6, hvs6] at hs6
                      obtain ⟨f6, hf6⟩ : ∃ f6, f6 = f.unname d2 s2 := ⟨_, rfl⟩
                      rw [← hf6] at hs6
                      have hdd6 : (f6.nodes.getD d nd0).dir.isSome = true := by
                        rw [hf6, hu6]
                        by_cases e : d = d2
                        · subst e; rw [setN_same H.out.1.inv.ln hd64]; rfl
                        · rw [setN_ne f _ e]; exact hddd
                      obtain ⟨m6, hm6⟩ := Option.isSome_iff_exists.1 hdd6
                      obtain ⟨W7, hup, hmu, hC7⟩ := sRun_update_P (P := Tryd.prog) Tryd.underlying49 Tryd.underlying9 (hs6.at_.mp d hd64 m6 hm6) s (.int .i64 n)
                      rw [sMupd_names] at hmu
                      obtain ⟨t3, t4⟩ := hs6.at_.inv.dirAt hd64 hm6
                      have hni6 : (f6.nd (n : Int)).is = true := by
                        rw [hf6, hu6]
                        by_cases e : n = d2
                        · subst e; rw [show (f.setN n { f.nodes.getD n nd0 with dir := some (nmDel m2 s2) }).nd (n : Int) = { f.nodes.getD n nd0 with dir := some (nmDel m2 s2) } from setN_same H.out.1.inv.ln hn _]; exact hni
                        · rw [show (f.setN d2 { f.nodes.getD d2 nd0 with dir := some (nmDel m2 s2) }).nd (n : Int) = f.nd (n : Int) from setN_ne f _ e]; exact hni
                      have hs7 := hs6.at_.setDir hd64 hdd6 (m := nmPut m6 s n) (fun p hp => (nmPut_mem p hp).elim (fun e => by rw [e]; exact ⟨by simp, by simp; omega, hni6⟩) (t3 p)) (nmPut_keys t4) hC7 hmu
                      have hu7 : f6.name d s n = f6.setN d { f6.nodes.getD d nd0 with dir := some (nmPut m6 s n) } := by
                        unfold FS.name
                        rw [show f6.nd (d : Int) = f6.nodes.getD d nd0 from rfl, hm6]
                        rfl
                      rw [← hu7] at hs7
                      obtain ⟨f7, hf7⟩ : ∃ f7, f7 = f6.name d s n := ⟨_, rfl⟩
                      rw [← hf7] at hs7
                      have hN7 : f7.names < 4611686018427387904 := by
                        have h1 := names_unname f d2 s2
                        have h2 := names_name f6 d s n
                        have h3 := H.out.2.2
                        rw [← hf6] at h1
                        rw [← hf7] at h2
                        omega
                      have HS7 := Lib.hid (And.intro ((H.out.1.step HC5.out).trans (hs6.trans hs7)) hN7)
                      have HE7 := Lib.hid (fun r (h : (if 0 ≤ (oo : Int) then f7.gone (oo : Int) else f7) = r) => HOP.out (.ok r) (by rw [HU.out]; unfold FS.renT; rw [HW.out]; simp only; rw [if_neg HON.out, HCK.out]; simp only; rw [hp2, ← h, hf7, hf6]; rfl))
                      have cf7 := cell_chg hC7 (by simpa using (hbd d hd64 hddd).symm) (cell_chg hC6 (by simpa using (hbd d2 hd264 hdd2).symm) cf5)
                      clear hs6 hs7 hu6 hu7 hmb6 hvs6 hf6 hf7 hdd6 hm6 hmu hmd t1 t2 t3 t4 hni6 hN7 hp2 hm2 hdd2 hC6 hC7 hC5 hF5
                      go_wp2_with fail
                      refine (fgonec fb _ _ f7 oo ho64 _ HS7.out.1.at_ HS7.out.2).mono ?_
                      rintro e w9 ⟨rfl, mb9, vs9, h9⟩
                      have HS9 := Lib.hid (HS7.out.1.trans h9)
                      clear h9
                      go_wp2
                      exact ⟨rfl, _, results_none rfl _ _ _, EDo.ok (HE7.out _ (if_pos HO.out)) HS9.out HS9.out.chg⟩
                | false =>
                  rw [hdn] at HDN
                  cases hdo : f.isDir oo with
                  | true =>
                    rw [hdo] at HDO
                    have HE := Lib.hid (HOP.out (.error 21) (by rw [HU.out]; unfold FS.renT; rw [HW.out]; simp only; rw [if_neg HON.out, show f.renChk n oo = .error 21 by unfold FS.renChk; rw [if_pos HO.out, if_neg (by rw [hdn]; simp), if_pos ⟨hdn, hdo⟩]]))
                    clear hdn hdo
                    go_wp2_with fail
                    refine HDN.out.mono ?_
                    rintro e w' ⟨rfl, rfl⟩
                    go_wp2_with fail
                    refine (nofc 20 _).mono ?_
                    rintro e w' ⟨rfl, rfl⟩
                    go_wp2_with fail
                    refine HDN.out.mono ?_
                    rintro e w' ⟨rfl, rfl⟩
                    go_wp2_with fail
                    refine HDO.out.mono ?_
                    rintro e w' ⟨rfl, rfl⟩
                    go_wp2_with fail
                    refine (notc 21 _).mono ?_
                    rintro e w' ⟨rfl, rfl⟩
                    exact ⟨rfl, EDo.err HE.out HT2.out (HT2.out.mono (by simp))⟩
                  | false =>
                    rw [hdo] at HDO
                    have hF := H.out.1.calm HT2.out
                    have c1 := (hF.cN ho64).2.1
                    have hdo' : (f.nodes.getD oo nd0).dir.isSome = false := hdo
                    rw [hdo', if_neg (by simp)] at c1
                    have hlz := len_nilmap wr
                    have hnl : f.nmLen oo = 0 := by
                      unfold FS.nmLen
                      rw [nd_of]
                      cases hq : (f.nodes.getD oo nd0).dir with
                      | none => rfl
                      | some x => rw [hq] at hdo'; cases hdo'
                    have HCK := Lib.hid (show f.renChk n oo = .ok () by unfold FS.renChk; rw [if_pos HO.out, if_neg (by rw [hdn]; simp), if_neg (by rw [hdo]; simp), hnl]; rfl)
                    clear hdn hdo hF hdo' hnl
                    go_wp2_with fail
                    refine HDN.out.mono ?_
                    rintro e w' ⟨rfl, rfl⟩
                    go_wp2_with fail
                    refine (nofc 20 _).mono ?_
                    rintro e w' ⟨rfl, rfl⟩
                    go_wp2_with fail
                    refine HDN.out.mono ?_
                    rintro e w' ⟨rfl, rfl⟩
                    go_wp2_with fail
                    refine HDO.out.mono ?_
                    rintro e w' ⟨rfl, rfl⟩
                    go_wp2_with fail
                    refine (nofc 21 _).mono ?_
                    rintro e w' ⟨rfl, rfl⟩
                    go_wp2_with fail
                    refine (nofc 39 _).mono ?_
                    rintro e w' ⟨rfl, rfl⟩
                    clear hlz c1
                    -- the world wt, HT2 : Chg [] w wt; HCK : f.renChk n o = .ok ()
                    go_wp2_with fail
                    refine (fplacec fb mb vs f _ l HLL.out _ (H.out.1.calm HT2.out) (HV.out.1.calm HTV.out)).mono ?_
                    rcases hp2 : f.place l with c | o2
                    · rintro e w5 ⟨rfl, hC5⟩
                      have hC := HT2.out.trans hC5
                      exact ⟨rfl, EDo.err (HOP.out _ (by rw [HU.out]; unfold FS.renT; rw [HW.out]; simp only; rw [if_neg HON.out, HCK.out]; simp only; rw [hp2])) hC (hC.mono (by simp))⟩
                    rcases o2 with _ | ⟨d20, s2⟩
                    · exact absurd (place_none hp2) (fun e => HNE.out (.inl e))
                    obtain ⟨d2, rfl, hd264, hdd2⟩ := place_some H.out.1.inv hp2
                    rintro e w5 ⟨he, hC5⟩
                    have he' : e = .returned (.tuple #[.map (some (mb d2)), .string s2]) := he
                    subst he'
                    clear he
                    have HC5 := Lib.hid (HT2.out.trans hC5)
                    have cf5 := cell_chg hC5 (by simp) cft
                    have hF5 := H.out.1.calm HC5.out
                    obtain ⟨m2, hm2⟩ := Option.isSome_iff_exists.1 hdd2
                    obtain ⟨W6, hdl, hmd, hC6⟩ := sRun_delete_P (P := Tryd.prog) Tryd.underlying49 Tryd.underlying9 (hF5.mp d2 hd264 m2 hm2) s2 9 0
                    rw [sMdel_names] at hmd
                    obtain ⟨t1, t2⟩ := H.out.1.inv.dirAt hd264 hm2
                    have hs6 := hF5.setDir hd264 hdd2 (m := nmDel m2 s2) (fun p hp => t1 p ((nmDel_sub m2 s2).subset hp)) (((nmDel_sub m2 s2).map _).nodup t2) hC6 hmd
                    have hu6 : f.unname d2 s2 = f.setN d2 { f.nodes.getD d2 nd0 with dir := some (nmDel m2 s2) } := by
                      unfold FS.unname
                      rw [show f.nd (d2 : Int) = f.nodes.getD d2 nd0 from rfl, hm2]
                      rfl
                    rw [← hu6] at hs6
                    have hmb6 : updN mb d2 (mb d2) = mb := by funext j; unfold updN; split <;> simp_all
                    have hvs6 : updN vs d2 (vs d2) = vs := by funext j; unfold updN; split <;> simp_all
                    rw [hmb6, hvs6] at hs6
                    obtain ⟨f6, hf6⟩ : ∃ f6, f6 = f.unname d2 s2 := ⟨_, rfl⟩
                    rw [← hf6] at hs6
                    have hdd6 : (f6.nodes.getD d nd0).dir.isSome = true := by
                      rw [hf6, hu6]
                      by_cases e : d = d2
                      · subst e; rw [setN_same H.out.1.inv.ln hd64]; rfl
                      · rw [setN_ne f _ e]; exact hddd
                    obtain ⟨m6, hm6⟩ := Option.isSome_iff_exists.1 hdd6
                    obtain ⟨W7, hup, hmu, hC7⟩ := sRun_update_P (P := Tryd.prog) Tryd.underlying49 Tryd.underlying9 (hs6.at_.mp d hd64 m6 hm6) s (.int .i64 n)
                    rw [sMupd_names] at hmu
                    obtain ⟨t3, t4⟩ := hs6.at_.inv.dirAt hd64 hm6
                    have hni6 : (f6.nd (n : Int)).is = true := by
                      rw [hf6, hu6]
                      by_cases e : n = d2
                      · subst e; rw [show (f.setN n { f.nodes.getD n nd0 with dir := some (nmDel m2 s2) }).nd (n : Int) = { f.nodes.getD n nd0 with dir := some (nmDel m2 s2) } from setN_same H.out.1.inv.ln hn _]; exact hni
                      · rw [show (f.setN d2 { f.nodes.getD d2 nd0 with dir := some (nmDel m2 s2) }).nd (n : Int) = f.nd (n : Int) from setN_ne f _ e]; exact hni
                    have hs7 := hs6.at_.setDir hd64 hdd6 (m := nmPut m6 s n) (fun p hp => (nmPut_mem p hp).elim (fun e => by rw [e]; exact ⟨by simp, by simp; omega, hni6⟩) (t3 p)) (nmPut_keys t4) hC7 hmu
                    have hu7 : f6.name d s n = f6.setN d { f6.nodes.getD d nd0 with dir := some (nmPut m6 s n) } := by
                      unfold FS.name
                      rw [show f6.nd (d : Int) = f6.nodes.getD d nd0 from rfl, hm6]
                      rfl
                    rw [← hu7] at hs7
                    obtain ⟨f7, hf7⟩ : ∃ f7, f7 = f6.name d s n := ⟨_, rfl⟩
                    rw [← hf7] at hs7
                    have hN7 : f7.names < 4611686018427387904 := by
                      have h1 := names_unname f d2 s2
                      have h2 := names_name f6 d s n
                      have h3 := H.out.2.2
                      rw [← hf6] at h1
                      rw [← hf7] at h2
                      omega
                    have HS7 := Lib.hid (And.intro ((H.out.1.step HC5.out).trans (hs6.trans hs7)) hN7)
                    have HE7 := Lib.hid (fun r (h : (if 0 ≤ (oo : Int) then f7.gone (oo : Int) else f7) = r) => HOP.out (.ok r) (by rw [HU.out]; unfold FS.renT; rw [HW.out]; simp only; rw [if_neg HON.out, HCK.out]; simp only; rw [hp2, ← h, hf7, hf6]; rfl))
                    have cf7 := cell_chg hC7 (by simpa using (hbd d hd64 hddd).symm) (cell_chg hC6 (by simpa using (hbd d2 hd264 hdd2).symm) cf5)
                    clear hs6 hs7 hu6 hu7 hmb6 hvs6 hf6 hf7 hdd6 hm6 hmu hmd t1 t2 t3 t4 hni6 hN7 hp2 hm2 hdd2 hC6 hC7 hC5 hF5
                    go_wp2_with fail
                    refine (fgonec fb _ _ f7 oo ho64 _ HS7.out.1.at_ HS7.out.2).mono ?_
                    rintro e w9 ⟨rfl, mb9, vs9, h9⟩
                    have HS9 := Lib.hid (HS7.out.1.trans h9)
                    clear h9
                    go_wp2
                    exact ⟨rfl, _, results_none rfl _ _ _, EDo.ok (HE7.out _ (if_pos HO.out)) HS9.out HS9.out.chg⟩
              · have ko : decide (o ≥ 0) = false := decide_eq_false ho
                have HO := Lib.hid ho
                have HCK := Lib.hid (show f.renChk n o = .ok () by unfold FS.renChk; rw [if_neg ho])
                clear ho hwb
                -- the world wt, HT2 : Chg [] w wt; HCK : f.renChk n o = .ok ()
                go_wp2_with fail
                refine (fplacec fb mb vs f _ l HLL.out _ (H.out.1.calm HT2.out) (HV.out.1.calm HTV.out)).mono ?_
                rcases hp2 : f.place l with c | o2
                · rintro e w5 ⟨rfl, hC5⟩
                  have hC := HT2.out.trans hC5
                  exact ⟨rfl, EDo.err (HOP.out _ (by rw [HU.out]; unfold FS.renT; rw [HW.out]; simp only; rw [if_neg HON.out, HCK.out]; simp only; rw [hp2])) hC (hC.mono (by simp))⟩
                rcases o2 with _ | ⟨d20, s2⟩
                · exact absurd (place_none hp2) (fun e => HNE.out (.inl e))
                obtain ⟨d2, rfl, hd264, hdd2⟩ := place_some H.out.1.inv hp2
                rintro e w5 ⟨he, hC5⟩
                have he' : e = .returned (.tuple #[.map (some (mb d2)), .string s2]) := he
                subst he'
                clear he
                have HC5 := Lib.hid (HT2.out.trans hC5)
                have cf5 := cell_chg hC5 (by simp) cft
                have hF5 := H.out.1.calm HC5.out
                obtain ⟨m2, hm2⟩ := Option.isSome_iff_exists.1 hdd2
                obtain ⟨W6, hdl, hmd, hC6⟩ := sRun_delete_P (P := Tryd.prog) Tryd.underlying49 Tryd.underlying9 (hF5.mp d2 hd264 m2 hm2) s2 9 0
                rw [sMdel_names] at hmd
                obtain ⟨t1, t2⟩ := H.out.1.inv.dirAt hd264 hm2
                have hs6 := hF5.setDir hd264 hdd2 (m := nmDel m2 s2) (fun p hp => t1 p ((nmDel_sub m2 s2).subset hp)) (((nmDel_sub m2 s2).map _).nodup t2) hC6 hmd
                have hu6 : f.unname d2 s2 = f.setN d2 { f.nodes.getD d2 nd0 with dir := some (nmDel m2 s2) } := by
                  unfold FS.unname
                  rw [show f.nd (d2 : Int) = f.nodes.getD d2 nd0 from rfl, hm2]
                  rfl
                rw [← hu6] at hs6
                have hmb6 : updN mb d2 (mb d2) = mb := by funext j; unfold updN; split <;> simp_all
                have hvs6 : updN vs d2 (vs d2) = vs := by funext j; unfold updN; split <;> simp_all
                rw [hmb6, hvs6] at hs6
                obtain ⟨f6, hf6⟩ : ∃ f6, f6 = f.unname d2 s2 := ⟨_, rfl⟩
                rw [← hf6] at hs6
                have hdd6 : (f6.nodes.getD d nd0).dir.isSome = true := by
                  rw [hf6, hu6]
                  by_cases e : d = d2
                  · subst e; rw [setN_same H.out.1.inv.ln hd64]; rfl
                  · rw [setN_ne f _ e]; exact hddd
                obtain ⟨m6, hm6⟩ := Option.isSome_iff_exists.1 hdd6
                obtain ⟨W7, hup, hmu, hC7⟩ := sRun_update_P (P := Tryd.prog) Tryd.underlying49 Tryd.underlying9 (hs6.at_.mp d hd64 m6 hm6) s (.int .i64 n)
                rw [sMupd_names] at hmu
                obtain ⟨t3, t4⟩ := hs6.at_.inv.dirAt hd64 hm6
                have hni6 : (f6.nd (n : Int)).is = true := by
                  rw [hf6, hu6]
                  by_cases e : n = d2
                  · subst e; rw [show (f.setN n { f.nodes.getD n nd0 with dir := some (nmDel m2 s2) }).nd (n : Int) = { f.nodes.getD n nd0 with dir := some (nmDel m2 s2) } from setN_same H.out.1.inv.ln hn _]; exact hni
                  · rw [show (f.setN d2 { f.nodes.getD d2 nd0 with dir := some (nmDel m2 s2) }).nd (n : Int) = f.nd (n : Int) from setN_ne f _ e]; exact hni
                have hs7 := hs6.at_.setDir hd64 hdd6 (m := nmPut m6 s n) (fun p hp => (nmPut_mem p hp).elim (fun e => by rw [e]; exact ⟨by simp, by simp; omega, hni6⟩) (t3 p)) (nmPut_keys t4) hC7 hmu
                have hu7 : f6.name d s n = f6.setN d { f6.nodes.getD d nd0 with dir := some (nmPut m6 s n) } := by
                  unfold FS.name
                  rw [show f6.nd (d : Int) = f6.nodes.getD d nd0 from rfl, hm6]
                  rfl
                rw [← hu7] at hs7
                obtain ⟨f7, hf7⟩ : ∃ f7, f7 = f6.name d s n := ⟨_, rfl⟩
                rw [← hf7] at hs7
                have hN7 : f7.names < 4611686018427387904 := by
                  have h1 := names_unname f d2 s2
                  have h2 := names_name f6 d s n
                  have h3 := H.out.2.2
                  rw [← hf6] at h1
                  rw [← hf7] at h2
                  omega
                have HS7 := Lib.hid (And.intro ((H.out.1.step HC5.out).trans (hs6.trans hs7)) hN7)
                have HE7 := Lib.hid (fun r (h : (if 0 ≤ o then f7.gone o else f7) = r) => HOP.out (.ok r) (by rw [HU.out]; unfold FS.renT; rw [HW.out]; simp only; rw [if_neg HON.out, HCK.out]; simp only; rw [hp2, ← h, hf7, hf6]; rfl))
                have cf7 := cell_chg hC7 (by simpa using (hbd d hd64 hddd).symm) (cell_chg hC6 (by simpa using (hbd d2 hd264 hdd2).symm) cf5)
                clear hs6 hs7 hu6 hu7 hmb6 hvs6 hf6 hf7 hdd6 hm6 hmu hmd t1 t2 t3 t4 hni6 hN7 hp2 hm2 hdd2 hC6 hC7 hC5 hF5
                go_wp2
                exact ⟨rfl, _, results_none rfl _ _ _, EDo.ok (HE7.out _ (if_neg (fun h => by have := HO.out; omega))) HS7.out.1 HS7.out.1.chg⟩
end Go.Proofs.YtkkjbnmfjhmobaaDoor
