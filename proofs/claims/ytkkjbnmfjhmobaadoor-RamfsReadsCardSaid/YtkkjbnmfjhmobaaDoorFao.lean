
/- Names grow by one a call at most; closing all descriptors. No program in sight. -/
import Derived.Test.YtkkjbnmfjhmobaaDoorFam
namespace Go.Proofs.YtkkjbnmfjhmobaaDoor
open Go.RowKit

theorem names_setN (f : FS) (n : Int) (x : Nd) (h : x.dir = none ∨ x.dir = some []) : (f.setN n x).names ≤ f.names := by
  unfold FS.names
  refine sum_set_le _ _ _ _ ?_
  rcases h with h | h <;> rw [h] <;> rfl
theorem names_setB (f : FS) (n : Int) (b : List Int) : (f.setN n { f.nd n with b := b }).names ≤ f.names := by
  unfold FS.names
  exact sum_set_add _ nd0 0 _ _ _ (Nat.le_refl _)
theorem names_setF (f : FS) (d : Int) (x : Fl) : (f.setF d x).names = f.names := rfl
theorem names_gone (f : FS) (n : Int) : (f.gone n).names ≤ f.names := by
  unfold FS.gone
  split
  · exact names_setN _ _ _ (.inl rfl)
  · exact Nat.le_refl _
theorem names_openE (f : FS) (l : List ByteArray) (fl : Int) : ∀ r, f.openE l fl = .ok r → r.1.names ≤ f.names + 1 := by
  intro r h
  unfold FS.openE at h
  split at h
  · cases h
  generalize (if hasB fl 4 = true then f.place l else .ok none) = P at h
  cases P with
  | error e => cases h
  | ok pl =>
    dsimp only at h
    generalize f.walk l = W at h
    cases W with
    | error e => cases h
    | ok n =>
      dsimp only at h
      split at h
      · cases h
      split at h
      · cases h
      split at h
      · cases h
      generalize (if n < 0 then f.free else some n) = K at h
      cases K with
      | none => cases h
      | some k =>
        dsimp only at h
        generalize f.files.findIdx? _ = A at h
        cases A with
        | none => cases h
        | some a =>
          dsimp only at h
          injection h with h
          subst h
          show FS.names (if hasB fl 16 = true then _ else _) ≤ _
          have h1 : (if n < 0 then (match pl with | some (d, s) => (f.setN k ⟨true, none, []⟩).name d s k | none => f.setN k ⟨true, none, []⟩) else f).names ≤ f.names + 1 := by
            split
            · cases pl with
              | none => exact Nat.le_succ_of_le (names_setN _ _ _ (.inl rfl))
              | some p => exact Nat.le_trans (names_name _ _ _ _) (Nat.add_le_add_right (names_setN _ _ _ (.inl rfl)) 1)
            · exact Nat.le_succ _
          split
          · exact Nat.le_trans (names_setB _ _ _) h1
          · exact h1
theorem names_mkdirE (f : FS) (l : List ByteArray) : ∀ r, f.mkdirE l = .ok r → r.names ≤ f.names + 1 := by
  intro r h
  unfold FS.mkdirE at h
  cases hp : f.place l with
  | error e => rw [hp] at h; cases h
  | ok pl =>
    rw [hp] at h
    dsimp only at h
    cases hw : f.walk l with
    | error e => rw [hw] at h; cases h
    | ok n =>
      rw [hw] at h
      dsimp only at h
      split at h
      · cases h
      cases hf : f.free with
      | none => rw [hf] at h; cases h
      | some k =>
        rw [hf] at h
        injection h with h
        subst h
        cases pl with
        | none => exact Nat.le_succ _
        | some p => exact Nat.le_trans (names_name _ _ _ _) (Nat.add_le_add_right (names_setN _ _ _ (.inr rfl)) 1)
theorem names_linkE (f : FS) (l m : List ByteArray) : ∀ r, f.linkE l m = .ok r → r.names ≤ f.names + 1 := by
  intro r h
  unfold FS.linkE at h
  cases hp : f.must l with
  | error e => rw [hp] at h; cases h
  | ok n =>
    rw [hp] at h
    dsimp only at h
    split at h
    · cases h
    cases hq : f.place m with
    | error e => rw [hq] at h; cases h
    | ok pl =>
      rw [hq] at h
      dsimp only at h
      cases hw : f.walk m with
      | error e => rw [hw] at h; cases h
      | ok k =>
        rw [hw] at h
        dsimp only at h
        split at h
        · cases h
        injection h with h
        subst h
        cases pl with
        | none => exact Nat.le_succ _
        | some p => exact names_name _ _ _ _
theorem names_renDo (f : FS) (pl pl2 : Option (Int × ByteArray)) (n o : Int) : (f.renDo pl pl2 n o).names ≤ f.names + 1 := by
  have h1 : ∀ (d2 : Int) (s2 : ByteArray) (d : Int) (s : ByteArray), ((f.unname d2 s2).name d s n).names ≤ f.names + 1 := fun d2 s2 d s => Nat.le_trans (names_name _ _ _ _) (Nat.add_le_add_right (names_unname _ _ _) 1)
  unfold FS.renDo
  split
  · split
    · exact Nat.le_trans (names_gone _ _) (h1 _ _ _ _)
    · exact h1 _ _ _ _
  · exact Nat.le_succ _
theorem names_renameE (f : FS) (l m : List ByteArray) : ∀ r, f.renameE l m = .ok r → r.names ≤ f.names + 1 := by
  intro r h
  unfold FS.renameE at h
  cases hp : f.must l with
  | error e => rw [hp] at h; cases h
  | ok n =>
    rw [hp] at h
    dsimp only at h
    split at h
    · cases h
    cases hq : f.place m with
    | error e => rw [hq] at h; cases h
    | ok pl =>
      rw [hq] at h
      dsimp only at h
      cases hi : f.into n m m.length with
      | error e => rw [hi] at h; cases h
      | ok u =>
        rw [hi] at h
        dsimp only at h
        cases hw : f.walk m with
        | error e => rw [hw] at h; cases h
        | ok o =>
          rw [hw] at h
          dsimp only at h
          split at h
          · injection h with h; subst h; exact Nat.le_succ _
          cases hc : f.renChk n o with
          | error e => rw [hc] at h; cases h
          | ok u2 =>
            rw [hc] at h
            dsimp only at h
            cases hq2 : f.place l with
            | error e => rw [hq2] at h; cases h
            | ok pl2 =>
              rw [hq2] at h
              injection h with h
              subst h
              exact names_renDo _ _ _ _ _
theorem names_writeE (f : FS) (d : Int) (data : List Int) : ∀ r, f.writeE d data = .ok r → r.1.names ≤ f.names + 1 := by
  intro r h
  unfold FS.writeE at h
  split at h
  · cases h
  dsimp only at h
  generalize (if hasB (f.fl d).flags 32 = true then (f.nd (f.fl d).node).b.length else (f.fl d).pos.toNat) = fr at h
  split at h
  · cases h
  split at h
  · injection h with h; subst h; exact Nat.le_succ _
  · injection h with h
    subst h
    exact Nat.le_succ_of_le (names_setB f (f.fl d).node _)
theorem names_onPath {f : FS} {p : ByteArray} {g : List ByteArray → Except Int FS} (h : ∀ l r, g l = .ok r → r.names ≤ f.names + 1) : (outF f (onPath p g)).1.names ≤ f.names + 1 := by
  unfold onPath
  cases splitF p with
  | none => exact Nat.le_succ _
  | some l =>
    show (outF f (g l)).1.names ≤ _
    cases hg : g l with
    | error e => exact Nat.le_succ _
    | ok r => exact h l r hg
theorem names_onPaths {f : FS} {p q : ByteArray} {g : List ByteArray → List ByteArray → Except Int FS} (h : ∀ l m r, g l m = .ok r → r.names ≤ f.names + 1) : (outF f (onPaths p q g)).1.names ≤ f.names + 1 := by
  unfold onPaths
  cases splitF p with
  | none => exact Nat.le_succ _
  | some l =>
    cases splitF q with
    | none => exact Nat.le_succ _
    | some m =>
      show (outF f (g l m)).1.names ≤ _
      cases hg : g l m with
      | error e => exact Nat.le_succ _
      | ok r => exact h l m r hg
theorem names_opn (f : FS) (p : ByteArray) (fl : Int) : (f.opn p fl).1.names ≤ f.names + 1 := by
  unfold FS.opn onPath
  cases splitF p with
  | none => exact Nat.le_succ _
  | some l =>
    show (outV f (f.openE l fl)).1.names ≤ _
    cases hg : f.openE l fl with
    | error e => exact Nat.le_succ _
    | ok r => exact names_openE f l fl r hg
theorem names_wr (f : FS) (d : Int) (data : List Int) : (f.wr d data).1.names ≤ f.names + 1 := by
  unfold FS.wr
  cases hg : f.writeE d data with
  | error e => exact Nat.le_succ _
  | ok r => exact names_writeE f d data r hg
theorem names_mkd (f : FS) (p : ByteArray) : (f.mkd p).1.names ≤ f.names + 1 := names_onPath (fun l r h => names_mkdirE f l r h)
theorem names_lnk (f : FS) (p q : ByteArray) : (f.lnk p q).1.names ≤ f.names + 1 := names_onPaths (fun l m r h => names_linkE f l m r h)
theorem names_ren (f : FS) (p q : ByteArray) : (f.ren p q).1.names ≤ f.names + 1 := names_onPaths (fun l m r h => names_renameE f l m r h)
theorem names_cls (f : FS) (d : Int) : (f.cls d).1.names ≤ f.names := by
  unfold FS.cls FS.closeE
  split
  · exact Nat.le_refl _
  · exact names_gone _ _
/-- One descriptor more is closed. -/
theorem gone_files (f : FS) (n : Int) : (f.gone n).files = f.files := by
  unfold FS.gone
  split <;> rfl
theorem cls_shut {f : FS} (hI : FInv f) {i : Nat} (hi : i < 16) (h : ∀ j, j < i → f.files.getD j fl0 = fl0) : ∀ j, j < i + 1 → (f.cls i).1.files.getD j fl0 = fl0 := by
  intro j hj
  unfold FS.cls FS.closeE
  have hl : i < f.files.length := by rw [hI.lf]; exact hi
  split
  · rename_i hb
    show f.files.getD j fl0 = fl0
    rcases Nat.lt_or_ge j i with h1 | h1
    · exact h j h1
    · obtain rfl : j = i := by omega
      have e : f.files.getD j fl0 = f.files[j] := by simp [List.getD, hl]
      rw [e]
      refine hI.shut _ (List.getElem_mem hl) ?_
      rw [← e]
      unfold FS.bad FS.fl at hb
      rw [Int.toNat_natCast] at hb
      have h0 : bits .and .i64 (f.files.getD j fl0).flags 0 = 0 := by simp [bits]; rfl
      simp only [h0, decide_true, Bool.not_true, Bool.or_false, Bool.or_eq_true, decide_eq_true_eq, Bool.not_eq_true'] at hb
      rcases hb with (hb | hb) | hb
      · omega
      · omega
      · exact hb
  · show ((f.setF i fl0).gone _).files.getD j fl0 = fl0
    rw [gone_files]
    show (f.files.set (i : Int).toNat fl0).getD j fl0 = fl0
    rw [Int.toNat_natCast]
    rcases Nat.lt_or_ge j i with h1 | h1
    · have := h j h1
      simp only [List.getD, List.getElem?_set] at this ⊢
      rw [if_neg (by omega)]
      exact this
    · obtain rfl : j = i := by omega
      simp [List.getD, hl]
theorem all_shut {f : FS} (hI : FInv f) (h : ∀ j, j < 16 → f.files.getD j fl0 = fl0) : f.files = List.replicate 16 fl0 := by
  refine List.ext_getElem (by rw [hI.lf, List.length_replicate]) (fun i h1 h2 => ?_)
  rw [List.getElem_replicate]
  have := h i (by rw [← hI.lf]; exact h1)
  simpa [List.getD, h1] using this

end Go.Proofs.YtkkjbnmfjhmobaaDoor
