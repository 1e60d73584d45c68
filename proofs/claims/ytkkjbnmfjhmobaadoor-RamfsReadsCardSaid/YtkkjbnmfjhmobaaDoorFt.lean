
/- Package ramfs: drop: contract. -/
import Derived.Test.YtkkjbnmfjhmobaaDoorFs
namespace Go.Proofs.YtkkjbnmfjhmobaaDoor
open Go.RowKit

theorem sum_set_add {α : Type} (g : α → Nat) (d : α) (c : Nat) : ∀ (l : List α) (n : Nat) (x : α), g x ≤ g (l.getD n d) + c → ((l.set n x).map g).sum ≤ (l.map g).sum + c := by
  intro l
  induction l with
  | nil => intro n x _; simp
  | cons y l ih =>
    intro n x hx
    cases n with
    | zero =>
      simp only [List.getD_cons_zero] at hx
      simp only [List.set_cons_zero, List.map_cons, List.sum_cons]
      omega
    | succ n =>
      have := ih n x (by simpa using hx)
      simp only [List.set_cons_succ, List.map_cons, List.sum_cons]
      omega
theorem fsCells_dir {f : FS} (hl : f.nodes.length = 64) {n : Nat} (hn : n < 64) (mb : Nat → Nat) (vs : Nat → Value) (m : List (ByteArray × Int)) (hd : (f.nodes.getD n nd0).dir.isSome = true) :
    fsCells (f.setN n { f.nodes.getD n nd0 with dir := some m }) (updN mb n (mb n)) (updN vs n (vs n)) = fsCells f mb vs := by
  refine cells_ext (fsCells_size _ _ _) fun j hj => ?_
  rw [fsCells_get _ _ _ hj, cellAt_setN hl hn]
  by_cases h : j < 192 ∧ j / 3 = n
  · rw [if_pos h]
    unfold cellAt
    rw [if_pos h.1, h.2]
    rcases (show j % 3 = 0 ∨ j % 3 = 1 ∨ j % 3 = 2 by omega) with e | e | e
    · rw [e]; rfl
    · rw [e]; unfold ndC; rw [hd]; rfl
    · rw [e]; rfl
  · rw [if_neg h]
theorem names_unname (f : FS) (d : Int) (s : ByteArray) : (f.unname d s).names ≤ f.names := by
  unfold FS.names
  refine sum_set_add _ nd0 0 _ _ _ ?_
  show (match ((f.nd d).dir.map (nmDel · s)) with | none => 0 | some m => m.length) ≤ (match (f.nd d).dir with | none => 0 | some m => m.length) + 0
  cases (f.nd d).dir with
  | none => exact Nat.le_refl _
  | some m => exact (nmDel_sub m s).length_le
/-- A directory's map is written. -/
theorem FAt.setDir {w w' : World} {fb : Nat} {mb : Nat → Nat} {vs : Nat → Value} {f : FS} (h : FAt w fb mb vs f) {n : Nat} (hn : n < 64) (hd : (f.nodes.getD n nd0).dir.isSome = true) {m : List (ByteArray × Int)} (ht : ∀ p ∈ m, 0 ≤ p.2 ∧ p.2 < 64 ∧ (f.nd p.2).is = true) (hk : (m.map (·.1)).Nodup)
    (hC : Chg [mb n] w w') (hm : SMapP w' (mb n) (namesV m)) : FStep w w' fb mb vs f (updN mb n (mb n)) (updN vs n (vs n)) (f.setN n { f.nodes.getD n nd0 with dir := some m }) := by
  refine h.setNode hn hC (fun k hk => .inr ?_) ?_ ?_ (fun m2 e => ?_) (fun k hk => .inl hk) (fun _ => .inl ⟨hd, rfl⟩) (h.inv.setDir hn hd ht hk)
  · unfold ownN
    rw [if_pos hd]
    simp at hk
    simp [hk]
  · rw [fsCells_dir h.inv.ln hn mb vs m hd]
    exact hC.blk h.head (by simpa using (h.sep_map hn hd).symm)
  · exact own_kept (h.row n hn) hC (fun k hk => by simp at hk; subst hk; exact h.sep_mr hn hn hd)
  · injection e with e; subst e; exact hm
theorem FInv.dirAt {f : FS} (h : FInv f) {n : Nat} (hn : n < 64) {m : List (ByteArray × Int)} (hd : (f.nodes.getD n nd0).dir = some m) : (∀ p ∈ m, 0 ≤ p.2 ∧ p.2 < 64 ∧ (f.nd p.2).is = true) ∧ (m.map (·.1)).Nodup := h.tgt _ (h.ndAt hn) m hd
set_option maxRecDepth 100000 in
set_option maxHeartbeats 1000000 in
theorem fdropc (fb : Nat) (mb : Nat → Nat) (vs : Nat → Value) (f : FS) (d n : Nat) (hd : d < 64) (hn : n < 64) (s : ByteArray) (m : List (ByteArray × Int)) (hm : (f.nodes.getD d nd0).dir = some m) (w : World) (h : FAt w fb mb vs f) (hN : f.names < 4611686018427387904) :
    Calls Tryd.prog 44 #[.pointer (some ⟨fb, 0, none⟩), .map (some (mb d)), .string s, .int .i64 n] w fun e w' => e = .returned (.tuple #[]) ∧ ∃ mb' vs', FStep w w' fb mb vs f mb' vs' ((f.unname d s).gone n) := by
  have hdel := fun (tk rt : TypeId) => sRun_delete_P (P := Tryd.prog) Tryd.underlying49 Tryd.underlying9 (h.mp d hd m hm) s tk rt
  obtain ⟨w1, hd1, hm1, hC1⟩ := hdel 9 0
  rw [sMdel_names] at hm1
  obtain ⟨t1, t2⟩ := h.inv.dirAt hd hm
  have hs := h.setDir hd (by rw [hm]; rfl) (m := nmDel m s) (fun p hp => t1 p ((nmDel_sub m s).subset hp)) (((nmDel_sub m s).map _).nodup t2) hC1 hm1
  have hu : f.unname d s = f.setN d { f.nodes.getD d nd0 with dir := some (nmDel m s) } := by
    unfold FS.unname
    rw [show f.nd (d : Int) = f.nodes.getD d nd0 from rfl, hm]
    rfl
  rw [← hu] at hs
  have HG := Lib.hid (fgonec fb _ _ (f.unname d s) n hn w1 hs.at_ (Nat.lt_of_le_of_lt (names_unname f d s) hN))
  have HS := Lib.hid hs
  clear hs hu t1 t2 hm1 hC1 hdel h hN hm
  go_enter Tryd.func44, Tryd.ntmps44
  go_wp2_with (go_at_call 39; refine HG.out.mono ?_; rintro e w' ⟨rfl, mb', vs', h2⟩; have H2 := Lib.hid h2; clear h2)
  exact ⟨rfl, _, results_none rfl _ _ _, rfl, mb', vs', HS.out.trans H2.out⟩

end Go.Proofs.YtkkjbnmfjhmobaaDoor
