
/- Package ramfs: Open: contracts. -/
import Derived.Test.YtkkjbnmfjhmobaaDoorFab
namespace Go.Proofs.YtkkjbnmfjhmobaaDoor
open Go.RowKit

/-- A descriptor is taken, its number written into a box: in either order. -/
theorem open_end {w0 W : World} {fb : Nat} {mb mb1 : Nat → Nat} {vs vs1 : Nat → Value} {f f1 : FS} {bx i k : Nat} {z flags : Int} (h : FStep w0 W fb mb vs f mb1 vs1 f1) (hbx : W.heap[bx]? = some (.cells #[.int .i64 z] 3 (0, 0))) (hx0 : w0.heap.size ≤ bx) (hi : i < 16) (hk : k < 64) (hki : (f1.nd (k : Int)).is = true) (g0 : 0 ≤ flags) (g1 : flags ≤ 63)
    {W' : World} (hW : W' = ((((W.setCell ⟨bx, 0, none⟩ (.int .i64 i)).setCell ⟨fb, 192 + i * 4, none⟩ (.bool true)).setCell ⟨fb, 192 + i * 4 + 1, none⟩ (.int .i64 k)).setCell ⟨fb, 192 + i * 4 + 2, none⟩ (.int .i64 flags)).setCell ⟨fb, 192 + i * 4 + 3, none⟩ (.int .i64 0) ∨ W' = ((((W.setCell ⟨fb, 192 + i * 4, none⟩ (.bool true)).setCell ⟨fb, 192 + i * 4 + 1, none⟩ (.int .i64 k)).setCell ⟨fb, 192 + i * 4 + 2, none⟩ (.int .i64 flags)).setCell ⟨fb, 192 + i * 4 + 3, none⟩ (.int .i64 0)).setCell ⟨bx, 0, none⟩ (.int .i64 i)) :
    FStep w0 W' fb mb vs f mb1 vs1 (f1.setF i ⟨true, k, flags, 0⟩) ∧ W'.heap[bx]? = some (.cells #[.int .i64 i] 3 (0, 0)) ∧ Chg [bx, fb] W W' := by
  have hne : bx ≠ fb := fun e => cells_ne hbx h.at_.head (by decide) e
  have hI : FInv (f1.setF i ⟨true, k, flags, 0⟩) := h.at_.inv.setF _ (fun _ => ⟨by show (0 : Int) ≤ k; omega, by show (k : Int) < 64; omega, hki, g0, g1, Int.le_refl _, by show (0 : Int) ≤ 4096; omega⟩) (fun e => by cases e)
  have key : ∀ {W1 : World}, FStep w0 W1 fb mb vs f mb1 vs1 f1 → FStep w0 ((((W1.setCell ⟨fb, 192 + i * 4, none⟩ (.bool true)).setCell ⟨fb, 192 + i * 4 + 1, none⟩ (.int .i64 k)).setCell ⟨fb, 192 + i * 4 + 2, none⟩ (.int .i64 flags)).setCell ⟨fb, 192 + i * 4 + 3, none⟩ (.int .i64 0)) fb mb vs f mb1 vs1 (f1.setF i ⟨true, k, flags, 0⟩) := by
    intro W1 h1
    refine h1.trans (h1.at_.setFile (d := i) (((((Chg.refl _ _).setCell _ _ (.inl (by simp))).setCell _ _ (.inl (by simp))).setCell _ _ (.inl (by simp))).setCell _ _ (.inl (by simp))) ?_ hI)
    rw [← fsCells_file h1.at_.inv.lf hi mb1 vs1 ⟨true, k, flags, 0⟩]
    exact blk_setCell (blk_setCell (blk_setCell (blk_setCell h1.at_.head _) _) _) _
  rcases hW with rfl | rfl
  · have h1 := h.calmNew ((Chg.refl [bx] W).setCell ⟨bx, 0, none⟩ (.int .i64 i) (.inl (by simp))) hx0 (h.at_.notin hbx (by decide) (by decide))
    exact ⟨key h1, blk_setCell_ne (blk_setCell_ne (blk_setCell_ne (blk_setCell_ne (blk_setCell hbx _) hne _) hne _) hne _) hne _, (((((Chg.refl _ _).setCell _ _ (.inl (by simp))).setCell _ _ (.inl (by simp))).setCell _ _ (.inl (by simp))).setCell _ _ (.inl (by simp))).setCell _ _ (.inl (by simp))⟩
  · have h1 := key h
    have hb1 := blk_setCell_ne (blk_setCell_ne (blk_setCell_ne (blk_setCell_ne hbx hne (p := ⟨fb, 192 + i * 4, none⟩) (.bool true)) hne (p := ⟨fb, 192 + i * 4 + 1, none⟩) (.int .i64 k)) hne (p := ⟨fb, 192 + i * 4 + 2, none⟩) (.int .i64 flags)) hne (p := ⟨fb, 192 + i * 4 + 3, none⟩) (.int .i64 0)
    exact ⟨h1.calmNew ((Chg.refl [bx] _).setCell ⟨bx, 0, none⟩ (.int .i64 i) (.inl (by simp))) hx0 (h1.at_.notin hb1 (by decide) (by decide)), blk_setCell hb1 _, (((((Chg.refl _ _).setCell _ _ (.inl (by simp))).setCell _ _ (.inl (by simp))).setCell _ _ (.inl (by simp))).setCell _ _ (.inl (by simp))).setCell _ _ (.inl (by simp))⟩
theorem open_close {w0 w W : World} {fb : Nat} {mb mb1 : Nat → Nat} {vs vs1 : Nat → Value} {f f1 : FS} {bx i k : Nat} {z flags : Int} {R : Except Int (FS × Int)} (h : FStep w0 W fb mb vs f mb1 vs1 f1) (hbx : W.heap[bx]? = some (.cells #[.int .i64 z] 3 (0, 0))) (hx0 : w0.heap.size ≤ bx) (hi : i < 16) (hk : k < 64) (hki : (f1.nd (k : Int)).is = true) (g0 : 0 ≤ flags) (g1 : flags ≤ 63)
    (hR : R = .ok (f1.setF i ⟨true, k, flags, 0⟩, (i : Int))) (hC : Chg ([bx] ++ blkF fb mb vs f) w W)
    {W' : World} (hW : W' = ((((W.setCell ⟨bx, 0, none⟩ (.int .i64 i)).setCell ⟨fb, 192 + i * 4, none⟩ (.bool true)).setCell ⟨fb, 192 + i * 4 + 1, none⟩ (.int .i64 k)).setCell ⟨fb, 192 + i * 4 + 2, none⟩ (.int .i64 flags)).setCell ⟨fb, 192 + i * 4 + 3, none⟩ (.int .i64 0) ∨ W' = ((((W.setCell ⟨fb, 192 + i * 4, none⟩ (.bool true)).setCell ⟨fb, 192 + i * 4 + 1, none⟩ (.int .i64 k)).setCell ⟨fb, 192 + i * 4 + 2, none⟩ (.int .i64 flags)).setCell ⟨fb, 192 + i * 4 + 3, none⟩ (.int .i64 0)).setCell ⟨bx, 0, none⟩ (.int .i64 i)) (v : Value) :
    EDo w0 W'.drew fb mb vs f (resF R) (fun W'' => W''.heap[bx]? = some (.cells #[.int .i64 (resV R)] 3 (0, 0))) (.returned v) ∧ Chg ([bx] ++ blkF fb mb vs f) w W'.drew := by
  obtain ⟨h1, h2, h3⟩ := open_end h hbx hx0 hi hk hki g0 g1 hW
  subst hR
  exact ⟨EDo.ok2 rfl (h1.trans (h1.at_.step ((Chg.refl _ _).drewN 1))) h2, (hC.trans (h3.mono (by simp [blkF]))).drewN 1⟩
set_option maxRecDepth 100000 in
theorem fhasc (fl k : Int) (bl : Nat) (b : Bool) (w : World) (hc : w.cell? ⟨bl, 0, none⟩ = some (.int .i64 fl)) (hb : hasB fl k = b) : Calls Tryd.prog 26 #[.int .i64 k, .pointer (some ⟨bl, 0, none⟩)] w fun e w' => e = .returned (.bool b) ∧ w = w' := by
  have hb2 : (bits .and .i64 fl k != 0) = b := by
    rw [← hb]
    unfold hasB
    cases h : decide (bits .and .i64 fl k = 0) with
    | true => simp at h; simp [h]
    | false => simp at h; simp [h]
  clear hb
  go_enter Tryd.func26, Tryd.ntmps26
  go_wp2
  go_ret
  exact ⟨rfl, rfl⟩
theorem has_sub : ∀ n : Fin 64, (hasB (n.val : Int) 4 = true → hasB (n.val : Int) 22 = true) ∧ (hasB (n.val : Int) 16 = true → hasB (n.val : Int) 22 = true) := by decide +kernel
theorem has_22 {fl : Int} (h0 : 0 ≤ fl) (h1 : fl ≤ 63) : (hasB fl 4 = true → hasB fl 22 = true) ∧ (hasB fl 16 = true → hasB fl 22 = true) := by
  obtain ⟨n, rfl⟩ := Int.eq_ofNat_of_zero_le h0
  exact has_sub ⟨n, by omega⟩
theorem has_eq {fl k : Int} {b : Bool} (h : hasB fl k = b) : (bits .and .i64 fl k == 0) = !b := by
  rw [← h]
  unfold hasB
  rw [Bool.not_not]
  cases h : decide (bits .and .i64 fl k = 0) with
  | true => simp at h; simp [h]
  | false => simp at h; simp [h]
theorem FInv.setB {f : FS} (h : FInv f) {n : Nat} (hn : n < 64) (hi : (f.nodes.getD n nd0).is = true) {b : List Int} (hb : ∀ z ∈ b, 0 ≤ z ∧ z < 256) (hs : (f.setN n { f.nodes.getD n nd0 with b := b }).bytes ≤ 4096) : FInv (f.setN n { f.nodes.getD n nd0 with b := b }) := by
  obtain ⟨x, hx⟩ : ∃ x : Nd, x = { f.nodes.getD n nd0 with b := b } := ⟨_, rfl⟩
  rw [← hx] at hs ⊢
  have xi : x.is = (f.nodes.getD n nd0).is := by rw [hx]
  have xb : x.b = b := by rw [hx]
  have xd : x.dir = (f.nodes.getD n nd0).dir := by rw [hx]
  have hl : n < f.nodes.length := by rw [h.ln]; exact hn
  have hnd : ∀ k : Int, ((f.setN n x).nd k).is = (f.nd k).is ∧ ((f.setN n x).nd k).dir = (f.nd k).dir := by
    intro k
    by_cases e : k.toNat = n
    · have e1 : (f.setN n x).nd k = x := by unfold FS.nd FS.setN; rw [e]; exact getD_set_same _ _ _ _ hl
      have e2 : f.nd k = f.nodes.getD n nd0 := by unfold FS.nd; rw [e]
      rw [e1, e2, xi, xd]
      exact ⟨rfl, rfl⟩
    · rw [show (f.setN n x).nd k = f.nd k from getD_set_ne _ _ _ e]
      exact ⟨rfl, rfl⟩
  refine ⟨by rw [show (f.setN n x).nodes = f.nodes.set n x from rfl, List.length_set]; exact h.ln, h.lf, ?_, ?_, ?_, ?_, h.shut, hs, ?_⟩
  · rw [(hnd 0).1, (hnd 0).2]; exact h.root
  · intro y hy hf
    rcases mem_set hy with rfl | h2
    · rw [xi, hi] at hf; cases hf
    · exact h.free y h2 hf
  · intro y hy m hd
    rcases mem_set hy with rfl | h2
    · rw [xd] at hd
      obtain ⟨h3, h4⟩ := h.tgt _ (h.ndAt hn) m hd
      exact ⟨fun p hp => ⟨(h3 p hp).1, (h3 p hp).2.1, by rw [(hnd _).1]; exact (h3 p hp).2.2⟩, h4⟩
    · obtain ⟨h3, h4⟩ := h.tgt y h2 m hd
      exact ⟨fun p hp => ⟨(h3 p hp).1, (h3 p hp).2.1, by rw [(hnd _).1]; exact (h3 p hp).2.2⟩, h4⟩
  · intro y hy hop
    obtain ⟨a, b, c, d⟩ := h.file y hy hop
    exact ⟨a, b, by rw [(hnd _).1]; exact c, d⟩
  · intro y hy z hz
    rcases mem_set hy with rfl | h2
    · rw [xb] at hz; exact hb z hz
    · exact h.byte y h2 z hz
/-- A node's bytes are cut. -/
theorem FAt.cut {w : World} {fb : Nat} {mb : Nat → Nat} {vs : Nat → Value} {f : FS} (h : FAt w fb mb vs f) {n : Nat} (hn : n < 64) (hi : (f.nodes.getD n nd0).is = true) :
    ∃ mb' vs', FStep w (w.setCell ⟨fb, n * 3 + 2, none⟩ (.slice none 0 0)) fb mb vs f mb' vs' (f.setN n { f.nd (n : Int) with b := [] }) := by
  have hs : (f.setN n { f.nodes.getD n nd0 with b := ([] : List Int) }).bytes ≤ 4096 := Nat.le_trans (sum_set_le _ _ _ _ rfl) h.inv.bytes
  have hI := h.inv.setB hn hi (b := []) (fun z hz => nomatch hz) hs
  have hC : Chg [fb] w (w.setCell ⟨fb, n * 3 + 2, none⟩ (.slice none 0 0)) := (Chg.refl _ _).setCell _ _ (.inl (by simp))
  refine ⟨_, _, h.setNode hn (x := { f.nodes.getD n nd0 with b := [] }) (b := mb n) (v := .slice none 0 0) hC (fun k hk => .inl (by simpa using hk)) ?_ own_nil (fun m hm => (h.mp n hn m hm).kept hC (by simpa using h.sep_map hn (by rw [show (f.nodes.getD n nd0).dir = some m from hm]; rfl))) (fun k hk => by cases hk) (fun hs => .inl ⟨hs, rfl⟩) hI⟩
  rw [← fsCells_bytes h.inv.ln hn mb vs [] (.slice none 0 0)]
  exact blk_setCell h.head _
/-- What Open does behind its checks. -/
def FS.openT (f f1 : FS) (k flags : Int) : Except Int (FS × Int) := match f.files.findIdx? (fun x => !x.op) with
  | none => .error 11
  | some at_ => .ok ((if hasB flags 16 = true then f1.setN k { f1.nd k with b := [] } else f1).setF at_ ⟨true, k, flags, 0⟩, at_)

def FS.fresh (f : FS) (o : Option (Int × ByteArray)) (k : Int) : FS := match o with
  | some (d, s) => (f.setN k ⟨true, none, []⟩).name d s k
  | none => f.setN k ⟨true, none, []⟩
theorem openE_new {f : FS} {l : List ByteArray} {flags n0 : Int} {o : Option (Int × ByteArray)} {r : Option Int} (hb : ¬ (decide (flags < 0) || decide (63 < flags) || !hasB flags 3) = true) (h4 : hasB flags 4 = true) (hp : f.place l = .ok o) (hw : f.walk l = .ok n0) (hn : n0 < 0) (hf : f.free = r) :
    f.openE l flags = (match (generalizing := false) r with | none => .error 28 | some k => f.openT (f.fresh o k) k flags) := by
  unfold FS.openE
  rw [if_neg hb, if_pos h4, hp]
  simp only
  rw [hw]
  simp only
  rw [if_neg (by rw [h4]; simp), if_neg (by omega), if_neg (by omega), if_pos hn, hf]
  cases r with
  | none => rfl
  | some k =>
    simp only
    rw [if_pos hn]
    rfl
set_option maxRecDepth 100000 in
set_option maxHeartbeats 8000000 in
/-- Open's closure. -/
theorem fopen1c (fb : Nat) (mb : Nat → Nat) (vs : Nat → Value) (f : FS) (bp bl bf bx : Nat) (p : ByteArray) (flags : Int) (w0 w : World) (hC0 : Chg [] w0 w) (h0 : FAt w0 fb mb vs f) (hL : LibW w) (cp : w.cell? ⟨bp, 0, none⟩ = some (.string p)) (cl : w.cell? ⟨bl, 0, none⟩ = some (.int .i64 flags))
    (cf : w.cell? ⟨bf, 0, none⟩ = some (.pointer (some ⟨fb, 0, none⟩))) (hx : w.heap[bx]? = some (.cells #[.int .i64 0] 3 (0, 0))) (hx0 : w0.heap.size ≤ bx) (hlf : bl ≠ fb) (hff : bf ≠ fb) (hbd : ∀ d, d < 64 → (f.nodes.getD d nd0).dir.isSome = true → mb d ∉ [bl, bf]) :
    Calls Tryd.prog 23 #[.pointer (some ⟨bp, 0, none⟩), .pointer (some ⟨bl, 0, none⟩), .pointer (some ⟨bf, 0, none⟩), .pointer (some ⟨bx, 0, none⟩)] w fun e W' => EDo w0 W' fb mb vs f (resF (onPath p (f.openE · flags))) (fun W' => W'.heap[bx]? = some (.cells #[.int .i64 (resV (onPath p (f.openE · flags)))] 3 (0, 0))) e ∧ Chg ([bx] ++ blkF fb mb vs f) w W' := by
  have h := h0.calm hC0
  have H := Lib.hid (And.intro h (And.intro hC0 (And.intro h0 (And.intro hx (And.intro hx0 hL)))))
  have HX := Lib.hid (fun (W : World) (k : Int) (hC : Chg [] w W) (hE : onPath p (f.openE · flags) = .error k) => show EDo w0 W fb mb vs f (resF (onPath p (f.openE · flags))) (fun W' => W'.heap[bx]? = some (.cells #[.int .i64 (resV (onPath p (f.openE · flags)))] 3 (0, 0))) (.panicked (refP k)) ∧ Chg ([bx] ++ blkF fb mb vs f) w W from
    ⟨EDo.err2 hE (hC0.trans hC) (by rw [hE]; exact hC.blk hx (by simp)), hC.mono (by simp)⟩)
  clear h h0 hC0 hx hx0 hL
  go_enter Tryd.func23, Tryd.ntmps23
  go_wp2_with fail
  rcases hs : splitF p with _ | l
  · refine (fsplit_none hs _ H.out.2.2.2.2.2).mono ?_
    rintro e w' ⟨rfl, hC⟩
    exact ⟨rfl, HX.out _ _ hC (onPath_none hs)⟩
  have HLN := Lib.hid (show l.length ≤ 600 by have := splitF_len hs; omega)
  have HOP := Lib.hid (fun r (h : f.openE l flags = r) => onPath_some (p := p) (g := (f.openE · flags)) hs h)
  refine (fsplit_some hs _ H.out.2.2.2.2.2).mono ?_
  rintro e w1 ⟨v, rfl, hv, hC1⟩
  have HC1 := Lib.hid (And.intro hv hC1)
  have cf1 := cell_chg hC1 (by simp) cf
  have cl1 := cell_chg hC1 (by simp) cl
  clear hv hC1 cf cp cl hs
  by_cases hbad : (decide (flags < 0) || decide (63 < flags) || !hasB flags 3) = true
  · have hE := HOP.out (.error 22) (by unfold FS.openE; rw [if_pos hbad])
    have HE := Lib.hid hE
    clear hE
    by_cases k1 : flags < 0
    · have k1d : decide (flags < 0) = true := decide_eq_true k1
      clear hbad
      go_wp2_with fail
      refine (notc 22 _).mono ?_
      rintro e w' ⟨rfl, rfl⟩
      exact ⟨rfl, HX.out _ _ HC1.out.2 HE.out⟩
    have k1d : decide (flags < 0) = false := decide_eq_false k1
    by_cases k2 : 63 < flags
    · have k2d : decide (flags > 63) = true := decide_eq_true k2
      clear hbad
      go_wp2_with fail
      refine (notc 22 _).mono ?_
      rintro e w' ⟨rfl, rfl⟩
      exact ⟨rfl, HX.out _ _ HC1.out.2 HE.out⟩
    have k2d : decide (flags > 63) = false := decide_eq_false k2
    rw [k1d, decide_eq_false k2] at hbad
    have k3 : (bits .and .i64 flags 3 == 0) = true := has_eq (b := false) (by simpa using hbad)
    clear hbad
    go_wp2_with fail
    refine (notc 22 _).mono ?_
    rintro e w' ⟨rfl, rfl⟩
    exact ⟨rfl, HX.out _ _ HC1.out.2 HE.out⟩
  have hb2 : 0 ≤ flags ∧ flags ≤ 63 ∧ hasB flags 3 = true := by simpa [and_assoc] using hbad
  have k1d : decide (flags < 0) = false := decide_eq_false (by omega)
  have k2d : decide (flags > 63) = false := decide_eq_false (by omega)
  have k3 : (bits .and .i64 flags 3 == 0) = false := has_eq hb2.2.2
  have HFL := Lib.hid hb2
  have HBD := Lib.hid hbad
  clear hbad hb2
  go_wp2_with fail
  refine (nofc 22 _).mono ?_
  rintro e w' ⟨rfl, rfl⟩
  clear k1d k2d k3
  go_wp2_with fail
  rcases h4 : hasB flags 4 with _ | _
  · refine (fhasc flags 4 bl false _ cl1 h4).mono ?_
    rintro e w' ⟨rfl, rfl⟩
    have H4 := Lib.hid h4
    clear h4
    go_wp2_with fail
    refine (fwalkc fb mb vs f _ l HLN.out _ (H.out.1.calm HC1.out.2) HC1.out.1).mono ?_
    rcases hw : f.walk l with c | n0
    · rintro e w' ⟨rfl, rfl⟩
      exact ⟨rfl, HX.out _ _ HC1.out.2 (HOP.out _ (by unfold FS.openE; rw [if_neg HBD.out, if_neg (by rw [H4.out]; simp)]; simp only; rw [hw]))⟩
    rintro e w' ⟨rfl, rfl⟩
    have HW := Lib.hid hw
    by_cases hn0 : n0 < 0
    · have hnd : decide (n0 < 0) = true := decide_eq_true hn0
      have HE := Lib.hid (HOP.out (.error 2) (by unfold FS.openE; rw [if_neg HBD.out, if_neg (by rw [H4.out]; simp)]; simp only; rw [hw]; simp only; rw [if_pos ⟨hn0, H4.out⟩]))
      clear hn0 hw
      go_wp2_with fail
      refine (fhasc flags 4 bl false _ cl1 H4.out).mono ?_
      rintro e w' ⟨rfl, rfl⟩
      go_wp2_with fail
      refine (notc 2 _).mono ?_
      rintro e w' ⟨rfl, rfl⟩
      exact ⟨rfl, HX.out _ _ HC1.out.2 HE.out⟩
    have hb := walk_bound H.out.1.inv hw
    obtain ⟨n, rfl⟩ := Int.eq_ofNat_of_zero_le (show 0 ≤ n0 by omega)
    have hn : n < 64 := by omega
    have hni : (f.nd (n : Int)).is = true := by rcases hb with h | h; omega; exact h.2.2
    have hnd : decide ((n : Int) < 0) = false := decide_eq_false hn0
    have hng : decide ((n : Int) ≥ 0) = true := decide_eq_true (by omega)
    have hnz : (n : Int) < 64 := by omega
    clear hw hb hn0
    go_wp2_with fail
    refine (nofc 2 _).mono ?_
    rintro e w' ⟨rfl, rfl⟩
    go_wp2_with fail
    refine (fhasc flags 4 bl false _ cl1 H4.out).mono ?_
    rintro e w' ⟨rfl, rfl⟩
    go_wp2_with fail
    refine (nofc 17 _).mono ?_
    rintro e w' ⟨rfl, rfl⟩
    go_wp2_with fail
    refine (fdirc fb mb vs f n hn _ (H.out.1.calm HC1.out.2)).mono ?_
    rcases hd : f.isDir n with _ | _
    · rintro e w2 ⟨rfl, rfl⟩
      have HEQ := Lib.hid (show f.openE l flags = f.openT f n flags by unfold FS.openE; rw [if_neg HBD.out, if_neg (by rw [H4.out]; simp)]; simp only; rw [HW.out]; simp only; rw [if_neg (by omega), if_neg (by rw [H4.out]; simp), if_neg (by rw [hd]; simp), if_neg (by omega)]; rfl)
      clear hd
      have HC2 := Lib.hid HC1.out.2
      have cl2 := cl1
      have cf2 := cf1
      go_wp2_with fail
      refine (nofc 21 _).mono ?_
      rintro e w' ⟨rfl, rfl⟩
      go_wp2_with fail
      have hidx := fidxFc fb mb vs f 32 #[] (fun x => !x.op) _ (H.out.1.calm HC2.out) (fun args w => by kernel_rfl) (fun x W hC => fopenIc x W)
      generalize ha : f.files.findIdx? (fun x => !x.op) = r at hidx
      refine hidx.mono ?_
      clear hidx
      rcases r with _ | i
      · rintro e w3 ⟨rfl, hC3⟩
        have HE := Lib.hid (And.intro (HOP.out (.error 11) (by rw [HEQ.out]; unfold FS.openT; rw [ha])) (HC2.out.trans hC3))
        simp only [idxV]
        clear hC3 ha cl2 cf2
        go_wp2_with fail
        refine (notc 11 _).mono ?_
        rintro e w' ⟨rfl, rfl⟩
        exact ⟨rfl, HX.out _ _ HE.out.2 HE.out.1⟩
      have hi : i < 16 := by have := findIdx_bound ha; rw [H.out.1.inv.lf] at this; exact this
      rintro e w3 ⟨rfl, hC3⟩
      have HC3 := Lib.hid (HC2.out.trans hC3)
      have cl3 := cell_chg hC3 (by simp) cl2
      have cf3 := cell_chg hC3 (by simp) cf2
      have hid : decide ((i : Int) < 0) = false := decide_eq_false (by omega)
      have hiz : (i : Int) < 16 := by omega
      have HA := Lib.hid ha
      clear ha hC3 cl2 cf2
      simp only [idxV]
      go_wp2_with fail
      refine (nofc 11 _).mono ?_
      rintro e w' ⟨rfl, rfl⟩
      go_wp2_with fail
      rcases h16 : hasB flags 16 with _ | _
      · refine (fhasc flags 16 bl false _ cl3 h16).mono ?_
        rintro e w' ⟨rfl, rfl⟩
        have HS := Lib.hid (And.intro (H.out.2.2.1.step (H.out.2.1.trans HC3.out)) (And.intro ((HC3.out.mono (by simp)) : Chg ([bx] ++ blkF fb mb vs f) w w3) (And.intro (HC3.out.blk H.out.2.2.2.1 (by simp)) (And.intro hni (HOP.out (.ok (f.setF i ⟨true, n, flags, 0⟩, i)) (by rw [HEQ.out]; unfold FS.openT; rw [HA.out]; simp only; rw [if_neg (by rw [h16]; simp)]))))))
        clear h16
        go_upto_region 20 with fail
        have hF4 := HS.out.1.at_
        obtain ⟨u0, u1, u2, u3⟩ := hF4.cF hi
        have uz := hF4.frz
        have x4 := cellB HS.out.2.2.1 (i := 0) (v := .int .i64 0) rfl
        have xz := frozenB HS.out.2.2.1
        generalize (FS.files _).getD i fl0 = xx at u0 u1 u2 u3
        obtain ⟨xx0, xx1, xx2, xx3⟩ := xx
        simp only at u0 u1 u2 u3
        clear hF4
        go_region
        all_goals
          go_wp2
          exact ⟨rfl, _, results_none rfl _ _ _, open_close HS.out.1 HS.out.2.2.1 H.out.2.2.2.2.1 hi hn HS.out.2.2.2.1 HFL.out.1 HFL.out.2.1 HS.out.2.2.2.2 HS.out.2.1 (by first | exact .inl rfl | exact .inr rfl) _⟩
      · refine (fhasc flags 16 bl true _ cl3 h16).mono ?_
        rintro e w' ⟨rfl, rfl⟩
        have hF3 := H.out.1.calm HC3.out
        obtain ⟨_, _, n2⟩ := hF3.cN hn
        have nz := hF3.frz (n * 3 + 2)
        obtain ⟨mb', vs', hcut⟩ := hF3.cut hn hni
        obtain ⟨w4, hw4⟩ : ∃ w4, w4 = w3.setCell ⟨fb, n * 3 + 2, none⟩ (.slice none 0 0) := ⟨_, rfl⟩
        have hC4 : Chg [fb] w3 w4 := by rw [hw4]; exact (Chg.refl _ _).setCell _ _ (.inl (by simp))
        have hbx4 := hC4.blk (HC3.out.blk H.out.2.2.2.1 (by simp)) (fun e => cells_ne H.out.2.2.2.1 H.out.1.head (by decide) (by simpa using e))
        have cl4 := cell_chg hC4 (by simpa using hlf) cl3
        have cf4 := cell_chg hC4 (by simpa using hff) cf3
        rw [← hw4] at hcut
        have HS := Lib.hid (And.intro ((H.out.2.2.1.step (H.out.2.1.trans HC3.out)).trans hcut) (And.intro ((HC3.out.mono (by simp)).trans (hC4.mono (by simp [blkF])) : Chg ([bx] ++ blkF fb mb vs f) w w4) (And.intro hbx4 (And.intro (show ((f.setN n { f.nd (n : Int) with b := [] }).nd (n : Int)).is = true by rw [show (f.setN n { f.nd (n : Int) with b := [] }).nd (n : Int) = { f.nd (n : Int) with b := [] } from setN_same H.out.1.inv.ln hn _]; exact hni) (HOP.out (.ok ((f.setN n { f.nd (n : Int) with b := [] }).setF i ⟨true, n, flags, 0⟩, i)) (by rw [HEQ.out]; unfold FS.openT; rw [HA.out]; simp only; rw [if_pos h16]))))))
        clear h16 hcut hC4 hbx4 hF3
        generalize vs n = v2 at n2
        go_upto_region 20 with fail
        rw [← hw4]
        clear hw4
        have hF4 := HS.out.1.at_
        obtain ⟨u0, u1, u2, u3⟩ := hF4.cF hi
        have uz := hF4.frz
        have x4 := cellB HS.out.2.2.1 (i := 0) (v := .int .i64 0) rfl
        have xz := frozenB HS.out.2.2.1
        generalize (FS.files _).getD i fl0 = xx at u0 u1 u2 u3
        obtain ⟨xx0, xx1, xx2, xx3⟩ := xx
        simp only at u0 u1 u2 u3
        clear hF4
        go_region
        all_goals
          go_wp2
          exact ⟨rfl, _, results_none rfl _ _ _, open_close HS.out.1 HS.out.2.2.1 H.out.2.2.2.2.1 hi hn HS.out.2.2.2.1 HFL.out.1 HFL.out.2.1 HS.out.2.2.2.2 HS.out.2.1 (by first | exact .inl rfl | exact .inr rfl) _⟩
    · rintro e w2 ⟨rfl, rfl⟩
      rcases h22 : hasB flags 22 with _ | _
      · have HEQ := Lib.hid (show f.openE l flags = f.openT f n flags by unfold FS.openE; rw [if_neg HBD.out, if_neg (by rw [H4.out]; simp)]; simp only; rw [HW.out]; simp only; rw [if_neg (by omega), if_neg (by rw [H4.out]; simp), if_neg (by rw [h22]; simp), if_neg (by omega)]; rfl)
        have H22 := Lib.hid h22
        clear hd h22
        have HC2 := Lib.hid HC1.out.2
        have cl2 := cl1
        have cf2 := cf1
        go_wp2_with fail
        refine (fhasc flags 22 bl false _ cl1 H22.out).mono ?_
        rintro e w' ⟨rfl, rfl⟩
        go_wp2_with fail
        refine (nofc 21 _).mono ?_
        rintro e w' ⟨rfl, rfl⟩
        go_wp2_with fail
        have hidx := fidxFc fb mb vs f 32 #[] (fun x => !x.op) _ (H.out.1.calm HC2.out) (fun args w => by kernel_rfl) (fun x W hC => fopenIc x W)
        generalize ha : f.files.findIdx? (fun x => !x.op) = r at hidx
        refine hidx.mono ?_
        clear hidx
        rcases r with _ | i
        · rintro e w3 ⟨rfl, hC3⟩
          have HE := Lib.hid (And.intro (HOP.out (.error 11) (by rw [HEQ.out]; unfold FS.openT; rw [ha])) (HC2.out.trans hC3))
          simp only [idxV]
          clear hC3 ha cl2 cf2
          go_wp2_with fail
          refine (notc 11 _).mono ?_
          rintro e w' ⟨rfl, rfl⟩
          exact ⟨rfl, HX.out _ _ HE.out.2 HE.out.1⟩
        have hi : i < 16 := by have := findIdx_bound ha; rw [H.out.1.inv.lf] at this; exact this
        rintro e w3 ⟨rfl, hC3⟩
        have HC3 := Lib.hid (HC2.out.trans hC3)
        have cl3 := cell_chg hC3 (by simp) cl2
        have cf3 := cell_chg hC3 (by simp) cf2
        have hid : decide ((i : Int) < 0) = false := decide_eq_false (by omega)
        have hiz : (i : Int) < 16 := by omega
        have HA := Lib.hid ha
        clear ha hC3 cl2 cf2
        simp only [idxV]
        go_wp2_with fail
        refine (nofc 11 _).mono ?_
        rintro e w' ⟨rfl, rfl⟩
        go_wp2_with fail
        rcases h16 : hasB flags 16 with _ | _
        · refine (fhasc flags 16 bl false _ cl3 h16).mono ?_
          rintro e w' ⟨rfl, rfl⟩
          have HS := Lib.hid (And.intro (H.out.2.2.1.step (H.out.2.1.trans HC3.out)) (And.intro ((HC3.out.mono (by simp)) : Chg ([bx] ++ blkF fb mb vs f) w w3) (And.intro (HC3.out.blk H.out.2.2.2.1 (by simp)) (And.intro hni (HOP.out (.ok (f.setF i ⟨true, n, flags, 0⟩, i)) (by rw [HEQ.out]; unfold FS.openT; rw [HA.out]; simp only; rw [if_neg (by rw [h16]; simp)]))))))
          clear h16
          go_upto_region 20 with fail
          have hF4 := HS.out.1.at_
          obtain ⟨u0, u1, u2, u3⟩ := hF4.cF hi
          have uz := hF4.frz
          have x4 := cellB HS.out.2.2.1 (i := 0) (v := .int .i64 0) rfl
          have xz := frozenB HS.out.2.2.1
          generalize (FS.files _).getD i fl0 = xx at u0 u1 u2 u3
          obtain ⟨xx0, xx1, xx2, xx3⟩ := xx
          simp only at u0 u1 u2 u3
          clear hF4
          go_region
          all_goals
            go_wp2
            exact ⟨rfl, _, results_none rfl _ _ _, open_close HS.out.1 HS.out.2.2.1 H.out.2.2.2.2.1 hi hn HS.out.2.2.2.1 HFL.out.1 HFL.out.2.1 HS.out.2.2.2.2 HS.out.2.1 (by first | exact .inl rfl | exact .inr rfl) _⟩
        · refine (fhasc flags 16 bl true _ cl3 h16).mono ?_
          rintro e w' ⟨rfl, rfl⟩
          have hF3 := H.out.1.calm HC3.out
          obtain ⟨_, _, n2⟩ := hF3.cN hn
          have nz := hF3.frz (n * 3 + 2)
          obtain ⟨mb', vs', hcut⟩ := hF3.cut hn hni
          obtain ⟨w4, hw4⟩ : ∃ w4, w4 = w3.setCell ⟨fb, n * 3 + 2, none⟩ (.slice none 0 0) := ⟨_, rfl⟩
          have hC4 : Chg [fb] w3 w4 := by rw [hw4]; exact (Chg.refl _ _).setCell _ _ (.inl (by simp))
          have hbx4 := hC4.blk (HC3.out.blk H.out.2.2.2.1 (by simp)) (fun e => cells_ne H.out.2.2.2.1 H.out.1.head (by decide) (by simpa using e))
          have cl4 := cell_chg hC4 (by simpa using hlf) cl3
          have cf4 := cell_chg hC4 (by simpa using hff) cf3
          rw [← hw4] at hcut
          have HS := Lib.hid (And.intro ((H.out.2.2.1.step (H.out.2.1.trans HC3.out)).trans hcut) (And.intro ((HC3.out.mono (by simp)).trans (hC4.mono (by simp [blkF])) : Chg ([bx] ++ blkF fb mb vs f) w w4) (And.intro hbx4 (And.intro (show ((f.setN n { f.nd (n : Int) with b := [] }).nd (n : Int)).is = true by rw [show (f.setN n { f.nd (n : Int) with b := [] }).nd (n : Int) = { f.nd (n : Int) with b := [] } from setN_same H.out.1.inv.ln hn _]; exact hni) (HOP.out (.ok ((f.setN n { f.nd (n : Int) with b := [] }).setF i ⟨true, n, flags, 0⟩, i)) (by rw [HEQ.out]; unfold FS.openT; rw [HA.out]; simp only; rw [if_pos h16]))))))
          clear h16 hcut hC4 hbx4 hF3
          generalize vs n = v2 at n2
          go_upto_region 20 with fail
          rw [← hw4]
          clear hw4
          have hF4 := HS.out.1.at_
          obtain ⟨u0, u1, u2, u3⟩ := hF4.cF hi
          have uz := hF4.frz
          have x4 := cellB HS.out.2.2.1 (i := 0) (v := .int .i64 0) rfl
          have xz := frozenB HS.out.2.2.1
          generalize (FS.files _).getD i fl0 = xx at u0 u1 u2 u3
          obtain ⟨xx0, xx1, xx2, xx3⟩ := xx
          simp only at u0 u1 u2 u3
          clear hF4
          go_region
          all_goals
            go_wp2
            exact ⟨rfl, _, results_none rfl _ _ _, open_close HS.out.1 HS.out.2.2.1 H.out.2.2.2.2.1 hi hn HS.out.2.2.2.1 HFL.out.1 HFL.out.2.1 HS.out.2.2.2.2 HS.out.2.1 (by first | exact .inl rfl | exact .inr rfl) _⟩
      · have HE := Lib.hid (HOP.out (.error 21) (by unfold FS.openE; rw [if_neg HBD.out, if_neg (by rw [H4.out]; simp)]; simp only; rw [HW.out]; simp only; rw [if_neg (by omega), if_neg (by rw [H4.out]; simp), if_pos ⟨by omega, hd, h22⟩]))
        have H22 := Lib.hid h22
        clear hd h22
        go_wp2_with fail
        refine (fhasc flags 22 bl true _ cl1 H22.out).mono ?_
        rintro e w' ⟨rfl, rfl⟩
        go_wp2_with fail
        refine (notc 21 _).mono ?_
        rintro e w' ⟨rfl, rfl⟩
        exact ⟨rfl, HX.out _ _ HC1.out.2 HE.out⟩
  · refine (fhasc flags 4 bl true _ cl1 h4).mono ?_
    rintro e w' ⟨rfl, rfl⟩
    have H4 := Lib.hid h4
    clear h4
    go_wp2_with fail
    refine (fplacec fb mb vs f _ l HLN.out _ (H.out.1.calm HC1.out.2) HC1.out.1).mono ?_
    rcases hp : f.place l with c | o
    · rintro e w2 ⟨rfl, hC2⟩
      exact ⟨rfl, HX.out _ _ (HC1.out.2.trans hC2) (HOP.out _ (by unfold FS.openE; rw [if_neg HBD.out, if_pos H4.out, hp]))⟩
    have HP := Lib.hid hp
    rintro e w2 ⟨he, hC2⟩
    have HC2 := Lib.hid (HC1.out.2.trans hC2)
    have HV2 := Lib.hid (HC1.out.1.calm hC2)
    have cf2 := cell_chg hC2 (by simp) cf1
    have cl2 := cell_chg hC2 (by simp) cl1
    clear hC2 cf1 cl1
    have he' : e = .returned (.tuple #[.map (o.map fun q => mb q.1.toNat), .string ((o.map (·.2)).getD ⟨#[]⟩)]) := by
      rcases o with _ | ⟨d0, s⟩
      · exact he
      · exact he
    subst he'
    clear he hp
    obtain ⟨ov, hov⟩ : ∃ ov, ov = o.map fun q => mb q.1.toNat := ⟨_, rfl⟩
    obtain ⟨os, hos⟩ : ∃ os, os = (o.map (·.2)).getD (⟨#[]⟩ : ByteArray) := ⟨_, rfl⟩
    rw [← hov, ← hos]
    have HO := Lib.hid (And.intro hov hos)
    clear hov hos
    go_wp2_with fail
    refine (fwalkc fb mb vs f _ l HLN.out _ (H.out.1.calm HC2.out) HV2.out).mono ?_
    rcases hw : f.walk l with c | n0
    · rintro e w' ⟨rfl, rfl⟩
      exact ⟨rfl, HX.out _ _ HC2.out (HOP.out _ (by unfold FS.openE; rw [if_neg HBD.out, if_pos H4.out, HP.out]; simp only; rw [hw]))⟩
    rintro e w' ⟨rfl, rfl⟩
    have HW := Lib.hid hw
    by_cases hn0 : n0 < 0
    · have hnd : decide (n0 < 0) = true := decide_eq_true hn0
      have hng : decide (n0 ≥ 0) = false := decide_eq_false (by omega)
      have HN := Lib.hid hn0
      clear hn0 hw
      go_wp2_with fail
      refine (fhasc flags 4 bl true _ cl2 H4.out).mono ?_
      rintro e w' ⟨rfl, rfl⟩
      go_wp2_with fail
      refine (nofc 2 _).mono ?_
      rintro e w' ⟨rfl, rfl⟩
      go_wp2_with fail
      refine (nofc 17 _).mono ?_
      rintro e w' ⟨rfl, rfl⟩
      go_wp2_with fail
      refine (nofc 21 _).mono ?_
      rintro e w' ⟨rfl, rfl⟩
      go_wp2_with fail
      refine (ffreec fb mb vs f _ (H.out.1.calm HC2.out)).mono ?_
      have HU := Lib.hid (fun r (h : f.free = r) => openE_new HBD.out H4.out HP.out HW.out HN.out h)
      rcases hf : f.free with _ | k0
      · rintro e w3 ⟨rfl, hC3⟩
        exact ⟨rfl, HX.out _ _ (HC2.out.trans hC3) (HOP.out _ (HU.out _ hf))⟩
      obtain ⟨n, rfl, hn, hki⟩ := freeF_some H.out.1.inv hf
      rintro e w3' ⟨rfl, hC3⟩
      have HEQ := Lib.hid (HU.out _ hf)
      have HC2' := Lib.hid (HC2.out.trans hC3)
      have cl2' := cell_chg hC3 (by simp) cl2
      have cf2' := cell_chg hC3 (by simp) cf2
      clear hf hC3 cl2 cf2 HC2
      have HC2 := HC2'
      have cl2 := cl2'
      have cf2 := cf2'
      clear HC2' cl2' cf2'
      go_wp2_with fail
      have hidx := fidxFc fb mb vs f 32 #[] (fun x => !x.op) _ (H.out.1.calm HC2.out) (fun args w => by kernel_rfl) (fun x W hC => fopenIc x W)
      generalize ha : f.files.findIdx? (fun x => !x.op) = r at hidx
      refine hidx.mono ?_
      clear hidx
      rcases r with _ | i
      · rintro e w3 ⟨rfl, hC3⟩
        have HE := Lib.hid (And.intro (HOP.out (.error 11) (by rw [HEQ.out]; unfold FS.openT; simp only; rw [ha])) (HC2.out.trans hC3))
        simp only [idxV]
        clear hC3 ha cl2 cf2
        go_wp2_with fail
        refine (notc 11 _).mono ?_
        rintro e w' ⟨rfl, rfl⟩
        exact ⟨rfl, HX.out _ _ HE.out.2 HE.out.1⟩
      have hi : i < 16 := by have := findIdx_bound ha; rw [H.out.1.inv.lf] at this; exact this
      rintro e w3 ⟨rfl, hC3⟩
      have HC3 := Lib.hid (HC2.out.trans hC3)
      have cl3 := cell_chg hC3 (by simp) cl2
      have cf3 := cell_chg hC3 (by simp) cf2
      have hid : decide ((i : Int) < 0) = false := decide_eq_false (by omega)
      have hiz : (i : Int) < 16 := by omega
      have HA := Lib.hid ha
      clear ha hC3 cl2 cf2
      simp only [idxV]
      go_wp2_with fail
      refine (nofc 11 _).mono ?_
      rintro e w' ⟨rfl, rfl⟩
      rcases o with _ | ⟨d0, s⟩
      · exfalso
        obtain rfl := place_none HP.out
        have h1 := HW.out
        rw [show f.walk [] = .ok 0 from rfl] at h1
        injection h1 with h1
        have := HN.out
        omega
      obtain ⟨d, rfl, hd64, hdd⟩ := place_some H.out.1.inv HP.out
      obtain ⟨m, hm⟩ := Option.isSome_iff_exists.1 hdd
      have hov : ov = some (mb d) := HO.out.1
      have hos : os = s := HO.out.2
      subst hov hos
      have hF := H.out.1.calm HC3.out
      obtain ⟨W4, hW4⟩ : ∃ W4, W4 = ((w3.setCell ⟨fb, n * 3, none⟩ (.bool true)).setCell ⟨fb, n * 3 + 1, none⟩ (.map none)).setCell ⟨fb, n * 3 + 2, none⟩ (.slice none 0 0) := ⟨_, rfl⟩
      have hCa : Chg [fb] w3 W4 := by rw [hW4]; exact (((Chg.refl _ _).setCell _ _ (.inl (by simp))).setCell _ _ (.inl (by simp))).setCell _ _ (.inl (by simp))
      have hM4 := (hF.mp d hd64 m hm).kept hCa (by simpa using hF.sep_map hd64 hdd)
      obtain ⟨W5, hu, hm5, hC5⟩ := sRun_update_P (P := Tryd.prog) Tryd.underlying49 Tryd.underlying9 hM4 os (.int .i64 n)
      have hh4 : W4.heap[fb]? = some (.cells (fsCells (f.setN n ⟨true, none, []⟩) (updN mb n 0) (updN vs n (.slice none 0 0))) 57 (0, 0)) := by
        rw [hW4, ← fsCells_node H.out.1.inv.ln hn]
        exact blk_setCell (blk_setCell (blk_setCell hF.head _) _) _
      obtain ⟨mb1, vs1, hS⟩ := hF.put fb mb vs f hn hd64 hki hm (.inl rfl) os hCa hh4 (fun e => by cases e) hC5 hm5
      obtain ⟨f1, hf1⟩ : ∃ f1, f1 = (f.setN n ⟨true, none, []⟩).name d os n := ⟨_, rfl⟩
      rw [← hf1] at hS
      have hdn : d ≠ n := by
        rintro rfl
        rw [H.out.1.inv.free _ (H.out.1.inv.ndAt hn) hki] at hm
        cases hm
      have hx5 : W5.heap[bx]? = some (.cells #[.int .i64 0] 3 (0, 0)) := hC5.blk (hCa.blk (HC3.out.blk H.out.2.2.2.1 (by simp)) (fun e => cells_ne H.out.2.2.2.1 H.out.1.head (by decide) (by simpa using e))) (fun e => (hF.mp d hd64 m hm).ne (HC3.out.blk H.out.2.2.2.1 (by simp)) (show bx = mb d by simpa using e).symm)
      have hbl5 : bl ≠ mb d := fun e => hbd d hd64 hdd (by simp [e])
      have hbf5 : bf ≠ mb d := fun e => hbd d hd64 hdd (by simp [e])
      have cl5 := cell_chg hC5 (by simpa using hbl5) (cell_chg hCa (by simpa using hlf) cl3)
      have cf5 := cell_chg hC5 (by simpa using hbf5) (cell_chg hCa (by simpa using hff) cf3)
      have hni : (f1.nd (n : Int)).is = true := by
        rw [hf1]
        unfold FS.name
        rw [show ((f.setN n ⟨true, none, []⟩).setN d { (f.setN n ⟨true, none, []⟩).nd d with dir := ((f.setN n ⟨true, none, []⟩).nd d).dir.map (nmPut · os n) }).nd (n : Int) = (f.setN n ⟨true, none, []⟩).nd (n : Int) from getD_set_ne _ _ _ (by simp; omega)]
        exact congrArg Nd.is (show (f.setN n ⟨true, none, []⟩).nd (n : Int) = ⟨true, none, []⟩ from setN_same H.out.1.inv.ln hn _)
      have hCx : Chg ([bx] ++ blkF fb mb vs f) w W5 := (HC3.out.mono (by simp)).trans ((hCa.mono (by simp [blkF])).trans (hC5.mono (fun j hj => .inl (by simp at hj; subst hj; exact List.mem_append_right _ (mem_blkF.2 (.inr ⟨d, hd64, .inl ⟨hdd, rfl⟩⟩))))))
      have HS0 := Lib.hid (And.intro ((H.out.2.2.1.step (H.out.2.1.trans HC3.out)).trans hS) (And.intro hCx (And.intro hx5 hni)))
      have HEQ2 := Lib.hid (show f.openE l flags = f.openT f1 n flags by rw [HEQ.out, hf1]; rfl)
      obtain ⟨z0, z1, z2⟩ := hF.cN hn
      have zf := hF.frz
      generalize (f.nodes.getD n nd0).is = q0 at z0
      generalize (if (f.nodes.getD n nd0).dir.isSome = true then some (mb n) else none) = q1 at z1
      generalize vs n = q2 at z2
      rw [hW4] at hu
      have hnz : (n : Int) < 64 := by omega
      clear hS hh4 hC5 hm5 hM4 hCa hW4 hF hm hdd hki hdn hx5 hbl5 hbf5 hCx hni hf1
      go_wp2_with fail
      rcases h16 : hasB flags 16 with _ | _
      · refine (fhasc flags 16 bl false _ cl5 h16).mono ?_
        rintro e w' ⟨rfl, rfl⟩
        have HS := Lib.hid (And.intro HS0.out.1 (And.intro HS0.out.2.1 (And.intro HS0.out.2.2.1 (And.intro HS0.out.2.2.2 (HOP.out (.ok (f1.setF i ⟨true, n, flags, 0⟩, i)) (by rw [HEQ2.out]; unfold FS.openT; rw [HA.out]; simp only; rw [if_neg (by rw [h16]; simp)]))))))
        clear h16 z0 z1 z2 zf hu cl3 cf3
        go_upto_region 20 with fail
        have hF4 := HS.out.1.at_
        obtain ⟨u0, u1, u2, u3⟩ := hF4.cF hi
        have uz := hF4.frz
        have x4 := cellB HS.out.2.2.1 (i := 0) (v := .int .i64 0) rfl
        have xz := frozenB HS.out.2.2.1
        generalize (FS.files _).getD i fl0 = xx at u0 u1 u2 u3
        obtain ⟨xx0, xx1, xx2, xx3⟩ := xx
        simp only at u0 u1 u2 u3
        clear hF4
        go_region
        all_goals
          go_wp2
          exact ⟨rfl, _, results_none rfl _ _ _, open_close HS.out.1 HS.out.2.2.1 H.out.2.2.2.2.1 hi hn HS.out.2.2.2.1 HFL.out.1 HFL.out.2.1 HS.out.2.2.2.2 HS.out.2.1 (by first | exact .inl rfl | exact .inr rfl) _⟩
      · refine (fhasc flags 16 bl true _ cl5 h16).mono ?_
        rintro e w' ⟨rfl, rfl⟩
        clear z0 z1 z2 zf hu cl3 cf3
        have hF5 := HS0.out.1.at_
        obtain ⟨_, _, n2⟩ := hF5.cN hn
        have nz := hF5.frz (n * 3 + 2)
        obtain ⟨mb', vs', hcut⟩ := hF5.cut hn HS0.out.2.2.2
        obtain ⟨w6, hw6⟩ : ∃ w6, w6 = W5.setCell ⟨fb, n * 3 + 2, none⟩ (.slice none 0 0) := ⟨_, rfl⟩
        have hC6 : Chg [fb] W5 w6 := by rw [hw6]; exact (Chg.refl _ _).setCell _ _ (.inl (by simp))
        have hbx6 := hC6.blk HS0.out.2.2.1 (fun e => cells_ne H.out.2.2.2.1 H.out.1.head (by decide) (by simpa using e))
        have cl6 := cell_chg hC6 (by simpa using hlf) cl5
        have cf6 := cell_chg hC6 (by simpa using hff) cf5
        rw [← hw6] at hcut
        have HS := Lib.hid (And.intro (HS0.out.1.trans hcut) (And.intro (HS0.out.2.1.trans (hC6.mono (by simp [blkF]))) (And.intro hbx6 (And.intro (show ((f1.setN n { f1.nd (n : Int) with b := [] }).nd (n : Int)).is = true by rw [show (f1.setN n { f1.nd (n : Int) with b := [] }).nd (n : Int) = { f1.nd (n : Int) with b := [] } from setN_same hF5.inv.ln hn _]; exact HS0.out.2.2.2) (HOP.out (.ok ((f1.setN n { f1.nd (n : Int) with b := [] }).setF i ⟨true, n, flags, 0⟩, i)) (by rw [HEQ2.out]; unfold FS.openT; rw [HA.out]; simp only; rw [if_pos h16]))))))
        clear h16 hcut hC6 hbx6 hF5
        generalize vs1 n = v2 at n2
        go_upto_region 20 with fail
        rw [← hw6]
        clear hw6
        have hF4 := HS.out.1.at_
        obtain ⟨u0, u1, u2, u3⟩ := hF4.cF hi
        have uz := hF4.frz
        have x4 := cellB HS.out.2.2.1 (i := 0) (v := .int .i64 0) rfl
        have xz := frozenB HS.out.2.2.1
        generalize (FS.files _).getD i fl0 = xx at u0 u1 u2 u3
        obtain ⟨xx0, xx1, xx2, xx3⟩ := xx
        simp only at u0 u1 u2 u3
        clear hF4
        go_region
        all_goals
          go_wp2
          exact ⟨rfl, _, results_none rfl _ _ _, open_close HS.out.1 HS.out.2.2.1 H.out.2.2.2.2.1 hi hn HS.out.2.2.2.1 HFL.out.1 HFL.out.2.1 HS.out.2.2.2.2 HS.out.2.1 (by first | exact .inl rfl | exact .inr rfl) _⟩
    · have hb := walk_bound H.out.1.inv hw
      obtain ⟨n, rfl⟩ := Int.eq_ofNat_of_zero_le (show 0 ≤ n0 by omega)
      have hn : n < 64 := by omega
      have hni : (f.nd (n : Int)).is = true := by rcases hb with h | h; omega; exact h.2.2
      have hnd : decide ((n : Int) < 0) = false := decide_eq_false hn0
      have hng : decide ((n : Int) ≥ 0) = true := decide_eq_true (by omega)
      have hnz : (n : Int) < 64 := by omega
      clear hw hb hn0
      go_wp2_with fail
      refine (nofc 2 _).mono ?_
      rintro e w' ⟨rfl, rfl⟩
      go_wp2_with fail
      refine (fhasc flags 4 bl true _ cl2 H4.out).mono ?_
      rintro e w' ⟨rfl, rfl⟩
      go_wp2_with fail
      rcases h8 : hasB flags 8 with _ | _
      · refine (fhasc flags 8 bl false _ cl2 h8).mono ?_
        rintro e w' ⟨rfl, rfl⟩
        have H8 := Lib.hid h8
        clear h8
        go_wp2_with fail
        refine (nofc 17 _).mono ?_
        rintro e w' ⟨rfl, rfl⟩
        go_wp2_with fail
        refine (fdirc fb mb vs f n hn _ (H.out.1.calm HC2.out)).mono ?_
        rcases hd : f.isDir n with _ | _
        · rintro e w2 ⟨rfl, rfl⟩
          have HEQ := Lib.hid (show f.openE l flags = f.openT f n flags by unfold FS.openE; rw [if_neg HBD.out, if_pos H4.out, HP.out]; simp only; rw [HW.out]; simp only; rw [if_neg (by omega), if_neg (by rw [H8.out]; simp), if_neg (by rw [hd]; simp), if_neg (by omega)]; rfl)
          clear hd
          go_wp2_with fail
          refine (nofc 21 _).mono ?_
          rintro e w' ⟨rfl, rfl⟩
          go_wp2_with fail
          have hidx := fidxFc fb mb vs f 32 #[] (fun x => !x.op) _ (H.out.1.calm HC2.out) (fun args w => by kernel_rfl) (fun x W hC => fopenIc x W)
          generalize ha : f.files.findIdx? (fun x => !x.op) = r at hidx
          refine hidx.mono ?_
          clear hidx
          rcases r with _ | i
          · rintro e w3 ⟨rfl, hC3⟩
            have HE := Lib.hid (And.intro (HOP.out (.error 11) (by rw [HEQ.out]; unfold FS.openT; rw [ha])) (HC2.out.trans hC3))
            simp only [idxV]
            clear hC3 ha cl2 cf2
            go_wp2_with fail
            refine (notc 11 _).mono ?_
            rintro e w' ⟨rfl, rfl⟩
            exact ⟨rfl, HX.out _ _ HE.out.2 HE.out.1⟩
          have hi : i < 16 := by have := findIdx_bound ha; rw [H.out.1.inv.lf] at this; exact this
          rintro e w3 ⟨rfl, hC3⟩
          have HC3 := Lib.hid (HC2.out.trans hC3)
          have cl3 := cell_chg hC3 (by simp) cl2
          have cf3 := cell_chg hC3 (by simp) cf2
          have hid : decide ((i : Int) < 0) = false := decide_eq_false (by omega)
          have hiz : (i : Int) < 16 := by omega
          have HA := Lib.hid ha
          clear ha hC3 cl2 cf2
          simp only [idxV]
          go_wp2_with fail
          refine (nofc 11 _).mono ?_
          rintro e w' ⟨rfl, rfl⟩
          go_wp2_with fail
          rcases h16 : hasB flags 16 with _ | _
          · refine (fhasc flags 16 bl false _ cl3 h16).mono ?_
            rintro e w' ⟨rfl, rfl⟩
            have HS := Lib.hid (And.intro (H.out.2.2.1.step (H.out.2.1.trans HC3.out)) (And.intro ((HC3.out.mono (by simp)) : Chg ([bx] ++ blkF fb mb vs f) w w3) (And.intro (HC3.out.blk H.out.2.2.2.1 (by simp)) (And.intro hni (HOP.out (.ok (f.setF i ⟨true, n, flags, 0⟩, i)) (by rw [HEQ.out]; unfold FS.openT; rw [HA.out]; simp only; rw [if_neg (by rw [h16]; simp)]))))))
            clear h16
            go_upto_region 20 with fail
            have hF4 := HS.out.1.at_
            obtain ⟨u0, u1, u2, u3⟩ := hF4.cF hi
            have uz := hF4.frz
            have x4 := cellB HS.out.2.2.1 (i := 0) (v := .int .i64 0) rfl
            have xz := frozenB HS.out.2.2.1
            generalize (FS.files _).getD i fl0 = xx at u0 u1 u2 u3
            obtain ⟨xx0, xx1, xx2, xx3⟩ := xx
            simp only at u0 u1 u2 u3
            clear hF4
            go_region
            all_goals
              go_wp2
              exact ⟨rfl, _, results_none rfl _ _ _, open_close HS.out.1 HS.out.2.2.1 H.out.2.2.2.2.1 hi hn HS.out.2.2.2.1 HFL.out.1 HFL.out.2.1 HS.out.2.2.2.2 HS.out.2.1 (by first | exact .inl rfl | exact .inr rfl) _⟩
          · refine (fhasc flags 16 bl true _ cl3 h16).mono ?_
            rintro e w' ⟨rfl, rfl⟩
            have hF3 := H.out.1.calm HC3.out
            obtain ⟨_, _, n2⟩ := hF3.cN hn
            have nz := hF3.frz (n * 3 + 2)
            obtain ⟨mb', vs', hcut⟩ := hF3.cut hn hni
            obtain ⟨w4, hw4⟩ : ∃ w4, w4 = w3.setCell ⟨fb, n * 3 + 2, none⟩ (.slice none 0 0) := ⟨_, rfl⟩
            have hC4 : Chg [fb] w3 w4 := by rw [hw4]; exact (Chg.refl _ _).setCell _ _ (.inl (by simp))
            have hbx4 := hC4.blk (HC3.out.blk H.out.2.2.2.1 (by simp)) (fun e => cells_ne H.out.2.2.2.1 H.out.1.head (by decide) (by simpa using e))
            have cl4 := cell_chg hC4 (by simpa using hlf) cl3
            have cf4 := cell_chg hC4 (by simpa using hff) cf3
            rw [← hw4] at hcut
            have HS := Lib.hid (And.intro ((H.out.2.2.1.step (H.out.2.1.trans HC3.out)).trans hcut) (And.intro ((HC3.out.mono (by simp)).trans (hC4.mono (by simp [blkF])) : Chg ([bx] ++ blkF fb mb vs f) w w4) (And.intro hbx4 (And.intro (show ((f.setN n { f.nd (n : Int) with b := [] }).nd (n : Int)).is = true by rw [show (f.setN n { f.nd (n : Int) with b := [] }).nd (n : Int) = { f.nd (n : Int) with b := [] } from setN_same H.out.1.inv.ln hn _]; exact hni) (HOP.out (.ok ((f.setN n { f.nd (n : Int) with b := [] }).setF i ⟨true, n, flags, 0⟩, i)) (by rw [HEQ.out]; unfold FS.openT; rw [HA.out]; simp only; rw [if_pos h16]))))))
            clear h16 hcut hC4 hbx4 hF3
            generalize vs n = v2 at n2
            go_upto_region 20 with fail
            rw [← hw4]
            clear hw4
            have hF4 := HS.out.1.at_
            obtain ⟨u0, u1, u2, u3⟩ := hF4.cF hi
            have uz := hF4.frz
            have x4 := cellB HS.out.2.2.1 (i := 0) (v := .int .i64 0) rfl
            have xz := frozenB HS.out.2.2.1
            generalize (FS.files _).getD i fl0 = xx at u0 u1 u2 u3
            obtain ⟨xx0, xx1, xx2, xx3⟩ := xx
            simp only at u0 u1 u2 u3
            clear hF4
            go_region
            all_goals
              go_wp2
              exact ⟨rfl, _, results_none rfl _ _ _, open_close HS.out.1 HS.out.2.2.1 H.out.2.2.2.2.1 hi hn HS.out.2.2.2.1 HFL.out.1 HFL.out.2.1 HS.out.2.2.2.2 HS.out.2.1 (by first | exact .inl rfl | exact .inr rfl) _⟩
        · rintro e w2 ⟨rfl, rfl⟩
          have h22 := (has_22 HFL.out.1 HFL.out.2.1).1 H4.out
          have HE := Lib.hid (HOP.out (.error 21) (by unfold FS.openE; rw [if_neg HBD.out, if_pos H4.out, HP.out]; simp only; rw [HW.out]; simp only; rw [if_neg (by omega), if_neg (by rw [H8.out]; simp), if_pos ⟨by omega, hd, h22⟩]))
          have H22 := Lib.hid h22
          clear hd h22
          go_wp2_with fail
          refine (fhasc flags 22 bl true _ cl2 H22.out).mono ?_
          rintro e w' ⟨rfl, rfl⟩
          go_wp2_with fail
          refine (notc 21 _).mono ?_
          rintro e w' ⟨rfl, rfl⟩
          exact ⟨rfl, HX.out _ _ HC2.out HE.out⟩
      · refine (fhasc flags 8 bl true _ cl2 h8).mono ?_
        rintro e w' ⟨rfl, rfl⟩
        have HE := Lib.hid (HOP.out (.error 17) (by unfold FS.openE; rw [if_neg HBD.out, if_pos H4.out, HP.out]; simp only; rw [HW.out]; simp only; rw [if_neg (by omega), if_pos ⟨by omega, H4.out, h8⟩]))
        clear h8
        go_wp2_with fail
        refine (notc 17 _).mono ?_
        rintro e w' ⟨rfl, rfl⟩
        exact ⟨rfl, HX.out _ _ HC2.out HE.out⟩

end Go.Proofs.YtkkjbnmfjhmobaaDoor
