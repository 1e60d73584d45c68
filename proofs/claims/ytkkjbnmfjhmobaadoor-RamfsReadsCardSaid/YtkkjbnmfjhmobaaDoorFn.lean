
/- Package ramfs: a call over face; Close: contracts. -/
import Derived.Test.YtkkjbnmfjhmobaaDoorFm
import Derived.Test.YtkkjbnmfjhmobaaDoorFc
namespace Go.Proofs.YtkkjbnmfjhmobaaDoor
open Go.RowKit

theorem FAt.notin {w : World} {fb : Nat} {mb : Nat → Nat} {vs : Nat → Value} {f : FS} (h : FAt w fb mb vs f) {k : Nat} {cs : Array Value} {T : TypeId} {fr : Nat × Nat} (hk : w.heap[k]? = some (.cells cs T fr)) (h1 : T ≠ 57) (h2 : T ≠ 5) : k ∉ blkF fb mb vs f := by
  intro hm
  rcases mem_blkF.1 hm with rfl | ⟨i, hi, ⟨hs, rfl⟩ | hr⟩
  · exact cells_ne hk h.head h1 rfl
  · obtain ⟨m, hd⟩ := Option.isSome_iff_exists.1 hs
    exact (h.mp i hi m hd).ne hk rfl
  · obtain ⟨cs, hcs⟩ := own_cells (h.row i hi) _ hr
    exact cells_ne hk hcs h2 rfl

/-- What a call leaves: its files, or why it gave up and nothing else. -/
def ERes (w w' : World) (fb : Nat) (mb : Nat → Nat) (vs : Nat → Value) (f : FS) (r : Except Int FS) (c : Int) : Prop := match r with
  | .ok f' => c = 0 ∧ ∃ mb' vs', FStep w w' fb mb vs f mb' vs' f'
  | .error k => c = k ∧ Chg [] w w'
/-- What its closure leaves. -/
def EDo (w W' : World) (fb : Nat) (mb : Nat → Nat) (vs : Nat → Value) (f : FS) (r : Except Int FS) (X : World → Prop) (e : Ending) : Prop := match r with
  | .ok f' => (∃ v, e = .returned v) ∧ (∃ mb' vs', FStep w W' fb mb vs f mb' vs' f') ∧ X W'
  | .error k => e = .panicked (refP k) ∧ Chg [] w W' ∧ X W'
theorem FStep.calmNew {w W' w' : World} {fb : Nat} {mb mb' : Nat → Nat} {vs vs' : Nat → Value} {f f' : FS} (h : FStep w W' fb mb vs f mb' vs' f') {k : Nat} (hC : Chg [k] W' w') (hk : w.heap.size ≤ k) (hn : k ∉ blkF fb mb' vs' f') : FStep w w' fb mb vs f mb' vs' f' :=
  ⟨h.at_.kept hC (by simpa using hn), h.chg.trans' hC (fun j hj => .inr (by simp at hj; omega)), h.blk⟩
theorem facer (fb : Nat) (mb : Nat → Nat) (vs : Nat → Value) (f : FS) (g : Nat) (lb : Array Value) (w0 w : World) (hC : Chg [] w0 w) (h : FAt w0 fb mb vs f) (eg : ∀ args w, (callFunc g args).run Tryd.prog w = .ok (.enter g args) w) (r : Except Int FS) (X : World → Prop)
    (hdo : Calls Tryd.prog g lb (w.alloc (.cells #[.int .i64 0] 30 (0, 0))) fun e W' => EDo w0 W' fb mb vs f r X e ∧ W'.heap[w.heap.size]? = some (.cells #[.int .i64 0] 30 (0, 0))) :
    Calls Tryd.prog 22 #[.pointer (some ⟨fb, 0, none⟩), .func (.func g) #[] lb] w fun e w' => ∃ c W', e = .returned (.int .i64 c) ∧ ERes w0 w' fb mb vs f r c ∧ X W' ∧ Chg [w.heap.size] W' w' := by
  refine (ffacec fb mb vs f g lb w (h.calm hC) eg (fun c W' => (match r with
    | .ok f' => c = 0 ∧ (∃ mb' vs', FStep w0 W' fb mb vs f mb' vs' f')
    | .error k => c = k ∧ Chg [] w0 W') ∧ X W' ∧ W'.heap[w.heap.size]? = some (.cells #[.int .i64 0] 30 (0, 0))) ?_).mono ?_
  · refine hdo.mono ?_
    rintro e W' ⟨hE, hb⟩
    refine ⟨hb, ?_⟩
    unfold EDo at hE
    cases r with
    | ok f' =>
      obtain ⟨⟨v, rfl⟩, hs, hx⟩ := hE
      exact .inl ⟨v, rfl, ⟨rfl, hs⟩, hx, hb⟩
    | error k =>
      obtain ⟨rfl, hs, hx⟩ := hE
      exact .inr ⟨k, rfl, ⟨rfl, hs⟩, hx, hb⟩
  · rintro e w' ⟨c, W', rfl, ⟨hr, hx, hb⟩, hc⟩
    refine ⟨c, W', rfl, ?_, hx, hc⟩
    unfold ERes
    cases r with
    | ok f' =>
      obtain ⟨rfl, mb', vs', hs⟩ := hr
      exact ⟨rfl, mb', vs', hs.calmNew hc hC.size (hs.at_.notin hb (by decide) (by decide))⟩
    | error k =>
      obtain ⟨rfl, hs⟩ := hr
      exact ⟨rfl, hs.trans' hc (fun j hj => .inr (by have := hC.size; simp at hj; omega))⟩

theorem EDo.of {w W W' : World} {fb : Nat} {mb : Nat → Nat} {vs : Nat → Value} {f : FS} {r : Except Int FS} {X Y : World → Prop} {e : Ending} (h : FAt w fb mb vs f) (hC : Chg [] w W) (hE : EDo W W' fb mb vs f r X e) (hY : X W' → Y W') : EDo w W' fb mb vs f r Y e := by
  unfold EDo at *
  cases r with
  | ok f' =>
    obtain ⟨h1, ⟨mb', vs', h2⟩, h3⟩ := hE
    exact ⟨h1, ⟨mb', vs', (h.step hC).trans h2⟩, hY h3⟩
  | error k =>
    obtain ⟨h1, h2, h3⟩ := hE
    exact ⟨h1, hC.trans h2, hY h3⟩
theorem EDo.x {w W' : World} {fb : Nat} {mb : Nat → Nat} {vs : Nat → Value} {f : FS} {r : Except Int FS} {X : World → Prop} {e : Ending} (hE : EDo w W' fb mb vs f r X e) : X W' := by
  unfold EDo at hE
  cases r with
  | ok f' => exact hE.2.2
  | error k => exact hE.2.2
/-- A call over face: its closure may write the boxes of S. -/
theorem facer2 (fb : Nat) (mb : Nat → Nat) (vs : Nat → Value) (f : FS) (S : List Nat) (g : Nat) (lb : Array Value) (w0 w : World) (hC : Chg [] w0 w) (h : FAt w0 fb mb vs f) (eg : ∀ args w, (callFunc g args).run Tryd.prog w = .ok (.enter g args) w) (r : Except Int FS) (X : World → Prop) (hS : ∀ k ∈ S, k < w.heap.size)
    (hdo : Calls Tryd.prog g lb (w.alloc (.cells #[.int .i64 0] 30 (0, 0))) fun e W' => EDo w0 W' fb mb vs f r X e ∧ Chg (S ++ blkF fb mb vs f) (w.alloc (.cells #[.int .i64 0] 30 (0, 0))) W') :
    Calls Tryd.prog 22 #[.pointer (some ⟨fb, 0, none⟩), .func (.func g) #[] lb] w fun e w' => ∃ c W', e = .returned (.int .i64 c) ∧ ERes w0 w' fb mb vs f r c ∧ X W' ∧ Chg [w.heap.size] W' w' :=
  facer fb mb vs f g lb w0 w hC h eg r X (hdo.mono fun e W' ⟨h1, h2⟩ => ⟨h1, h2.blk (heap_alloc_eq w _) (by
    intro hm
    rcases List.mem_append.1 hm with h3 | h3
    · have := hS _ h3; omega
    · have h4 := h.lt _ h3
      have := hC.size
      omega)⟩)

theorem mem_setF {f : FS} {d : Int} {x y : Fl} (h : y ∈ (f.setF d x).files) : y = x ∨ y ∈ f.files := mem_set h
theorem FInv.setF {f : FS} (h : FInv f) (d : Int) {x : Fl} (h1 : x.op = true → 0 ≤ x.node ∧ x.node < 64 ∧ (f.nd x.node).is = true ∧ 0 ≤ x.flags ∧ x.flags ≤ 63 ∧ 0 ≤ x.pos ∧ x.pos ≤ 4096) (h2 : x.op = false → x = fl0) : FInv (f.setF d x) := by
  refine ⟨h.ln, by rw [show (f.setF d x).files = f.files.set d.toNat x from rfl, List.length_set]; exact h.lf, h.root, h.free, h.tgt, ?_, ?_, h.bytes, h.byte⟩
  · intro y hy ho
    rcases mem_setF hy with rfl | hy
    · exact h1 ho
    · exact h.file y hy ho
  · intro y hy ho
    rcases mem_setF hy with rfl | hy
    · exact h2 ho
    · exact h.shut y hy ho

set_option maxRecDepth 100000 in
set_option maxHeartbeats 4000000 in
/-- Close's closure. -/
theorem fclose1c (fb : Nat) (mb : Nat → Nat) (vs : Nat → Value) (f : FS) (bf bd : Nat) (d : Int) (X : World → Prop) (w : World) (h : FAt w fb mb vs f) (hN : f.names < 4611686018427387904) (cf : w.cell? ⟨bf, 0, none⟩ = some (.pointer (some ⟨fb, 0, none⟩))) (cd : w.cell? ⟨bd, 0, none⟩ = some (.int .i64 d)) (hbf : bf ≠ fb) (hX : ∀ W', Chg (blkF fb mb vs f) w W' → X W') :
    Calls Tryd.prog 41 #[.pointer (some ⟨bf, 0, none⟩), .pointer (some ⟨bd, 0, none⟩)] w fun e W' => EDo w W' fb mb vs f (f.closeE d) X e := by
  have HT := Lib.hid (fatc fb mb vs f d 0 w h)
  have H := Lib.hid (And.intro h (And.intro hN (And.intro hX hbf)))
  unfold FS.closeE
  unfold atP at HT
  clear hX hN hbf
  cases hb : f.bad d 0 with
  | true =>
    rw [hb] at HT
    rw [if_pos rfl]
    clear hb h
    go_enter Tryd.func41, Tryd.ntmps41
    go_wp2_with (go_at_call 34; refine HT.out.mono ?_; rintro e w' ⟨rfl, hC⟩)
    exact ⟨rfl, rfl, hC, H.out.2.2.1 _ (hC.mono (by simp))⟩
  | false =>
    rw [hb] at HT
    rw [if_neg (by simp)]
    have hd : ∃ n : Nat, d = n ∧ n < 16 ∧ (f.files.getD n fl0).op = true := by
      unfold FS.bad at hb
      simp only [Bool.or_eq_false_iff, decide_eq_false_iff_not] at hb
      exact ⟨d.toNat, by omega, by omega, by have h3 := hb.1.2; cases hq : (f.fl d).op with | true => exact hq | false => rw [hq] at h3; cases h3⟩
    obtain ⟨n, rfl, hn, ho⟩ := hd
    obtain ⟨a0, a1, a2, _⟩ := h.inv.file _ (h.inv.flAt hn) ho
    obtain ⟨m, hm⟩ := Int.eq_ofNat_of_zero_le a0
    have hfl : (f.fl (n : Int)).node = m := hm
    rw [hfl] at HT ⊢
    have hm64 : m < 64 := by omega
    have hI := h.inv.setF (n : Int) (x := fl0) (fun h => by cases h) (fun _ => rfl)
    have HI := Lib.hid (And.intro hI (And.intro hm64 hm))
    have hbf := H.out.2.2.2
    have hbf' := hbf.symm
    clear h hb ho a0 a1 a2 hm hfl hI hm64
    go_enter Tryd.func41, Tryd.ntmps41
    go_wp2_with (go_at_call 34; refine HT.out.mono ?_; rintro e w1 ⟨rfl, hC⟩; obtain ⟨c0, c1, c2, c3⟩ := (H.out.1.calm hC).cF hn; rw [HI.out.2.2] at c1; have z := fun i => (H.out.1.calm hC).frz i; have cf1 := cell_chg hC (by simp) cf; have HC := Lib.hid hC; clear hC)
    have hh : (((((w1.setCell ⟨fb, 192 + n * 4, none⟩ (.bool false)).setCell ⟨fb, 192 + n * 4 + 1, none⟩ (.int .i64 0)).setCell ⟨fb, 192 + n * 4 + 2, none⟩ (.int .i64 0)).setCell ⟨fb, 192 + n * 4 + 3, none⟩ (.int .i64 0))).heap[fb]? = some (.cells (fsCells (f.setF n fl0) mb vs) 57 (0, 0)) := by
      rw [← fsCells_file H.out.1.inv.lf hn]
      exact blk_setCell (blk_setCell (blk_setCell (blk_setCell (H.out.1.calm HC.out).head _) _) _) _
    have hs := (H.out.1.calm HC.out).setFile (d := n) (x := fl0) ((((((Chg.refl _ _).setCell _ _ (.inl (by simp))).setCell _ _ (.inl (by simp))).setCell _ _ (.inl (by simp))).setCell _ _ (.inl (by simp)))) hh HI.out.1
    have HS := Lib.hid ((H.out.1.step HC.out).trans hs)
    clear hh
    refine (fgonec fb mb vs _ m HI.out.2.1 _ hs.at_ H.out.2.1).mono ?_
    rintro e w' ⟨rfl, mb', vs', h2⟩
    have HS2 := Lib.hid (HS.out.trans h2)
    clear h2 hs
    go_wp2
    exact ⟨rfl, _, results_none rfl _ _ _, ⟨_, rfl⟩, ⟨mb', vs', HS2.out⟩, H.out.2.2.1 _ HS2.out.chg⟩

set_option maxRecDepth 100000 in
set_option maxHeartbeats 1000000 in
theorem fclosec (fb : Nat) (mb : Nat → Nat) (vs : Nat → Value) (f : FS) (d : Int) (w : World) (h : FAt w fb mb vs f) (hN : f.names < 4611686018427387904) :
    Calls Tryd.prog 15 #[.pointer (some ⟨fb, 0, none⟩), .int .i64 d] w fun e w' => ∃ c, e = .returned (.int .i64 c) ∧ ERes w w' fb mb vs f (f.closeE d) c := by
  obtain ⟨w0, hw0⟩ : ∃ w0, w0 = (w.alloc (.cells #[.pointer (some ⟨fb, 0, none⟩)] 25 (0, 0))).alloc (.cells #[.int .i64 d] 3 (0, 0)) := ⟨_, rfl⟩
  have hC0 : Chg [] w w0 := by rw [hw0]; exact ((Chg.refl _ _).alloc _).alloc _
  have b1 : w0.heap[w.heap.size]? = some (.cells #[.pointer (some ⟨fb, 0, none⟩)] 25 (0, 0)) := by rw [hw0]; exact blk_alloc (heap_alloc_eq _ _) _
  have b2 : w0.heap[w.heap.size + 1]? = some (.cells #[.int .i64 d] 3 (0, 0)) := by
    rw [hw0]
    have := heap_alloc_eq (w.alloc (.cells #[.pointer (some ⟨fb, 0, none⟩)] 25 (0, 0))) (.cells #[.int .i64 d] 3 (0, 0))
    rwa [show (w.alloc (.cells #[.pointer (some ⟨fb, 0, none⟩)] 25 (0, 0))).heap.size = w.heap.size + 1 from Array.size_push _] at this
  have hc := (Chg.refl [] w0).alloc (.cells #[.int .i64 0] 30 (0, 0))
  have HF := Lib.hid (facer2 fb mb vs f [] 41 #[.pointer (some ⟨w.heap.size, 0, none⟩), .pointer (some ⟨w.heap.size + 1, 0, none⟩)] w w0 hC0 h (fun args w => by kernel_rfl) (f.closeE d) (fun _ => True) (fun k hk => by cases hk)
    ((fclose1c fb mb vs f w.heap.size (w.heap.size + 1) d (Chg (blkF fb mb vs f) (w0.alloc (.cells #[.int .i64 0] 30 (0, 0)))) _ (h.calm (hC0.trans hc)) hN (cellB (hc.blk b1 List.not_mem_nil) (i := 0) rfl) (cellB (hc.blk b2 List.not_mem_nil) (i := 0) rfl) (by have := lt_of_blk h.head; omega) (fun _ h => h)).mono fun e W' hE => ⟨EDo.of h (hC0.trans hc) hE (fun _ => trivial), hE.x⟩))
  clear h hN hC0 b1 b2 hc
  go_enter Tryd.func15, Tryd.ntmps15
  go_wp2_with (go_at_call 22; rw [← hw0]; refine HF.out.mono ?_; rintro e w' ⟨c, W', rfl, hr, _, _⟩; have HR := Lib.hid hr; clear hr)
  go_ret
  exact ⟨c, rfl, HR.out⟩

end Go.Proofs.YtkkjbnmfjhmobaaDoor
