
/- Package ramfs: Read: contracts. -/
import Derived.Test.YtkkjbnmfjhmobaaDoorFaa
import Derived.Test.YtkkjbnmfjhmobaaDoorFz
namespace Go.Proofs.YtkkjbnmfjhmobaaDoor
open Go.RowKit

def resB (r : Except Int (FS × List Int)) : List Int := match r with
  | .ok p => p.2
  | .error _ => []
/-- A box with a row of bytes. -/
def BoxB (fb : Nat) (vs : Nat → Value) (bx B : Nat) (b : List Int) (W : World) : Prop := (∃ v, W.heap[bx]? = some (.cells #[v] 23 (0, 0)) ∧ W.ownsRow B 5 1 v b.length (bytesV b)) ∧ ∀ i, i < 64 → W.cell? ⟨fb, i * 3 + 2, none⟩ = some (vs i)
theorem BoxB.calm {fb : Nat} {vs : Nat → Value} {bx B : Nat} {b : List Int} {W W' : World} (h : BoxB fb vs bx B b W) (hC : Chg [] W W') : BoxB fb vs bx B b W' := by
  obtain ⟨⟨v, h1, h2⟩, h3⟩ := h
  exact ⟨⟨v, hC.blk h1 (by simp), own_kept h2 hC (by simp)⟩, fun i hi => cell_chg hC (by simp) (h3 i hi)⟩
theorem BoxB.nil {fb : Nat} {mb : Nat → Nat} {vs : Nat → Value} {f : FS} {bx B : Nat} {W : World} (hF : FAt W fb mb vs f) (h : W.heap[bx]? = some (.cells #[.slice none 0 0] 23 (0, 0))) : BoxB fb vs bx B [] W := ⟨⟨_, h, rfl, .inl ⟨rfl, rfl⟩⟩, fun _ hi => (hF.cN hi).2.2⟩
theorem FInv.len_le {f : FS} (h : FInv f) {m : Nat} (hm : m < 64) : (f.nodes.getD m nd0).b.length ≤ 4096 := by
  have h1 := FS.bytesK_succ h hm
  have h2 := FS.bytesK_le h (m + 1)
  omega
theorem read_mid (b : List Int) (pn k ln : Nat) (h : b.length = ln) : (b.drop pn).take k = (b.drop (min pn ln)).take (min k (ln - min pn ln)) := by
  subst h
  by_cases hp : pn ≤ b.length
  · rw [Nat.min_eq_left hp]
    by_cases hk : k ≤ b.length - pn
    · rw [Nat.min_eq_left hk]
    · rw [Nat.min_eq_right (by omega), List.take_of_length_le (by rw [List.length_drop]; omega), List.take_of_length_le (by rw [List.length_drop]; omega)]
  · rw [show min pn b.length = b.length by omega, List.drop_of_length_le (show b.length ≤ pn by omega), List.drop_of_length_le (Nat.le_refl b.length)]
    simp
set_option maxRecDepth 100000 in
set_option maxHeartbeats 4000000 in
/-- Read's closure. -/
theorem fread1c (fb : Nat) (mb : Nat → Nat) (vs : Nat → Value) (f : FS) (bf bd bn bx : Nat) (d n : Int) (w0 w : World) (hC0 : Chg [] w0 w) (h0 : FAt w0 fb mb vs f) (cf : w.cell? ⟨bf, 0, none⟩ = some (.pointer (some ⟨fb, 0, none⟩))) (cd : w.cell? ⟨bd, 0, none⟩ = some (.int .i64 d))
    (cn : w.cell? ⟨bn, 0, none⟩ = some (.int .i64 n)) (hx : w.heap[bx]? = some (.cells #[.slice none 0 0] 23 (0, 0))) (hx0 : w0.heap.size ≤ bx) (hn62 : n < 4611686018427387904) (hbf : fb ≠ bx) :
    Calls Tryd.prog 45 #[.pointer (some ⟨bf, 0, none⟩), .pointer (some ⟨bd, 0, none⟩), .pointer (some ⟨bn, 0, none⟩), .pointer (some ⟨bx, 0, none⟩)] w fun e W' => EDo w0 W' fb mb vs f (resF (f.readE d n)) (BoxB fb vs bx w.heap.size (resB (f.readE d n))) e ∧ Chg ([bx] ++ blkF fb mb vs f) w W' := by
  have h := h0.calm hC0
  have HT := Lib.hid (fatc fb mb vs f d 1 w h)
  have H := Lib.hid (And.intro h (And.intro hC0 (And.intro h0 (And.intro hx hx0))))
  have hq := neq_names
  unfold atP at HT
  cases hb : f.bad d 1 with
  | true =>
    rw [hb] at HT
    have HE := Lib.hid (show f.readE d n = .error 9 by unfold FS.readE; rw [if_pos hb])
    clear hb h h0 hC0 hx hx0
    go_enter Tryd.func45, Tryd.ntmps45
    go_wp2_with fail
    refine HT.out.mono ?_
    rintro e w' ⟨rfl, hC⟩
    exact ⟨rfl, EDo.err2 HE.out (H.out.2.1.trans hC) (by rw [HE.out]; exact BoxB.nil (H.out.1.calm hC) (hC.blk H.out.2.2.2.1 (by simp))), hC.mono (by simp)⟩
  | false =>
    rw [hb] at HT
    obtain ⟨i, m, rfl, hi, hm, ho, hnd, his, g0, g1, p0, p1⟩ := h.inv.ofBad hb
    have hfl : f.fl (i : Int) = f.files.getD i fl0 := rfl
    rw [hfl, hnd] at HT
    have HR := Lib.hid (show f.readE i n = if f.isDir (m : Int) = true then .error 21 else if n < 0 then .error 22 else .ok (f.setF i { f.files.getD i fl0 with pos := (f.files.getD i fl0).pos + (((f.nodes.getD m nd0).b.drop (f.files.getD i fl0).pos.toNat).take n.toNat).length }, ((f.nodes.getD m nd0).b.drop (f.files.getD i fl0).pos.toNat).take n.toNat) from by
      unfold FS.readE
      rw [if_neg (by rw [hb]; simp), hfl, hnd]
      rfl)
    have hmz : (m : Int) < 64 := by omega
    have hiz : (i : Int) < 16 := by omega
    obtain ⟨pn, hpn⟩ := Int.eq_ofNat_of_zero_le p0
    have hbl := h.inv.len_le hm
    have HB := Lib.hid (And.intro hb (And.intro ho (And.intro hnd (And.intro his (And.intro g0 (And.intro g1 (And.intro p1 hpn)))))))
    clear hb hfl ho his g0 g1 h h0 hC0 hx hx0
    go_enter Tryd.func45, Tryd.ntmps45
    go_wp2_with fail
    refine HT.out.mono ?_
    rintro e w1 ⟨rfl, hC1⟩
    have hF := H.out.1.calm hC1
    obtain ⟨_, _, _, c3⟩ := hF.cF hi
    obtain ⟨_, n1, n2⟩ := hF.cN hm
    obtain ⟨a, cap, ev, hcp, hrow⟩ := BytesAt.of_own (hF.row m hm)
    rw [ev] at n2
    rw [hpn] at c3
    have cf1 := cell_chg hC1 (by simp) cf
    have cn1 := cell_chg hC1 (by simp) cn
    have HC1 := Lib.hid (And.intro hC1 (And.intro ev (And.intro hcp hrow)))
    clear hC1 hF ev hcp hrow
    cases hd : (f.nodes.getD m nd0).dir.isSome with
    | true =>
      rw [hd, if_pos rfl] at n1
      go_wp2_with fail
      refine (notc 21 _).mono ?_
      rintro e w' ⟨rfl, rfl⟩
      have hE := HR.out
      rw [if_pos (show f.isDir (m : Int) = true from hd)] at hE
      exact ⟨rfl, EDo.err2 hE (H.out.2.1.trans HC1.out.1) (by rw [hE]; exact BoxB.nil (H.out.1.calm HC1.out.1) (HC1.out.1.blk H.out.2.2.2.1 (by simp))), HC1.out.1.mono (by simp)⟩
    | false =>
      rw [hd, if_neg (by simp)] at n1
      have HD := Lib.hid (show ¬ (f.isDir (m : Int) = true) from fun e => by rw [show f.isDir (m : Int) = false from hd] at e; cases e)
      clear hd
      go_wp2_with fail
      refine (nofc 21 _).mono ?_
      rintro e w' ⟨rfl, rfl⟩
      by_cases hn0 : n < 0
      · have hdn : decide (n < 0) = true := decide_eq_true hn0
        go_wp2_with fail
        refine (notc 22 _).mono ?_
        rintro e w' ⟨rfl, rfl⟩
        have hE := HR.out
        rw [if_neg HD.out, if_pos hn0] at hE
        exact ⟨rfl, EDo.err2 hE (H.out.2.1.trans HC1.out.1) (by rw [hE]; exact BoxB.nil (H.out.1.calm HC1.out.1) (HC1.out.1.blk H.out.2.2.2.1 (by simp))), HC1.out.1.mono (by simp)⟩
      obtain ⟨k, rfl⟩ := Int.eq_ofNat_of_zero_le (show 0 ≤ n by omega)
      have hdn : decide ((k : Int) < 0) = false := decide_eq_false hn0
      have hE := HR.out
      rw [if_neg HD.out, if_neg hn0, hpn, Int.toNat_natCast, Int.toNat_natCast] at hE
      have HE := Lib.hid hE
      clear hE hn0
      go_wp2_with fail
      refine (nofc 22 _).mono ?_
      rintro e w' ⟨rfl, rfl⟩
      generalize hbb : (f.nodes.getD m nd0).b = b at *
      generalize hln : b.length = ln at *
      have hmin1 : ∀ W : World, (Builtin.min_ #[3, 3] 3 #[.int .i64 (pn : Int), .int .i64 (ln : Int)]).run Tryd.prog W = .ok (.int .i64 ((min pn ln : Nat) : Int)) W := by
        intro W
        rw [run_min_int2]
        congr 2
        split <;> omega
      obtain ⟨fr, hfr⟩ : ∃ fr, fr = min pn ln := ⟨_, rfl⟩
      rw [← hfr] at hmin1
      obtain ⟨rr, hrr⟩ : ∃ rr, rr = ln - fr := ⟨_, rfl⟩
      obtain ⟨cnt, hcnt⟩ : ∃ cnt, cnt = min k rr := ⟨_, rfl⟩
      obtain ⟨e2, he2⟩ : ∃ e2, e2 = fr + cnt := ⟨_, rfl⟩
      have hw1 : IntKind.i64.wrap ((ln : Int) - (fr : Int)) = (rr : Int) := by rw [IntKind.wrap_i64] <;> omega
      have hw2 : IntKind.i64.wrap ((fr : Int) + (cnt : Int)) = (e2 : Int) := by rw [IntKind.wrap_i64] <;> omega
      have hmin2 : ∀ W : World, (Builtin.min_ #[3, 3] 3 #[.int .i64 (k : Int), .int .i64 (rr : Int)]).run Tryd.prog W = .ok (.int .i64 (cnt : Int)) W := by
        intro W
        rw [run_min_int2]
        congr 2
        split <;> omega
      have hsl := sl_lh a ln cap fr e2 (by omega) (by have := HC1.out.2.2.1; omega)
      have HK := Lib.hid (And.intro hfr (And.intro hrr (And.intro hcnt (And.intro he2 (And.intro hbb hln)))))
      clear hfr hrr hcnt he2 hbb hln hdn
      go_upto_region 3 with fail
      refine region_still_tail 10 (by kernel_rfl) (by kernel_rfl) ?_
      simp only [List.take_succ_cons, List.take_zero, List.drop_succ_cons, List.drop_zero]
      repeat still_step
      refine wpStill_nil ?_
      go_upto_region 4 with fail
      have hrow : BytesAt w1 (.slice a b.length cap) b := ⟨a, cap, rfl, by have := HC1.out.2.2.1; have := HK.out.2.2.2.2.2; omega, HC1.out.2.2.2⟩
      have hcl := fun W (hC : Chg [] w1 W) => clone_mid hrow fr cnt (by have := HK.out; omega) (by have := HK.out; omega) hC
      rw [← HK.out.2.2.2.1] at hcl
      rw [read_mid b pn k ln HK.out.2.2.2.2.2, ← HK.out.1, ← HK.out.2.1, ← HK.out.2.2.1] at HE
      generalize (b.drop fr).take cnt = out at *
      have HCL := Lib.hid hcl
      clear hrow hcl
      generalize sliced a fr e2 cap 1 = SV at *
      refine region_still_tail 17 (by kernel_rfl) (by kernel_rfl) ?_
      simp only [List.take_succ_cons, List.take_zero, List.drop_succ_cons, List.drop_zero]
      repeat still_step
      refine wpStill_nil ?_
      go_wp2_with fail
      refine (HCL.out _ (((Chg.refl _ _).drewN 1).drewN 1)).mono ?_
      rintro e w3 ⟨v, rfl, hv, hC3⟩
      have hb3 := (HC1.out.1.trans hC3).blk H.out.2.2.2.1 (by simp)
      have x3 := cellB hb3 (i := 0) rfl
      have z3 := frozenB hb3
      obtain ⟨va, vcap, rfl⟩ := own_slice hv
      have H3 := Lib.hid (And.intro hv (And.intro hC3 hb3))
      have c33 := cell_chg hC3 (by simp) c3
      have hq3 : out.length ≤ 4096 ∧ pn + out.length ≤ 4096 := by
        have h1 := HE.out
        have h2 : out.length ≤ ln - pn := by
          have h3 := HK.out
          have h4 := congrArg (fun r => (resB r).length) h1
          have h5 := HB.out.2.2.2.2.2.2.1
          have h6 := HR.out
          rw [if_neg HD.out, if_neg (by omega)] at h6
          have h7 := congrArg (fun r => (resB r).length) (h6.symm.trans h1)
          simp only [resB, List.length_take, List.length_drop, h3.2.2.2.2.2] at h7
          rw [HB.out.2.2.2.2.2.2.2] at h7
          simp only [Int.toNat_natCast] at h7
          omega
        have := HB.out.2.2.2.2.2.2
        have := HB.out.2.2.2.2.2.2.2
        by_cases hz : pn ≤ ln
        · omega
        · omega
      generalize hol : out.length = ol at *
      have hwr : IntKind.i64.wrap ((pn : Int) + (ol : Int)) = ((pn + ol : Nat) : Int) := by rw [IntKind.wrap_i64] <;> omega
      have y3 := cell_chg (S := [bx]) ((Chg.refl _ w3).setCell ⟨bx, 0, none⟩ (.slice va ol vcap) (.inl (by simp))) (by simpa using hbf) c33
      have y4 := cellB (blk_setCell hb3 (i := 0) (.slice va ol vcap)) (i := 0) (v := .slice va ol vcap) rfl
      have zf := (((H.out.1.calm HC1.out.1).calm hC3).kept ((Chg.refl [bx] w3).setCell ⟨bx, 0, none⟩ (.slice va ol vcap) (.inl (by simp))) (fun j hj hm => by
        simp at hj
        subst hj
        exact H.out.1.notin H.out.2.2.2.1 (by decide) (by decide) hm)).frz
      clear hb3 hv hC3
      go_upto_region 5 with fail
      refine region_still_tail 9 (by kernel_rfl) (by kernel_rfl) ?_
      simp only [List.take_succ_cons, List.take_zero, List.drop_succ_cons, List.drop_zero]
      repeat still_step
      refine wpStill_nil ?_
      go_wp2
      have hv := H3.out.1
      have hge := own_ge hv
      have hsz := HC1.out.1.size
      have hbx : bx < w.heap.size := lt_of_blk H.out.2.2.2.1
      have hfb : fb < w.heap.size := lt_of_blk H.out.1.head
      have hs0 : FStep w0 (w3.setCell ⟨bx, 0, none⟩ (.slice va ol vcap)) fb mb vs f mb vs f := H.out.2.2.1.step (((H.out.2.1.trans HC1.out.1).trans H3.out.2.1).setCell _ _ (.inr H.out.2.2.2.2))
      have hh : ((w3.setCell ⟨bx, 0, none⟩ (.slice va ol vcap)).setCell ⟨fb, 192 + i * 4 + 3, none⟩ (.int .i64 ((pn : Int) + (ol : Int)))).heap[fb]? = some (.cells (fsCells (f.setF i { f.files.getD i fl0 with pos := (pn : Int) + (ol : Int) }) mb vs) 57 (0, 0)) := by
        rw [← fsCells_pos H.out.1.inv.lf hi mb vs ((pn : Int) + (ol : Int))]
        exact blk_setCell hs0.at_.head _
      have hI : FInv (f.setF i { f.files.getD i fl0 with pos := (pn : Int) + (ol : Int) }) := H.out.1.inv.setF _ (fun _ => ⟨by rw [hnd]; omega, by rw [hnd]; omega, by rw [hnd]; exact HB.out.2.2.2.1, HB.out.2.2.2.2.1, HB.out.2.2.2.2.2.1, by show 0 ≤ (pn : Int) + (ol : Int); omega, by show (pn : Int) + (ol : Int) ≤ 4096; omega⟩) (fun e => by rw [show (f.files.getD i fl0).op = true from HB.out.2.1] at e; cases e)
      have hs := (hs0.trans (hs0.at_.setFile (d := i) ((Chg.refl _ _).setCell _ _ (.inl (by simp))) hh hI))
      have hs2 := hs.trans (hs.at_.step ((Chg.refl _ _).drewN 1))
      have hC6 : Chg ([bx] ++ blkF fb mb vs f) w ((w3.setCell ⟨bx, 0, none⟩ (.slice va ol vcap)).setCell ⟨fb, 192 + i * 4 + 3, none⟩ (.int .i64 ((pn : Int) + (ol : Int)))).drew := ((((HC1.out.1.trans H3.out.2.1).mono (by simp)).setCell _ _ (.inl (by simp))).setCell _ _ (.inl (by simp [blkF]))).drewN 1
      refine ⟨rfl, _, results_none rfl _ _ _, EDo.ok2 HE.out hs2 ?_, hC6⟩
      rw [HE.out]
      refine BoxB.calm ?_ ((Chg.refl _ _).drewN 1)
      refine ⟨?_, fun j hj => (hs.at_.cN hj).2.2⟩
      refine ⟨_, blk_setCell_ne (blk_setCell H3.out.2.2 _) (fun e => hbf e.symm) _, ?_⟩
      show World.ownsRow _ _ _ _ _ out.length (bytesV out)
      rw [hol]
      refine own_base (own_kept (S := [bx, fb]) hv (((Chg.refl _ _).setCell _ _ (.inl (by simp))).setCell _ _ (.inl (by simp))) (fun j hj hm => ?_)) hsz
      have := hge j hm
      simp at hj
      omega

theorem resF_error {α : Type} {r : Except Int (FS × α)} {c : Int} (h : r = .error c) : resF r = .error c := by subst h; rfl
set_option maxRecDepth 100000 in
set_option maxHeartbeats 1000000 in
theorem freadc (fb : Nat) (mb : Nat → Nat) (vs : Nat → Value) (f : FS) (d n : Int) (w : World) (h : FAt w fb mb vs f) (hn62 : n < 4611686018427387904) :
    Calls Tryd.prog 19 #[.pointer (some ⟨fb, 0, none⟩), .int .i64 d, .int .i64 n] w fun e w' => ∃ v c, e = .returned (.tuple #[v, .int .i64 c]) ∧ ERes w w' fb mb vs f (resF (f.readE d n)) c ∧ w'.ownsRow w.heap.size 5 1 v (resB (f.readE d n)).length (bytesV (resB (f.readE d n))) ∧ ∀ i, i < 64 → w'.cell? ⟨fb, i * 3 + 2, none⟩ = some (vs i) := by
  obtain ⟨w0, hw0⟩ : ∃ w0, w0 = (((w.alloc (.cells #[.pointer (some ⟨fb, 0, none⟩)] 25 (0, 0))).alloc (.cells #[.int .i64 d] 3 (0, 0))).alloc (.cells #[.int .i64 n] 3 (0, 0))).alloc (.cells #[.slice none 0 0] 23 (0, 0)) := ⟨_, rfl⟩
  have hA : w0 = allocs w [.cells #[.pointer (some ⟨fb, 0, none⟩)] 25 (0, 0), .cells #[.int .i64 d] 3 (0, 0), .cells #[.int .i64 n] 3 (0, 0), .cells #[.slice none 0 0] 23 (0, 0)] := hw0
  have hC0 : Chg [] w w0 := by rw [hA]; exact allocs_chg _ _
  have b0 : w0.heap[w.heap.size]? = some (.cells #[.pointer (some ⟨fb, 0, none⟩)] 25 (0, 0)) := by rw [hA]; exact allocs_get w _ (i := 0) rfl
  have b1 : w0.heap[w.heap.size + 1]? = some (.cells #[.int .i64 d] 3 (0, 0)) := by rw [hA]; exact allocs_get w _ (i := 1) rfl
  have b2 : w0.heap[w.heap.size + 2]? = some (.cells #[.int .i64 n] 3 (0, 0)) := by rw [hA]; exact allocs_get w _ (i := 2) rfl
  have b3 : w0.heap[w.heap.size + 3]? = some (.cells #[.slice none 0 0] 23 (0, 0)) := by rw [hA]; exact allocs_get w _ (i := 3) rfl
  have hsz := lt_of_blk b3
  have hfb := lt_of_blk h.head
  have hc := (Chg.refl [] w0).alloc (.cells #[.int .i64 0] 30 (0, 0))
  have hz : (w0.alloc (.cells #[.int .i64 0] 30 (0, 0))).heap.size = w0.heap.size + 1 := Array.size_push _
  have HF := Lib.hid (facer2 fb mb vs f [w.heap.size + 3] 45 #[.pointer (some ⟨w.heap.size, 0, none⟩), .pointer (some ⟨w.heap.size + 1, 0, none⟩), .pointer (some ⟨w.heap.size + 2, 0, none⟩), .pointer (some ⟨w.heap.size + 3, 0, none⟩)] w w0 hC0 h (fun args w => by kernel_rfl) _ _ (fun k hk => by rw [List.mem_singleton] at hk; omega)
    (fread1c fb mb vs f w.heap.size (w.heap.size + 1) (w.heap.size + 2) (w.heap.size + 3) d n w _ (hC0.trans hc) h (cellB (hc.blk b0 List.not_mem_nil) (i := 0) rfl) (cellB (hc.blk b1 List.not_mem_nil) (i := 0) rfl) (cellB (hc.blk b2 List.not_mem_nil) (i := 0) rfl) (hc.blk b3 List.not_mem_nil) (by omega) hn62 (by omega)))
  rw [hz] at HF
  have HZ := Lib.hid (And.intro hsz (And.intro hC0 (show fb < w0.heap.size by omega)))
  have HF3 := Lib.hid hfb
  clear h hC0 b0 b1 b2 b3 hc hA hsz hz hfb
  generalize resF (f.readE d n) = R at *
  generalize resB (f.readE d n) = out at *
  go_enter Tryd.func19, Tryd.ntmps19
  go_wp2_with fail
  rw [← hw0]
  refine HF.out.mono ?_
  rintro e w' ⟨c, W', rfl, hr, ⟨⟨v, hx, ho⟩, hvs⟩, hk⟩
  have hvs2 := fun i hi => cell_chg hk (by have := HZ.out.2.2; simp; omega) (hvs i hi)
  have hge := own_ge ho
  have hb := hk.blk hx (by have := HZ.out.1; simp; omega)
  have ho2 := own_kept ho hk (fun j hj hm => by have := hge j hm; simp at hj; omega)
  obtain ⟨va, vcap, rfl⟩ := own_slice ho
  have HR := Lib.hid (And.intro hr (And.intro hb (And.intro ho2 (And.intro hge hvs2))))
  have c4 := cellB hb (i := 0) rfl
  have z4 := frozenB hb 0
  clear hr hx hk hb ho ho2 hge hw0 hvs hvs2
  generalize hol : out.length = ol at *
  go_wp2
  have c5 := cellB (blk_setCell HR.out.2.1 (i := 0) (.slice va ol vcap)) (i := 0) (v := .slice va ol vcap) rfl
  refine bodyPost_ret (v := .tuple #[.slice va ol vcap, .int .i64 c]) ?_ rfl ⟨.slice va ol vcap, c, rfl, HR.out.1.box HR.out.2.1 (by omega) (by decide) (by decide) 0 _, ?_, fun j hj => cell_chg (S := [w.heap.size + 3]) ((Chg.refl _ _).setCell _ _ (.inl (by simp))) (by have := HF3.out; simp; omega) (HR.out.2.2.2.2 j hj)⟩
  · simp [results, Tryd.results19, go_sem, c5]
  · rw [hol]
    exact own_base (B := w0.heap.size + 1) (own_kept (S := [w.heap.size + 3]) HR.out.2.2.1 ((Chg.refl _ _).setCell _ _ (.inl (by simp))) (fun j hj hm => by have := HR.out.2.2.2.1 j hm; have := HZ.out.1; simp at hj; omega)) (by have := HZ.out.2.1.size; omega)

end Go.Proofs.YtkkjbnmfjhmobaaDoor
