
/- Package ramfs: Rmdir: contracts. -/
import Derived.Test.YtkkjbnmfjhmobaaDoorFv
namespace Go.Proofs.YtkkjbnmfjhmobaaDoor
open Go.RowKit

set_option maxRecDepth 100000 in
set_option maxHeartbeats 4000000 in
/-- Rmdir's closure. -/
theorem frmdir1c (fb : Nat) (mb : Nat → Nat) (vs : Nat → Value) (f : FS) (bp bf : Nat) (p : ByteArray) (w : World) (h : FAt w fb mb vs f) (hL : LibW w) (hN : f.names < 4611686018427387904) (cp : w.cell? ⟨bp, 0, none⟩ = some (.string p)) (cf : w.cell? ⟨bf, 0, none⟩ = some (.pointer (some ⟨fb, 0, none⟩))) :
    Calls Tryd.prog 47 #[.pointer (some ⟨bp, 0, none⟩), .pointer (some ⟨bf, 0, none⟩)] w fun e W' => EDo w W' fb mb vs f (onPath p f.rmdirE) (fun W' => Chg (blkF fb mb vs f) w W') e := by
  have H := Lib.hid (And.intro h (And.intro hL hN))
  clear h hL hN
  unfold onPath
  cases hs : splitF p with
  | none =>
    have HS := Lib.hid hs
    clear hs
    go_enter Tryd.func47, Tryd.ntmps47
    go_wp2_with (go_at_call 24; refine (fsplit_none HS.out _ H.out.2.1).mono ?_; rintro e w' ⟨rfl, hC⟩)
    exact ⟨rfl, rfl, hC, hC.mono (by simp)⟩
  | some l =>
    have HS := Lib.hid hs
    clear hs
    have HLN := Lib.hid (show l.length ≤ 600 by have := splitF_len HS.out; omega)
    simp only
    unfold FS.rmdirE
    cases hm : f.must l with
    | error c =>
      have HM := Lib.hid hm
      clear hm
      go_enter Tryd.func47, Tryd.ntmps47
      go_wp2_with (first | (go_at_call 24; refine (fsplit_some HS.out _ H.out.2.1).mono ?_; rintro e w1 ⟨v, rfl, hv, hC1⟩; have HC1 := Lib.hid (And.intro hv hC1); have cf1 := cell_chg hC1 (by simp) cf; clear hv hC1) | (go_at_call 37; refine (fmustc fb mb vs f _ l HLN.out _ (H.out.1.calm HC1.out.2) HC1.out.1).mono ?_; rw [HM.out]; rintro e w' ⟨rfl, rfl⟩))
      exact ⟨rfl, rfl, HC1.out.2, HC1.out.2.mono (by simp)⟩
    | ok n =>
      obtain ⟨k, rfl, hk, _⟩ := must_bound H.out.1.inv hm
      have HM := Lib.hid hm
      clear hm
      simp only
      by_cases hk0 : k = 0
      · subst hk0
        rw [if_pos (by rfl)]
        go_enter Tryd.func47, Tryd.ntmps47
        go_wp2_with (first | (go_at_call 24; refine (fsplit_some HS.out _ H.out.2.1).mono ?_; rintro e w1 ⟨v, rfl, hv, hC1⟩; have HC1 := Lib.hid (And.intro hv hC1); have cf1 := cell_chg hC1 (by simp) cf; skip; clear hv hC1) | (go_at_call 37; refine (fmustc fb mb vs f _ l HLN.out _ (H.out.1.calm HC1.out.2) HC1.out.1).mono ?_; rw [HM.out]; rintro e w' ⟨rfl, rfl⟩) | (go_at_call 25; refine (notc 16 _).mono ?_; rintro e w' ⟨rfl, rfl⟩))
        exact ⟨rfl, rfl, HC1.out.2, HC1.out.2.mono (by simp)⟩
      · rw [if_neg (by omega)]
        have hkz : ((k : Int) == 0) = false := by simp; exact hk0
        rw [show f.nd (k : Int) = f.nodes.getD k nd0 from rfl]
        cases hdm : (f.nodes.getD k nd0).dir with
        | none =>
          have HD := Lib.hid (show f.isDir k = false by unfold FS.isDir; rw [show f.nd (k : Int) = f.nodes.getD k nd0 from rfl, hdm]; rfl)
          clear hdm
          go_enter Tryd.func47, Tryd.ntmps47
          go_wp2_with (first | (go_at_call 24; refine (fsplit_some HS.out _ H.out.2.1).mono ?_; rintro e w1 ⟨v, rfl, hv, hC1⟩; have HC1 := Lib.hid (And.intro hv hC1); have cf1 := cell_chg hC1 (by simp) cf; skip; clear hv hC1) | (go_at_call 37; refine (fmustc fb mb vs f _ l HLN.out _ (H.out.1.calm HC1.out.2) HC1.out.1).mono ?_; rw [HM.out]; rintro e w' ⟨rfl, rfl⟩) | (go_at_call 29; refine (fdirc fb mb vs f k hk _ (H.out.1.calm HC1.out.2)).mono ?_; rw [HD.out]; rintro e w' ⟨rfl, rfl⟩) | (go_at_call 25; refine (nofc 16 _).mono ?_; rintro e w' ⟨rfl, rfl⟩) | (go_at_call 25; refine (notc 20 _).mono ?_; rintro e w' ⟨rfl, rfl⟩))
          exact ⟨rfl, rfl, HC1.out.2, HC1.out.2.mono (by simp)⟩
        | some m =>
          have HD := Lib.hid (show f.isDir k = true by unfold FS.isDir; rw [show f.nd (k : Int) = f.nodes.getD k nd0 from rfl, hdm]; rfl)
          have HDM := Lib.hid hdm
          clear hdm
          simp only
          by_cases hme : m ≠ []
          · rw [if_pos hme]
            have hlz : decide ((m.length : Int) > 0) = true := decide_eq_true (by have := List.length_pos_iff.2 hme; omega)
            have hlz2 : decide (0 < m.length) = true := decide_eq_true (List.length_pos_iff.2 hme)
            clear hme
            go_enter Tryd.func47, Tryd.ntmps47
            go_wp2_with (first | (go_at_call 24; refine (fsplit_some HS.out _ H.out.2.1).mono ?_; rintro e w1 ⟨v, rfl, hv, hC1⟩; have HC1 := Lib.hid (And.intro hv hC1); have cf1 := cell_chg hC1 (by simp) cf; have c1 := ((H.out.1.calm hC1).cN hk).2.1; rw [HDM.out] at c1; simp only [Option.isSome_some, if_true] at c1; have hln := sRun_len_P (P := Tryd.prog) Tryd.underlying49 ((H.out.1.calm hC1).mp k hk m HDM.out) 3; rw [show (namesV m).length = m.length from List.length_map _] at hln; clear hv hC1) | (go_at_call 37; refine (fmustc fb mb vs f _ l HLN.out _ (H.out.1.calm HC1.out.2) HC1.out.1).mono ?_; rw [HM.out]; rintro e w' ⟨rfl, rfl⟩) | (go_at_call 29; refine (fdirc fb mb vs f k hk _ (H.out.1.calm HC1.out.2)).mono ?_; rw [HD.out]; rintro e w' ⟨rfl, rfl⟩) | (go_at_call 25; refine (nofc 16 _).mono ?_; rintro e w' ⟨rfl, rfl⟩) | (go_at_call 25; refine (nofc 20 _).mono ?_; rintro e w' ⟨rfl, rfl⟩) | (go_at_call 25; refine (notc 39 _).mono ?_; rintro e w' ⟨rfl, rfl⟩))
            exact ⟨rfl, rfl, HC1.out.2, HC1.out.2.mono (by simp)⟩
          · rw [if_neg hme]
            have hm0 : m = [] := Classical.not_not.1 hme
            have hlz : decide ((m.length : Int) > 0) = false := by rw [hm0]; rfl
            have hlz2 : decide (0 < m.length) = false := by rw [hm0]; rfl
            clear hme hm0
            cases hp : f.place l with
            | error c =>
              have HP := Lib.hid hp
              clear hp
              go_enter Tryd.func47, Tryd.ntmps47
              go_wp2_with (first | (go_at_call 24; refine (fsplit_some HS.out _ H.out.2.1).mono ?_; rintro e w1 ⟨v, rfl, hv, hC1⟩; have HC1 := Lib.hid (And.intro hv hC1); have cf1 := cell_chg hC1 (by simp) cf; have c1 := ((H.out.1.calm hC1).cN hk).2.1; rw [HDM.out] at c1; simp only [Option.isSome_some, if_true] at c1; have hln := sRun_len_P (P := Tryd.prog) Tryd.underlying49 ((H.out.1.calm hC1).mp k hk m HDM.out) 3; rw [show (namesV m).length = m.length from List.length_map _] at hln; clear hv hC1) | (go_at_call 37; refine (fmustc fb mb vs f _ l HLN.out _ (H.out.1.calm HC1.out.2) HC1.out.1).mono ?_; rw [HM.out]; rintro e w' ⟨rfl, rfl⟩) | (go_at_call 29; refine (fdirc fb mb vs f k hk _ (H.out.1.calm HC1.out.2)).mono ?_; rw [HD.out]; rintro e w' ⟨rfl, rfl⟩) | (go_at_call 25; refine (nofc 16 _).mono ?_; rintro e w' ⟨rfl, rfl⟩) | (go_at_call 25; refine (nofc 20 _).mono ?_; rintro e w' ⟨rfl, rfl⟩) | (go_at_call 25; refine (nofc 39 _).mono ?_; rintro e w' ⟨rfl, rfl⟩) | (go_at_call 27; refine (fplacec fb mb vs f _ l HLN.out _ (H.out.1.calm HC1.out.2) HC1.out.1).mono ?_; rw [HP.out]; rintro e w2 ⟨rfl, hC2⟩; have cf2 := cell_chg hC2 (by simp) cf1; have HC2 := Lib.hid (HC1.out.2.trans hC2); clear hC2))
              exact ⟨rfl, rfl, HC2.out, HC2.out.mono (by simp)⟩
            | ok o =>
              cases o with
              | none =>
                exfalso
                have hl : l = [] := by
                  unfold FS.place at hp
                  split at hp
                  · assumption
                  · split at hp
                    · cases hp
                    · split at hp
                      · cases hp
                      · injection hp with hp; cases hp
                subst hl
                have h1 := HM.out
                rw [show f.must [] = .ok 0 from rfl] at h1
                injection h1 with h1
                omega
              | some ds =>
                obtain ⟨d0, s⟩ := ds
                obtain ⟨d, rfl, hd64, hdd⟩ := place_some H.out.1.inv hp
                obtain ⟨m2, hdm2⟩ := Option.isSome_iff_exists.1 hdd
                have HDM2 := Lib.hid hdm2
                have HP := Lib.hid hp
                clear hp hdd hdm2
                go_enter Tryd.func47, Tryd.ntmps47
                go_wp2_with (first | (go_at_call 24; refine (fsplit_some HS.out _ H.out.2.1).mono ?_; rintro e w1 ⟨v, rfl, hv, hC1⟩; have HC1 := Lib.hid (And.intro hv hC1); have cf1 := cell_chg hC1 (by simp) cf; have c1 := ((H.out.1.calm hC1).cN hk).2.1; rw [HDM.out] at c1; simp only [Option.isSome_some, if_true] at c1; have hln := sRun_len_P (P := Tryd.prog) Tryd.underlying49 ((H.out.1.calm hC1).mp k hk m HDM.out) 3; rw [show (namesV m).length = m.length from List.length_map _] at hln; clear hv hC1) | (go_at_call 37; refine (fmustc fb mb vs f _ l HLN.out _ (H.out.1.calm HC1.out.2) HC1.out.1).mono ?_; rw [HM.out]; rintro e w' ⟨rfl, rfl⟩) | (go_at_call 29; refine (fdirc fb mb vs f k hk _ (H.out.1.calm HC1.out.2)).mono ?_; rw [HD.out]; rintro e w' ⟨rfl, rfl⟩) | (go_at_call 25; refine (nofc 16 _).mono ?_; rintro e w' ⟨rfl, rfl⟩) | (go_at_call 25; refine (nofc 20 _).mono ?_; rintro e w' ⟨rfl, rfl⟩) | (go_at_call 25; refine (nofc 39 _).mono ?_; rintro e w' ⟨rfl, rfl⟩) | (go_at_call 27; refine (fplacec fb mb vs f _ l HLN.out _ (H.out.1.calm HC1.out.2) HC1.out.1).mono ?_; rw [HP.out]; rintro e w2 ⟨rfl, hC2⟩; have cf2 := cell_chg hC2 (by simp) cf1; have HC2 := Lib.hid (HC1.out.2.trans hC2); clear hC2) | (go_at_call 44; refine (fdropc fb mb vs f d k hd64 hk s m2 HDM2.out _ (H.out.1.calm HC2.out) H.out.2.2).mono ?_; rintro e w' ⟨rfl, mb', vs', h2⟩; have H2 := Lib.hid ((H.out.1.step HC2.out).trans h2); clear h2))
                exact ⟨rfl, _, results_none rfl _ _ _, ⟨_, rfl⟩, ⟨mb', vs', H2.out⟩, H2.out.chg⟩

set_option maxRecDepth 100000 in
set_option maxHeartbeats 1000000 in
theorem frmdirc (fb : Nat) (mb : Nat → Nat) (vs : Nat → Value) (f : FS) (p : ByteArray) (w : World) (h : FAt w fb mb vs f) (hL : LibW w) (hN : f.names < 4611686018427387904) :
    Calls Tryd.prog 20 #[.pointer (some ⟨fb, 0, none⟩), .string p] w fun e w' => ∃ c, e = .returned (.int .i64 c) ∧ ERes w w' fb mb vs f (onPath p f.rmdirE) c := by
  obtain ⟨w0, hw0⟩ : ∃ w0, w0 = (w.alloc (.cells #[.pointer (some ⟨fb, 0, none⟩)] 25 (0, 0))).alloc (.cells #[.string p] 9 (0, 0)) := ⟨_, rfl⟩
  have hA : w0 = allocs w [.cells #[.pointer (some ⟨fb, 0, none⟩)] 25 (0, 0), .cells #[.string p] 9 (0, 0)] := hw0
  have hC0 : Chg [] w w0 := by rw [hA]; exact allocs_chg _ _
  have b0 : w0.heap[w.heap.size]? = some (.cells #[.pointer (some ⟨fb, 0, none⟩)] 25 (0, 0)) := by rw [hA]; exact allocs_get w _ (i := 0) rfl
  have b1 : w0.heap[w.heap.size + 1]? = some (.cells #[.string p] 9 (0, 0)) := by rw [hA]; exact allocs_get w _ (i := 1) rfl
  have hc := (Chg.refl [] w0).alloc (.cells #[.int .i64 0] 30 (0, 0))
  have HF := Lib.hid (facer2 fb mb vs f [] 47 #[.pointer (some ⟨w.heap.size + 1, 0, none⟩), .pointer (some ⟨w.heap.size, 0, none⟩)] w w0 hC0 h (fun args w => by kernel_rfl) (onPath p f.rmdirE) (fun _ => True) (fun k hk => by cases hk)
    ((frmdir1c fb mb vs f (w.heap.size + 1) w.heap.size p _ (h.calm (hC0.trans hc)) (hL.calm (hC0.trans hc)) hN (cellB (hc.blk b1 List.not_mem_nil) (i := 0) rfl) (cellB (hc.blk b0 List.not_mem_nil) (i := 0) rfl)).mono fun e W' hE => ⟨EDo.of h (hC0.trans hc) hE (fun _ => trivial), hE.x⟩))
  clear h hL hN hC0 b0 b1 hc hA
  go_enter Tryd.func20, Tryd.ntmps20
  go_wp2_with (go_at_call 22; rw [← hw0]; refine HF.out.mono ?_; rintro e w' ⟨c, W', rfl, hr, _, _⟩; have HR := Lib.hid hr; clear hr)
  go_ret
  exact ⟨c, rfl, HR.out⟩


end Go.Proofs.YtkkjbnmfjhmobaaDoor
