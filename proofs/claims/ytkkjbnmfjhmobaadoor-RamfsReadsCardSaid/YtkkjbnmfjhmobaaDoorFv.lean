
/- Package ramfs: Unlink: contracts. -/
import Derived.Test.YtkkjbnmfjhmobaaDoorFu
namespace Go.Proofs.YtkkjbnmfjhmobaaDoor
open Go.RowKit

set_option maxRecDepth 100000 in
set_option maxHeartbeats 4000000 in
/-- Unlink's closure. -/
theorem funlink1c (fb : Nat) (mb : Nat → Nat) (vs : Nat → Value) (f : FS) (bp bf : Nat) (p : ByteArray) (w : World) (h : FAt w fb mb vs f) (hL : LibW w) (hN : f.names < 4611686018427387904) (cp : w.cell? ⟨bp, 0, none⟩ = some (.string p)) (cf : w.cell? ⟨bf, 0, none⟩ = some (.pointer (some ⟨fb, 0, none⟩))) :
    Calls Tryd.prog 43 #[.pointer (some ⟨bp, 0, none⟩), .pointer (some ⟨bf, 0, none⟩)] w fun e W' => EDo w W' fb mb vs f (onPath p f.unlinkE) (fun W' => Chg (blkF fb mb vs f) w W') e := by
  have H := Lib.hid (And.intro h (And.intro hL hN))
  clear h hL hN
  unfold onPath
  cases hs : splitF p with
  | none =>
    have HS := Lib.hid hs
    clear hs
    go_enter Tryd.func43, Tryd.ntmps43
    go_wp2_with (go_at_call 24; refine (fsplit_none HS.out _ H.out.2.1).mono ?_; rintro e w' ⟨rfl, hC⟩)
    exact ⟨rfl, rfl, hC, hC.mono (by simp)⟩
  | some l =>
    have HS := Lib.hid hs
    clear hs
    have HLN := Lib.hid (show l.length ≤ 600 by have := splitF_len HS.out; omega)
    simp only
    unfold FS.unlinkE
    cases hm : f.must l with
    | error c =>
      have HM := Lib.hid hm
      clear hm
      go_enter Tryd.func43, Tryd.ntmps43
      go_wp2_with (first | (go_at_call 24; refine (fsplit_some HS.out _ H.out.2.1).mono ?_; rintro e w1 ⟨v, rfl, hv, hC1⟩; have HC1 := Lib.hid (And.intro hv hC1); have cf1 := cell_chg hC1 (by simp) cf; clear hv hC1) | (go_at_call 37; refine (fmustc fb mb vs f _ l HLN.out _ (H.out.1.calm HC1.out.2) HC1.out.1).mono ?_; rw [HM.out]; rintro e w' ⟨rfl, rfl⟩))
      exact ⟨rfl, rfl, HC1.out.2, HC1.out.2.mono (by simp)⟩
    | ok n =>
      obtain ⟨k, rfl, hk, _⟩ := must_bound H.out.1.inv hm
      have HM := Lib.hid hm
      clear hm
      simp only
      cases hdr : f.isDir k with
      | true =>
        rw [if_pos rfl]
        have HD := Lib.hid hdr
        clear hdr
        go_enter Tryd.func43, Tryd.ntmps43
        go_wp2_with (first | (go_at_call 24; refine (fsplit_some HS.out _ H.out.2.1).mono ?_; rintro e w1 ⟨v, rfl, hv, hC1⟩; have HC1 := Lib.hid (And.intro hv hC1); have cf1 := cell_chg hC1 (by simp) cf; clear hv hC1) | (go_at_call 37; refine (fmustc fb mb vs f _ l HLN.out _ (H.out.1.calm HC1.out.2) HC1.out.1).mono ?_; rw [HM.out]; rintro e w' ⟨rfl, rfl⟩) | (go_at_call 29; refine (fdirc fb mb vs f k hk _ (H.out.1.calm HC1.out.2)).mono ?_; rw [HD.out]; rintro e w' ⟨rfl, rfl⟩) | (go_at_call 25; refine (notc 21 _).mono ?_; rintro e w' ⟨rfl, rfl⟩))
        exact ⟨rfl, rfl, HC1.out.2, HC1.out.2.mono (by simp)⟩
      | false =>
        rw [if_neg (by simp)]
        have HD := Lib.hid hdr
        clear hdr
        cases hp : f.place l with
        | error c =>
          have HP := Lib.hid hp
          clear hp
          go_enter Tryd.func43, Tryd.ntmps43
          go_wp2_with (first | (go_at_call 24; refine (fsplit_some HS.out _ H.out.2.1).mono ?_; rintro e w1 ⟨v, rfl, hv, hC1⟩; have HC1 := Lib.hid (And.intro hv hC1); have cf1 := cell_chg hC1 (by simp) cf; clear hv hC1) | (go_at_call 37; refine (fmustc fb mb vs f _ l HLN.out _ (H.out.1.calm HC1.out.2) HC1.out.1).mono ?_; rw [HM.out]; rintro e w' ⟨rfl, rfl⟩) | (go_at_call 29; refine (fdirc fb mb vs f k hk _ (H.out.1.calm HC1.out.2)).mono ?_; rw [HD.out]; rintro e w' ⟨rfl, rfl⟩) | (go_at_call 25; refine (nofc 21 _).mono ?_; rintro e w' ⟨rfl, rfl⟩) | (go_at_call 27; refine (fplacec fb mb vs f _ l HLN.out _ (H.out.1.calm HC1.out.2) HC1.out.1).mono ?_; rw [HP.out]; rintro e w2 ⟨rfl, hC2⟩; have cf2 := cell_chg hC2 (by simp) cf1; have HC2 := Lib.hid (HC1.out.2.trans hC2); clear hC2))
          exact ⟨rfl, rfl, HC2.out, HC2.out.mono (by simp)⟩
        | ok o =>
          cases o with
          | none =>
            exfalso
            have hl : l = [] := by
              unfold FS.place at hp
              split at hp
              · assumption
              · split at hp
                · cases hp
                · split at hp
                  · cases hp
                  · injection hp with hp; cases hp
            subst hl
            have h0 : f.must [] = .ok 0 := rfl
            have h1 := HM.out
            rw [h0] at h1
            injection h1 with h1
            have h2 := HD.out
            rw [← h1] at h2
            have h3 : f.isDir 0 = true := H.out.1.inv.root.2
            rw [h3] at h2
            cases h2
          | some ds =>
            obtain ⟨d0, s⟩ := ds
            obtain ⟨d, rfl, hd64, hdd⟩ := place_some H.out.1.inv hp
            obtain ⟨m, hdm⟩ := Option.isSome_iff_exists.1 hdd
            have HDM := Lib.hid hdm
            have HP := Lib.hid hp
            clear hp hdd hdm
            go_enter Tryd.func43, Tryd.ntmps43
            go_wp2_with (first | (go_at_call 24; refine (fsplit_some HS.out _ H.out.2.1).mono ?_; rintro e w1 ⟨v, rfl, hv, hC1⟩; have HC1 := Lib.hid (And.intro hv hC1); have cf1 := cell_chg hC1 (by simp) cf; clear hv hC1) | (go_at_call 37; refine (fmustc fb mb vs f _ l HLN.out _ (H.out.1.calm HC1.out.2) HC1.out.1).mono ?_; rw [HM.out]; rintro e w' ⟨rfl, rfl⟩) | (go_at_call 29; refine (fdirc fb mb vs f k hk _ (H.out.1.calm HC1.out.2)).mono ?_; rw [HD.out]; rintro e w' ⟨rfl, rfl⟩) | (go_at_call 25; refine (nofc 21 _).mono ?_; rintro e w' ⟨rfl, rfl⟩) | (go_at_call 27; refine (fplacec fb mb vs f _ l HLN.out _ (H.out.1.calm HC1.out.2) HC1.out.1).mono ?_; rw [HP.out]; rintro e w2 ⟨rfl, hC2⟩; have cf2 := cell_chg hC2 (by simp) cf1; have HC2 := Lib.hid (HC1.out.2.trans hC2); clear hC2) | (go_at_call 44; refine (fdropc fb mb vs f d k hd64 hk s m HDM.out _ (H.out.1.calm HC2.out) H.out.2.2).mono ?_; rintro e w' ⟨rfl, mb', vs', h2⟩; have H2 := Lib.hid ((H.out.1.step HC2.out).trans h2); clear h2))
            exact ⟨rfl, _, results_none rfl _ _ _, ⟨_, rfl⟩, ⟨mb', vs', H2.out⟩, H2.out.chg⟩

set_option maxRecDepth 100000 in
set_option maxHeartbeats 1000000 in
theorem funlinkc (fb : Nat) (mb : Nat → Nat) (vs : Nat → Value) (f : FS) (p : ByteArray) (w : World) (h : FAt w fb mb vs f) (hL : LibW w) (hN : f.names < 4611686018427387904) :
    Calls Tryd.prog 18 #[.pointer (some ⟨fb, 0, none⟩), .string p] w fun e w' => ∃ c, e = .returned (.int .i64 c) ∧ ERes w w' fb mb vs f (onPath p f.unlinkE) c := by
  obtain ⟨w0, hw0⟩ : ∃ w0, w0 = (w.alloc (.cells #[.pointer (some ⟨fb, 0, none⟩)] 25 (0, 0))).alloc (.cells #[.string p] 9 (0, 0)) := ⟨_, rfl⟩
  have hA : w0 = allocs w [.cells #[.pointer (some ⟨fb, 0, none⟩)] 25 (0, 0), .cells #[.string p] 9 (0, 0)] := hw0
  have hC0 : Chg [] w w0 := by rw [hA]; exact allocs_chg _ _
  have b0 : w0.heap[w.heap.size]? = some (.cells #[.pointer (some ⟨fb, 0, none⟩)] 25 (0, 0)) := by rw [hA]; exact allocs_get w _ (i := 0) rfl
  have b1 : w0.heap[w.heap.size + 1]? = some (.cells #[.string p] 9 (0, 0)) := by rw [hA]; exact allocs_get w _ (i := 1) rfl
  have hc := (Chg.refl [] w0).alloc (.cells #[.int .i64 0] 30 (0, 0))
  have HF := Lib.hid (facer2 fb mb vs f [] 43 #[.pointer (some ⟨w.heap.size + 1, 0, none⟩), .pointer (some ⟨w.heap.size, 0, none⟩)] w w0 hC0 h (fun args w => by kernel_rfl) (onPath p f.unlinkE) (fun _ => True) (fun k hk => by cases hk)
    ((funlink1c fb mb vs f (w.heap.size + 1) w.heap.size p _ (h.calm (hC0.trans hc)) (hL.calm (hC0.trans hc)) hN (cellB (hc.blk b1 List.not_mem_nil) (i := 0) rfl) (cellB (hc.blk b0 List.not_mem_nil) (i := 0) rfl)).mono fun e W' hE => ⟨EDo.of h (hC0.trans hc) hE (fun _ => trivial), hE.x⟩))
  clear h hL hN hC0 b0 b1 hc hA
  go_enter Tryd.func18, Tryd.ntmps18
  go_wp2_with (go_at_call 22; rw [← hw0]; refine HF.out.mono ?_; rintro e w' ⟨c, W', rfl, hr, _, _⟩; have HR := Lib.hid hr; clear hr)
  go_ret
  exact ⟨c, rfl, HR.out⟩


end Go.Proofs.YtkkjbnmfjhmobaaDoor
