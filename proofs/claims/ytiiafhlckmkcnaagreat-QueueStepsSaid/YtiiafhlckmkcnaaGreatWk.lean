
/- Package waits: Copy. -/
import Derived.Test.YtiiafhlckmkcnaaGreatJX
namespace Go.Proofs.YtiiafhlckmkcnaaGreat
open Go.RowKit

theorem mupd_fresh {M : List (Int × Value)} {a : Int} {v : Value} (h : a ∉ M.map (·.1)) : mupd M a v = M ++ [(a, v)] := by
  refine mupd_push (List.findIdx?_eq_none_iff.2 (fun p hp => ?_))
  have : a ≠ p.1 := fun e => h (List.mem_map.2 ⟨p, hp, e.symm⟩)
  simpa using this

def CopyPost (n : Int) (L1 : List W1) (w : World) (e : Ending) (w' : World) : Prop :=
  ∃ ab mb, e = .returned (.pointer (some ⟨ab, 0, none⟩)) ∧ w.heap.size ≤ ab ∧ w.heap.size ≤ mb ∧ WIn w' ab mb n L1 ∧ Chg [] w w'

set_option maxRecDepth 100000 in
set_option maxHeartbeats 1000000 in
theorem copy_in (ab mb : Nat) (n : Int) (L1 : List W1) (w : World) (hW : WIn w ab mb n L1) :
    Calls Tryz.prog 56 #[.pointer (some ⟨ab, 0, none⟩)] w (CopyPost n L1 w) := by
  have hmm := @run_makeMap Tryz.prog
  have c0 := cellB hW.head (i := 0) rfl
  have c1 := cellB hW.head (i := 1) rfl
  have hab := lt_of_blk hW.head
  have ht := there_yes ab mb w c0
  obtain ⟨M, hM, hMp⟩ := hW.map
  have hmb := hM.lt
  have hrow : ∀ p ∈ M, ∃ x ∈ L1, p = x.row := fun p hp => by
    obtain ⟨x, hx, rfl⟩ := List.mem_map.1 (hMp.mem_iff.1 hp)
    exact ⟨x, hx, rfl⟩
  obtain ⟨o, hrange, hR0⟩ := run_range_I (P := Tryz.prog) Tryz.underlying85 (show MapI ((w.alloc (.map #[] 0)).alloc (.cells #[.map (some w.heap.size), .int .i64 n] 87)) mb M from hM.kept (S := []) (((Chg.refl _ _).alloc _).alloc _) (by simp))
  have hH : (((w.alloc (.map #[] 0)).alloc (.cells #[.map (some w.heap.size), .int .i64 n] 87)).alloc o).heap[w.heap.size + 1]? = some (.cells #[.map (some w.heap.size), .int .i64 n] 87 (0, 0)) :=
    blk_alloc (by have := heap_alloc_eq (w.alloc (.map #[] 0)) (.cells #[.map (some w.heap.size), .int .i64 n] 87); rwa [World.size_alloc] at this) _
  have hN : MapP (((w.alloc (.map #[] 0)).alloc (.cells #[.map (some w.heap.size), .int .i64 n] 87)).alloc o) w.heap.size [] := (MapP.made w).kept (S := []) (((Chg.refl _ _).alloc _).alloc _) (by simp)
  have hC : Chg [] w (((w.alloc (.map #[] 0)).alloc (.cells #[.map (some w.heap.size), .int .i64 n] 87)).alloc o) := (((Chg.refl _ _).alloc _).alloc _).alloc _
  have hnd := hM.nodup
  simp only [World.size_alloc] at hrange hR0
  have H0 := Lib.hid (And.intro hR0 (And.intro hH (And.intro hN hC)))
  have HW := Lib.hid hW
  have HM := Lib.hid (And.intro hMp (And.intro hrow hnd))
  clear hW hR0 hH hN hC hrow hMp hnd hM
  go_enter Tryz.func56, Tryz.ntmps56
  go_wp2_with (go_at_call 58; refine ht.mono ?_; rintro e w' ⟨rfl, rfl⟩)
  go_loopw [4] (fun _ wr => ∃ done rest, RngP wr mb (w.heap.size + 1 + 1) M rest ∧ M.Perm (done ++ rest) ∧ MapP wr w.heap.size done ∧ wr.heap[w.heap.size + 1]? = some (.cells #[.map (some w.heap.size), .int .i64 n] 87 (0, 0)) ∧ Chg [] w wr)
    (fun _ wr => rleft wr mb (w.heap.size + 1 + 1))
  case atStart => exact ⟨[], M, H0.out.1, by simp, H0.out.2.2.1, H0.out.2.1, H0.out.2.2.2⟩
  case round =>
    obtain ⟨done, rest, hR, hP, hN, hH, hC⟩ := hrel
    rcases run_next_I (P := Tryz.prog) hR with ⟨hr0, hnx⟩ | ⟨p, r1, r2, w1, hr0, hnx, hR1, hen, hC1, hsz1⟩
    · subst hr0
      rw [List.append_nil] at hP
      have HF := Lib.hid (And.intro hP (And.intro hN (And.intro hH hC)))
      clear hP hN hH hC hR
      go_wp2
      go_ret
      obtain ⟨hP, ⟨M', hm, hp⟩, hH, hC⟩ := HF.out
      exact ⟨w.heap.size + 1, w.heap.size, rfl, by omega, by omega, ⟨hH, ⟨M', hm, hp.trans (hP.symm.trans HM.out.1)⟩, HW.out.ok, HW.out.came, HW.out.low⟩, hC⟩
    · have hin : p ∈ M := hP.mem_iff.2 (by rw [hr0]; simp)
      obtain ⟨x, hx, rfl⟩ := HM.out.2.1 p hin
      have hl1 := hR.left
      have hrl : rest.length = (r1 ++ r2).length + 1 := by rw [hr0]; simp; omega
      have hfr : x.t ∉ done.map (·.1) := by
        have h1 : ((done ++ rest).map (·.1)).Nodup := (hP.map (·.1)).nodup_iff.1 HM.out.2.2
        rw [hr0] at h1
        simp only [List.map_append, List.map_cons] at h1
        intro hm
        exact (List.nodup_append.1 h1).2.2 _ hm x.t (by simp [W1.row]) rfl
      have hlt1 : w.heap.size + 1 + 1 < w1.heap.size := hR1.lt
      have hN1 := (hN.kept hC1 (by simp; omega)).kept ((Chg.refl [] w1).alloc (.cells #[.int .i64 x.p, .int .i64 x.c] 98)) (by simp)
      obtain ⟨w2, hup, hN2, hC2⟩ := run_update_P (P := Tryz.prog) Tryz.underlying85 Tryz.underlying3 (show MapP (w1.alloc (.cells #[.int .i64 x.p, .int .i64 x.c] 98)).drew w.heap.size done from hN1) x.t (.agg #[.int .i64 x.p, .int .i64 x.c])
      have hb1 := blk_alloc (hC1.blk hH (by simp)) (.cells #[.int .i64 x.p, .int .i64 x.c] 98)
      have cN := cellB hb1 (i := 0) rfl
      rw [mupd_fresh hfr] at hN2
      have hCx : Chg [w.heap.size] (w1.alloc (.cells #[.int .i64 x.p, .int .i64 x.c] 98)) w2 := (Chg.refl _ _).drew.trans hC2
      have hb2 := hCx.blk hb1 (by simp)
      have hRx := (hR1.kept ((Chg.refl [] w1).alloc (.cells #[.int .i64 x.p, .int .i64 x.c] 98)) (by simp) (by simp)).kept hCx (by simp; omega) (by simp; omega)
      have hCf := ((hC.trans' hC1 (by simp; omega)).alloc (.cells #[.int .i64 x.p, .int .i64 x.c] 98)).trans' hCx (by simp)
      have HF := Lib.hid (And.intro hRx (And.intro hN2 (And.intro hb2 (And.intro hCf (And.intro hP (And.intro hl1 (And.intro hrl hr0)))))))
      clear hRx hN2 hb2 hCf hP hl1 hrl hr0 hN1 hb1 hCx hC2 hfr hin hR hN hH hC hR1 hC1 hsz1 hx
      simp only [W1.row] at hnx hen
      go_wp2
      refine region_still_tail 6 (by kernel_rfl) (by kernel_rfl) ?_
      simp only [List.take_succ_cons, List.take_zero, List.drop_succ_cons, List.drop_zero]
      repeat still_step
      refine wpStill_nil ?_
      go_wp2
      go_roundw
      case rel =>
        obtain ⟨hRx, hN2, hb2, hCf, hP, hl1, hrl, hr0⟩ := HF.out
        refine ⟨done ++ [x.row], r1 ++ r2, hRx, ?_, hN2, hb2, hCf⟩
        rw [hr0] at hP
        refine hP.trans ?_
        simp only [List.append_assoc, List.singleton_append]
        exact List.Perm.append_left done List.perm_middle
      case measure =>
        obtain ⟨hRx, hN2, hb2, hCf, hP, hl1, hrl, hr0⟩ := HF.out
        rw [hRx.left, hl1]
        omega

def CopyP (N : Int) (L : WL) (w : World) (e : Ending) (w' : World) : Prop :=
  ∃ ab mb, e = .returned (.pointer (some ⟨ab, 0, none⟩)) ∧ w.heap.size ≤ ab ∧ w.heap.size ≤ mb ∧ WAt w' ab mb N L ∧ Chg [] w w'

theorem copyc (ab mb : Nat) (N : Int) (L : WL) (w : World) (hW : WAt w ab mb N L) : Calls Tryz.prog 56 #[.pointer (some ⟨ab, 0, none⟩)] w (CopyP N L w) := by
  obtain ⟨n, L1, h, rfl, hn⟩ := hW
  refine (copy_in ab mb n L1 w h).mono ?_
  rintro e w' ⟨a, m, rfl, h1, h2, h3, h4⟩
  exact ⟨a, m, rfl, h1, h2, ⟨n, L1, h3, rfl, hn⟩, h4⟩

end Go.Proofs.YtiiafhlckmkcnaaGreat
