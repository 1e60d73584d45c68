
/- sorted: the threads that wait, by a comparison. -/
import Derived.Test.YtiiafhlckmkcnaaWe
namespace Go.Proofs.Ytiiafhlckmkcnaa
open Go.RowKit Go.Sort

theorem infoInt : (Try.prog.info? 3).map (fun i => (i.zero, i.size, i.bytes)) = some (some (.int .i64 0), 1, 8) := by kernel_rfl

/-- Who waits, by a comparison: a permutation of the threads, no later one less than an earlier one. -/
def SortedPost (B : Nat) (L1 : List W1) (cf : Int → Int → Int → Int → Int) (w : World) (e : Ending) (w' : World) : Prop :=
  ∃ v ts, e = .returned v ∧ List.Perm ts (L1.map W1.t) ∧ ts.Pairwise (fun x y => ¬ cfT cf L1 y x < 0) ∧ w'.ownsRow B 3 1 v ts.length (ts.map (Value.int .i64)) ∧ Chg [] w w'

theorem WIn.nodup {w : World} {ab mb : Nat} {n : Int} {L1 : List W1} (h : WIn w ab mb n L1) : (L1.map W1.t).Nodup := by
  have := h.map.nodup
  rw [List.map_map] at this
  exact this
theorem WIn.few {w : World} {ab mb : Nat} {n : Int} {L1 : List W1} (h : WIn w ab mb n L1) : L1.length ≤ 16 := by
  have h1 := List.Nodup.length_le_of_subset (l₁ := L1.map W1.t) (l₂ := (List.range 16).map (fun k : Nat => (k : Int))) h.nodup (by
    intro t ht
    obtain ⟨x, hx, rfl⟩ := List.mem_map.1 ht
    have := (h.ok x hx).1
    unfold okT at this
    exact List.mem_map.2 ⟨x.t.toNat, by simp; omega, by omega⟩)
  simpa using h1

set_option maxRecDepth 100000 in
set_option maxHeartbeats 1000000 in
theorem sorted_any (g : Nat) (cf : Int → Int → Int → Int → Int) (hg : CmpOf g cf) (eg : ∀ args w, (callFunc g args).run Try.prog w = .ok (.enter g args) w) (ab mb : Nat) (n : Int) (L1 : List W1) (w : World)
    (hW : WIn w ab mb n L1) (hO : SWO (ltOf (cfT cf L1))) :
    Calls Try.prog 58 #[.pointer (some ⟨ab, 0, none⟩), .func (.func g) #[] #[]] w (SortedPost w.heap.size L1 cf w) := by
  obtain ⟨i0, hi, hz0, hz1, hz2⟩ := info_parts infoInt
  obtain ⟨M, hM, hMp⟩ := hW.map
  have c0 := cellB hW.head (i := 0) rfl
  have hab := lt_of_blk hW.head
  have hmb := hM.lt
  have hfew := hW.few
  have hMl : M.length ≤ 16 := by rw [hMp.length_eq]; simpa using hfew
  have ht := there_yes ab mb ((w.alloc (.cells #[.pointer (some ⟨ab, 0, none⟩)] 52)).alloc (.cells #[.func (.func g) #[] #[]] 90)) (by simp [go_sem, hab, c0])
  obtain ⟨o, hrange, hR0⟩ := run_range_I (P := Try.prog) Try.underlying76 (show MapI ((w.alloc (.cells #[.pointer (some ⟨ab, 0, none⟩)] 52)).alloc (.cells #[.func (.func g) #[] #[]] 90)) mb M from hM.kept (S := []) (((Chg.refl _ _).alloc _).alloc _) (by simp))
  have HC : Hid (Chg [] w (((w.alloc (.cells #[.pointer (some ⟨ab, 0, none⟩)] 52)).alloc (.cells #[.func (.func g) #[] #[]] 90)).alloc o)) := (((Chg.refl _ _).alloc _).alloc _).alloc _
  have HB : Hid ((((w.alloc (.cells #[.pointer (some ⟨ab, 0, none⟩)] 52)).alloc (.cells #[.func (.func g) #[] #[]] 90)).alloc o).heap[w.heap.size]? = some (.cells #[.pointer (some ⟨ab, 0, none⟩)] 52 (0, 0)) ∧ (((w.alloc (.cells #[.pointer (some ⟨ab, 0, none⟩)] 52)).alloc (.cells #[.func (.func g) #[] #[]] 90)).alloc o).heap[w.heap.size + 1]? = some (.cells #[.func (.func g) #[] #[]] 90 (0, 0))) :=
    ⟨blk_alloc (blk_alloc (heap_alloc_eq w _) _) _, blk_alloc (by have := heap_alloc_eq (w.alloc (.cells #[.pointer (some ⟨ab, 0, none⟩)] 52)) (.cells #[.func (.func g) #[] #[]] 90); rwa [World.size_alloc] at this) _⟩
  have HR := Lib.hid hR0
  have HW := Lib.hid hW
  have HO := Lib.hid hO
  have HG := Lib.hid hg
  clear hW hO hfew hR0 hg hM
  simp only [World.size_alloc] at hrange HR
  go_enter Try.func58, Try.ntmps58
  go_wp2_with (go_at_call 53; refine ht.mono ?_; rintro e w' ⟨rfl, rfl⟩)
  go_loopw [5] (fun v wr => ∃ done rest, RngP wr mb (w.heap.size + 1 + 1) M rest ∧ M.Perm (done ++ rest) ∧ wr.ownsRow (w.heap.size + 1 + 1 + 1) 3 1 v done.length (done.map fun p => .int .i64 p.1) ∧
      w.heap.size + 1 + 1 + 1 ≤ wr.heap.size ∧ wr.heap[w.heap.size]? = some (.cells #[.pointer (some ⟨ab, 0, none⟩)] 52 (0, 0)) ∧ wr.heap[w.heap.size + 1]? = some (.cells #[.func (.func g) #[] #[]] 90 (0, 0)) ∧ Chg [] w wr)
    (fun _ wr => rleft wr mb (w.heap.size + 1 + 1))
  case atStart =>
    refine ⟨[], M, HR.out, by simp, World.ownsRow_nil .., by simp, HB.out.1, HB.out.2, HC.out⟩
  case round =>
    obtain ⟨done, rest, hR, hP, hown, hsz, hbw, hbc, hC⟩ := hrel
    rcases run_next_I (P := Try.prog) hR with ⟨hr0, hnx⟩ | ⟨p, r1, r2, w1, hr0, hnx, hR1, hen, hC1, hsz1⟩
    · subst hr0
      rw [List.append_nil] at hP
      have e1 : (done.map fun p => Value.int .i64 p.1) = (done.map (·.1)).map (Value.int .i64) := by rw [List.map_map]; rfl
      have hown' : wr.ownsRow (w.heap.size + 1 + 1 + 1) 3 1 u5 (done.map (·.1)).length ((done.map (·.1)).map (Value.int .i64)) := by rw [← e1, List.length_map]; exact hown
      have hd : done.length ≤ 16 := by rw [← hP.length_eq]; exact hMl
      have eg51 : ∀ args w, (callFunc 71 args).run Try.prog w = .ok (.enter 71 args) w := enters_of Try.func71 (by kernel_rfl) rfl
      have hS := sort_ints 71 #[.pointer (some ⟨w.heap.size + 1, 0, none⟩), .pointer (some ⟨w.heap.size, 0, none⟩)] (cfT cf L1) HO.out eg51 (w.heap.size + 1 + 1 + 1) u5 (done.map (·.1)) wr hown' (by simp; omega)
        (fun W hCW x y => by
          have hn : ∀ k, k < w.heap.size + 1 + 1 + 1 → k ∉ u5.ownBlock.toList := fun k hk => own_notin hown' hk
          have := sorted1_any g cf HG.out eg (w.heap.size + 1) w.heap.size ab mb n L1 W (cellB (hCW.blk hbc (hn _ (by omega))) rfl) (cellB (hCW.blk hbw (hn _ (by omega))) rfl)
            ((HW.out.kept hC (by simp) (by simp)).kept hCW (hn _ (by omega)) (hn _ (by omega))) x y
          simpa using this)
      have HS := Lib.hid hS
      have HN := Lib.hid hown'
      clear hS eg51 e1 hown hown'
      go_wp2_with (go_at_call 70; refine HS.out.mono ?_; rintro e w' ⟨rfl, ts, hT1, hT2, hT3, hT4⟩)
      go_ret
      refine ⟨u5, ts, rfl, hT1.trans ?_, by simpa using hT2, own_mono (by rw [hT1.length_eq]; exact hT3) (by omega), ?_⟩
      · have h1 := (hP.symm.trans hMp).map (·.1)
        rw [List.map_map] at h1
        exact h1
      · exact hC.trans' hT4 (fun k hk => .inr (by have := own_ge HN.out k hk; omega))
    · have hl1 := hR.left
      have hl2 := hR1.left
      have hlen : done.length + rest.length ≤ 16 := by have := hP.length_eq; rw [List.length_append] at this; omega
      have hrl : rest.length = (r1 ++ r2).length + 1 := by rw [hr0]; simp; omega
      have hown1 := own_kept hown hC1 (fun k hk => by simp at hk; subst hk; exact own_notin hown (by omega))
      have HN := Lib.hid hown
      have HF := Lib.hid (And.intro hR1 (And.intro hbw (And.intro hbc (And.intro hC (And.intro hl1 (And.intro hrl (And.intro hr0 (And.intro hsz (And.intro hC1 hsz1)))))))))
      have hB1 : w.heap.size + 1 + 1 + 1 ≤ w1.heap.size := by omega
      have hd1 : done.length + 1 ≤ maxLen := by unfold maxLen; omega
      have hd2 : (done.length + 1) * 8 ≤ 140737488355328 := by omega
      clear hl1 hl2 hrl hr0 hsz hsz1 hC1 hown hR1 hbw hbc hC
      go_wp2_with (at_builtin; refine wpList_push rfl _ _ 44 rfl (w.heap.size + 1 + 1 + 1) 3 i0 (.int .i64 0) 1 8 Try.underlying44 hi hz0 hz1 hz2 rfl (by decide) u5 done.length _ rfl hown1 [.int .i64 p.1] rfl rfl (by simp [Value.oneCell']) hd1 hd2 hB1 ?_; intro v' w2 hown2 hC2 hloc hnn)
      go_roundw
      case rel =>
        obtain ⟨hR1, hbw, hbc, hC, hl1, hrl, hr0, hsz, hC1, hsz1⟩ := HF.out
        have hn : ∀ k, k < w.heap.size + 1 + 1 + 1 → k ∉ u5.ownBlock.toList := fun k hk => own_notin HN.out hk
        refine ⟨done ++ [p], r1 ++ r2, hR1.kept hC2 (hn _ (by omega)) (hn _ (by omega)), ?_, by simpa using hown2, by have := hC2.size; omega, hC2.blk (hC1.blk hbw (by simp; omega)) (hn _ (by omega)), hC2.blk (hC1.blk hbc (by simp)) (hn _ (by omega)),
          (hC.trans' hC1 (by simp; omega)).trans' hC2 (fun k hk => .inr (by have := own_ge HN.out k hk; omega))⟩
        rw [hr0] at hP
        refine hP.trans ?_
        simp only [List.append_assoc, List.singleton_append]
        exact List.Perm.append_left done List.perm_middle
      case measure =>
        obtain ⟨hR1, hbw, hbc, hC, hl1, hrl, hr0, hsz, hC1, hsz1⟩ := HF.out
        have hn : ∀ k, k < w.heap.size + 1 + 1 + 1 → k ∉ u5.ownBlock.toList := fun k hk => own_notin HN.out hk
        rw [(hR1.kept hC2 (hn _ (by omega)) (hn _ (by omega))).left, hl1]
        omega

end Go.Proofs.Ytiiafhlckmkcnaa
