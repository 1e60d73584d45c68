
/- Package mqueue: steps of a queue in memory; Send: contract. -/
import Derived.Test.YtiiafhlckmkcnaaGreatUe
namespace Go.Proofs.YtiiafhlckmkcnaaGreat
open Go.RowKit

section
variable {w w' : World} {u : UB} {v : Value} {N N' : Int} {s : QS}
theorem UAt.inU (h : UAt w u v N s) {k : Nat} (hk : k ∈ u.l) : k ∉ v.ownBlock.toList := fun hm => h.apart k hm hk
theorem UAt.stepR {R : WL} (h : UAt w u v N s) (hW : WAt w' u.ra u.rm N' R) (hC : Chg [u.ra, u.rm] w w') (hN : N ≤ N') (hI : QInv { s with R := R }) : UAt w' u v N' { s with R := R } :=
  have hn := h.ne
  ⟨hC.blk h.head (by simp; omega), own_kept h.row hC (fun k hk hm => by simp at hk; rcases hk with rfl | rfl; exact h.inU (by simp [UB.l]) hm; exact h.inU (by simp [UB.l]) hm), h.held.kept hC (by simp; omega), (h.ls.kept hC (by simp; omega) (by simp; omega)).mono hN, hW, hI, h.dis⟩
theorem UAt.stepS {S M : WL} (h : UAt w u v N s) (hM : MapP w' u.h (heldM S M)) (hW : WAt w' u.sa u.sm N' S) (hC : Chg [u.h, u.sa, u.sm] w w') (hN : N ≤ N') (hI : QInv { s with S := S, M := M }) : UAt w' u v N' { s with S := S, M := M } :=
  have hn := h.ne
  ⟨hC.blk h.head (by simp; omega), own_kept h.row hC (fun k hk hm => by simp at hk; rcases hk with rfl | rfl | rfl; exact h.inU (by simp [UB.l]) hm; exact h.inU (by simp [UB.l]) hm; exact h.inU (by simp [UB.l]) hm), hM, hW, (h.lr.kept hC (by simp; omega) (by simp; omega)).mono hN, hI, h.dis⟩
theorem UAt.stepL {L : WL} {v' : Value} (h : UAt w u v N s) (hh : w'.heap[u.q]? = some (.cells (ucells u v' s.room) 49 (0, 0))) (hr : w'.ownsRow 0 33 2 v' (ordM L).length (flatW (ordM L))) (hC : Chg (u.q :: v.ownBlock.toList) w w') (hI : QInv { s with L := L }) : UAt w' u v' N { s with L := L } :=
  have hn := h.ne
  have ha : ∀ k ∈ u.l, k ≠ u.q → k ∉ u.q :: v.ownBlock.toList := fun k hk hq hm => by rcases List.mem_cons.1 hm with h1 | h1; exact hq h1; exact h.inU hk h1
  ⟨hh, hr, h.held.kept hC (ha _ (by simp [UB.l]) (by omega)), h.ls.kept hC (ha _ (by simp [UB.l]) (by omega)) (ha _ (by simp [UB.l]) (by omega)), h.lr.kept hC (ha _ (by simp [UB.l]) (by omega)) (ha _ (by simp [UB.l]) (by omega)), hI, h.dis⟩
theorem chgQR (h : Chg [u.ra, u.rm] w w') : Chg (blkU u v) w w' := h.mono (fun k hk => .inl (by simp at hk; rcases hk with rfl | rfl <;> simp [blkU, UB.l]))
theorem chgQS (h : Chg [u.h, u.sa, u.sm] w w') : Chg (blkU u v) w w' := h.mono (fun k hk => .inl (by simp at hk; rcases hk with rfl | rfl | rfl <;> simp [blkU, UB.l]))
theorem chgQL (h : Chg (u.q :: v.ownBlock.toList) w w') : Chg (blkU u v) w w' := h.mono (fun k hk => .inl (by
  unfold blkU
  rcases List.mem_cons.1 hk with rfl | h1
  · exact List.mem_append.2 (.inl (by simp [UB.l]))
  · exact List.mem_append.2 (.inr h1)))
end

theorem heldM_keys (S M : WL) : (heldM S M).map (·.1) = S.map (·.1) := by unfold heldM; rw [List.map_map]; rfl
theorem heldM_look {S M : WL} (hS : ListOk S) {t : Int} (h : hasR S t = true) : (heldM S M).lookup t = some (msgV (mAt M t)) := by
  obtain ⟨p, hp⟩ := hasR_mem.1 h
  refine (lookup_mem (by rw [heldM_keys]; exact hS.nodup)).2 ?_
  exact List.mem_map.2 ⟨(t, p), hp, rfl⟩
theorem heldM_put {S M : WL} {t p : Int} {m : Int × Int} (ht : okT t) (hp : okP p) (hl : M.length = 16) (hn : hasR S t = false) : (mupd (heldM S M) t (msgV m)).Perm (heldM (putL S t p) (M.set t.toNat m)) := by
  have hput : putL S t p = S ++ [(t, p)] := by
    unfold putL
    rw [if_pos (by rw [askR_of ht hp, if_pos hn])]
  have hne : ∀ x ∈ S, x.1 ≠ t := fun x hx e => by
    have : hasR S t = true := hasR_mem.2 ⟨x.2, by rw [← e]; exact hx⟩
    rw [hn] at this
    cases this
  rw [hput]
  unfold heldM
  rw [List.map_append]
  have e1 : S.map (fun x => (x.1, msgV (mAt (M.set t.toNat m) x.1))) = S.map (fun x => (x.1, msgV (mAt M x.1))) := List.map_congr_left (fun x hx => by rw [mAt_set ht hl, if_neg (hne x hx)])
  rw [e1, List.map_cons, List.map_nil, mAt_set ht hl, if_pos rfl]
  have hf : (S.map fun x => (x.1, msgV (mAt M x.1))).findIdx? (fun q => t == q.1) = none := by
    rw [List.findIdx?_eq_none_iff]
    intro q hq
    obtain ⟨x, hx, rfl⟩ := List.mem_map.1 hq
    have := hne x hx
    simpa using fun e => this e.symm
  rw [mupd_push hf]
theorem heldM_del {S S' M : WL} {t : Int} (hS : ListOk S) (hd : S' = wdel S t) : (mdel (heldM S M) t).Perm (heldM S' M) := by
  rw [mdel_filter (by rw [heldM_keys]; exact hS.nodup), hd, wdel_filter hS.nodup]
  unfold heldM
  rw [List.filter_map]
  exact .of_eq (congrArg _ (List.filter_congr fun x _ => by simp))

def pdV (p : PD) : Value := .agg #[.bool p.done, .int .i64 p.v, .int .i64 p.p, .int .i64 p.other]
def pd0B : Obj := .cells #[.bool false, .int .i64 0, .int .i64 0, .int .i64 0] 58 (0, 0)

/-- What a step leaves: its answer, the queue, its row in its old block or a new one. -/
def StepP (u : UB) (v : Value) (N : Int) (s' : QS) (r : Value) (w : World) (e : Ending) (w' : World) : Prop :=
  ∃ v', e = .returned r ∧ UAt w' u v' N s' ∧ Chg (blkU u v) w w' ∧ SameBlk v v' w

theorem pBuild (a : Bool) (x y o : Int) (w : World) : (Instr.build 58 #[(0, .bool a), (1, .agg #[.int .i64 x, .int .i64 y]), (2, .int .i64 o)]).run Tryz.prog w = .ok (.agg #[.bool a, .int .i64 x, .int .i64 y, .int .i64 o]) w := by kernel_rfl
theorem pBuild2 (x y o : Int) (w : World) : (Instr.build 58 #[(1, .agg #[.int .i64 x, .int .i64 y]), (2, .int .i64 o)]).run Tryz.prog w = .ok (.agg #[.bool false, .int .i64 x, .int .i64 y, .int .i64 o]) w := by kernel_rfl
theorem pBuild0 (w : World) : (Instr.build 58 #[]).run Tryz.prog w = .ok (.agg #[.bool false, .int .i64 0, .int .i64 0, .int .i64 0]) w := by kernel_rfl
theorem pBuild1 (o : Int) (w : World) : (Instr.build 58 #[(2, .int .i64 o)]).run Tryz.prog w = .ok (.agg #[.bool false, .int .i64 0, .int .i64 0, .int .i64 o]) w := by kernel_rfl

end Go.Proofs.YtiiafhlckmkcnaaGreat
