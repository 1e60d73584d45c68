
/- Files in memory: a node's bytes grow, bytes are copied into them. -/
import Derived.Test.YtkkjbnmfjhmobaaDoorFad
import Derived.Test.YtkkjbnmfjhmobaaDoorFae
namespace Go.Proofs.YtkkjbnmfjhmobaaDoor
open Go.RowKit

theorem bytesV_zeros (b : List Int) (k : Nat) : bytesV b ++ List.replicate k (Value.int .u8 0) = bytesV (b ++ List.replicate k 0) := by
  unfold bytesV
  rw [List.map_append, List.map_replicate]
theorem setN_bytes {f : FS} {m : Nat} (_ : m < 64) (_ : f.nodes.length = 64) {x : Nd} {c : Nat} (hx : x.b.length ≤ (f.nodes.getD m nd0).b.length + c) : (f.setN m x).bytes ≤ f.bytes + c := by
  unfold FS.bytes
  exact sum_set_add (fun x : Nd => x.b.length) nd0 c _ _ _ hx
theorem setN_setN (f : FS) (m : Int) (x y : Nd) : (f.setN m x).setN m y = f.setN m y := by
  unfold FS.setN
  simp only [List.set_set]
section
variable {w w1 : World} {fb : Nat} {mb : Nat → Nat} {vs : Nat → Value} {f : FS}
/-- A node's row is another one. -/
theorem FAt.setRow (h : FAt w fb mb vs f) {m : Nat} (hm : m < 64) (his : (f.nodes.getD m nd0).is = true) {v' : Value} {b' : List Int} (hbz : ∀ z ∈ b', 0 ≤ z ∧ z < 256) (hsum : (f.setN m { f.nodes.getD m nd0 with b := b' }).bytes ≤ 4096)
    (hC : Chg (vs m).ownBlock.toList w w1) (hr : w1.ownsRow 0 5 1 v' b'.length (bytesV b')) (hv : ∀ k ∈ v'.ownBlock.toList, k ∈ (vs m).ownBlock.toList ∨ w.heap.size ≤ k) :
    FStep w (w1.setCell ⟨fb, m * 3 + 2, none⟩ v') fb mb vs f (updN mb m (mb m)) (updN vs m v') (f.setN m { f.nodes.getD m nd0 with b := b' }) := by
  have hfo := h.sep_row hm
  have hfv : fb ∉ v'.ownBlock.toList := fun hk => (hv _ hk).elim hfo (fun h2 => by have := lt_of_blk h.head; omega)
  have hC2 : Chg (fb :: (vs m).ownBlock.toList) w (w1.setCell ⟨fb, m * 3 + 2, none⟩ v') := (hC.mono (fun k hk => .inl (List.mem_cons_of_mem _ hk))).setCell _ _ (.inl (by simp))
  refine h.setNode hm (x := { f.nodes.getD m nd0 with b := b' }) (b := mb m) (v := v') hC2 (fun k hk => ?_) ?_ ?_ (fun mm hmm => ?_) hv (fun hs => .inl ⟨hs, rfl⟩) (h.inv.setB hm his hbz hsum)
  · rcases List.mem_cons.1 hk with rfl | hk
    · exact .inl rfl
    · exact .inr (by unfold ownN; exact List.mem_append_right _ hk)
  · rw [← fsCells_bytes h.inv.ln hm mb vs b' v']
    exact blk_setCell (hC.blk h.head hfo) _
  · exact own_kept (S := [fb]) hr ((Chg.refl _ _).setCell _ _ (.inl (by simp))) (fun k hk => by simp at hk; subst hk; exact hfv)
  · have hsd : (f.nodes.getD m nd0).dir.isSome = true := by rw [show (f.nodes.getD m nd0).dir = some mm from hmm]; rfl
    refine (h.mp m hm mm hmm).kept hC2 (fun hk => ?_)
    rcases List.mem_cons.1 hk with e | hk
    · exact h.sep_map hm hsd e
    · exact h.sep_mr hm hm hsd hk
/-- A node's bytes grow by zeros. -/
theorem FAt.growB (h : FAt w fb mb vs f) {m : Nat} (hm : m < 64) (his : (f.nodes.getD m nd0).is = true) {Wd : World} (hW : Chg [] w Wd) (ext : Nat) (h0 : 0 < ext) (hsum : f.bytes + ext ≤ 4096) (ty : TypeId) :
    ∃ v' w1, (Builtin.append_ #[23, 3] ty #[vs m, .int .i64 (ext : Int)]).run Tryd.prog Wd = .ok v' w1 ∧ Chg (vs m).ownBlock.toList Wd w1 ∧ (∃ a cap, v' = .slice a ((f.nodes.getD m nd0).b.length + ext) cap) ∧
      FStep w (w1.setCell ⟨fb, m * 3 + 2, none⟩ v') fb mb vs f (updN mb m (mb m)) (updN vs m v') (f.setN m { f.nodes.getD m nd0 with b := (f.nodes.getD m nd0).b ++ List.replicate ext 0 }) := by
  have hl := h.inv.len_le hm
  obtain ⟨v', w1, hr, ho, hc, hb⟩ := run_append_zeros ((h.calm hW).row m hm) ext h0 (by omega) (Nat.zero_le _) ty
  rw [bytesV_zeros] at ho
  refine ⟨v', w1, hr, hc, own_slice ho, h.setRow hm his (v' := v') (fun z hz => ?_) (Nat.le_trans (setN_bytes hm h.inv.ln (c := ext) (by simp)) hsum) ((hW.mono (by simp)).trans hc) (by rw [List.length_append, List.length_replicate]; exact ho) (fun k hk => (hb k hk).imp id (fun h2 => Nat.le_trans hW.size h2))⟩
  rcases List.mem_append.1 hz with h2 | h2
  · exact h.inv.byte _ (h.inv.ndAt hm) z h2
  · rw [List.eq_of_mem_replicate h2]; omega
/-- Bytes are copied into a node's. -/
theorem FAt.copyB (h : FAt w fb mb vs f) {m : Nat} (hm : m < 64) (his : (f.nodes.getD m nd0).is = true) {Wd : World} (hW : Chg [] w Wd) {a : Option Addr} {n cap : Nat} (hv : vs m = .slice a n cap) (fr : Nat) {sa : Option Addr} {sl sc : Nat} {data : List Int} (hsrc : BytesE Wd (.slice sa sl sc) data) (hl : sl = data.length) (hz : ∀ z ∈ data, 0 ≤ z ∧ z < 256) (hfit : fr + data.length ≤ n) (ty : TypeId) :
    ∃ w1, (Builtin.copy_ #[23, 23] ty #[sliced a fr n cap 1, .slice sa sl sc]).run Tryd.prog Wd = .ok (.int .i64 (data.length : Int)) w1 ∧ Chg (vs m).ownBlock.toList Wd w1 ∧
      ∃ mb' vs', FStep w w1 fb mb vs f mb' vs' (f.setN m { f.nodes.getD m nd0 with b := (f.nodes.getD m nd0).b.take fr ++ data ++ (f.nodes.getD m nd0).b.drop (fr + data.length) }) := by
  have ho := (h.calm hW).row m hm
  rw [hv] at ho
  have hbn : (f.nodes.getD m nd0).b.length = n := by
    obtain ⟨a', cap', e⟩ := own_slice ho
    injection e with _ e _
    exact e.symm
  rw [hbn] at ho
  obtain ⟨w1, hr, ho2, hc⟩ := run_copy_bytes ho fr hsrc hl hfit ty
  rw [← hv] at hc
  have hlen : ((f.nodes.getD m nd0).b.take fr ++ data ++ (f.nodes.getD m nd0).b.drop (fr + data.length)).length = n := by
    simp only [List.length_append, List.length_take, List.length_drop, hbn]
    omega
  have hs := h.setRow hm his (v' := vs m) (b' := (f.nodes.getD m nd0).b.take fr ++ data ++ (f.nodes.getD m nd0).b.drop (fr + data.length)) (fun z hz2 => by
    rcases List.mem_append.1 hz2 with h2 | h2
    · rcases List.mem_append.1 h2 with h3 | h3
      · exact h.inv.byte _ (h.inv.ndAt hm) z (List.mem_of_mem_take h3)
      · exact hz z h3
    · exact h.inv.byte _ (h.inv.ndAt hm) z (List.mem_of_mem_drop h2)) (Nat.le_trans (setN_bytes hm h.inv.ln (c := 0) (by show _ ≤ _ + 0; rw [hlen, hbn]; omega)) (by have := h.inv.bytes; omega)) ((hW.mono (by simp)).trans hc) (by rw [hlen, hv]; exact ho2) (fun k hk => .inl hk)
  refine ⟨w1, hr, hc, _, _, ⟨?_, ?_, hs.blk⟩⟩
  · have hA := hs.at_
    have hh : w1.heap[fb]? = some (.cells (fsCells (f.setN m { f.nodes.getD m nd0 with b := (f.nodes.getD m nd0).b.take fr ++ data ++ (f.nodes.getD m nd0).b.drop (fr + data.length) }) (updN mb m (mb m)) (updN vs m (vs m))) 57 (0, 0)) := by
      rw [← fsCells_bytes h.inv.ln hm mb vs _ (vs m)]
      have hb := hc.blk (hW.blk h.head (by simp)) (h.sep_row hm)
      have he : (fsCells f mb vs).setIfInBounds (m * 3 + 2) (vs m) = fsCells f mb vs := by
        refine cells_ext (size_setI (fsCells_size f mb vs) _ _) fun j hj => ?_
        rw [get_setI (fsCells_size f mb vs) hj, fsCells_get f mb vs hj]
        split
        · rename_i e
          subst e
          unfold cellAt
          rw [if_pos (by omega), show (m * 3 + 2) / 3 = m by omega, show (m * 3 + 2) % 3 = 2 by omega]
          rfl
        · rfl
      rw [he]
      exact hb
    have hk : Chg [fb] (w1.setCell ⟨fb, m * 3 + 2, none⟩ (vs m)) w1 := ⟨rfl, rfl, rfl, by simp [World.setCell], fun k _ hn => (Below.heap_setCell _ _ _ _ (by simpa using hn)).symm⟩
    exact ⟨hh, fun i hi => own_kept (hA.row i hi) hk (fun k hk => by simp at hk; subst hk; exact hA.sep_row hi), fun i hi mm hmm => (hA.mp i hi mm hmm).kept hk (by simpa using hA.sep_map hi (by rw [hmm]; rfl)), hA.rows, hA.maps, hA.inv⟩
  · exact ((hW.mono (by simp)).trans hc).mono (fun k hk => .inl (mem_blkF.2 (.inr ⟨m, hm, .inr hk⟩)))
end

section
variable {P : Program}
theorem wpList_copy {w : World} {ops : Array Oper} {rest : List Oper} {o : Oper} {a : Act} {Q : Exit → Act → World → Prop} (hgd : o.guard = none) (d s : Operand) (t t' : TypeId)
    (ho : o.op = .call { callee := .builtin .copy, args := #[d, s], argTypes := #[t, t'] }) (v u : Value) (hd : a.eval d = v) (hs : a.eval s = u) {v' : Value} {w' : World}
    (hr : (Builtin.copy_ #[t, t'] o.type #[v, u]).run P w = .ok v' w') (h : wpList P ops Q rest (a.put o.dst v') w') : wpList P ops Q (o :: rest) a w := by
  refine wpList_plain hgd fun _ hK => ?_
  unfold Oper.wp execOp
  simp only [ho, resolve, invoke, builtin, Sem.run_bind, Sem.run_pure, Result.andThen_ok, List.map_toArray, List.map_cons, List.map_nil, hd, hs, hr]
  exact hK _ _ h
end
section
variable {P : Program}
theorem step_runZ {ops : Array Oper} {o : Oper} {a : Act} {w : World} {K : Act → World → Prop} {Q : Exit → Act → World → Prop} {E : Prop} (hgd : o.guard = none) (s x : Operand) (t tn ty : TypeId)
    (ho : o.op = .call { callee := .builtin .append, args := #[s, x], argTypes := #[t, tn] }) (hty : o.type = ty) (v u v' : Value) (hs : a.eval s = v) (hx : a.eval x = u) (w' : World)
    (hr : (Builtin.append_ #[t, tn] ty #[v, u]).run P w = .ok v' w') (hK : K (a.put o.dst v') w') : if Region.wanted o (yielded ops a.tmps) = true then Oper.wp P o a w K Q else E := by
  have hw : Region.wanted o (yielded ops a.tmps) = true := by simp [Region.wanted, hgd]
  rw [if_pos hw]
  subst hty
  unfold Oper.wp execOp
  simp only [ho, resolve, invoke, builtin, Sem.run_bind, Sem.run_pure, Result.andThen_ok, List.map_toArray, List.map_cons, List.map_nil, hs, hx, hr]
  exact hK
end
/-- What a write leaves, in two ways. -/
theorem write_eq {f : FS} (hl : f.nodes.length = 64) {m : Nat} (hm : m < 64) {b data : List Int} (_ : (f.nodes.getD m nd0).b = b) (fr ext : Nat) (hx : ext = fr + data.length - b.length) :
    (f.setN m { f.nodes.getD m nd0 with b := b ++ List.replicate ext 0 }).setN m { (f.setN m { f.nodes.getD m nd0 with b := b ++ List.replicate ext 0 }).nodes.getD m nd0 with b := ((f.setN m { f.nodes.getD m nd0 with b := b ++ List.replicate ext 0 }).nodes.getD m nd0).b.take fr ++ data ++ ((f.setN m { f.nodes.getD m nd0 with b := b ++ List.replicate ext 0 }).nodes.getD m nd0).b.drop (fr + data.length) } =
      f.setN m { f.nodes.getD m nd0 with b := (b ++ List.replicate ext 0).take fr ++ data ++ b.drop (fr + data.length) } := by
  rw [setN_setN, setN_same hl hm]
  have : (b ++ List.replicate ext 0).drop (fr + data.length) = b.drop (fr + data.length) := by
    rw [List.drop_append]
    by_cases h : b.length ≤ fr + data.length
    · rw [List.drop_of_length_le h, List.drop_of_length_le (by rw [List.length_replicate]; omega)]
      rfl
    · rw [show ext = 0 by omega]
      simp
  rw [this]

end Go.Proofs.YtkkjbnmfjhmobaaDoor
