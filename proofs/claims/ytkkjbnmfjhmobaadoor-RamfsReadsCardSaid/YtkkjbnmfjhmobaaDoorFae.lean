
/- Appending zeros to a row of bytes of one's own; copying into it: laws. -/
import Derived.Test.YtkkjbnmfjhmobaaDoorFaa
import Derived.Lib.AppendZerosOnto
import Derived.Laws.AppendOwn
namespace Go.Proofs.YtkkjbnmfjhmobaaDoor
open Go.RowKit

theorem zeroCells_u8 (k : Nat) : (Builtin.zeroCells #[Value.int .u8 0] k).toList = List.replicate k (Value.int .u8 0) := by
  unfold Builtin.zeroCells
  refine List.ext_getElem (by simp) fun j h1 h2 => ?_
  simp [Nat.mod_one]
theorem flatMap_one (k : Nat) : (Builtin.zeroCells #[Value.int .u8 0] k).size = k := by rw [size_zeroCells]; simp
section
variable {P : Program}
theorem run_append_zerosP {w : World} {t tn ty e : TypeId} {i : TypeInfo} {kn : IntKind} (ht : P.underlying t = some (.slice e)) (htn : P.underlying tn = some (.int kn)) (hi : P.info? e = some i) (hz : i.zero = some (.int .u8 0)) (hs1 : i.size = 1) (hb1 : i.bytes = 1)
    {B : Nat} {v : Value} {n : Nat} {xs : List Value} (hown : w.ownsRow B e 1 v n xs) (k : Nat) (h0 : 0 < k) (hnk : n + k ≤ 8192) (hbase : B ≤ w.heap.size) :
    ∃ v' w', (Builtin.append_ #[t, tn] ty #[v, .int .i64 (k : Int)]).run P w = .ok v' w' ∧ w'.ownsRow B e 1 v' (n + k) (xs ++ List.replicate k (.int .u8 0)) ∧ Chg v.ownBlock.toList w w' ∧ (∀ j ∈ v'.ownBlock.toList, j ∈ v.ownBlock.toList ∨ w.heap.size ≤ j) := by
  have hlen : (xs ++ List.replicate k (Value.int .u8 0)).length = (n + k) * 1 := by rw [List.length_append, hown.1, List.length_replicate]; omega
  have hml : n + k ≤ maxLen := by unfold maxLen; omega
  have hzc : Value.cells (.int .u8 0) = #[Value.int .u8 0] := rfl
  have grown : ∀ (old : Nat) (S : List Nat), (w.drew.alloc (.cells (xs.toArray ++ Builtin.zeroCells #[Value.int .u8 0] k ++ Builtin.zeroCells #[Value.int .u8 0] (grownCap w (n + k) old e - (n + k))) e)).ownsRow B e 1 (.slice (some ⟨w.heap.size, 0, none⟩) (n + k) (grownCap w (n + k) old e)) (n + k) (xs ++ List.replicate k (.int .u8 0)) ∧
      Chg S w (w.drew.alloc (.cells (xs.toArray ++ Builtin.zeroCells #[Value.int .u8 0] k ++ Builtin.zeroCells #[Value.int .u8 0] (grownCap w (n + k) old e - (n + k))) e)) := by
    intro old S
    have hge := grownCap_ge w (n + k) old e
    have hcm : grownCap w (n + k) old e ≤ maxLen := grownCap_le_maxLen w (n + k) old e hml
    refine ⟨⟨hlen, .inr ⟨w.heap.size, _, _, rfl, hbase, heap_alloc_new w.drew _, hge, hcm, ?_, ?_⟩⟩, ((Chg.refl _ _).drew).alloc _⟩
    · simp only [Array.size_append, List.size_toArray, flatMap_one, hown.1]
      omega
    · simp only [Array.toList_append, zeroCells_u8]
      rw [← hlen]
      exact List.take_left
  rcases hown.2 with ⟨rfl, rfl⟩ | ⟨g, cap, cur, rfl, hbg, hg, hnc, hcm, hcs, htake⟩
  · have hx : xs = [] := List.eq_nil_of_length_eq_zero (by simpa using hown.1)
    subst hx
    have hr := Lib.run_append_nil_zeros w t tn ty e i (.int .u8 0) .i64 kn ht htn hi hz k h0 (by omega) (by omega) (by rw [hb1]; omega)
    have hgr := grown 0 (Value.ownBlock (.slice none 0 0)).toList
    simp only [Nat.zero_add, List.nil_append] at hgr ⊢
    rw [hzc] at hr
    exact ⟨_, _, hr, by simpa using hgr.1, by simpa only [Array.empty_append] using hgr.2, fun j hj => .inr (by simp [Value.ownBlock] at hj; omega)⟩
  · by_cases hroom : n + k ≤ cap
    · have hst := run_storeCells_at P g n e (List.replicate k (Value.int .u8 0)) 0 cur w hg (by rw [List.length_replicate, hcs]; omega) (by intro u hu; rw [List.eq_of_mem_replicate hu]; rfl)
      refine ⟨.slice (some ⟨g, 0, none⟩) (n + k) cap, w.setRow g (cur.toList.take n ++ List.replicate k (Value.int .u8 0) ++ cur.toList.drop (n + k)).toArray, ?_, ⟨hlen, .inr ⟨g, cap, _, rfl, hbg, setRow_heap w g cur _ e _ hg, hroom, hcm, ?_, ?_⟩⟩, ?_, fun j hj => .inl hj⟩
      · have hw : IntKind.i64.wrap (k : Int) = k := by rw [IntKind.wrap_i64]; omega
        have hneg : ¬ ((k : Int) < 0) := by omega
        have hk0 : k ≠ 0 := by omega
        have h48i : ¬ (281474976710656 < (k : Int)) := by omega
        simp only [Nat.add_zero, List.length_replicate] at hst
        have hza : Builtin.zeroCells #[Value.int .u8 0] k = (List.replicate k (Value.int .u8 0)).toArray := by apply Array.ext'; rw [zeroCells_u8]
        simp [Builtin.append_, run_underlying ht, run_underlying htn, sizeOf, typeInfo, zeroValue, hi, hz, hs1, hb1, asInt, asIntOf, hw, hneg, hk0, h48i, hroom, Addr.add_lit, hzc, zeroCells_u8, hst]
      · simp only [List.size_toArray, List.length_append, List.length_take, List.length_drop, Array.length_toList, List.length_replicate]
        omega
      · rw [Nat.mul_one, List.take_append_of_le_length (by simp only [List.length_append, List.length_take, Array.length_toList, List.length_replicate]; omega), List.take_of_length_le (by simp only [List.length_append, List.length_take, Array.length_toList, List.length_replicate]; omega)]
        rw [Nat.mul_one] at htake
        rw [htake]
      · exact ⟨rfl, rfl, rfl, by simp, fun j _ hn => setRow_other w g j _ (fun e => hn (by simp [Value.ownBlock, e]))⟩
    · have holds : ∀ j u, xs[j]? = some u → w.cell? ((⟨g, 0, none⟩ : Addr).add j) = some u := hown.cells (g := g) rfl
      have hf := run_firstCells_some (P := P) w.drew i.size n ⟨g, 0, none⟩ n cap xs (by rw [hs1]; exact hown.1) (by simpa using holds)
      have hr := Lib.run_append_grow_zeros w t tn ty e i (.int .u8 0) .i64 kn ht htn hi hz (some ⟨g, 0, none⟩) n cap xs hf k h0 (by omega) (by omega) (by omega) (by rw [hb1]; omega) (by rw [hb1]; exact growslice_fits (by omega) (by omega))
      rw [hzc] at hr
      have hgr := grown cap [g]
      exact ⟨_, _, hr, hgr.1, by simpa [Value.ownBlock] using hgr.2, fun j hj => .inr (by simp [Value.ownBlock] at hj; omega)⟩
end
theorem infoByte : (Tryd.prog.info? 5).map (fun i => (i.zero, i.size, i.bytes)) = some (some (.int .u8 0), 1, 1) := by kernel_rfl
theorem run_append_zeros {w : World} {B : Nat} {v : Value} {n : Nat} {xs : List Value} (hown : w.ownsRow B 5 1 v n xs) (k : Nat) (h0 : 0 < k) (hnk : n + k ≤ 8192) (hbase : B ≤ w.heap.size) (ty : TypeId) :
    ∃ v' w', (Builtin.append_ #[23, 3] ty #[v, .int .i64 (k : Int)]).run Tryd.prog w = .ok v' w' ∧ w'.ownsRow B 5 1 v' (n + k) (xs ++ List.replicate k (.int .u8 0)) ∧ Chg v.ownBlock.toList w w' ∧ (∀ j ∈ v'.ownBlock.toList, j ∈ v.ownBlock.toList ∨ w.heap.size ≤ j) := by
  obtain ⟨i, hi, he⟩ := Option.map_eq_some_iff.1 infoByte
  simp only [Prod.mk.injEq] at he
  exact run_append_zerosP (P := Tryd.prog) (kn := .i64) Tryd.underlying23 Tryd.underlying3 hi he.1 he.2.1 he.2.2 hown k h0 hnk hbase
/-- A slice that reads as these bytes; where there are none, its address is anything. -/
def BytesE (w : World) (v : Value) (b : List Int) : Prop := (∃ a cap, v = .slice a b.length cap) ∧ (b = [] ∨ BytesAt w v b)
theorem BytesAt.toE {w : World} {v : Value} {b : List Int} (h : BytesAt w v b) : BytesE w v b := ⟨by obtain ⟨a, cap, e, _⟩ := h; exact ⟨a, cap, e⟩, .inr h⟩
theorem BytesE.kept {S : List Nat} {w w' : World} {v : Value} {b : List Int} (h : BytesE w v b) (hC : Chg S w w') (hS : b ≠ [] → ∀ k ∈ S, k ∉ v.ownBlock.toList) : BytesE w' v b := by
  refine ⟨h.1, ?_⟩
  by_cases hb : b = []
  · exact .inl hb
  · exact .inr ((h.2.resolve_left hb).kept hC (hS hb))
theorem BytesE.calm {w w' : World} {v : Value} {b : List Int} (h : BytesE w v b) (hC : Chg [] w w') : BytesE w' v b := h.kept hC (by simp)
/-- Bytes are copied into a row. -/
theorem run_copy_bytes {w : World} {B : Nat} {a : Option Addr} {n cap : Nat} {b : List Int} (hown : w.ownsRow B 5 1 (.slice a n cap) n (bytesV b)) (fr : Nat) {sa : Option Addr} {sl sc : Nat} {data : List Int} (hsrc : BytesE w (.slice sa sl sc) data) (hl : sl = data.length) (hfit : fr + data.length ≤ n) (ty : TypeId) :
    ∃ w', (Builtin.copy_ #[23, 23] ty #[sliced a fr n cap 1, .slice sa sl sc]).run Tryd.prog w = .ok (.int .i64 (data.length : Int)) w' ∧ w'.ownsRow B 5 1 (.slice a n cap) n (bytesV (b.take fr ++ data ++ b.drop (fr + data.length))) ∧ Chg (Value.slice a n cap).ownBlock.toList w w' := by
  subst hl
  have hbl : b.length = n := by have := hown.1; simp [bytesV] at this; omega
  unfold sliced
  have hsz : (Tryd.prog.info? 5).map (·.size) = some 1 := by kernel_rfl
  by_cases hd : data = []
  · subst hd
    refine ⟨w, run_copy_none w _ _ _ 5 _ _ _ _ _ _ Tryd.underlying23 hsz (by simp), ?_, Chg.refl _ _⟩
    rw [List.append_nil, List.length_nil, Nat.add_zero, List.take_append_drop]
    exact hown
  · obtain ⟨sa', sc', e1, hcp, hr⟩ := hsrc.2.resolve_left hd
    injection e1 with e1 _ e2
    subst e1 e2
    have hdl : 0 < data.length := List.length_pos_iff.2 hd
    obtain ⟨g, cap', cur, e3, hB, hb, hc1, hc2, hcs, ht⟩ := own_blk hown (by omega)
    injection e3 with e3 _ e4
    subst e3 e4
    obtain ⟨sg, so, rfl, hcells⟩ := hr.resolve_left (fun h => hd h.2)
    rw [if_neg (by omega)]
    show ∃ w', (Builtin.copy_ #[23, 23] ty #[.slice (some (Addr.add ⟨g, 0, none⟩ (fr * 1))) (n - fr) (cap - fr), .slice (some ⟨sg, so, none⟩) data.length sc]).run Tryd.prog w = _ ∧ _
    rw [addr_add, Nat.zero_add, Nat.mul_one]
    have hlb : (bytesV data).length = data.length := List.length_map _
    have hr := run_copy_row (P := Tryd.prog) (ty := ty) w 23 23 5 g fr (n - fr) (cap - fr) ⟨sg, so, none⟩ data.length sc cur 5 (bytesV data) Tryd.underlying23 hsz hb (by rw [hlb]; exact (Nat.min_eq_left (by omega)).symm) (fun j v hv => by
      rw [addr_add]
      simp only [bytesV, List.getElem?_map, Option.map_eq_some_iff] at hv
      obtain ⟨x, hx, rfl⟩ := hv
      exact hcells j x hx) (by rw [hlb]; omega) (by intro v hv; obtain ⟨x, _, rfl⟩ := List.mem_map.1 hv; rfl)
    rw [hlb] at hr
    refine ⟨_, hr, ⟨by simp [bytesV]; omega, .inr ⟨g, cap, _, rfl, hB, setRow_heap w g cur _ _ _ hb, hc1, hc2, ?_, ?_⟩⟩, ⟨rfl, rfl, rfl, by simp, fun j _ hn => setRow_other w g j _ (fun e => hn (by simp [Value.ownBlock, e]))⟩⟩
    · simp only [List.size_toArray, List.length_append, List.length_take, List.length_drop, Array.length_toList, hlb]
      omega
    · rw [Nat.mul_one] at ht ⊢
      have e5 : bytesV b = cur.toList.take n := ht.symm
      have hcl : cur.toList.length = cap := by rw [Array.length_toList]; omega
      unfold bytesV at e5 ⊢
      rw [List.map_append, List.map_append, List.map_take, List.map_drop, e5]
      simp only
      rw [List.take_append, List.length_append, List.length_take, List.length_map, hcl, List.take_of_length_le (by simp only [List.length_append, List.length_take, List.length_map, hcl]; omega), List.take_take, Nat.min_eq_left (by omega), List.drop_take, Nat.min_eq_left (by omega)]

end Go.Proofs.YtkkjbnmfjhmobaaDoor
