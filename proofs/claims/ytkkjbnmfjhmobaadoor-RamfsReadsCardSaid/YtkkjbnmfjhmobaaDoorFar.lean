
/- metronomelaw22.RamfsReads: what its walk needs: small, bounds, bytes that came in. -/
import Derived.Test.YtkkjbnmfjhmobaaDoorFap
import Derived.Test.YtkkjbnmfjhmobaaDoorFaq
import Derived.Test.YtkkjbnmfjhmobaaDoorFal
namespace Go.Proofs.YtkkjbnmfjhmobaaDoor
open Go.RowKit

def smallB (x : St22) : Bool := decide (x.path.size ≤ 1000) && decide (x.other.size ≤ 1000) && decide (x.data.length ≤ 9000)
set_option maxRecDepth 100000 in
theorem smallc (x : St22) (w : World) : Calls Tryd.prog 7 #[.agg x.cells] w fun e w' => e = .returned (.bool (smallB x)) ∧ Chg [] w w' := by
  unfold St22.cells smallB
  have hC : Chg [] w (w.alloc (.cells #[.int .i64 x.kind, .int .i64 x.d, .int .i64 x.n, .int .i64 x.fr, .string x.path, .string x.other, .slice x.sa x.data.length x.cap] 29 (0, 0))) := (Chg.refl _ _).alloc _
  generalize hn : x.data.length = n at *
  by_cases h1 : x.path.size ≤ 1000
  · have k1 : decide ((x.path.size : Int) ≤ 1000) = true := decide_eq_true (by omega)
    have j1 : decide (x.path.size ≤ 1000) = true := decide_eq_true h1
    rw [j1]
    by_cases h2 : x.other.size ≤ 1000
    · have k2 : decide ((x.other.size : Int) ≤ 1000) = true := decide_eq_true (by omega)
      have j2 : decide (x.other.size ≤ 1000) = true := decide_eq_true h2
      rw [j2]
      by_cases h3 : n ≤ 9000
      · have k3 : decide ((n : Int) ≤ 9000) = true := decide_eq_true (by omega)
        have j3 : decide (n ≤ 9000) = true := decide_eq_true h3
        rw [j3]
        clear h1 h2 h3 j1 j2 j3 hn
        go_enter Tryd.func7, Tryd.ntmps7
        go_wp2
        go_ret
        exact ⟨rfl, hC⟩
      · have k3 : decide ((n : Int) ≤ 9000) = false := decide_eq_false (by omega)
        have j3 : decide (n ≤ 9000) = false := decide_eq_false h3
        rw [j3]
        clear h1 h2 h3 j1 j2 j3 hn
        go_enter Tryd.func7, Tryd.ntmps7
        go_wp2
        go_ret
        exact ⟨rfl, hC⟩
    · have k2 : decide ((x.other.size : Int) ≤ 1000) = false := decide_eq_false (by omega)
      have j2 : decide (x.other.size ≤ 1000) = false := decide_eq_false h2
      rw [j2]
      clear h1 h2 j1 j2 hn
      go_enter Tryd.func7, Tryd.ntmps7
      go_wp2
      go_ret
      exact ⟨rfl, hC⟩
  · have k1 : decide ((x.path.size : Int) ≤ 1000) = false := decide_eq_false (by omega)
    have j1 : decide (x.path.size ≤ 1000) = false := decide_eq_false h1
    rw [j1]
    clear h1 j1 hn
    go_enter Tryd.func7, Tryd.ntmps7
    go_wp2
    go_ret
    exact ⟨rfl, hC⟩

theorem LibW.below {B : Nat} {w w' : World} (h : LibW w) (hl : LibLt B) (hb : Below B w w') : LibW w' := by
  obtain ⟨m, hm⟩ := h.mx
  exact ⟨⟨m, (hb.cell hl.1).trans hm⟩, fun c hc => (hb.cell hl.2.1).trans (h.tb.1 c hc), fun i hi => ⟨(hb.cell hl.2.2).trans (h.tb.2 i hi).1, (hb.cell hl.2.2).trans (h.tb.2 i hi).2⟩⟩
theorem BytesOk.below {W w' : World} {sa : Option Addr} {cap : Nat} {data : List Int} (h : BytesOk W sa cap data) (hb : Below W.heap.size W w') : BytesE w' (.slice sa data.length cap) data := by
  by_cases hd : data = []
  · exact ⟨⟨_, _, rfl⟩, .inl hd⟩
  · obtain ⟨a, c, e, hcp, hr⟩ := h.1.2.resolve_left hd
    injection e with e1 _ e2
    subst e1 e2
    obtain ⟨g, o, rfl, hc⟩ := hr.resolve_left (fun x => hd x.2)
    have hg := h.2.2 hd g (by simp [Value.ownBlock])
    exact ⟨⟨_, _, rfl⟩, .inr ⟨_, _, rfl, hcp, .inr ⟨g, o, rfl, fun j x hx => (hb.cell hg).trans (hc j x hx)⟩⟩⟩
theorem FW.away {B : Nat} {w : World} {fb : Nat} {f : FS} {rows : RowsF} {sa : Option Addr} {cap : Nat} {data : List Int} {W : World} (h : BytesOk W sa cap data) (hB : W.heap.size ≤ B) : data ≠ [] → ∀ mb vs, FWm B w fb f rows mb vs → ∀ k ∈ (Value.slice sa data.length cap).ownBlock.toList, k ∉ blkF fb mb vs f := by
  intro hd mb vs hF k hk hm
  have h1 := h.2.2 hd k hk
  have h2 := hF.hi k hm
  omega
theorem IsSteps.row {W w' : World} {a : Option Addr} {cap : Nat} {R : List St22} (h : IsSteps W (.slice a R.length cap) R) (hb : Below W.heap.size W w') {j : Nat} {x : St22} (hx : R[j]? = some x) :
    ∃ g o, a = some ⟨g, o, none⟩ ∧ (∀ i u, x.cells[i]? = some u → w'.cell? ⟨g, o + j * 7 + i, none⟩ = some u) ∧ BytesOk W x.sa x.cap x.data := by
  obtain ⟨a', c', e, hr⟩ := h
  injection e with e1 _ e2
  subst e1 e2
  obtain ⟨g, o, rfl, hc⟩ := hr.resolve_left (fun e => by rw [e] at hx; simp at hx)
  refine ⟨g, o, rfl, fun i u hu => ?_, (hc j x hx).2⟩
  have h1 := (hc j x hx).1 i u hu
  exact (hb.cell (World.block_lt_of_cell? _ _ h1)).trans h1
theorem count_le {f : FS} (h : FInv f) : f.count ≤ 64 := by
  have := List.countP_le_length (p := fun x : Nd => x.is) (l := f.nodes)
  rw [h.ln] at this
  exact this
theorem dir_names {f : FS} {m : List (ByteArray × Int)} (h : (f.nodes.getD 0 nd0).dir = some m) : m.length ≤ f.names := by
  unfold FS.names
  cases hn : f.nodes with
  | nil => rw [hn] at h; cases h
  | cons x l =>
    rw [hn] at h
    simp only [List.getD_cons_zero] at h
    rw [List.map_cons, List.sum_cons, h]
    exact Nat.le_add_right _ _
theorem st_names {F : FS} {k : Nat} {m : List (ByteArray × Int)} {b : List Int} {a c : Fl} : (stR F k m b a c).names ≤ F.names + m.length := by
  have h1 : ((F.nodes.set k (⟨true, none, b⟩ : Nd)).map (fun x => match x.dir with | none => 0 | some m => m.length)).sum ≤ (F.nodes.map (fun x => match x.dir with | none => 0 | some m => m.length)).sum := sum_set_le _ _ _ _ rfl
  refine Nat.le_trans (sum_set_add _ nd0 m.length (F.nodes.set k (⟨true, none, b⟩ : Nd)) 0 { F.nodes.getD 0 nd0 with dir := some m } (Nat.le_add_left _ _)) ?_
  exact Nat.add_le_add_right h1 _

section
variable {m : List (ByteArray × Int)} {k : Int}
theorem lk1 (h : m.lookup sNew = none) : (m ++ [(sNew, k)]).lookup sNew = some k := by rw [List.lookup_append, h]; simp [List.lookup]
theorem lkn : ([(sNew, k)] : List (ByteArray × Int)).lookup sNewer = none := by
  simp only [List.lookup, show (sNewer == sNew) = false by decide]
theorem lk2 (h : (m ++ [(sNew, k)]).lookup sNewer = none) : m.lookup sNewer = none := by
  rw [List.lookup_append] at h
  cases hm : m.lookup sNewer with
  | none => rfl
  | some j => rw [hm] at h; cases h
theorem lk3 (h : m.lookup sNew = none) : ((m ++ [(sNew, k)]) ++ [(sNewer, k)]).lookup sNew = some k := by rw [List.lookup_append, lk1 h]; rfl
theorem lk4 (h : m.lookup sNewer = none) : (m ++ [(sNewer, k)]).lookup sNewer = some k := by rw [List.lookup_append, h]; simp [List.lookup]
theorem dl1 (h : m.lookup sNew = none) : nmDel ((m ++ [(sNew, k)]) ++ [(sNewer, k)]) sNew = m ++ [(sNewer, k)] := by
  rw [List.append_assoc]
  exact nmDel_fresh h k
theorem dl2 (h : m.lookup sNewer = none) : nmDel (m ++ [(sNewer, k)]) sNewer = m := by
  rw [nmDel_fresh h k, List.append_nil]
theorem lkT {F : FS} (hI : FInv F) (hm : (F.nodes.getD 0 nd0).dir = some m) : ∀ j, (m ++ [(sNew, k)]).lookup sNewer = some j → 0 ≤ j := by
  intro j h
  rw [List.lookup_append, lkn] at h
  cases hl : m.lookup sNewer with
  | none => rw [hl] at h; cases h
  | some i =>
    rw [hl] at h
    cases h
    exact ((hI.tgt (F.nodes.getD 0 nd0) (hI.ndAt (by decide)) m hm).1 _ (lookup_of_mem hl)).1
end
theorem kwriteX {W : World} {w : World} {fb : Nat} {f : FS} {rows : RowsF} (h : FW W.heap.size w fb f rows) (d : Int) (sa : Option Addr) (cap : Nat) (data : List Int) (dl : Nat) (hdl : data.length = dl) (hok : BytesOk W sa cap data) (hb : Below W.heap.size W w) (h9 : data.length ≤ 9000) :
    Calls Tryd.prog 9 #[.pointer (some ⟨fb, 0, none⟩), .int .i64 d, .slice sa dl cap] w (VPost W.heap.size w fb rows (f.wr d data)) := by
  subst hdl
  exact kwrite h d sa cap data (hok.below hb) hok.2.1 h9 (FW.away hok (Nat.le_refl _))
theorem BytesAt.cells {w : World} {a : Option Addr} {n cap : Nat} {b : List Int} (h : BytesAt w (.slice a n cap) b) (hb : b ≠ []) : ∃ g o, a = some ⟨g, o, none⟩ ∧ ∀ (j : Nat) x, b[j]? = some x → w.cell? ⟨g, o + j, none⟩ = some (.int .u8 x) := by
  obtain ⟨a', c', e, hcp, hr⟩ := h
  injection e with e1 _ e2
  subst e1 e2
  exact hr.resolve_left (fun x => hb x.2)
/-- What the file holds behind the write. -/
def bbOf (z : Int) (D : List Int) : List Int := if D = [] then [] else List.replicate z.toNat 0 ++ D
theorem bbOf_len {z : Int} {D : List Int} (h : D ≠ []) : (bbOf z D).length = z.toNat + D.length := by unfold bbOf; rw [if_neg h]; simp
theorem bbOf_lo {z : Int} {D : List Int} (h : D ≠ []) {j : Nat} (hj : (j : Int) < z) : (bbOf z D)[j]? = some 0 := by
  unfold bbOf
  rw [if_neg h, List.getElem?_append_left (by rw [List.length_replicate]; omega), List.getElem?_replicate, if_pos (by omega)]
theorem bbOf_hi {z : Int} {D : List Int} (h : D ≠ []) {j : Nat} (hj : z ≤ (j : Int)) (hz : 0 ≤ z) : (bbOf z D)[j]? = D[j - z.toNat]? := by
  unfold bbOf
  rw [if_neg h, List.getElem?_append_right (by rw [List.length_replicate]; omega), List.length_replicate]

end Go.Proofs.YtkkjbnmfjhmobaaDoor
