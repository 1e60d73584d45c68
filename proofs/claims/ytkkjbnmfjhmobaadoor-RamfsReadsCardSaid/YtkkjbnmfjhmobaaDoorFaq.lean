
/- metronomelaw22: arguments that came in: a script of steps, bytes. -/
import Derived.Test.YtkkjbnmfjhmobaaDoorFae
import Derived.Test.YtkkjbnmfjhmobaaDoorOpn
namespace Go.Proofs.YtkkjbnmfjhmobaaDoor
open Go.ChangeShapes Go.WideShapes Go.Deep Go.RowKit

/-- A step of the script. -/
structure St22 where
  kind : Int
  d : Int
  n : Int
  fr : Int
  path : ByteArray
  other : ByteArray
  data : List Int
  sa : Option Addr
  cap : Nat
def St22.cells (x : St22) : Array Value := #[.int .i64 x.kind, .int .i64 x.d, .int .i64 x.n, .int .i64 x.fr, .string x.path, .string x.other, .slice x.sa x.data.length x.cap]
def BytesOk (w : World) (sa : Option Addr) (cap : Nat) (data : List Int) : Prop := BytesE w (.slice sa data.length cap) data ∧ (∀ z ∈ data, 0 ≤ z ∧ z < 256) ∧ (data ≠ [] → ∀ k ∈ (Value.slice sa data.length cap).ownBlock.toList, k < w.heap.size)
def IsSteps (w : World) (v : Value) (R : List St22) : Prop := ∃ a cap, v = .slice a R.length cap ∧ (R = [] ∨ ∃ g o, a = some ⟨g, o, none⟩ ∧ ∀ j x, R[j]? = some x → (∀ i u, x.cells[i]? = some u → w.cell? ⟨g, o + j * 7 + i, none⟩ = some u) ∧ BytesOk w x.sa x.cap x.data)

section
variable {H : Type} {enc : TypeId × Value → H} {w : World} {base : Nat} {spare : Nat → Bool} {held : Bool}
theorem bytes_open {n : Nat} {a : Option Addr} {len cap : Nat} {x : DataW H × List MemPlace} (h : DataW.trod enc Tryd.prog w base spare held n 23 [.slice a len cap] = some x) : ∃ data : List Int, data.length = len ∧ BytesOk w a cap data := by
  rcases open_ints Tryd.underlying23 Tryd.underlying5 (by kernel_rfl) h with ⟨hcs, hx⟩ | ⟨a', len', cap', zs, hcs, _, hl, hm, hz, hx, hcell, hwz⟩
  · simp at hcs
    obtain ⟨rfl, rfl, rfl⟩ := hcs
    exact ⟨[], rfl, ⟨⟨none, 0, rfl⟩, .inl rfl⟩, by simp, fun h => absurd rfl h⟩
  · simp at hcs
    obtain ⟨rfl, rfl, rfl⟩ := hcs
    have hzl : len ≤ zs.length := by rw [hz]; split <;> omega
    have hlen : (zs.take len).length = len := by rw [List.length_take]; omega
    have hcl : ∀ (j : Nat) (y : Int), (zs.take len)[j]? = some y → w.cell? (a'.add j) = some (.int .u8 y) := fun j y hy => by
      have hj := (List.getElem?_eq_some_iff.1 hy).1
      rw [List.length_take] at hj
      rw [hcell j (by omega)]
      rw [List.getElem?_take] at hy
      rw [if_pos (by omega)] at hy
      simp [List.getD, hy]
    refine ⟨zs.take len, hlen, ⟨⟨_, _, rfl⟩, ?_⟩, fun z hzm => ?_, fun hne k hk => ?_⟩
    · by_cases hne : zs.take len = []
      · exact .inl hne
      · refine .inr ⟨_, _, rfl, by rw [hlen]; exact hl, .inr ?_⟩
        obtain ⟨y, hy⟩ : ∃ y, (zs.take len)[0]? = some y := ⟨_, List.getElem?_eq_getElem (List.length_pos_iff.2 hne)⟩
        have h0 := hcl 0 y hy
        obtain ⟨b, o, spot⟩ := a'
        have hs : spot = none := by simpa [Addr.add] using World.cell?_spot h0
        subst hs
        exact ⟨b, o, rfl, fun j y hy => by have := hcl j y hy; rwa [addr_add] at this⟩
    · have := hwz z (List.mem_of_mem_take hzm)
      have h1 : IntKind.u8.min = 0 := rfl
      have h2 : IntKind.u8.max = 255 := rfl
      simp only [Lit.wf, Bool.and_eq_true, decide_eq_true_eq] at this
      omega
    · obtain ⟨y, hy⟩ : ∃ y, (zs.take len)[0]? = some y := ⟨_, List.getElem?_eq_getElem (List.length_pos_iff.2 hne)⟩
      have h0 := hcl 0 y hy
      have := World.block_lt_of_cell? _ _ h0
      simp [Value.ownBlock] at hk
      subst hk
      simpa [Addr.add] using this
theorem bytes22_in {W : World} {a0 : Option Addr} {len0 cap0 : Nat} {d : DataW H} {p : List MemPlace} (h0 : DataW.Trod enc Tryd.prog W 0 (fun _ => true) true 23 (.slice a0 len0 cap0) d p) : ∃ data : List Int, data.length = len0 ∧ BytesOk W a0 cap0 data := by
  obtain ⟨fuel, h⟩ := h0
  exact bytes_open h

theorem step22U : Tryd.prog.underlying 29 = some (.struct (Tryd.prog.fieldsOf 29)) := by kernel_rfl
theorem one22 {l : List Value} {j : Nat} (hj : j < l.length) : (l.drop j).take 1 = [l[j]] := by rw [List.drop_eq_getElem_cons hj]; rfl
theorem step22F (i : Nat) (hi : i < 7) : ∃ f, (Tryd.prog.fieldsOf 29)[i]? = some f ∧ f.offset = i ∧ Tryd.prog.cellsOf f.type = 1 ∧ f.type = [3, 3, 3, 3, 9, 9, 23].getD i 0 := by
  match i, hi with
  | 0, _ => exact ⟨(Tryd.prog.fieldsOf 29)[0]!, by kernel_rfl, by kernel_rfl, by kernel_rfl, by kernel_rfl⟩
  | 1, _ => exact ⟨(Tryd.prog.fieldsOf 29)[1]!, by kernel_rfl, by kernel_rfl, by kernel_rfl, by kernel_rfl⟩
  | 2, _ => exact ⟨(Tryd.prog.fieldsOf 29)[2]!, by kernel_rfl, by kernel_rfl, by kernel_rfl, by kernel_rfl⟩
  | 3, _ => exact ⟨(Tryd.prog.fieldsOf 29)[3]!, by kernel_rfl, by kernel_rfl, by kernel_rfl, by kernel_rfl⟩
  | 4, _ => exact ⟨(Tryd.prog.fieldsOf 29)[4]!, by kernel_rfl, by kernel_rfl, by kernel_rfl, by kernel_rfl⟩
  | 5, _ => exact ⟨(Tryd.prog.fieldsOf 29)[5]!, by kernel_rfl, by kernel_rfl, by kernel_rfl, by kernel_rfl⟩
  | 6, _ => exact ⟨(Tryd.prog.fieldsOf 29)[6]!, by kernel_rfl, by kernel_rfl, by kernel_rfl, by kernel_rfl⟩
set_option maxRecDepth 100000 in
theorem step_open {n : Nat} {c : List Value} {x : DataW H × List MemPlace} (hl : c.length = 7) (h : DataW.trod enc Tryd.prog w base spare held n 29 c = some x) : ∃ s : St22, c = s.cells.toList ∧ BytesOk w s.sa s.cap s.data := by
  obtain ⟨ys, n', _, _, _, hyl, hf⟩ := DataW.trod_struct step22U h
  have key : ∀ i, i < 7 → (hi : i < c.length) → ∃ y, DataW.trod enc Tryd.prog w base spare held n' ([3, 3, 3, 3, 9, 9, 23].getD i 0) [c[i]] = some y := fun i h7 hi => by
    obtain ⟨f, h1, h2, h3, h4⟩ := step22F i h7
    have h5 := hf i f h1
    have hjf : i < (Tryd.prog.fieldsOf 29).size := (Array.getElem?_eq_some_iff.1 h1).1
    rw [h2, h3, h4, one22 hi, List.getElem?_eq_getElem (by omega)] at h5
    exact ⟨_, h5⟩
  obtain ⟨c0, c1, c2, c3, c4, c5, c6, rfl⟩ : ∃ c0 c1 c2 c3 c4 c5 c6, c = [c0, c1, c2, c3, c4, c5, c6] := by
    match c, hl with
    | [c0, c1, c2, c3, c4, c5, c6], _ => exact ⟨c0, c1, c2, c3, c4, c5, c6, rfl⟩
  obtain ⟨y0, k0⟩ := key 0 (by omega) (show 0 < 7 by omega)
  obtain ⟨y1, k1⟩ := key 1 (by omega) (show 1 < 7 by omega)
  obtain ⟨y2, k2⟩ := key 2 (by omega) (show 2 < 7 by omega)
  obtain ⟨y3, k3⟩ := key 3 (by omega) (show 3 < 7 by omega)
  obtain ⟨y4, k4⟩ := key 4 (by omega) (show 4 < 7 by omega)
  obtain ⟨y5, k5⟩ := key 5 (by omega) (show 5 < 7 by omega)
  obtain ⟨y6, k6⟩ := key 6 (by omega) (show 6 < 7 by omega)
  obtain ⟨z0, e0⟩ := int_cell Tryd.underlying3 k0
  obtain ⟨z1, e1⟩ := int_cell Tryd.underlying3 k1
  obtain ⟨z2, e2⟩ := int_cell Tryd.underlying3 k2
  obtain ⟨z3, e3⟩ := int_cell Tryd.underlying3 k3
  obtain ⟨s4, e4, _, _⟩ := DataW.trod_string Tryd.underlying9 k4
  obtain ⟨s5, e5, _, _⟩ := DataW.trod_string Tryd.underlying9 k5
  simp only [List.cons.injEq, and_true] at e0 e1 e2 e3 e4 e5
  have hb : ∃ a len cap, c6 = .slice a len cap := by
    rcases open_ints Tryd.underlying23 Tryd.underlying5 (by kernel_rfl) k6 with ⟨hcs, hx⟩ | ⟨a', len', cap', zs, hcs, _⟩
    · exact ⟨none, 0, 0, by simpa using hcs⟩
    · exact ⟨some a', len', cap', by simpa using hcs⟩
  obtain ⟨a, len, cap, rfl⟩ := hb
  obtain ⟨data, hd, hok⟩ := bytes_open k6
  refine ⟨⟨z0, z1, z2, z3, s4, s5, data, a, cap⟩, ?_, hok⟩
  subst hd e0 e1 e2 e3 e4 e5
  rfl
theorem steps22_in {W : World} {a0 : Option Addr} {len0 cap0 : Nat} {d : DataW H} {p : List MemPlace} (h0 : DataW.Trod enc Tryd.prog W 0 (fun _ => true) true 22 (.slice a0 len0 cap0) d p) : ∃ R, R.length = len0 ∧ IsSteps W (.slice a0 R.length cap0) R := by
  obtain ⟨fuel, h⟩ := h0
  rcases open_slice Tryd.underlying22 h with h0 | ⟨a, len, cap, m, n, D, Pl, hcs, hb, hl, hm, hmm, hx, hi⟩
  · have := h0.1
    simp [Value.cells] at this
    obtain ⟨rfl, rfl, rfl⟩ := this
    exact ⟨[], rfl, none, 0, rfl, .inl rfl⟩
  · simp [Value.cells] at hcs
    obtain ⟨rfl, rfl, rfl⟩ := hcs
    by_cases hz : len0 = 0
    · subst hz
      exact ⟨[], rfl, _, _, rfl, .inl rfl⟩
    have key : ∀ i, ∃ s : St22, i < len0 → (∀ j u, s.cells[j]? = some u → W.cell? (a.add (i * 7 + j)) = some u) ∧ BytesOk W s.sa s.cap s.data := fun i => by
      by_cases hil : i < len0
      · obtain ⟨c, hc, hr⟩ := hi i (by rw [hmm]; split <;> omega)
        rw [show Tryd.prog.cellsOf 29 = 7 from by kernel_rfl] at hc
        obtain ⟨_, hcl, hat⟩ := World.cells?_some hc
        obtain ⟨s, hs, hok⟩ := step_open (by omega) hr
        refine ⟨s, fun _ => ⟨fun j u hu => ?_, hok⟩⟩
        have hj : j < 7 := (Array.getElem?_eq_some_iff.1 hu).1
        rw [← Go.Deep.add_add, hat j hj, hs, Array.getElem?_toList, hu]
      · exact ⟨⟨0, 0, 0, 0, ⟨#[]⟩, ⟨#[]⟩, [], none, 0⟩, fun h => absurd h hil⟩
    obtain ⟨f, hf⟩ : ∃ f : Nat → St22, ∀ i, i < len0 → (∀ j u, (f i).cells[j]? = some u → W.cell? (a.add (i * 7 + j)) = some u) ∧ BytesOk W (f i).sa (f i).cap (f i).data := ⟨fun i => (key i).choose, fun i => (key i).choose_spec⟩
    clear key hi
    obtain ⟨b, o, spot⟩ := a
    have hs : spot = none := by
      have := (hf 0 (by omega)).1 0 _ rfl
      simpa [Addr.add] using World.cell?_spot this
    subst hs
    refine ⟨(List.range len0).map f, by simp, some ⟨b, o, none⟩, cap0, by simp, .inr ⟨b, o, rfl, fun j x hj => ?_⟩⟩
    have hjl : j < len0 := by
      have := (List.getElem?_eq_some_iff.1 hj).1
      simpa using this
    simp [hjl] at hj
    subst hj
    refine ⟨fun i u hu => ?_, (hf j hjl).2⟩
    have := (hf j hjl).1 i u hu
    rw [addr_add, ← Nat.add_assoc] at this
    exact this
end
end Go.Proofs.YtkkjbnmfjhmobaaDoor
