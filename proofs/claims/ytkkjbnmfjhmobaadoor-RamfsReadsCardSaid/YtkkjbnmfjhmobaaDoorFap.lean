
/- RamfsReads' end, plain: a fresh file under two names, written, read, and gone. No program in sight. -/
import Derived.Test.YtkkjbnmfjhmobaaDoorFao
namespace Go.Proofs.YtkkjbnmfjhmobaaDoor
open Go.RowKit

def sNew : ByteArray := ⟨#[110, 101, 119]⟩
def sNewer : ByteArray := ⟨#[110, 101, 119, 101, 114]⟩
def pNewer : ByteArray := ⟨#[47, 110, 101, 119, 101, 114]⟩
theorem split_new : splitF pNew = some [sNew] := by kernel_rfl
theorem split_newer : splitF pNewer = some [sNewer] := by kernel_rfl
theorem sNew_ne : sNew ≠ sNewer := by decide

theorem walk1 {f : FS} {m : List (ByteArray × Int)} (h : (f.nd 0).dir = some m) (s : ByteArray) : f.walk [s] = .ok ((m.lookup s).getD (-1)) := by
  unfold FS.walk FS.walkF
  rw [h]
  show (match m.lookup s with
      | none => if ([] : List ByteArray) = [] then Except.ok (-1) else .error 2
      | some k => f.walkF k []) = _
  cases m.lookup s with
  | none => rfl
  | some k => rfl
theorem place1 {f : FS} {m : List (ByteArray × Int)} (h : (f.nd 0).dir = some m) (s : ByteArray) : f.place [s] = .ok (some (0, s)) := by
  unfold FS.place
  rw [if_neg (by simp)]
  have e : f.must ([s].dropLast) = .ok 0 := rfl
  rw [e]
  dsimp only
  rw [h, if_neg (by simp)]
  rfl
theorem must1 {f : FS} {m : List (ByteArray × Int)} (h : (f.nd 0).dir = some m) {s : ByteArray} {k : Nat} (hk : m.lookup s = some (k : Int)) : f.must [s] = .ok (k : Int) := by
  unfold FS.must
  rw [walk1 h, hk]
  show (if (k : Int) < 0 then _ else _) = _
  rw [if_neg (by omega)]
  rfl
theorem nmPut_fresh {m : List (ByteArray × Int)} {s : ByteArray} (h : m.lookup s = none) (v : Int) : nmPut m s v = m ++ [(s, v)] := by
  induction m with
  | nil => rfl
  | cons x m ih =>
    obtain ⟨k, y⟩ := x
    have hne : s ≠ k := fun e => by subst e; simp [List.lookup] at h
    have h2 : m.lookup s = none := by
      simp only [List.lookup, show (s == k) = false from beq_eq_false_iff_ne.2 hne] at h
      exact h
    unfold nmPut
    rw [if_neg hne, ih h2]
    rfl
theorem nmDel_fresh {m r : List (ByteArray × Int)} {s : ByteArray} (h : m.lookup s = none) (v : Int) : nmDel (m ++ (s, v) :: r) s = m ++ r := by
  induction m with
  | nil => unfold nmDel; simp
  | cons x m ih =>
    obtain ⟨k, y⟩ := x
    have hne : s ≠ k := fun e => by subst e; simp [List.lookup] at h
    have h2 : m.lookup s = none := by
      simp only [List.lookup, show (s == k) = false from beq_eq_false_iff_ne.2 hne] at h
      exact h
    show nmDel ((k, y) :: (m ++ (s, v) :: r)) s = _
    unfold nmDel
    rw [if_neg hne, ih h2]
    rfl
/-- The files F, but for node k, which is a file of the bytes b, the root's names, and two descriptors. -/
def stR (F : FS) (k : Nat) (m : List (ByteArray × Int)) (b : List Int) (a c : Fl) : FS :=
  ⟨(F.nodes.set k ⟨true, none, b⟩).set 0 { F.nodes.getD 0 nd0 with dir := some m }, a :: c :: List.replicate 14 fl0⟩
structure StK (F : FS) (k : Nat) : Prop where
  inv : FInv F
  pos : 0 < k
  lt : k < 64
  was : F.nodes.getD k nd0 = nd0
section
variable {F : FS} {k : Nat} {m : List (ByteArray × Int)} {b : List Int} {a c : Fl}
theorem st_nd0 (h : StK F k) : (stR F k m b a c).nd 0 = { F.nodes.getD 0 nd0 with dir := some m } := by
  have hl := h.inv.ln
  unfold FS.nd stR
  simp [List.getD, hl]
theorem st_dir (h : StK F k) : ((stR F k m b a c).nd 0).dir = some m := by rw [st_nd0 h]
theorem st_ndk (h : StK F k) : (stR F k m b a c).nd k = ⟨true, none, b⟩ := by
  have hl := h.inv.ln
  have hp := h.pos
  have hk := h.lt
  unfold FS.nd stR
  rw [Int.toNat_natCast]
  simp [List.getD, hl, hk, Nat.ne_of_lt hp]
theorem st_isDir (h : StK F k) : (stR F k m b a c).isDir k = false := by unfold FS.isDir; rw [st_ndk h]; rfl
theorem st_setDir (h : StK F k) (g : List (ByteArray × Int) → List (ByteArray × Int)) : (stR F k m b a c).setN 0 { (stR F k m b a c).nd 0 with dir := ((stR F k m b a c).nd 0).dir.map g } = stR F k (g m) b a c := by
  rw [st_nd0 h]
  unfold FS.setN stR
  dsimp only [Int.toNat_zero, Option.map]
  rw [List.set_set]
theorem st_setB (h : StK F k) (b' : List Int) : (stR F k m b a c).setN k { (stR F k m b a c).nd k with b := b' } = stR F k m b' a c := by
  rw [st_ndk h]
  unfold FS.setN stR
  dsimp only
  rw [Int.toNat_natCast, List.set_comm _ _ (show (0 : Nat) ≠ k from Nat.ne_of_lt h.pos), List.set_set]
theorem st_setF0 (a' : Fl) : (stR F k m b a c).setF 0 a' = stR F k m b a' c := rfl
theorem st_setF1 (c' : Fl) : (stR F k m b a c).setF 1 c' = stR F k m b a c' := rfl
theorem st_fl0 : (stR F k m b a c).fl 0 = a := rfl
theorem st_fl1 : (stR F k m b a c).fl 1 = c := rfl
theorem and0 (x : Int) : bits .and .i64 x 0 = 0 := by simp [bits]; rfl
theorem st_open0 (ho : a.op = true) (hn : a.node = k) : (stR F k m b a c).opened k = true := by
  unfold FS.opened
  show ((a.op && a.node == (k : Int)) || _) = true
  rw [ho, hn]
  simp
theorem st_gone (ho : a.op = true) (hn : a.node = k) : (stR F k m b a c).gone k = stR F k m b a c := by
  unfold FS.gone
  rw [if_neg]
  rw [st_open0 ho hn]
  simp

theorem open_new (hI : FInv F) (hf : F.files = List.replicate 16 fl0) (h : (F.opn pNew 15).2.2 = 0) : ∃ k m, StK F k ∧ (F.nodes.getD 0 nd0).dir = some m ∧ m.lookup sNew = none ∧ F.opn pNew 15 = (stR F k (m ++ [(sNew, (k : Int))]) [] ⟨true, k, 15, 0⟩ fl0, 0, 0) := by
  obtain ⟨m, hm⟩ := Option.isSome_iff_exists.1 hI.root.2
  have hm0 : (F.nodes.getD 0 nd0).dir = some m := hm
  unfold FS.opn onPath at h ⊢
  rw [split_new] at h ⊢
  dsimp only at h ⊢
  cases hl : m.lookup sNew with
  | some j =>
    exfalso
    have h0 := (hI.tgt (F.nodes.getD 0 nd0) (hI.ndAt (by decide)) m hm0).1 _ (lookup_of_mem hl)
    unfold FS.openE at h
    rw [if_neg (by decide), if_pos (by decide : hasB 15 4 = true), place1 hm, walk1 hm] at h
    dsimp only at h
    rw [hl, Option.getD_some, if_neg (fun hx => absurd hx.2 (by decide)), if_pos ⟨h0.1, by decide, by decide⟩] at h
    exact absurd (show (17 : Int) = 0 from h) (by decide)
  | none =>
    cases hfr : F.nodes.findIdx? (fun x => !x.is) with
    | none =>
      exfalso
      have e3 : F.free = none := by unfold FS.free; rw [hfr]; rfl
      unfold FS.openE at h
      rw [if_neg (by decide), if_pos (by decide : hasB 15 4 = true), place1 hm, walk1 hm] at h
      dsimp only at h
      rw [hl, Option.getD_none, if_neg (fun hx => absurd hx.2 (by decide)), if_neg (fun hx => absurd hx.1 (by decide)), if_neg (fun hx => absurd hx.1 (by decide)), if_pos (by decide), e3] at h
      exact absurd (show (28 : Int) = 0 from h) (by decide)
    | some k =>
      obtain ⟨hk, h1, -⟩ := List.findIdx?_eq_some_iff_getElem.1 hfr
      have hkl : k < 64 := by rw [← hI.ln]; exact hk
      have hd : F.nodes.getD k nd0 = F.nodes[k] := by simp [List.getD, hk]
      have hz : F.nodes.getD k nd0 = nd0 := by
        rw [hd]
        exact hI.free _ (List.getElem_mem hk) (by simpa using h1)
      have hp : 0 < k := by
        rcases Nat.eq_zero_or_pos k with rfl | h2
        · have := hI.root.1
          unfold FS.nd at this
          rw [show (0 : Int).toNat = 0 from rfl, hz] at this
          cases this
        · exact h2
      have hS : StK F k := ⟨hI, hp, hkl, hz⟩
      refine ⟨k, m, hS, hm0, hl, ?_⟩
      have e3 : F.free = some (k : Int) := by unfold FS.free; rw [hfr]; rfl
      have e2 : F.files.findIdx? (fun x => !x.op) = some 0 := by rw [hf]; rfl
      clear h
      unfold FS.openE
      rw [if_neg (by decide), if_pos (by decide : hasB 15 4 = true), place1 hm, walk1 hm]
      dsimp only
      rw [hl, Option.getD_none, if_neg (fun hx => absurd hx.2 (by decide)), if_neg (fun hx => absurd hx.1 (by decide)), if_neg (fun hx => absurd hx.1 (by decide)), if_pos (by decide), e3, e2]
      dsimp only
      rw [if_neg (by decide : ¬ hasB 15 16 = true), if_pos (by decide)]
      show ((((F.setN (k : Int) ⟨true, none, []⟩).name 0 sNew k).setF 0 ⟨true, k, 15, 0⟩, (0 : Int), (0 : Int)) : FS × Int × Int) = _
      have e3 : (F.setN (k : Int) ⟨true, none, []⟩).name 0 sNew k = ⟨(F.nodes.set k ⟨true, none, []⟩).set 0 { F.nodes.getD 0 nd0 with dir := some (m ++ [(sNew, (k : Int))]) }, F.files⟩ := by
        unfold FS.name FS.setN FS.nd
        dsimp only [Int.toNat_zero]
        rw [Int.toNat_natCast]
        have e4 : (F.nodes.set k (⟨true, none, []⟩ : Nd)).getD 0 nd0 = F.nodes.getD 0 nd0 := by
          simp [List.getD, Nat.ne_of_gt hp]
        rw [e4, hm0]
        dsimp only [Option.map]
        rw [nmPut_fresh hl]
      rw [e3]
      unfold FS.setF stR
      dsimp only [Int.toNat_zero]
      rw [hf]
      rfl
theorem seek_new (h : StK F k) (p at_ : Int) : (stR F k m b ⟨true, k, 15, p⟩ c).sk 0 at_ 0 = if at_ < 0 ∨ 4096 < at_ then (stR F k m b ⟨true, k, 15, p⟩ c, 0, 22) else (stR F k m b ⟨true, k, 15, at_⟩ c, at_, 0) := by
  unfold FS.sk FS.seekE
  have hb : (stR F k m b ⟨true, k, 15, p⟩ c).bad 0 0 = false := by
    unfold FS.bad
    rw [st_fl0, and0]
    rfl
  rw [if_neg (by rw [hb]; simp), st_fl0]
  dsimp only
  rw [if_neg (by rw [st_isDir h]; simp)]
  by_cases h1 : at_ < -4096 ∨ 4096 < at_
  · rw [if_pos (by omega), if_pos (by omega)]
    rfl
  · rw [if_neg (by omega), if_pos rfl, Int.zero_add]
    by_cases h2 : at_ < 0 ∨ 4096 < at_
    · rw [if_pos h2, if_pos h2]
      rfl
    · rw [if_neg h2, if_neg h2, st_setF0]
      rfl
theorem write_new (h : StK F k) (at_ : Int) (data : List Int) : (stR F k m [] ⟨true, k, 15, at_⟩ c).wr 0 data =
    if data ≠ [] ∧ 4096 < (stR F k m [] ⟨true, k, 15, at_⟩ c).bytes + (at_.toNat + data.length) then (stR F k m [] ⟨true, k, 15, at_⟩ c, 0, 28)
    else (stR F k m (if data = [] then [] else List.replicate at_.toNat 0 ++ data) ⟨true, k, 15, (at_.toNat + data.length : Nat)⟩ c, (data.length : Int), 0) := by
  unfold FS.wr FS.writeE
  have hb : (stR F k m [] ⟨true, k, 15, at_⟩ c).bad 0 2 = false := by
    unfold FS.bad
    rw [st_fl0]
    dsimp only
    rw [show bits .and .i64 15 2 = 2 by kernel_rfl]
    rfl
  rw [if_neg (by rw [hb]; simp), st_fl0]
  dsimp only
  rw [st_ndk h, if_neg (by decide : ¬ hasB 15 32 = true)]
  dsimp only
  rw [show (([] : List Int).length) = 0 from rfl, Nat.sub_zero]
  by_cases h1 : data ≠ [] ∧ 4096 < (stR F k m [] ⟨true, k, 15, at_⟩ c).bytes + (at_.toNat + data.length)
  · rw [if_pos h1, if_pos h1]
    rfl
  · rw [if_neg h1, if_neg h1, st_setF0]
    by_cases h2 : data = []
    · rw [if_pos h2, if_pos h2, h2]
      rfl
    · rw [if_neg h2, if_neg h2]
      have e := st_setB (m := m) (b := []) (a := ⟨true, k, 15, (at_.toNat + data.length : Nat)⟩) (c := c) h (List.replicate at_.toNat 0 ++ data)
      rw [st_ndk h] at e
      dsimp only at e
      have e2 : (([] : List Int) ++ List.replicate (at_.toNat + data.length) 0).take at_.toNat ++ data ++ ([] : List Int).drop (at_.toNat + data.length) = List.replicate at_.toNat 0 ++ data := by
        rw [List.nil_append, List.take_replicate, Nat.min_eq_left (by omega), List.drop_nil, List.append_nil]
      rw [e2, e]
      rfl
theorem link_new (h : StK F k) (hm : m.lookup sNew = some (k : Int)) (ht : ∀ j, m.lookup sNewer = some j → 0 ≤ j) : ((stR F k m b a c).lnk pNew pNewer).2 = 17 ∨ (m.lookup sNewer = none ∧ (stR F k m b a c).lnk pNew pNewer = (stR F k (m ++ [(sNewer, (k : Int))]) b a c, 0)) := by
  unfold FS.lnk onPaths
  rw [split_new]
  dsimp only
  rw [split_newer]
  dsimp only
  unfold FS.linkE
  rw [must1 (st_dir h) hm]
  dsimp only
  rw [if_neg (by rw [st_isDir h]; simp), place1 (st_dir h), walk1 (st_dir h)]
  dsimp only
  cases hl : m.lookup sNewer with
  | some j =>
    rw [Option.getD_some, if_pos (ht j hl)]
    exact .inl rfl
  | none =>
    rw [Option.getD_none, if_neg (by decide)]
    refine .inr ⟨rfl, ?_⟩
    unfold FS.name
    rw [st_setDir h (nmPut · sNewer k), nmPut_fresh hl]
    rfl
theorem unl_new (h : StK F k) {p s : ByteArray} (hp : splitF p = some [s]) (hm : m.lookup s = some (k : Int)) (ho : a.op = true) (hn : a.node = k) : (stR F k m b a c).unl p = (stR F k (nmDel m s) b a c, 0) := by
  unfold FS.unl onPath
  rw [hp]
  dsimp only
  unfold FS.unlinkE
  rw [must1 (st_dir h) hm]
  dsimp only
  rw [if_neg (by rw [st_isDir h]; simp), place1 (st_dir h)]
  dsimp only
  unfold FS.unname
  rw [st_setDir h (nmDel · s), st_gone ho hn]
  rfl
theorem open_newer (h : StK F k) (hm : m.lookup sNewer = some (k : Int)) (ho : a.op = true) : (stR F k m b a fl0).opn pNewer 1 = (stR F k m b a ⟨true, k, 1, 0⟩, 1, 0) := by
  unfold FS.opn onPath
  rw [split_newer]
  dsimp only
  unfold FS.openE
  rw [if_neg (by decide), if_neg (by decide : ¬ hasB 1 4 = true), walk1 (st_dir h), hm]
  dsimp only [Option.getD_some]
  rw [if_neg (fun h => absurd h.1 (by omega)), if_neg (fun h => absurd h.2.1 (by decide)), if_neg (fun h => absurd h.2.2 (by decide)), if_neg (by omega)]
  have e2 : (stR F k m b a fl0).files.findIdx? (fun x => !x.op) = some 1 := by
    show (a :: fl0 :: List.replicate 14 fl0).findIdx? (fun x => !x.op) = some 1
    simp [List.findIdx?_cons, ho, fl0]
  rw [e2]
  dsimp only
  rw [if_neg (show ¬ ((k : Nat) : Int) < 0 by omega)]
  exact congrArg (fun x => (x, (1 : Int), (0 : Int))) (st_setF1 _)
theorem read_new (h : StK F k) (hb : b.length ≤ 9999) : (stR F k m b a ⟨true, k, 1, 0⟩).rd 1 9999 = (stR F k m b a ⟨true, k, 1, b.length⟩, b, 0) := by
  unfold FS.rd FS.readE
  have hbad : (stR F k m b a ⟨true, k, 1, 0⟩).bad 1 1 = false := by
    unfold FS.bad
    rw [st_fl1]
    dsimp only
    rw [show bits .and .i64 1 1 = 1 by kernel_rfl]
    rfl
  rw [if_neg (by rw [hbad]; simp), st_fl1]
  dsimp only
  rw [if_neg (by rw [st_isDir h]; simp), if_neg (by decide), st_ndk h]
  dsimp only
  have e : (b.drop (0 : Int).toNat).take (9999 : Int).toNat = b := by
    show (b.drop 0).take 9999 = b
    rw [List.drop_zero, List.take_of_length_le hb]
  rw [e, st_setF1, Int.zero_add]
  rfl
theorem cls_new (ho : a.op = true) (hn : a.node = k) (fl p : Int) : (stR F k m b a ⟨true, k, fl, p⟩).cls 1 = (stR F k m b a fl0, 0) := by
  unfold FS.cls FS.closeE
  have hbad : (stR F k m b a ⟨true, k, fl, p⟩).bad 1 0 = false := by
    unfold FS.bad
    rw [st_fl1, and0]
    rfl
  rw [if_neg (by rw [hbad]; simp), st_fl1, st_setF1]
  dsimp only
  rw [st_gone ho hn]
  rfl
theorem set_own {α : Type} (l : List α) (n : Nat) (d : α) : l.set n (l.getD n d) = l := by
  refine List.ext_getElem? (fun i => ?_)
  rw [List.getElem?_set]
  split
  · rename_i e
    subst e
    split
    · rename_i h; simp [List.getD, h]
    · rename_i h; rw [List.getElem?_eq_none (by omega)]
  · rfl
theorem st_nodes (h : StK F k) (hm : (F.nodes.getD 0 nd0).dir = some m) : (stR F k m b a c).nodes = F.nodes.set k ⟨true, none, b⟩ := by
  show (F.nodes.set k ⟨true, none, b⟩).set 0 { F.nodes.getD 0 nd0 with dir := some m } = _
  have e : ({ F.nodes.getD 0 nd0 with dir := some m } : Nd) = F.nodes.getD 0 nd0 := by rw [← hm]
  have e2 : F.nodes.getD 0 nd0 = (F.nodes.set k (⟨true, none, b⟩ : Nd)).getD 0 nd0 := by
    simp [List.getD, Nat.ne_of_gt h.pos]
  rw [e, e2, set_own]
theorem links_zero {l : List Nd} {n : Int} (h : ∀ x ∈ l, ∀ m, x.dir = some m → ∀ p ∈ m, p.2 ≠ n) : (l.map (ndLinks · n)).sum = 0 := by
  induction l with
  | nil => rfl
  | cons x l ih =>
    rw [List.map_cons, List.sum_cons, ih (fun y hy => h y (List.mem_cons_of_mem _ hy)), Nat.add_zero]
    unfold ndLinks
    cases hd : x.dir with
    | none => rfl
    | some m =>
      show m.countP (fun p => p.2 == n) = 0
      rw [List.countP_eq_zero]
      intro p hp
      simpa using h x List.mem_cons_self m hd p hp
theorem count_set {l : List Nd} {k : Nat} (hk : k < l.length) (h : (l.getD k nd0).is = false) (x : Nd) (hx : x.is = true) : (l.set k x).countP (·.is) = l.countP (·.is) + 1 := by
  induction l generalizing k with
  | nil => simp at hk
  | cons y l ih =>
    cases k with
    | zero =>
      have h2 : y.is = false := by simpa using h
      simp [h2, hx]
    | succ k =>
      have := ih (k := k) (by simpa using hk) (by simpa using h)
      simp only [List.set_cons_succ, List.countP_cons, this]
      omega
theorem cls_end (h : StK F k) (hm : (F.nodes.getD 0 nd0).dir = some m) (fl p : Int) : ((stR F k m b ⟨true, k, fl, p⟩ fl0).cls 0).1.count + 1 = (stR F k m b ⟨true, k, fl, p⟩ c).count := by
  unfold FS.cls FS.closeE
  have hbad : (stR F k m b ⟨true, k, fl, p⟩ fl0).bad 0 0 = false := by
    unfold FS.bad
    rw [st_fl0, and0]
    rfl
  rw [if_neg (by rw [hbad]; simp), st_fl0, st_setF0]
  show ((stR F k m b fl0 fl0).gone k).count + 1 = _
  have hkl : k < F.nodes.length := by rw [h.inv.ln]; exact h.lt
  have hl : (stR F k m b fl0 fl0).links k = 0 := by
    unfold FS.links
    rw [st_nodes h hm]
    refine links_zero (fun x hx m2 hd q hq => ?_)
    rcases List.mem_or_eq_of_mem_set hx with hx | rfl
    · have h3 := ((h.inv.tgt x hx m2 hd).1 q hq).2.2
      intro e
      rw [e] at h3
      unfold FS.nd at h3
      rw [Int.toNat_natCast, h.was] at h3
      cases h3
    · cases hd
  have ho : (stR F k m b fl0 fl0).opened k = false := by
    unfold FS.opened
    show (List.replicate 16 fl0).any _ = false
    rw [List.any_replicate]
    rfl
  unfold FS.gone
  rw [if_pos ⟨by have := h.pos; omega, ho, hl⟩]
  unfold FS.count FS.setN
  rw [st_nodes h hm, st_nodes h hm, Int.toNat_natCast, List.set_set]
  have e : F.nodes.set k nd0 = F.nodes := by
    have := set_own F.nodes k nd0
    rwa [h.was] at this
  rw [e]
  exact (count_set hkl (by rw [h.was]; rfl) _ rfl).symm
end

end Go.Proofs.YtkkjbnmfjhmobaaDoor
