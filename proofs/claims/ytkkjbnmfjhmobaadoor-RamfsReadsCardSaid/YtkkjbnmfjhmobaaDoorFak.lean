
/- Package ramfs: the files of one's own: each call's contract, in plain words. -/
import Derived.Test.YtkkjbnmfjhmobaaDoorFaj
import Derived.Below
namespace Go.Proofs.YtkkjbnmfjhmobaaDoor
open Go.RowKit

def outF (f : FS) (r : Except Int FS) : FS × Int := match r with
  | .ok f' => (f', 0)
  | .error k => (f, k)
def outV (f : FS) (r : Except Int (FS × Int)) : FS × Int × Int := match r with
  | .ok p => (p.1, p.2, 0)
  | .error k => (f, 0, k)
def outB (f : FS) (r : Except Int (FS × List Int)) : FS × List Int × Int := match r with
  | .ok p => (p.1, p.2, 0)
  | .error k => (f, [], k)
def FS.opn (f : FS) (p : ByteArray) (fl : Int) : FS × Int × Int := outV f (onPath p (f.openE · fl))
def FS.cls (f : FS) (d : Int) : FS × Int := outF f (f.closeE d)
def FS.rd (f : FS) (d n : Int) : FS × List Int × Int := outB f (f.readE d n)
def FS.wr (f : FS) (d : Int) (data : List Int) : FS × Int × Int := outV f (f.writeE d data)
def FS.sk (f : FS) (d by_ fr : Int) : FS × Int × Int := outV f (f.seekE d by_ fr)
def FS.mkd (f : FS) (p : ByteArray) : FS × Int := outF f (onPath p f.mkdirE)
def FS.rmd (f : FS) (p : ByteArray) : FS × Int := outF f (onPath p f.rmdirE)
def FS.unl (f : FS) (p : ByteArray) : FS × Int := outF f (onPath p f.unlinkE)
def FS.lnk (f : FS) (p q : ByteArray) : FS × Int := outF f (onPaths p q f.linkE)
def FS.ren (f : FS) (p q : ByteArray) : FS × Int := outF f (onPaths p q f.renameE)
def FS.stt (f : FS) (p : ByteArray) : Array Value × Int := (statR (onPath p f.statE), (outV f (onPath p f.statE)).2.2)

def LibLt (B : Nat) : Prop := 2 < B ∧ 0 < B ∧ 1 < B
/-- Rows of bytes, and blocks, that live on beside the files. -/
abbrev RowsF := List (Value × List Int) × List (Nat × Obj)
structure FWm (B : Nat) (w : World) (fb : Nat) (f : FS) (rows : RowsF) (mb : Nat → Nat) (vs : Nat → Value) : Prop where
  at_ : FAt w fb mb vs f
  ge : B ≤ w.heap.size
  lt : LibLt B
  hi : ∀ k ∈ blkF fb mb vs f, B ≤ k
  lib : LibW w
  rws : ∀ q ∈ rows.1, BytesAt w q.1 q.2 ∧ ∀ k ∈ q.1.ownBlock.toList, k ∉ blkF fb mb vs f ∧ k < w.heap.size
  objs : ∀ q ∈ rows.2, w.heap[q.1]? = some q.2 ∧ q.1 ∉ blkF fb mb vs f
/-- The files in memory, above B, with rows of bytes that were read from them. -/
def FW (B : Nat) (w : World) (fb : Nat) (f : FS) (rows : RowsF) : Prop := ∃ mb vs, FWm B w fb f rows mb vs
theorem Chg.belowB {S : List Nat} {B : Nat} {a b : World} (h : Chg S a b) (hB : B ≤ a.heap.size) (hS : ∀ k ∈ S, B ≤ k) : Below B a b :=
  ⟨h.os, h.tape, h.output, h.size, fun k hk => h.block k (Nat.lt_of_lt_of_le hk hB) (fun hm => by have := hS k hm; omega)⟩
section
variable {B : Nat} {w w' : World} {fb : Nat} {f f' : FS} {rows : RowsF} {mb mb' : Nat → Nat} {vs vs' : Nat → Value}
theorem FWm.step (h : FWm B w fb f rows mb vs) (hs : FStep w w' fb mb vs f mb' vs' f') : FWm B w' fb f' rows mb' vs' ∧ Below B w w' := by
  have hx : ∀ k, k < B → k ∉ blkF fb mb vs f := fun k hk hm => by have := h.hi k hm; omega
  refine ⟨⟨hs.at_, Nat.le_trans h.ge hs.chg.size, h.lt, fun k hk => (hs.blk k hk).elim (h.hi k) (fun h2 => Nat.le_trans h.ge h2), h.lib.kept hs.chg (hx _ h.lt.1) (hx _ h.lt.2.1) (hx _ h.lt.2.2), fun q hq => ?_, fun q hq => ?_⟩, hs.chg.belowB h.ge h.hi⟩
  rotate_left
  · obtain ⟨h1, h2⟩ := h.objs q hq
    exact ⟨hs.chg.blk h1 h2, fun hm => (hs.blk _ hm).elim h2 (fun h3 => by have := lt_of_blk h1; omega)⟩
  obtain ⟨h1, h2⟩ := h.rws q hq
  exact ⟨h1.kept hs.chg (fun k hk hm => (h2 k hm).1 hk), fun k hk => ⟨fun hm => (hs.blk k hm).elim (h2 k hk).1 (fun h3 => by have := (h2 k hk).2; omega), Nat.lt_of_lt_of_le (h2 k hk).2 hs.chg.size⟩⟩
theorem FWm.calm (h : FWm B w fb f rows mb vs) (hC : Chg [] w w') : FWm B w' fb f rows mb vs ∧ Below B w w' := h.step (h.at_.step hC)
theorem FWm.res (h : FWm B w fb f rows mb vs) {r : Except Int FS} {c : Int} (hr : ERes w w' fb mb vs f r c) : c = (outF f r).2 ∧ FW B w' fb (outF f r).1 rows ∧ Below B w w' := by
  unfold ERes at hr
  cases r with
  | ok f' =>
    obtain ⟨rfl, mb', vs', hs⟩ := hr
    exact ⟨rfl, ⟨mb', vs', (h.step hs).1⟩, (h.step hs).2⟩
  | error k =>
    obtain ⟨rfl, hC⟩ := hr
    exact ⟨rfl, ⟨mb, vs, (h.calm hC).1⟩, (h.calm hC).2⟩
theorem outV_eq (f : FS) (r : Except Int (FS × Int)) : outV f r = ((outF f (resF r)).1, resV r, (outF f (resF r)).2) := by cases r <;> rfl
theorem outB_eq (f : FS) (r : Except Int (FS × List Int)) : outB f r = ((outF f (resF r)).1, resB r, (outF f (resF r)).2) := by cases r <;> rfl
theorem FW.calm (h : FW B w fb f rows) (hC : Chg [] w w') : FW B w' fb f rows ∧ Below B w w' := by
  obtain ⟨mb, vs, h⟩ := h
  exact ⟨⟨mb, vs, (h.calm hC).1⟩, (h.calm hC).2⟩
theorem FW.inv (h : FW B w fb f rows) : FInv f := by obtain ⟨mb, vs, h⟩ := h; exact h.at_.inv
theorem FW.ge (h : FW B w fb f rows) : B ≤ w.heap.size := by obtain ⟨mb, vs, h⟩ := h; exact h.ge
/-- What a call that answers an error leaves. -/
def FPost (B : Nat) (w : World) (fb : Nat) (rows : RowsF) (o : FS × Int) (e : Ending) (w' : World) : Prop := e = .returned (.int .i64 o.2) ∧ FW B w' fb o.1 rows ∧ Below B w w'
def VPost (B : Nat) (w : World) (fb : Nat) (rows : RowsF) (o : FS × Int × Int) (e : Ending) (w' : World) : Prop := e = .returned (.tuple #[.int .i64 o.2.1, .int .i64 o.2.2]) ∧ FW B w' fb o.1 rows ∧ Below B w w'
theorem kclose (h : FW B w fb f rows) (hN : f.names < 4611686018427387000) (d : Int) : Calls Tryd.prog 15 #[.pointer (some ⟨fb, 0, none⟩), .int .i64 d] w (FPost B w fb rows (f.cls d)) := by
  obtain ⟨mb, vs, h⟩ := h
  refine (fclosec fb mb vs f d w h.at_ (by omega)).mono ?_
  rintro e w' ⟨c, rfl, hr⟩
  obtain ⟨rfl, h2⟩ := h.res hr
  exact ⟨rfl, h2⟩
theorem kmkdir (h : FW B w fb f rows) (p : ByteArray) : Calls Tryd.prog 10 #[.pointer (some ⟨fb, 0, none⟩), .string p] w (FPost B w fb rows (f.mkd p)) := by
  obtain ⟨mb, vs, h⟩ := h
  refine (fmkdirc fb mb vs f p w h.at_ h.lib).mono ?_
  rintro e w' ⟨c, rfl, hr⟩
  obtain ⟨rfl, h2⟩ := h.res hr
  exact ⟨rfl, h2⟩
theorem krmdir (h : FW B w fb f rows) (hN : f.names < 4611686018427387000) (p : ByteArray) : Calls Tryd.prog 20 #[.pointer (some ⟨fb, 0, none⟩), .string p] w (FPost B w fb rows (f.rmd p)) := by
  obtain ⟨mb, vs, h⟩ := h
  refine (frmdirc fb mb vs f p w h.at_ h.lib (by omega)).mono ?_
  rintro e w' ⟨c, rfl, hr⟩
  obtain ⟨rfl, h2⟩ := h.res hr
  exact ⟨rfl, h2⟩
theorem kunlink (h : FW B w fb f rows) (hN : f.names < 4611686018427387000) (p : ByteArray) : Calls Tryd.prog 18 #[.pointer (some ⟨fb, 0, none⟩), .string p] w (FPost B w fb rows (f.unl p)) := by
  obtain ⟨mb, vs, h⟩ := h
  refine (funlinkc fb mb vs f p w h.at_ h.lib (by omega)).mono ?_
  rintro e w' ⟨c, rfl, hr⟩
  obtain ⟨rfl, h2⟩ := h.res hr
  exact ⟨rfl, h2⟩
theorem klink (h : FW B w fb f rows) (p q : ByteArray) : Calls Tryd.prog 11 #[.pointer (some ⟨fb, 0, none⟩), .string p, .string q] w (FPost B w fb rows (f.lnk p q)) := by
  obtain ⟨mb, vs, h⟩ := h
  refine (flinkc fb mb vs f p q w h.at_ h.lib).mono ?_
  rintro e w' ⟨c, rfl, hr⟩
  obtain ⟨rfl, h2⟩ := h.res hr
  exact ⟨rfl, h2⟩
theorem krename (h : FW B w fb f rows) (hN : f.names < 4611686018427387000) (p q : ByteArray) : Calls Tryd.prog 12 #[.pointer (some ⟨fb, 0, none⟩), .string p, .string q] w (FPost B w fb rows (f.ren p q)) := by
  obtain ⟨mb, vs, h⟩ := h
  refine (frenamec fb mb vs f p q w h.at_ h.lib (by omega)).mono ?_
  rintro e w' ⟨c, rfl, hr⟩
  obtain ⟨rfl, h2⟩ := h.res hr
  exact ⟨rfl, h2⟩
theorem kopen (h : FW B w fb f rows) (p : ByteArray) (fl : Int) : Calls Tryd.prog 8 #[.pointer (some ⟨fb, 0, none⟩), .string p, .int .i64 fl] w (VPost B w fb rows (f.opn p fl)) := by
  obtain ⟨mb, vs, h⟩ := h
  refine (fopenc fb mb vs f p fl w h.at_ h.lib).mono ?_
  rintro e w' ⟨c, rfl, hr⟩
  obtain ⟨rfl, h2⟩ := h.res hr
  unfold VPost FS.opn
  rw [outV_eq]
  exact ⟨rfl, h2⟩
theorem kseek (h : FW B w fb f rows) (d by_ fr : Int) : Calls Tryd.prog 17 #[.pointer (some ⟨fb, 0, none⟩), .int .i64 d, .int .i64 by_, .int .i64 fr] w (VPost B w fb rows (f.sk d by_ fr)) := by
  obtain ⟨mb, vs, h⟩ := h
  refine (fseekc fb mb vs f d by_ fr w h.at_).mono ?_
  rintro e w' ⟨c, rfl, hr⟩
  obtain ⟨rfl, h2⟩ := h.res hr
  unfold VPost FS.sk
  rw [outV_eq]
  exact ⟨rfl, h2⟩
theorem kwrite (h : FW B w fb f rows) (d : Int) (sa : Option Addr) (sc : Nat) (data : List Int) (hdat : BytesE w (.slice sa data.length sc) data) (hdz : ∀ z ∈ data, 0 ≤ z ∧ z < 256) (hdl : data.length ≤ 9000) (hdk : data ≠ [] → ∀ mb vs, FWm B w fb f rows mb vs → ∀ k ∈ (Value.slice sa data.length sc).ownBlock.toList, k ∉ blkF fb mb vs f) :
    Calls Tryd.prog 9 #[.pointer (some ⟨fb, 0, none⟩), .int .i64 d, .slice sa data.length sc] w (VPost B w fb rows (f.wr d data)) := by
  obtain ⟨mb, vs, h⟩ := h
  refine (fwritec fb mb vs f d sa sc data w h.at_ hdat hdz hdl (fun hd => hdk hd mb vs h)).mono ?_
  rintro e w' ⟨c, rfl, hr⟩
  obtain ⟨rfl, h2⟩ := h.res hr
  unfold VPost FS.wr
  rw [outV_eq]
  exact ⟨rfl, h2⟩
theorem FW.addRow (h : FW B w fb f rows) (hC : Chg [] w w') {v : Value} {b : List Int} (hb : BytesAt w' v b) (hk : ∀ k ∈ v.ownBlock.toList, w.heap.size ≤ k ∧ k < w'.heap.size) : FW B w' fb f ((v, b) :: rows.1, rows.2) := by
  obtain ⟨mb, vs, h⟩ := h
  have h2 := (h.calm hC).1
  refine ⟨mb, vs, h2.at_, h2.ge, h2.lt, h2.hi, h2.lib, fun q hq => ?_, h2.objs⟩
  rcases List.mem_cons.1 hq with rfl | hq
  · exact ⟨hb, fun k hm => ⟨fun hn => by have := (hk k hm).1; have := h.at_.lt k hn; omega, (hk k hm).2⟩⟩
  · exact h2.rws q hq
/-- A block is taken into the list. -/
theorem FW.addObj (h : FW B w fb f rows) (hC : Chg [] w w') {k : Nat} {o : Obj} (hk : w.heap.size ≤ k) (ho : w'.heap[k]? = some o) : FW B w' fb f (rows.1, (k, o) :: rows.2) := by
  obtain ⟨mb, vs, h⟩ := h
  have h2 := (h.calm hC).1
  refine ⟨mb, vs, h2.at_, h2.ge, h2.lt, h2.hi, h2.lib, h2.rws, fun q hq => ?_⟩
  rcases List.mem_cons.1 hq with rfl | hq
  · exact ⟨ho, fun hm => by have := h.at_.lt _ hm; omega⟩
  · exact h2.objs q hq
theorem FW.obj (h : FW B w fb f rows) {k : Nat} {o : Obj} (hq : (k, o) ∈ rows.2) : w.heap[k]? = some o := by
  obtain ⟨mb, vs, h⟩ := h
  exact (h.objs _ hq).1
/-- The first block in the list is written. -/
theorem FW.setObj {R : List (Value × List Int)} {k : Nat} {o o' : Obj} (h : FW B w fb f (R, [(k, o)])) (hR : R = []) (hC : Chg [k] w w') (hk : B ≤ k) (ho : w'.heap[k]? = some o') : FW B w' fb f (R, [(k, o')]) ∧ Below B w w' := by
  obtain ⟨mb, vs, h⟩ := h
  subst hR
  have hn := (h.objs (k, o) (by simp)).2
  refine ⟨⟨mb, vs, h.at_.kept hC (by simpa using hn), Nat.le_trans h.ge hC.size, h.lt, h.hi, h.lib.kept hC (by have := h.lt.1; simp; omega) (by have := h.lt.2.1; simp; omega) (by have := h.lt.2.2; simp; omega), (fun q hq => nomatch hq), fun q hq => ?_⟩, hC.belowB h.ge (by simpa using hk)⟩
  obtain rfl : q = (k, o') := by simpa using hq
  exact ⟨ho, hn⟩
theorem FW.row (h : FW B w fb f rows) {v : Value} {b : List Int} (hq : (v, b) ∈ rows.1) : BytesAt w v b := by
  obtain ⟨mb, vs, h⟩ := h
  exact (h.rws _ hq).1
theorem kwriteR (h : FW B w fb f rows) (d : Int) (sa : Option Addr) (n sc : Nat) (data : List Int) (hn : n = data.length) (hq : (.slice sa n sc, data) ∈ rows.1) (hdz : ∀ z ∈ data, 0 ≤ z ∧ z < 256) (hdl : data.length ≤ 9000) :
    Calls Tryd.prog 9 #[.pointer (some ⟨fb, 0, none⟩), .int .i64 d, .slice sa n sc] w (VPost B w fb rows (f.wr d data)) := by
  subst hn
  obtain ⟨mb, vs, h⟩ := h
  refine (fwritec fb mb vs f d sa sc data w h.at_ (h.rws _ hq).1.toE hdz hdl (fun _ k hk => ((h.rws _ hq).2 k hk).1)).mono ?_
  rintro e w' ⟨c, rfl, hr⟩
  obtain ⟨rfl, h2⟩ := h.res hr
  unfold VPost FS.wr
  rw [outV_eq]
  exact ⟨rfl, h2⟩
theorem kstat (h : FW B w fb f rows) (hN : f.names < 4611686018427387000) (p : ByteArray) : Calls Tryd.prog 21 #[.pointer (some ⟨fb, 0, none⟩), .string p] w fun e w' => e = .returned (.tuple #[.agg (f.stt p).1, .int .i64 (f.stt p).2]) ∧ FW B w' fb f rows ∧ Below B w w' := by
  obtain ⟨mb, vs, h⟩ := h
  refine (fstatc fb mb vs f p w h.at_ h.lib (by omega)).mono ?_
  rintro e w' ⟨c, rfl, hr⟩
  obtain ⟨rfl, h2⟩ := h.res hr
  have e1 : (outF f (resF (onPath p f.statE))).1 = f := by
    unfold onPath
    cases splitF p with
    | none => rfl
    | some l =>
      show (outF f (resF (f.statE l))).1 = f
      unfold FS.statE
      cases f.must l <;> rfl
  rw [e1] at h2
  refine ⟨?_, h2⟩
  unfold FS.stt
  rw [outV_eq]
  rfl
theorem kread (h : FW B w fb f rows) (d n : Int) (hn : n < 4611686018427387904) : Calls Tryd.prog 19 #[.pointer (some ⟨fb, 0, none⟩), .int .i64 d, .int .i64 n] w fun e w' => ∃ v, e = .returned (.tuple #[v, .int .i64 (f.rd d n).2.2]) ∧ FW B w' fb (f.rd d n).1 ((v, (f.rd d n).2.1) :: rows.1, rows.2) ∧ Below B w w' := by
  obtain ⟨mb, vs, h⟩ := h
  refine (freadc fb mb vs f d n w h.at_ hn).mono ?_
  rintro e w' ⟨v, c, rfl, hr, ho, hvs⟩
  obtain ⟨rfl, ⟨mb', vs', h2⟩, h3⟩ := h.res hr
  unfold FS.rd
  rw [outB_eq]
  refine ⟨v, rfl, ⟨mb', vs', h2.at_, h2.ge, h2.lt, h2.hi, h2.lib, fun q hq => ?_, h2.objs⟩, h3⟩
  rcases List.mem_cons.1 hq with rfl | hq
  · refine ⟨BytesAt.of_own ho, fun k hk => ⟨fun hm => ?_, by obtain ⟨cs, hcs⟩ := own_cells ho k hk; exact lt_of_blk hcs⟩⟩
    have hk2 := own_ge ho k hk
    rcases mem_blkF.1 hm with rfl | ⟨i, hi, ⟨hs, rfl⟩ | h4⟩
    · have := lt_of_blk h.at_.head; omega
    · obtain ⟨m, hm2⟩ := Option.isSome_iff_exists.1 hs
      obtain ⟨cs, hcs⟩ := own_cells ho _ hk
      exact (h2.at_.mp i hi m hm2).ne hcs rfl
    · have e1 := (h2.at_.cN hi).2.2
      rw [hvs i hi] at e1
      injection e1 with e1
      rw [← e1] at h4
      have := h.at_.lt k (mem_blkF.2 (.inr ⟨i, hi, .inr h4⟩))
      omega
  · exact h2.rws q hq
theorem knodes (h : FW B w fb f rows) : Calls Tryd.prog 13 #[.pointer (some ⟨fb, 0, none⟩)] w fun e w' => e = .returned (.int .i64 f.count) ∧ w = w' := by
  obtain ⟨mb, vs, h⟩ := h
  exact fnodesc fb mb vs f w h.at_
theorem kbytes (h : FW B w fb f rows) : Calls Tryd.prog 14 #[.pointer (some ⟨fb, 0, none⟩)] w fun e w' => e = .returned (.int .i64 f.bytes) ∧ w = w' := by
  obtain ⟨mb, vs, h⟩ := h
  exact fbytesc fb mb vs f w h.at_
theorem knew (hB : B ≤ w.heap.size) (hl : LibLt B) (hL : LibW w) : Calls Tryd.prog 6 #[] w fun e w' => ∃ fb, e = .returned (.pointer (some ⟨fb, 0, none⟩)) ∧ FW B w' fb fsNew ([], []) ∧ Below B w w' := by
  refine (fnewc w).mono ?_
  rintro e w' ⟨fb, mb, rfl, h1, h2, h3⟩
  exact ⟨fb, rfl, ⟨mb, vsNil, h1, Nat.le_trans hB h2.size, hl, fun k hk => Nat.le_trans hB (h3 k hk), hL.calm h2, (fun q hq => nomatch hq), (fun q hq => nomatch hq)⟩, h2.belowB hB (by simp)⟩
end

end Go.Proofs.YtkkjbnmfjhmobaaDoor
