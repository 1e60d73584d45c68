
/- Files in memory, plain: nodes, descriptors, paths, and what each call makes of them. No program in sight. -/
import Derived.Test.YtkkjbnmfjhmobaaDoorSBlk
import Derived.Lib.ValidU
import Derived.Lib.IndexMore
import Derived.Lib.Strings
import Derived.Lib.RuneCount
namespace Go.Proofs.YtkkjbnmfjhmobaaDoor
open Go.RowKit

/-- A node: a directory, with names, or a file, with bytes. -/
structure Nd where
  is : Bool
  dir : Option (List (ByteArray × Int))
  b : List Int
deriving DecidableEq
def nd0 : Nd := ⟨false, none, []⟩
/-- A descriptor. -/
structure Fl where
  op : Bool
  node : Int
  flags : Int
  pos : Int
deriving DecidableEq
def fl0 : Fl := ⟨false, 0, 0, 0⟩
structure FS where
  nodes : List Nd
  files : List Fl
deriving DecidableEq
def FS.nd (f : FS) (n : Int) : Nd := f.nodes.getD n.toNat nd0
def FS.fl (f : FS) (d : Int) : Fl := f.files.getD d.toNat fl0
def FS.setN (f : FS) (n : Int) (x : Nd) : FS := { f with nodes := f.nodes.set n.toNat x }
def FS.setF (f : FS) (d : Int) (x : Fl) : FS := { f with files := f.files.set d.toNat x }
def fsNew : FS := ⟨⟨true, some [], []⟩ :: List.replicate 63 nd0, List.replicate 16 fl0⟩

/-! ### paths -/
/-- How many runes from place pos on, and whether one of them is 0. -/
def runesF (s : ByteArray) : Nat → Nat → Nat × Bool
  | 0, _ => (0, false)
  | k + 1, pos => if pos < s.size then (1 + (runesF s k (pos + (Utf8.decode s pos).2)).1, decide ((Utf8.decode s pos).1 = 0) || (runesF s k (pos + (Utf8.decode s pos).2)).2) else (0, false)
def dot1 : ByteArray := ⟨#[46]⟩
def dot2 : ByteArray := ⟨#[46, 46]⟩
def ba (l : List UInt8) : ByteArray := ⟨l.toArray⟩
/-- May a name be? -/
def mayF (s more : ByteArray) (slash : Bool) : Bool :=
  decide (1 ≤ (runesF s s.size 0).1) && decide ((runesF s s.size 0).1 ≤ 16) && !(runesF s s.size 0).2 && !decide (s = dot1) && !decide (s = dot2) && !(slash && decide (more.size = 0))
def stepsGo : Nat → List UInt8 → List (ByteArray × Bool)
  | 0, _ => []
  | k + 1, rest => if rest = [] then [] else (ba (Lib.cut rest [47]).1, mayF (ba (Lib.cut rest [47]).1) (ba (Lib.cut rest [47]).2.1) (Lib.cut rest [47]).2.2) :: (if (Lib.cut rest [47]).2.2 = true then stepsGo k (Lib.cut rest [47]).2.1 else [])
def stepsF (p : ByteArray) : List (ByteArray × Bool) :=
  if p.size = 0 then [(ba [], false)] else stepsGo (p.size + 1) (Lib.trimPrefix p.data.toList [47])
def splitF (p : ByteArray) : Option (List ByteArray) :=
  if (!Lib.hasPrefix p.data.toList [47] || decide (600 < p.size) || !Lib.validD p.data.toList) = true then none
  else if ((stepsF p).all (·.2) && decide ((stepsF p).length ≤ 8)) = true then some ((stepsF p).map (·.1)) else none

/-! ### nodes -/
/-- The node of names, from node n on; -1: the last one is none. -/
def FS.walkF (f : FS) : Int → List ByteArray → Except Int Int
  | n, [] => .ok n
  | n, s :: r => match (f.nd n).dir with
    | none => .error 20
    | some m => match m.lookup s with
      | none => if r = [] then .ok (-1) else .error 2
      | some k => f.walkF k r
def FS.walk (f : FS) (l : List ByteArray) : Except Int Int := f.walkF 0 l
def FS.must (f : FS) (l : List ByteArray) : Except Int Int :=
  match f.walk l with
  | .error e => .error e
  | .ok n => if n < 0 then .error 2 else .ok n
/-- The directory of names' last one, and that; of the root none. -/
def FS.place (f : FS) (l : List ByteArray) : Except Int (Option (Int × ByteArray)) :=
  if l = [] then .ok none else
  match f.must l.dropLast with
  | .error e => .error e
  | .ok n => if (f.nd n).dir = none then .error 20 else .ok (some (n, l.getLastD (ba [])))
def FS.isDir (f : FS) (n : Int) : Bool := (f.nd n).dir.isSome
def FS.free (f : FS) : Option Int := (f.nodes.findIdx? (fun x => !x.is)).map fun k => (k : Int)
/-- How many names lead to a node. -/
def ndLinks (x : Nd) (n : Int) : Nat := match x.dir with
  | none => 0
  | some m => m.countP (fun p => p.2 == n)
def FS.links (f : FS) (n : Int) : Nat := (f.nodes.map (ndLinks · n)).sum
def FS.opened (f : FS) (n : Int) : Bool := f.files.any (fun x => x.op && x.node == n)
def FS.gone (f : FS) (n : Int) : FS := if 0 < n ∧ f.opened n = false ∧ f.links n = 0 then f.setN n nd0 else f
def FS.count (f : FS) : Nat := f.nodes.countP (·.is)
def FS.bytes (f : FS) : Nat := (f.nodes.map (·.b.length)).sum
/-- A name in a directory. -/
def nmPut : List (ByteArray × Int) → ByteArray → Int → List (ByteArray × Int)
  | [], a, v => [(a, v)]
  | (k, x) :: r, a, v => if a = k then (a, v) :: r else (k, x) :: nmPut r a v
def nmDel : List (ByteArray × Int) → ByteArray → List (ByteArray × Int)
  | [], _ => []
  | (k, x) :: r, a => if a = k then r else (k, x) :: nmDel r a
def FS.name (f : FS) (n : Int) (s : ByteArray) (v : Int) : FS := f.setN n { f.nd n with dir := (f.nd n).dir.map (nmPut · s v) }
def FS.unname (f : FS) (n : Int) (s : ByteArray) : FS := f.setN n { f.nd n with dir := (f.nd n).dir.map (nmDel · s) }

/-! ### the calls: what each makes of the files, and why it gives up (0: it does not) -/
def hasB (flags k : Int) : Bool := !decide (bits .and .i64 flags k = 0)
def FS.openE (f : FS) (l : List ByteArray) (flags : Int) : Except Int (FS × Int) :=
  if (decide (flags < 0) || decide (63 < flags) || !hasB flags 3) = true then .error 22 else
  match (if hasB flags 4 = true then f.place l else .ok none) with
  | .error e => .error e
  | .ok pl =>
    match f.walk l with
    | .error e => .error e
    | .ok n =>
      if n < 0 ∧ hasB flags 4 = false then .error 2
      else if 0 ≤ n ∧ hasB flags 4 = true ∧ hasB flags 8 = true then .error 17
      else if 0 ≤ n ∧ f.isDir n = true ∧ hasB flags 22 = true then .error 21
      else
        match (if n < 0 then f.free else some n) with
        | none => .error 28
        | some k =>
          match f.files.findIdx? (fun x => !x.op) with
          | none => .error 11
          | some at_ =>
            let f1 := if n < 0 then (match pl with | some (d, s) => (f.setN k ⟨true, none, []⟩).name d s k | none => f.setN k ⟨true, none, []⟩) else f
            let f2 := if hasB flags 16 = true then f1.setN k { f1.nd k with b := [] } else f1
            .ok (f2.setF at_ ⟨true, k, flags, 0⟩, at_)
def FS.bad (f : FS) (d flag : Int) : Bool := decide (d < 0) || decide (16 ≤ d) || !(f.fl d).op || !decide (bits .and .i64 (f.fl d).flags flag = flag)
def FS.closeE (f : FS) (d : Int) : Except Int FS :=
  if f.bad d 0 = true then .error 9 else .ok ((f.setF d fl0).gone (f.fl d).node)
def FS.readE (f : FS) (d n : Int) : Except Int (FS × List Int) :=
  if f.bad d 1 = true then .error 9
  else if f.isDir (f.fl d).node = true then .error 21
  else if n < 0 then .error 22
  else
    let b := (f.nd (f.fl d).node).b
    let out := (b.drop (f.fl d).pos.toNat).take n.toNat
    .ok (f.setF d { f.fl d with pos := (f.fl d).pos + out.length }, out)
def FS.writeE (f : FS) (d : Int) (data : List Int) : Except Int (FS × Int) :=
  if f.bad d 2 = true then .error 9
  else
    let b := (f.nd (f.fl d).node).b
    let from_ := if hasB (f.fl d).flags 32 = true then b.length else (f.fl d).pos.toNat
    let fin := from_ + data.length
    if data ≠ [] ∧ 4096 < f.bytes + (fin - b.length) then .error 28
    else
      let f1 := f.setF d { f.fl d with pos := fin }
      if data = [] then .ok (f1, 0)
      else .ok (f1.setN (f.fl d).node { f.nd (f.fl d).node with b := (b ++ List.replicate (fin - b.length) 0).take from_ ++ data ++ b.drop fin }, data.length)
def FS.seekE (f : FS) (d by_ from_ : Int) : Except Int (FS × Int) :=
  if f.bad d 0 = true then .error 9
  else if f.isDir (f.fl d).node = true then .error 21
  else if from_ < 0 ∨ 2 < from_ ∨ by_ < -4096 ∨ 4096 < by_ then .error 22
  else
    let to := (if from_ = 0 then 0 else if from_ = 1 then (f.fl d).pos else ((f.nd (f.fl d).node).b.length : Int)) + by_
    if to < 0 ∨ 4096 < to then .error 22 else .ok (f.setF d { f.fl d with pos := to }, to)
def FS.mkdirE (f : FS) (l : List ByteArray) : Except Int FS :=
  match f.place l with
  | .error e => .error e
  | .ok pl => match f.walk l with
    | .error e => .error e
    | .ok n => if 0 ≤ n then .error 17 else match f.free with
      | none => .error 28
      | some k => .ok (match pl with | some (d, s) => (f.setN k ⟨true, some [], []⟩).name d s k | none => f)
def FS.rmdirE (f : FS) (l : List ByteArray) : Except Int FS :=
  match f.must l with
  | .error e => .error e
  | .ok n => if n = 0 then .error 16 else match (f.nd n).dir with
    | none => .error 20
    | some m => if m ≠ [] then .error 39 else match f.place l with
      | .error e => .error e
      | .ok (some (d, s)) => .ok ((f.unname d s).gone n)
      | .ok none => .ok (f.gone n)
def FS.unlinkE (f : FS) (l : List ByteArray) : Except Int FS :=
  match f.must l with
  | .error e => .error e
  | .ok n => if f.isDir n = true then .error 21 else match f.place l with
    | .error e => .error e
    | .ok (some (d, s)) => .ok ((f.unname d s).gone n)
    | .ok none => .ok (f.gone n)
def FS.linkE (f : FS) (l m : List ByteArray) : Except Int FS :=
  match f.must l with
  | .error e => .error e
  | .ok n => if f.isDir n = true then .error 1 else match f.place m with
    | .error e => .error e
    | .ok pl => match f.walk m with
      | .error e => .error e
      | .ok k => if 0 ≤ k then .error 17 else .ok (match pl with | some (d, s) => f.name d s n | none => f)

end Go.Proofs.YtkkjbnmfjhmobaaDoor
