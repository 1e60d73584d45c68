
/- Waiting lists, the plain side: who waits, in the order in which they came, as pairs (thread, priority). No program in sight. -/
import Derived.WalkKit
namespace Go.Proofs.Ytiiafhlckmkcnaa

abbrev WL := List (Int × Int)

def okT (t : Int) : Prop := 0 ≤ t ∧ t < 16
def okP (p : Int) : Prop := 1 ≤ p ∧ p ≤ 31

def wupd : WL → Int → Int → WL
  | [], _, _ => []
  | (k, x) :: r, t, p => if t = k then (k, p) :: r else (k, x) :: wupd r t p
def wdel : WL → Int → WL
  | [], _ => []
  | (k, x) :: r, t => if t = k then r else (k, x) :: wdel r t

/-- Why a thread and a priority are refused; 0: they aren't. -/
def askR (L : WL) (t p : Int) (waits : Bool) : Int :=
  if t < 0 ∨ 16 ≤ t ∨ p < 1 ∨ 31 < p then 2 else if (L.lookup t).isSome then (if waits then 0 else 7) else (if waits then 6 else 0)

/-- The order: by falling priorities, of one priority who came first ahead. -/
def ordL (L : WL) : WL := (List.range 31).flatMap fun (i : Nat) => L.filter fun x => x.2 == 31 - (i : Int)
def ordT (L : WL) : List Int := (ordL L).map (·.1)

def putL (L : WL) (t p : Int) : WL := if askR L t p false = 0 then L ++ [(t, p)] else L
def chgL (L : WL) (t p : Int) : WL := if askR L t p true = 0 then wupd L t p else L
def lvL (L : WL) (t : Int) : WL := if askR L t 1 true = 0 then wdel L t else L
def takeL (L : WL) : WL := match ordL L with | [] => L | x :: _ => wdel L x.1
def headT (l : WL) : Int := match l with | [] => 0 | x :: _ => x.1
def headB (l : WL) : Bool := match l with | [] => false | _ :: _ => true
def prioR (L : WL) (t : Int) : Int := (L.lookup t).getD 0
def hasR (L : WL) (t : Int) : Bool := (L.lookup t).isSome

end Go.Proofs.Ytiiafhlckmkcnaa
