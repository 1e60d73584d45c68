
/- Mutexes, the plain side: who owns one, who waits. No program in sight. -/
import Derived.Test.YtagnobmdcchcaaaL09p
namespace Go.Proofs.Ytagnobmdcchcaaa

/-- A mutex: its kind, protocol, ceiling, whether robust; owner, count, state; who waits. -/
structure MS where
  k : Int
  p : Int
  c : Int
  rob : Bool
  own : Int
  cnt : Int
  st : Int
  L : WL

def thB (t : Int) : Bool := decide (0 ≤ t) && decide (t < 16)
def prB (p : Int) : Bool := decide (1 ≤ p) && decide (p ≤ 31)

theorem thB_iff {t : Int} : thB t = true ↔ okT t := by unfold thB okT; simp
theorem prB_iff {p : Int} : prB p = true ↔ okP p := by unfold prB okP; simp
theorem thB_no {t : Int} : thB t = false ↔ ¬ okT t := by rw [← thB_iff]; simp
theorem prB_no {p : Int} : prB p = false ↔ ¬ okP p := by rw [← prB_iff]; simp

/-- What one is told who gets it. -/
def MS.told (s : MS) : Int := if s.st = 1 then 130 else 0
/-- A thread becomes the owner. -/
def MS.took (s : MS) (t : Int) : MS := { s with own := t, cnt := 1 }
/-- May a thread ask at all? -/
def MS.may (s : MS) (t b : Int) : Bool := thB t && prB b && !hasR s.L t && !(decide (s.p = 2) && decide (s.c < b))
def MS.free (s : MS) : Bool := decide (s.own = -1) && !decide (s.st = 3)
def MS.askE (s : MS) (t b : Int) : Int := if s.may t b = true then (if s.st = 2 then 131 else if s.free = true then s.told else 16) else 22
def MS.askS (s : MS) (t b : Int) : MS := if s.may t b = true ∧ s.st ≠ 2 ∧ s.free = true then s.took t else s

/-- Lock. -/
def MS.waits (s : MS) (t b : Int) : Bool := decide (s.askE t b = 16)
def MS.lockE (s : MS) (t q b : Int) : Int :=
  if prB q = true then (if s.askE t b = 16 then (if s.own = t ∧ s.k = 1 then 35 else if s.own = t ∧ s.k = 2 then (if 32767 ≤ s.cnt then 11 else 0) else 0) else s.askE t b) else 22
def MS.lockB (s : MS) (t q b : Int) : Bool :=
  if prB q = true then (if s.askE t b = 16 then decide (s.own = t ∧ s.k = 2 ∧ ¬ 32767 ≤ s.cnt) else decide (s.askE t b = 0 ∨ s.askE t b = 130)) else false
def MS.lockS (s : MS) (t q b : Int) : MS :=
  if prB q = true then (if s.askE t b = 16 then (if s.own = t ∧ s.k = 1 then s else if s.own = t ∧ s.k = 2 then (if 32767 ≤ s.cnt then s else { s with cnt := s.cnt + 1 }) else { s with L := putL s.L t q }) else s.askS t b) else s

/-- Try. -/
def MS.tryE (s : MS) (t b : Int) : Int := if s.askE t b = 16 ∧ s.own = t ∧ s.k = 2 then (if 32767 ≤ s.cnt then 11 else 0) else s.askE t b
def MS.tryS (s : MS) (t b : Int) : MS := if s.askE t b = 16 ∧ s.own = t ∧ s.k = 2 then (if 32767 ≤ s.cnt then s else { s with cnt := s.cnt + 1 }) else s.askS t b

/-- next: who waits first has it; and what is told. -/
def MS.nextS (s : MS) : MS := match ordL s.L with | [] => { s with own := -1, cnt := 0 } | x :: _ => { s with own := x.1, cnt := 1, L := takeL s.L }
def MS.nextW (s : MS) : WL := match ordL s.L with | [] => [] | x :: _ => [(x.1, s.told)]

/-- Unlock. -/
def MS.unE (s : MS) (t : Int) : Int := if thB t = true then (if s.own = t then 0 else 1) else 22
def MS.unS (s : MS) (t : Int) : MS :=
  if thB t = true ∧ s.own = t then (if 1 < s.cnt then { s with cnt := s.cnt - 1 } else if s.st = 1 then { s with own := -1, cnt := 0, st := 2, L := [] } else s.nextS) else s
def MS.unW (s : MS) (t : Int) : WL :=
  if thB t = true ∧ s.own = t then (if 1 < s.cnt then [] else if s.st = 1 then (ordT s.L).map (fun x => (x, 131)) else s.nextW) else []

/-- Consistent. -/
def MS.csB (s : MS) (t : Int) : Bool := thB t && s.rob && decide (s.st = 1) && decide (s.own = t)
def MS.csS (s : MS) (t : Int) : MS := if s.csB t = true then { s with st := 0 } else s

/-- Ended. -/
def MS.enS (s : MS) (t : Int) : MS :=
  if thB t = true ∧ s.own = t then (if s.rob = true then ({ s with st := 1 } : MS).nextS else { s with own := -1, cnt := 0, st := 3 }) else s
def MS.enW (s : MS) (t : Int) : WL :=
  if thB t = true ∧ s.own = t ∧ s.rob = true then ({ s with st := 1 } : MS).nextW else []

/-- Leave, Change. -/
def MS.lvB (s : MS) (t : Int) : Bool := decide (askR s.L t 1 true = 0)
def MS.lvS (s : MS) (t : Int) : MS := { s with L := lvL s.L t }
def MS.chB (s : MS) (t q : Int) : Bool := decide (askR s.L t q true = 0)
def MS.chS (s : MS) (t q : Int) : MS := { s with L := chgL s.L t q }

/-- Ceil. -/
def MS.ceE (s : MS) (t q : Int) : Int := if thB t = true ∧ s.p = 2 ∧ prB q = true then (if s.own ≠ -1 ∧ s.own ≠ t then 16 else 0) else 22
def MS.ceV (s : MS) (t q : Int) : Int := if s.ceE t q = 0 then s.c else 0
def MS.ceS (s : MS) (t q : Int) : MS := if s.ceE t q = 0 then { s with c := q } else s

/-- May there be such a one? -/
def mnewB (k p c : Int) : Bool := decide (0 ≤ k ∧ k ≤ 2 ∧ 0 ≤ p ∧ p ≤ 2) && (if p = 2 then decide (1 ≤ c ∧ c ≤ 31) else decide (c = 0))
def mnew (k p c : Int) (rob : Bool) : MS := ⟨k, p, c, rob, -1, 0, 0, []⟩

theorem MS.askE_wait {s : MS} {t b : Int} (h : s.askE t b = 16) : s.may t b = true ∧ s.st ≠ 2 ∧ s.free = false := by
  unfold MS.askE at h
  split at h
  · rename_i h1
    split at h
    · omega
    · split at h
      · unfold MS.told at h; split at h <;> omega
      · rename_i h2 h3
        exact ⟨h1, h2, by simpa using h3⟩
  · omega
theorem MS.askS_wait {s : MS} {t b : Int} (h : s.askE t b = 16) : s.askS t b = s := by
  unfold MS.askS
  rw [if_neg]
  rintro ⟨_, _, h3⟩
  rw [(MS.askE_wait h).2.2] at h3
  cases h3

end Go.Proofs.Ytagnobmdcchcaaa
