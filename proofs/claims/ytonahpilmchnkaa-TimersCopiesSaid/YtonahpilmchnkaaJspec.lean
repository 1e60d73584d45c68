
/- Timers, plain. -/
import Derived.Test.YtonahpilmchnkaaHm
namespace Go.Proofs.Ytonahpilmchnkaa

/-- How one timer stands. -/
structure TE where
  armed : Bool
  clock : Int
  at_ : Int
  iv : Int
  out : Bool
  cnt : Int
  ovr : Int
def TE.zero : TE := ⟨false, 0, 0, 0, false, 0, 0⟩
def TE.rest (e : TE) : TE := { e with armed := false, clock := 0, at_ := 0, iv := 0 }
def TE.arm (e : TE) (c t v : Int) : TE := { e with armed := true, clock := c, at_ := t, iv := v }
/-- How often it was due. -/
def TE.often (e : TE) (now : Int) : Int := if e.iv = 0 then 1 else (now - e.at_) / e.iv + 1
/-- Timers: how each stands; the two wheels. -/
structure TS where
  n : Nat
  L : List TE
  W : Int → HS
def updW (W : Int → HS) (c : Int) (x : HS) : Int → HS := fun k => if k = c then x else W k
theorem updW_same (W : Int → HS) (c : Int) (x : HS) : updW W c x c = x := if_pos rfl
theorem updW_other {W : Int → HS} {c k : Int} {x : HS} (h : k ≠ c) : updW W c x k = W k := if_neg h
def isC (c : Int) : Prop := c = 0 ∨ c = 1
instance (c : Int) : Decidable (isC c) := by unfold isC; infer_instance
def inT (s : TS) (id : Int) : Prop := 0 ≤ id ∧ id < s.n
instance (s : TS) (id : Int) : Decidable (inT s id) := by unfold inT; infer_instance

def TS.rests (s : TS) (i : Nat) : TS := match s.L[i]? with
  | none => s
  | some e => ⟨s.n, s.L.set i e.rest, if e.armed then updW s.W e.clock ((s.W e.clock).canS i) else s.W⟩
def TS.stopE (s : TS) (id : Int) : Int := if inT s id then 0 else 2
def TS.stopS (s : TS) (id : Int) : TS := if inT s id then s.rests id.toNat else s
def okArm (s : TS) (id c t v : Int) : Prop := inT s id ∧ isC c ∧ okAt t ∧ okAt v
instance (s : TS) (id c t v : Int) : Decidable (okArm s id c t v) := by unfold okArm; infer_instance
def TS.arms (s : TS) (i : Nat) (c t v : Int) : TS := match s.L[i]? with
  | none => s
  | some e => ⟨s.n, s.L.set i (e.arm c t v), updW s.W c ((s.W c).setS i t)⟩
def TS.armE (s : TS) (id c t v : Int) : Int := if okArm s id c t v then 0 else 2
def TS.armS (s : TS) (id c t v : Int) : TS := if okArm s id c t v then (s.rests id.toNat).arms id.toNat c t v else s
def TS.clearS (s : TS) (id : Int) : TS := if inT s id then ⟨s.n, (s.rests id.toNat).L.set id.toNat TE.zero, (s.rests id.toNat).W⟩ else s
def TE.take (e : TE) : TE := if e.out then { e with out := false, ovr := e.cnt, cnt := 0 } else e
def TS.takenV (s : TS) (id : Int) : Int × Int := if inT s id then (match s.L[id.toNat]? with | some e => (e.take.ovr, 0) | none => (0, 0)) else (0, 2)
def TS.takenS (s : TS) (id : Int) : TS := if inT s id then (match s.L[id.toNat]? with | some e => ⟨s.n, s.L.set id.toNat e.take, s.W⟩ | none => s) else s

/-- One entry behind its deadline; is its notice told? -/
def TE.dueE (e : TE) (now : Int) : TE :=
  let k := e.often now
  let next := e.at_ + k * e.iv
  let e1 := if 0 < e.iv ∧ next ≤ 1099511627776 then { e with at_ := next } else e.rest
  { e1 with out := true, cnt := min (e.cnt + (if e.out then k else k - 1)) 32767 }
def TE.dueW (e : TE) (now : Int) (i : Int) (h : HS) : HS := if 0 < e.iv ∧ e.at_ + e.often now * e.iv ≤ 1099511627776 then h.setS i (e.at_ + e.often now * e.iv) else h
/-- One round of Due. -/
def TS.due1 (c now : Int) (p : TS × List Int) (id : Int) : TS × List Int := match p.1.L[id.toNat]? with
  | none => p
  | some e => (⟨p.1.n, p.1.L.set id.toNat (e.dueE now), updW p.1.W c (e.dueW now id (p.1.W c))⟩, if e.out then p.2 else p.2 ++ [id])
def TS.dueF (s : TS) (c now : Int) (l : List Int) : TS × List Int := l.foldl (TS.due1 c now) (⟨s.n, s.L, updW s.W c ((s.W c).dueS now)⟩, [])
def TS.dueS (s : TS) (c now : Int) : TS := if isC c ∧ okAt now then (s.dueF c now ((s.W c).dueL now)).1 else s
def TS.dueL (s : TS) (c now : Int) : List Int := if isC c ∧ okAt now then (s.dueF c now ((s.W c).dueL now)).2 else []

/-- What always holds. -/
structure TInv (s : TS) : Prop where
  n1 : 1 ≤ s.n
  n8 : s.n ≤ 8
  len : s.L.length = 8
  on : ∀ (i : Nat) e, s.L[i]? = some e → e.armed = true → i < s.n ∧ isC e.clock ∧ okAt e.at_ ∧ okAt e.iv
  off : ∀ (i : Nat) e, s.L[i]? = some e → e.armed = false → e.clock = 0 ∧ e.at_ = 0 ∧ e.iv = 0
  num : ∀ (i : Nat) e, s.L[i]? = some e → 0 ≤ e.cnt ∧ e.cnt ≤ 32767 ∧ 0 ≤ e.ovr ∧ e.ovr ≤ 32767
  wh : ∀ c, isC c → HInv (s.W c)
  has : ∀ c, isC c → ∀ x ∈ (s.W c).M, ∃ (i : Nat) (e : TE), x.1 = (i : Int) ∧ s.L[i]? = some e ∧ e.armed = true ∧ e.clock = c ∧ e.at_ = x.2.1
  arm : ∀ (i : Nat) e, s.L[i]? = some e → e.armed = true → ∃ x ∈ (s.W e.clock).M, x.1 = (i : Int)

/-! ### Cells -/
def TE.cells (e : TE) : List Value := [.bool e.armed, .int .i64 e.clock, .int .i64 e.at_, .int .i64 e.iv, .bool e.out, .int .i64 e.cnt, .int .i64 e.ovr]
theorem TE.cells_len (e : TE) : e.cells.length = 7 := rfl
def flatT (L : List TE) : List Value := L.flatMap TE.cells
theorem flatT_len (L : List TE) : (flatT L).length = L.length * 7 := by
  induction L with
  | nil => rfl
  | cons e L ih => unfold flatT at *; rw [List.flatMap_cons, List.length_append, ih, TE.cells_len, List.length_cons]; omega
theorem flatT_get {L : List TE} {i : Nat} {e : TE} (h : L[i]? = some e) {f : Nat} (hf : f < 7) : (flatT L)[i * 7 + f]? = e.cells[f]? := by
  induction L generalizing i with
  | nil => simp at h
  | cons x L ih =>
    unfold flatT at *
    rw [List.flatMap_cons]
    cases i with
    | zero =>
      simp at h
      subst h
      rw [List.getElem?_append_left (by rw [TE.cells_len]; omega), Nat.zero_mul, Nat.zero_add]
    | succ i =>
      simp only [List.getElem?_cons_succ] at h
      rw [List.getElem?_append_right (by rw [TE.cells_len]; omega), TE.cells_len, ← ih h]
      congr 1
      omega
theorem flatT_set {L : List TE} {i : Nat} {e e' : TE} (h : L[i]? = some e) {f : Nat} (hf : f < 7) {v : Value} (hv : e.cells.set f v = e'.cells) : (flatT L).set (i * 7 + f) v = flatT (L.set i e') := by
  induction L generalizing i with
  | nil => simp at h
  | cons x L ih =>
    unfold flatT at *
    rw [List.flatMap_cons]
    cases i with
    | zero =>
      simp at h
      subst h
      rw [Nat.zero_mul, Nat.zero_add, List.set_append_left _ _ (by rw [TE.cells_len]; exact hf), hv, List.set_cons_zero, List.flatMap_cons]
    | succ i =>
      simp only [List.getElem?_cons_succ] at h
      rw [List.set_append_right _ _ (by rw [TE.cells_len]; omega), TE.cells_len, List.set_cons_succ, List.flatMap_cons, ← ih h]
      congr 2
      omega
def tcl (n : Int) (b0 b1 : Nat) (L : List TE) : Array Value := (.int .i64 n :: .pointer (some ⟨b0, 0, none⟩) :: .pointer (some ⟨b1, 0, none⟩) :: flatT L).toArray
theorem tcl_get {n : Int} {b0 b1 : Nat} {L : List TE} {i : Nat} {e : TE} (h : L[i]? = some e) {f : Nat} (hf : f < 7) : (tcl n b0 b1 L)[3 + i * 7 + f]? = e.cells[f]? := by
  unfold tcl
  rw [List.getElem?_toArray, show 3 + i * 7 + f = (i * 7 + f) + 1 + 1 + 1 by omega, List.getElem?_cons_succ, List.getElem?_cons_succ, List.getElem?_cons_succ, flatT_get h hf]
theorem tcl_set {n : Int} {b0 b1 : Nat} {L : List TE} {i : Nat} {e e' : TE} (h : L[i]? = some e) {f : Nat} (hf : f < 7) {v : Value} (hv : e.cells.set f v = e'.cells) :
    (tcl n b0 b1 L).setIfInBounds (3 + i * 7 + f) v = tcl n b0 b1 (L.set i e') := by
  unfold tcl
  rw [List.setIfInBounds_toArray, show 3 + i * 7 + f = (i * 7 + f) + 1 + 1 + 1 by omega, List.set_cons_succ, List.set_cons_succ, List.set_cons_succ, flatT_set h hf hv]

end Go.Proofs.Ytonahpilmchnkaa
