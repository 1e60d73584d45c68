
/- Queues of messages, the plain side: room, messages, who waits to send (with what), to receive. No program in sight. -/
import Derived.Test.YtiiafhlckmkcnaaKlaw
import Derived.Test.YtiiafhlckmkcnaaUord
namespace Go.Proofs.Ytiiafhlckmkcnaa

/-! ### a queue -/
structure QS where
  room : Int
  L : WL
  S : WL
  R : WL
  M : WL

def QS.ord (s : QS) : WL := ordM s.L
/-- What thread t sends. -/
def mAt (M : WL) (t : Int) : Int × Int := if 0 ≤ t then M.getD t.toNat (0, 0) else (0, 0)
def QS.is (s : QS) (t : Int) : Bool := hasR s.S t || hasR s.R t
def tpB (t p : Int) : Bool := decide (0 ≤ t) && decide (t < 16) && (decide (1 ≤ p) && decide (p ≤ 31))
def mB (q : Int) : Bool := decide (0 ≤ q) && decide (q ≤ 31)
/-- Why a thread that wants to send, to receive, is refused; one that waits, to leave, to change. -/
def QS.askE (s : QS) (t p q : Int) (waits : Bool) : Int :=
  if tpB t p = true ∧ mB q = true then (if s.is t = true then (if waits = true then 0 else 7) else (if waits = true then 6 else 0)) else 2
def QS.full (s : QS) : Bool := decide ((s.L.length : Int) = s.room)

structure PD where
  done : Bool
  v : Int
  p : Int
  other : Int
def pd0 : PD := ⟨false, 0, 0, 0⟩

/-- Send. -/
def QS.sendS (s : QS) (t p : Int) (m : Int × Int) : QS :=
  if s.askE t p m.2 false = 0 then
    (if headB (ordL s.R) = true then { s with R := takeL s.R }
     else if s.full = true then { s with S := putL s.S t p, M := s.M.set t.toNat m }
     else { s with L := s.L ++ [m] })
  else s
def QS.sendP (s : QS) (t p : Int) (m : Int × Int) : PD :=
  if s.askE t p m.2 false = 0 then
    (if headB (ordL s.R) = true then ⟨true, m.1, m.2, headT (ordL s.R)⟩
     else if s.full = true then ⟨false, m.1, m.2, -1⟩ else ⟨true, m.1, m.2, -1⟩)
  else pd0

/-- Receive. -/
def QS.rcv1 (s : QS) : QS :=
  match s.ord with
  | [] => s
  | x :: _ => if headB (ordL s.S) = true then { s with L := delM s.L x.2 ++ [mAt s.M (headT (ordL s.S))], S := takeL s.S } else { s with L := delM s.L x.2 }
def QS.rcvS (s : QS) (t p : Int) : QS :=
  if s.askE t p 0 false = 0 then (match s.ord with | [] => { s with R := putL s.R t p } | _ :: _ => s.rcv1) else s
def QS.rcvP (s : QS) (t p : Int) : PD :=
  if s.askE t p 0 false = 0 then
    (match s.ord with | [] => ⟨false, 0, 0, -1⟩ | x :: _ => ⟨true, x.1, x.2, if headB (ordL s.S) = true then headT (ordL s.S) else -1⟩)
  else pd0

/-- Leave, Change. -/
def QS.lvS (s : QS) (t : Int) : QS := if s.askE t 1 0 true = 0 then (if hasR s.S t = true then { s with S := lvL s.S t } else { s with R := lvL s.R t }) else s
def QS.chS (s : QS) (t p : Int) : QS := if s.askE t p 0 true = 0 then (if hasR s.S t = true then { s with S := chgL s.S t p } else { s with R := chgL s.R t p }) else s

def qnew (room : Int) : QS := ⟨room, [], [], [], List.replicate 16 (0, 0)⟩
def roomB (room : Int) : Bool := decide (1 ≤ room) && decide (room ≤ 32)

/-- What always holds of a queue. -/
structure QInv (s : QS) : Prop where
  room : 1 ≤ s.room ∧ s.room ≤ 32
  few : (s.L.length : Int) ≤ s.room
  msg : MsgOk s.L
  ls : ListOk s.S
  lr : ListOk s.R
  len : s.M.length = 16
  held : ∀ t, 0 ≤ (mAt s.M t).2 ∧ (mAt s.M t).2 ≤ 31

theorem tpB_iff {t p : Int} : tpB t p = true ↔ okT t ∧ okP p := by unfold tpB okT okP; simp [and_assoc]
theorem mB_iff {q : Int} : mB q = true ↔ 0 ≤ q ∧ q ≤ 31 := by unfold mB; simp
theorem askE_ok {s : QS} {t p q : Int} (h : s.askE t p q false = 0) : okT t ∧ okP p ∧ (0 ≤ q ∧ q ≤ 31) ∧ s.is t = false := by
  unfold QS.askE at h
  split at h
  · rename_i h1
    cases hi : s.is t with
    | true => simp [hi] at h
    | false => exact ⟨(tpB_iff.1 h1.1).1, (tpB_iff.1 h1.1).2, mB_iff.1 h1.2, rfl⟩
  · omega
theorem askE_ok2 {s : QS} {t p q : Int} (h : s.askE t p q true = 0) : okT t ∧ okP p ∧ (0 ≤ q ∧ q ≤ 31) ∧ s.is t = true := by
  unfold QS.askE at h
  split at h
  · rename_i h1
    cases hi : s.is t with
    | false => simp [hi] at h
    | true => exact ⟨(tpB_iff.1 h1.1).1, (tpB_iff.1 h1.1).2, mB_iff.1 h1.2, rfl⟩
  · omega
theorem mAt_set {M : WL} {t a : Int} {m : Int × Int} (ht : okT t) (hl : M.length = 16) : mAt (M.set t.toNat m) a = if a = t then m else mAt M a := by
  unfold okT at ht
  unfold mAt
  by_cases h0 : 0 ≤ a
  · rw [if_pos h0, if_pos h0, List.getD_eq_getElem?_getD, List.getD_eq_getElem?_getD, List.getElem?_set]
    by_cases h : a = t
    · subst h
      rw [if_pos rfl, if_pos (by omega), if_pos rfl]
      rfl
    · rw [if_neg (by omega), if_neg h]
  · rw [if_neg h0, if_neg h0, if_neg (by omega)]
theorem ListOk.putL {L : WL} (h : ListOk L) (t p : Int) : ListOk (putL L t p) := by
  unfold Go.Proofs.Ytiiafhlckmkcnaa.putL
  split
  · rename_i ha
    unfold askR at ha
    split at ha
    · omega
    · rename_i h1
      cases hl : (L.lookup t).isSome with
      | true => simp [hl] at ha
      | false =>
        have hn : L.lookup t = none := by simpa using hl
        refine ⟨?_, fun x hx => ?_⟩
        · rw [List.map_append]
          refine List.nodup_append.2 ⟨h.nodup, by simp, ?_⟩
          intro a hm b hb e
          simp at hb
          subst hb
          subst e
          obtain ⟨x, hx, rfl⟩ := List.mem_map.1 hm
          have : hasR L x.1 = true := hasR_mem.2 ⟨x.2, hx⟩
          unfold hasR at this
          rw [hn] at this
          cases this
        · rcases List.mem_append.1 hx with h2 | h2
          · exact h.ok x h2
          · simp at h2
            subst h2
            unfold okT okP
            simp only
            omega
  · exact h

theorem mAt_rep (t : Int) : mAt (List.replicate 16 (0, 0)) t = (0, 0) := by
  unfold mAt
  split
  · rw [List.getD_eq_getElem?_getD, List.getElem?_replicate]
    split <;> rfl
  · rfl
theorem ListOk.nil : ListOk [] := ⟨List.nodup_nil, fun x hx => (by cases hx)⟩
theorem QInv.new {room : Int} (h : 1 ≤ room ∧ room ≤ 32) : QInv (qnew room) := by
  refine ⟨h, ?_, fun x hx => (by cases hx), ListOk.nil, ListOk.nil, by simp [qnew], fun t => ?_⟩
  · show ((0 : Nat) : Int) ≤ room
    omega
  · unfold qnew
    rw [mAt_rep]
    exact ⟨by decide, by decide⟩

end Go.Proofs.Ytiiafhlckmkcnaa
