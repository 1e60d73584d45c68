
/- A region that draws its order, in the body of a range over a function: what holds of it outside a round holds of it there, if nothing is deferred in it. No program in sight. -/
import Derived.RangeFuncCalls
import Derived.Deep.RegionHeld
import Derived.OrdersIn
namespace Go.Proofs.YtiiafhlckmkcnaaGreat
open Go

section
variable {P : Program} {Q : Exit → Act → World → Prop} {l n : Nat}
theorem stepsIn_round {m m' : Machine} : StepsIn (Machine.fenced P (Fence.wide.inRound l)) P m m' ↔ Steps P m m' := by
  rw [fenced_inRound]
  exact stepsIn_wide
theorem rowsIn_round {row : String} {args : Array Value} {w : World} {R : Value → World → Prop} (h : Rows P row args w R) : RowsIn (Fence.wide.inRound l) n P row args w R := fun c cs _ => by
  obtain ⟨v, w', r, s⟩ := h c cs
  exact ⟨v, w', r, stepsIn_round.2 s⟩
theorem oper_round {o : Oper} {a : Act} {w : World} {K : Act → World → Prop} (hd : ∀ c, o.op ≠ .defer c) (h : o.wp P a w K Q) : o.wpIn (Fence.wide.inRound l) n P a w K Q := by
  unfold Oper.wpIn
  refine ⟨fun _ _ => trivial, ?_⟩
  rw [Oper.semAt_eq _ _ _ hd]
  unfold Oper.wp at h
  generalize (execOp a.eval o).run P w = r at *
  cases r with
  | ok x w' =>
    cases x <;> simp only [Oper.upon] at h <;> simp only [Oper.uponIn]
    case value v => exact h
    case skip => exact h
    case defer d => exact h
    case enter f args => exact ⟨fun e => (by cases e), (CallsIn.inRound l (callsIn_wide.2 h)).mono fun e w'' he => (by cases e <;> exact he)⟩
    case row row args => exact ⟨fun e => (by cases e), rowsIn_round h⟩
  | halt x w' =>
    cases x <;> simp only [Oper.upon] at h <;> simp only [Oper.uponIn]
    case panic v => exact h
def noDeferB (ops : Array Oper) : Bool := ops.all fun o => match o.op with | .defer _ => false | _ => true
theorem noDefer {ops : Array Oper} (h : noDeferB ops = true) {j : Nat} {o : Oper} (hj : ops[j]? = some o) : ∀ c, o.op ≠ .defer c := by
  intro c e
  unfold noDeferB at h
  obtain ⟨h1, h2⟩ := Array.getElem?_eq_some_iff.1 hj
  have := (Array.all_eq_true.1 h) j h1
  rw [h2, e] at this
  cases this
theorem opIn_round {ops : Array Oper} (hL : ¬ LetsOut Q) (hd : noDeferB ops = true) {i : Nat} {K : Act → World → Prop} {a : Act} {w : World} (h : wpOp P ops Q i K a w) : wpOpIn (Fence.wide.inRound l) n P ops Q i K a w := by
  unfold wpOp at h
  unfold wpOpIn
  cases ho : ops[i]? with
  | none => simpa [ho] using h
  | some o =>
    simp only [ho] at h ⊢
    split
    · rename_i hw
      simp only [hw, if_true] at h
      rcases h with h | ⟨_, h⟩
      · exact oper_round (noDefer hd ho) h
      · exact absurd h hL
    · rename_i hw
      simp only [hw] at h
      exact ⟨fun _ _ => trivial, h⟩
theorem anyIn_round {ops : Array Oper} {md : Region.Mode} {S : World → Prop} (hL : ¬ LetsOut Q) (hd : noDeferB ops = true) : ∀ (fuel : Nat) (listed : Array Bool) (a : Act) (w : World), wpAnyH P md ops Q S fuel listed a w → wpAnyIn (Fence.wide.inRound l) n P md ops Q fuel listed a w
  | 0, _, _, _, h => h
  | fuel + 1, _, _, _, h => ⟨h.1, fun i hi => opIn_round hL hd (wpOp_mono (fun a' w' h' => anyIn_round hL hd fuel _ a' w' h'.2) (h.2 i hi))⟩
theorem region_round {ops : Array Oper} {S : World → Prop} {id : Nat} {a : Act} {w : World} (hm : P.follows .mixedOrders = true) (hL : ¬ LetsOut Q) (hd : noDeferB ops = true) (hS : S w.drew)
    (h : S w.drew → wpAnyH P .any ops Q S ops.size (Array.replicate ops.size false) a w.drew) : (Code.region id ops true).wpIn (Fence.wide.inRound l) n P Q a w :=
  wpIn_region_any hm (anyIn_round hL hd _ _ _ _ (h hS))
end
end Go.Proofs.YtiiafhlckmkcnaaGreat
