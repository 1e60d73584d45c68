
/- Timers in memory; who may be asked. -/
import Derived.Test.YtonahpilmchnkaaJspec
import Derived.BigQuiet
namespace Go.Proofs.Ytonahpilmchnkaa
open Go.RowKit

structure TAt (w : World) (b : Nat) (bs : Int → Nat) (vs : Int → List Value) (s : TS) : Prop where
  head : w.heap[b]? = some (.cells (tcl s.n (bs 0) (bs 1) s.L) 59 (0, 0))
  n1 : 1 ≤ s.n
  n8 : s.n ≤ 8
  len : s.L.length = 8
  wh : ∀ c, isC c → HAt w (bs c) (vs c) (s.W c)
  sep : ∀ x ∈ blocksH (bs 0) (vs 0), x ∉ blocksH (bs 1) (vs 1)
def blocksT (b : Nat) (bs : Int → Nat) (vs : Int → List Value) : List Nat := b :: (blocksH (bs 0) (vs 0) ++ blocksH (bs 1) (vs 1))
theorem mem_blocksT {b x : Nat} {bs : Int → Nat} {vs : Int → List Value} : x ∈ blocksT b bs vs ↔ x = b ∨ ∃ c, isC c ∧ x ∈ blocksH (bs c) (vs c) := by
  unfold blocksT
  rw [List.mem_cons, List.mem_append]
  constructor
  · rintro (h | h | h)
    · exact .inl h
    · exact .inr ⟨0, .inl rfl, h⟩
    · exact .inr ⟨1, .inr rfl, h⟩
  · rintro (h | ⟨c, rfl | rfl, h⟩)
    · exact .inl h
    · exact .inr (.inl h)
    · exact .inr (.inr h)
theorem TAt.nb {w : World} {b : Nat} {bs : Int → Nat} {vs : Int → List Value} {s : TS} (h : TAt w b bs vs s) {c : Int} (hc : isC c) : b ∉ blocksH (bs c) (vs c) := fun hm => by
  have hA := h.wh c hc
  have hb := h.head
  rcases mem_blocks.1 hm with e | ⟨k, v, hk, hx⟩
  · rw [e, hA.head] at hb
    injection hb with hb
    injection hb with _ h2 _
    exact absurd h2 (by decide)
  · obtain ⟨cs, hcs⟩ := own_cellsH (hA.own k v hk) b hx
    rw [hcs] at hb
    injection hb with hb
    injection hb with _ h2 _
    exact absurd h2 (by decide)
theorem TAt.sepc {w : World} {b : Nat} {bs : Int → Nat} {vs : Int → List Value} {s : TS} (h : TAt w b bs vs s) {c k : Int} (hc : isC c) (hk : isC k) (hn : k ≠ c) : ∀ x ∈ blocksH (bs c) (vs c), x ∉ blocksH (bs k) (vs k) := fun x hx hm => by
  rcases hc with rfl | rfl <;> rcases hk with rfl | rfl
  · exact hn rfl
  · exact h.sep x hx hm
  · exact h.sep x hm hx
  · exact hn rfl
theorem TAt.lt {w : World} {b : Nat} {bs : Int → Nat} {vs : Int → List Value} {s : TS} (h : TAt w b bs vs s) : ∀ x ∈ blocksT b bs vs, x < w.heap.size := fun x hx => by
  rcases mem_blocksT.1 hx with rfl | ⟨c, hc, hm⟩
  · exact lt_of_blk h.head
  · exact (h.wh c hc).lt x hm
theorem TAt.kept {S : List Nat} {w w' : World} {b : Nat} {bs : Int → Nat} {vs : Int → List Value} {s : TS} (h : TAt w b bs vs s) (hC : Chg S w w') (hS : ∀ x ∈ S, x ∉ blocksT b bs vs) : TAt w' b bs vs s :=
  ⟨hC.blk h.head (fun hm => hS _ hm (mem_blocksT.2 (.inl rfl))), h.n1, h.n8, h.len, fun c hc => (h.wh c hc).kept hC (fun x hx hm => hS x hx (mem_blocksT.2 (.inr ⟨c, hc, hm⟩))), h.sep⟩
theorem TAt.calm {w w' : World} {b : Nat} {bs : Int → Nat} {vs : Int → List Value} {s : TS} (h : TAt w b bs vs s) (hC : Chg [] w w') : TAt w' b bs vs s := h.kept hC (by simp)
/-- One cell of an entry. -/
theorem TAt.put {w : World} {b : Nat} {bs : Int → Nat} {vs : Int → List Value} {s : TS} (h : TAt w b bs vs s) {i : Nat} {e e' : TE} (he : s.L[i]? = some e) {f : Nat} (hf : f < 7) {v : Value} (hv : e.cells.set f v = e'.cells) :
    TAt (w.setCell ⟨b, 3 + i * 7 + f, none⟩ v) b bs vs ⟨s.n, s.L.set i e', s.W⟩ := by
  have hC : Chg [b] w (w.setCell ⟨b, 3 + i * 7 + f, none⟩ v) := (Chg.refl _ _).setCell _ _ (by simp)
  refine ⟨?_, h.n1, h.n8, by rw [List.length_set]; exact h.len, fun c hc => (h.wh c hc).kept hC (fun x hx => by simp at hx; subst hx; exact h.nb hc), h.sep⟩
  have := blk_setCell (i := 3 + i * 7 + f) h.head v
  rw [this, tcl_set he hf hv]
theorem TAt.entry {w : World} {b : Nat} {bs : Int → Nat} {vs : Int → List Value} {s : TS} (h : TAt w b bs vs s) {i : Nat} {e : TE} (he : s.L[i]? = some e) {f : Nat} (hf : f < 7) {v : Value} (hv : e.cells[f]? = some v) : w.cell? ⟨b, 3 + i * 7 + f, none⟩ = some v :=
  cellB h.head (by rw [tcl_get he hf]; exact hv)
theorem TAt.cn {w : World} {b : Nat} {bs : Int → Nat} {vs : Int → List Value} {s : TS} (h : TAt w b bs vs s) : w.cell? ⟨b, 0, none⟩ = some (.int .i64 s.n) := cellB h.head rfl
theorem TAt.cw {w : World} {b : Nat} {bs : Int → Nat} {vs : Int → List Value} {s : TS} (h : TAt w b bs vs s) {k : Nat} (hk : k < 2) : w.cell? ⟨b, 1 + k, none⟩ = some (.pointer (some ⟨bs k, 0, none⟩)) := by
  refine cellB h.head ?_
  rcases k with _ | _ | k
  · rfl
  · rfl
  · omega
/-- Something is done to one wheel. -/
def NextT (b : Nat) (bs : Int → Nat) (vs : Int → List Value) (s' : TS) (w w' : World) : Prop :=
  ∃ vs', TAt w' b bs vs' s' ∧ Chg (blocksT b bs vs) w w' ∧ (∀ x ∈ blocksT b bs vs', x ∈ blocksT b bs vs ∨ w.heap.size ≤ x)
theorem NextT.refl {w : World} {b : Nat} {bs : Int → Nat} {vs : Int → List Value} {s : TS} (h : TAt w b bs vs s) : NextT b bs vs s w w := ⟨vs, h, Chg.refl _ _, fun _ hx => .inl hx⟩
theorem TAt.wheelx {w w' : World} {b : Nat} {bs : Int → Nat} {vs : Int → List Value} {s : TS} (h : TAt w b bs vs s) {c : Int} (hc : isC c) {x : HS} {us : List Value} (hA : HAt w' (bs c) us x) (hC : Chg (blocksH (bs c) (vs c)) w w') (hB : ∀ y ∈ blocksH (bs c) us, y ∈ blocksH (bs c) (vs c) ∨ w.heap.size ≤ y) :
    TAt w' b bs (fun k => if k = c then us else vs k) ⟨s.n, s.L, updW s.W c x⟩ ∧ Chg (blocksT b bs vs) w w' ∧ (∀ y ∈ blocksT b bs (fun k => if k = c then us else vs k), y ∈ blocksT b bs vs ∨ w.heap.size ≤ y) := by
  refine ⟨⟨hC.blk h.head (h.nb hc), h.n1, h.n8, h.len, fun k hk => ?_, ?_⟩, hC.mono (fun y hy => .inl (mem_blocksT.2 (.inr ⟨c, hc, hy⟩))), fun y hy => ?_⟩
  · by_cases e : k = c
    · subst e
      show HAt w' (bs k) (if k = k then us else vs k) (updW s.W k x k)
      rw [if_pos rfl, updW_same]
      exact hA
    · show HAt w' (bs k) (if k = c then us else vs k) (updW s.W c x k)
      rw [if_neg e, updW_other e]
      exact (h.wh k hk).kept hC (h.sepc hc hk e)
  · intro y hy hm
    have key : ∀ k, isC k → k ≠ c → ∀ z ∈ blocksH (bs c) us, z ∉ blocksH (bs k) (vs k) := fun k hk hne z hz hmz => by
      rcases hB z hz with h1 | h1
      · exact h.sepc hc hk hne z h1 hmz
      · have := (h.wh k hk).lt z hmz
        omega
    rcases hc with rfl | rfl
    · rw [if_pos rfl] at hy
      rw [if_neg (by decide)] at hm
      exact key 1 (.inr rfl) (by decide) y hy hm
    · rw [if_neg (by decide)] at hy
      rw [if_pos rfl] at hm
      exact key 0 (.inl rfl) (by decide) y hm hy
  · rcases mem_blocksT.1 hy with e | ⟨k, hk, hm⟩
    · exact .inl (mem_blocksT.2 (.inl e))
    · by_cases e : k = c
      · subst e
        rw [if_pos rfl] at hm
        exact (hB y hm).imp (fun h1 => mem_blocksT.2 (.inr ⟨k, hk, h1⟩)) (fun h1 => h1)
      · rw [if_neg e] at hm
        exact .inl (mem_blocksT.2 (.inr ⟨k, hk, hm⟩))
theorem TAt.wheel {w w' : World} {b : Nat} {bs : Int → Nat} {vs : Int → List Value} {s : TS} (h : TAt w b bs vs s) {c : Int} (hc : isC c) {x : HS} {us : List Value} (hA : HAt w' (bs c) us x) (hC : Chg (blocksH (bs c) (vs c)) w w') (hB : ∀ y ∈ blocksH (bs c) us, y ∈ blocksH (bs c) (vs c) ∨ w.heap.size ≤ y) :
    NextT b bs vs ⟨s.n, s.L, updW s.W c x⟩ w w' := ⟨_, h.wheelx hc hA hC hB⟩
theorem mem_upd {b : Nat} {bs : Int → Nat} {vs : Int → List Value} {c : Int} {us : List Value} {x : Nat} (h : x ∈ blocksT b bs (fun k => if k = c then us else vs k)) : x ∈ blocksH (bs c) us ∨ x ∈ blocksT b bs vs := by
  rcases mem_blocksT.1 h with e | ⟨k, hk, hm⟩
  · exact .inr (mem_blocksT.2 (.inl e))
  · by_cases e : k = c
    · subst e
      rw [if_pos rfl] at hm
      exact .inl hm
    · rw [if_neg e] at hm
      exact .inr (mem_blocksT.2 (.inr ⟨k, hk, hm⟩))
theorem NextT.trans {w w1 w2 : World} {b : Nat} {bs : Int → Nat} {vs : Int → List Value} {vs1 : Int → List Value} {s2 : TS} (hC : Chg (blocksT b bs vs) w w1) (hB : ∀ x ∈ blocksT b bs vs1, x ∈ blocksT b bs vs ∨ w.heap.size ≤ x) (h2 : NextT b bs vs1 s2 w1 w2) : NextT b bs vs s2 w w2 := by
  obtain ⟨vs2, hA, hC2, hB2⟩ := h2
  refine ⟨vs2, hA, hC.trans' hC2 hB, fun x hx => ?_⟩
  rcases hB2 x hx with h1 | h1
  · exact hB x h1
  · exact .inr (Nat.le_trans hC.size h1)
theorem NextT.put {w w1 : World} {b : Nat} {bs : Int → Nat} {vs : Int → List Value} {s : TS} (h : NextT b bs vs s w w1) {i : Nat} {e e' : TE} (he : s.L[i]? = some e) {f : Nat} (hf : f < 7) {v : Value} (hv : e.cells.set f v = e'.cells) :
    NextT b bs vs ⟨s.n, s.L.set i e', s.W⟩ w (w1.setCell ⟨b, 3 + i * 7 + f, none⟩ v) := by
  obtain ⟨vs1, hA, hC, hB⟩ := h
  exact NextT.trans hC hB ⟨vs1, hA.put he hf hv, (Chg.refl _ _).setCell _ _ (.inl (mem_blocksT.2 (.inl rfl))), fun _ hx => .inl hx⟩

theorem ptimec (t : Int) (w : World) : Calls Try.prog 26 #[.int .i64 t] w fun e w' => e = .returned (.bool (decide (okAt t))) ∧ w' = w := by
  by_cases h1 : 0 ≤ t
  · by_cases h2 : t ≤ 1099511627776
    · have d1 : decide (0 ≤ t) = true := by simpa using h1
      have d2 : decide (t ≤ 1099511627776) = true := by simpa using h2
      rw [show decide (okAt t) = true from decide_eq_true ⟨h1, h2⟩]
      clear h1 h2
      go_enter Try.func26, Try.ntmps26
      go_wp2
      go_ret
      exact ⟨rfl, rfl⟩
    · have d1 : decide (0 ≤ t) = true := by simpa using h1
      have d2 : decide (t ≤ 1099511627776) = false := by simpa using h2
      rw [show decide (okAt t) = false from decide_eq_false (fun h => h2 h.2)]
      clear h1 h2
      go_enter Try.func26, Try.ntmps26
      go_wp2
      go_ret
      exact ⟨rfl, rfl⟩
  · have d1 : decide (0 ≤ t) = false := by simpa using h1
    rw [show decide (okAt t) = false from decide_eq_false (fun h => h1 h.1)]
    clear h1
    go_enter Try.func26, Try.ntmps26
    go_wp2
    go_ret
    exact ⟨rfl, rfl⟩
theorem pisc (b : Nat) (bs : Int → Nat) (vs : Int → List Value) (s : TS) (w : World) (h : TAt w b bs vs s) : Calls Try.prog 28 #[.pointer (some ⟨b, 0, none⟩)] w fun e w' => e = .returned (.bool true) ∧ w' = w := by
  have c0 := h.cn
  have h1 := h.n1
  have d1 : decide ((0 : Int) < (s.n : Int)) = true := by simp; omega
  have d2 : decide (0 < s.n) = true := by simp; omega
  obtain ⟨n, hn⟩ : ∃ n, n = s.n := ⟨_, rfl⟩
  rw [← hn] at c0 d1 d2
  clear h h1 hn
  go_enter Try.func28, Try.ntmps28
  go_wp2
  go_ret
  exact ⟨by first | rfl | (simp only [d2]; rfl) | (simp [d2]), rfl⟩
theorem pinc (b : Nat) (bs : Int → Nat) (vs : Int → List Value) (s : TS) (id : Int) (w : World) (h : TAt w b bs vs s) : Calls Try.prog 31 #[.pointer (some ⟨b, 0, none⟩), .int .i64 id] w fun e w' => e = .returned (.bool (decide (inT s id))) ∧ w' = w := by
  have c0 := h.cn
  unfold inT
  obtain ⟨n, hn⟩ : ∃ n, n = s.n := ⟨_, rfl⟩
  rw [← hn] at c0
  rw [show (decide (0 ≤ id ∧ id < (s.n : Int))) = decide (0 ≤ id ∧ id < (n : Int)) from by rw [hn]]
  clear h hn
  by_cases h1 : 0 ≤ id
  · have d1 : decide (0 ≤ id) = true := by simpa using h1
    obtain ⟨B, hB⟩ : ∃ B, B = decide (id < (n : Int)) := ⟨_, rfl⟩
    have e : decide (0 ≤ id ∧ id < (n : Int)) = B := by rw [hB]; simp [h1]
    rw [e]
    have d2 := hB.symm
    clear h1 hB e
    go_enter Try.func31, Try.ntmps31
    go_wp2
    go_ret
    exact ⟨rfl, rfl⟩
  · have d1 : decide (0 ≤ id) = false := by simpa using h1
    have e : decide (0 ≤ id ∧ id < (n : Int)) = false := decide_eq_false (fun h => h1 h.1)
    rw [e]
    clear h1 e
    go_enter Try.func31, Try.ntmps31
    go_wp2
    go_ret
    exact ⟨rfl, rfl⟩
theorem pmayc (b : Nat) (bs : Int → Nat) (vs : Int → List Value) (s : TS) (id : Int) (ok : Bool) (w : World) (h : TAt w b bs vs s) :
    Calls Try.prog 25 #[.pointer (some ⟨b, 0, none⟩), .int .i64 id, .bool ok] w fun e w' => e = .returned (.int .i64 (if inT s id ∧ ok = true then 0 else 2)) ∧ w' = w := by
  have HI := Lib.hid (pisc b bs vs s w h)
  have HN := Lib.hid (pinc b bs vs s id w h)
  clear h
  by_cases h1 : inT s id
  · rw [show decide (inT s id) = true from decide_eq_true h1] at HN
    cases ok
    · rw [if_neg (by simp)]
      clear h1
      go_enter Try.func25, Try.ntmps25
      go_wp2_with (go_at_call 28; refine HI.out.mono ?_; rintro e w' ⟨rfl, rfl⟩)
      go_wp2_with (go_at_call 31; refine HN.out.mono ?_; rintro e w' ⟨rfl, rfl⟩)
      go_wp2
      go_ret
      exact ⟨rfl, rfl⟩
    · rw [if_pos ⟨h1, rfl⟩]
      clear h1
      go_enter Try.func25, Try.ntmps25
      go_wp2_with (go_at_call 28; refine HI.out.mono ?_; rintro e w' ⟨rfl, rfl⟩)
      go_wp2_with (go_at_call 31; refine HN.out.mono ?_; rintro e w' ⟨rfl, rfl⟩)
      go_wp2
      go_ret
      exact ⟨rfl, rfl⟩
  · rw [show decide (inT s id) = false from decide_eq_false h1] at HN
    rw [if_neg (fun h => h1 h.1)]
    clear h1
    go_enter Try.func25, Try.ntmps25
    go_wp2_with (go_at_call 28; refine HI.out.mono ?_; rintro e w' ⟨rfl, rfl⟩)
    go_wp2_with (go_at_call 31; refine HN.out.mono ?_; rintro e w' ⟨rfl, rfl⟩)
    go_wp2
    go_ret
    exact ⟨rfl, rfl⟩

end Go.Proofs.Ytonahpilmchnkaa
