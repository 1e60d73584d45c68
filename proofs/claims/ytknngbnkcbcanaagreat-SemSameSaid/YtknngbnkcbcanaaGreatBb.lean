
/- Package sem: barriers: New, Wait; metronomeref14: barriers. -/
import Derived.Test.YtknngbnkcbcanaaGreatBa
import Derived.Test.YtknngbnkcbcanaaGreatSR
namespace Go.Proofs.YtknngbnkcbcanaaGreat
open Go.RowKit

set_option maxRecDepth 100000 in
theorem bnewc (V : Int) (w : World) (h0 : 1 ≤ V) (h1 : V ≤ 16) : Calls Tryz.prog 6 #[.int .i64 V] w (BNewP V w) := by
  have d0 : decide (V < 1) = false := by simp; omega
  have d1 : decide (16 < V) = false := by simp; omega
  go_enter Tryz.func6, Tryz.ntmps6
  go_wp2_with fail
  refine (newc w).mono ?_
  rintro e w1 ⟨ab, mb, rfl, hab, hmb, hW, hC⟩
  have H := Lib.hid (And.intro hW (And.intro hC (And.intro hab hmb)))
  clear hW hC hab hmb
  go_wp2
  go_ret2
  have hC2 : Chg [] w1 (w1.alloc (.cells #[.pointer (some ⟨ab, 0, none⟩), .int .i64 V] 60)) := (Chg.refl _ _).alloc _
  exact ⟨w1.heap.size, ab, mb, rfl, H.out.2.1.size, H.out.2.2.1, H.out.2.2.2, ⟨heap_alloc_eq w1 _, H.out.1.kept hC2 (by simp) (by simp), okBar⟩, H.out.2.1.trans hC2⟩

set_option maxRecDepth 100000 in
theorem bnew_no (V : Int) (w : World) (h : V < 1 ∨ 16 < V) : Calls Tryz.prog 6 #[.int .i64 V] w fun e w' => e = .returned (.tuple #[.pointer none, .int .i64 2]) ∧ w = w' := by
  by_cases h0 : V < 1
  · have d0 : decide (V < 1) = true := by simpa using h0
    clear h h0
    go_enter Tryz.func6, Tryz.ntmps6
    go_wp2
    go_ret2
    exact ⟨rfl, rfl⟩
  · have d0 : decide (V < 1) = false := by simpa using h0
    have d1 : decide (16 < V) = true := by simp; omega
    clear h h0
    go_enter Tryz.func6, Tryz.ntmps6
    go_wp2
    go_ret2
    exact ⟨rfl, rfl⟩

set_option maxRecDepth 100000 in
set_option maxHeartbeats 1000000 in
theorem behindc (B : Nat) (v : Value) (ts : List Int) (t : Int) (w : World) (ho : w.ownsRow B 3 1 v ts.length (ts.map (Value.int .i64))) (hB : B ≤ w.heap.size) (hl : ts.length ≤ 1000) :
    Calls Tryz.prog 53 #[v, .slice (some ⟨w.heap.size, 0, none⟩) 1 1] (w.alloc (.cells #[.int .i64 t] 3)) fun e w' => ∃ v', e = .returned v' ∧ w'.ownsRow B 3 1 v' (ts.length + 1) ((ts ++ [t]).map (Value.int .i64)) ∧ Chg v.ownBlock.toList w w' := by
  obtain ⟨i0, hi, hz0, hz1, hz2⟩ := info_parts infoInt
  obtain ⟨va, vc, rfl⟩ := own_slice ho
  have HO := Lib.hid ho
  obtain ⟨n, hn⟩ : ∃ n, n = ts.length := ⟨_, rfl⟩
  rw [← hn] at HO ⊢ hl
  have hd1 : n + 1 ≤ maxLen := by unfold maxLen; omega
  have hd2 : (n + 1) * 8 ≤ 140737488355328 := by omega
  clear ho hn
  go_enter Tryz.func53, Tryz.ntmps53
  go_wp2_with (at_builtin; refine wpList_push rfl _ _ 77 rfl B 3 i0 (.int .i64 0) 1 8 Tryz.underlying77 hi hz0 hz1 hz2 rfl (by decide) (.slice va n vc) n _ rfl HO.out [.int .i64 t] rfl rfl (by simp [Value.oneCell']) hd1 hd2 hB ?_; intro v2 w2 ho2 hC2 hloc hnn; obtain ⟨va2, vc2, rfl⟩ := own_slice ho2)
  go_ret
  exact ⟨_, rfl, by rw [List.map_append]; exact ho2, hC2⟩

/-- What a barrier's Wait answers, and what it leaves. -/
def bwO (L : WL) (C t p : Int) : List Int := if askR L t p false = 0 ∧ (L.length : Int) = C - 1 then ordT L ++ [t] else []
def bwL (L : WL) (C t p : Int) : WL := if askR L t p false = 0 then (if (L.length : Int) = C - 1 then [] else L ++ [(t, p)]) else L

def BWaitP (T : TypeId) (cb ab mb : Nat) (N : Int) (L' : WL) (C : Int) (ts : List Int) (r : Int) (w : World) (e : Ending) (w' : World) : Prop :=
  ∃ v, e = .returned (.tuple #[v, .int .i64 r]) ∧ w'.ownsRow w.heap.size 3 1 v ts.length (ts.map (Value.int .i64)) ∧ PAt T w' cb ab mb N L' C ∧ Chg [cb, ab, mb] w w'

set_option maxRecDepth 100000 in
set_option maxHeartbeats 1000000 in
theorem bwaitc (cb ab mb : Nat) (N : Int) (L : WL) (C t p : Int) (w : World) (h : BAt w cb ab mb N L C) (hN : N < 4611686018427387000) (h0 : 1 ≤ C) (h1 : C ≤ 16) :
    Calls Tryz.prog 28 #[.pointer (some ⟨cb, 0, none⟩), .int .i64 t, .int .i64 p] w (BWaitP 60 cb ab mb (N + 2) (bwL L C t p) C (bwO L C t p) (askR L t p false) w) := by
  have hask := fun (W : World) (hW : WAt W ab mb N L) => saskc ab mb N L t p W hW (by omega)
  have hput := fun (W : World) (hW : WAt W ab mb (N + 1) L) => putc ab mb (N + 1) L t p W hW (by omega)
  have hpl : askR L t p false = 0 → putL L t p = L ++ [(t, p)] := fun h => by unfold putL; rw [if_pos h]
  have hlen : (ordT L).length ≤ 16 := by unfold ordT; rw [List.length_map, ordT_len h.list.lok]; exact h.list.facts.2.2
  have H := Lib.hid (And.intro h (And.intro h.ne (And.intro hlen h.lt)))
  have hll := h.list.facts.2.2
  clear h hlen
  unfold bwO bwL
  by_cases ha : askR L t p false = 0
  · rw [hpl ha] at hput
    rw [ha, if_pos rfl]
    rw [ha] at hask hput
    obtain ⟨n, hn⟩ : ∃ n : Int, n = (L.length : Int) := ⟨_, rfl⟩
    have hlen2 := fun (W : World) (hW : WAt W ab mb (N + 1) L) => lenc ab mb (N + 1) L W hW
    simp only [← hn] at hlen2
    rw [← hn]
    have hn16 : 0 ≤ n ∧ n ≤ 16 := by omega
    have HA := Lib.hid (And.intro hask (And.intro hput hlen2))
    clear hask hput hlen2 ha hpl hn hll
    by_cases hz : n = C - 1
    · rw [if_pos hz, if_pos (And.intro rfl hz)]
      have hb : (n == C - 1) = true := by simpa using hz
      clear hz
      go_enter Tryz.func28, Tryz.ntmps28
      go_wp2_with fail
      refine (bofc cb ab mb N L C w H.out.1).mono ?_
      rintro e w1 ⟨rfl, hC⟩
      have H1 := Lib.hid hC
      clear hC
      go_wp2_with fail
      refine (HA.out.1 w1 (H.out.1.calm H1.out).list).mono ?_
      rintro e w2 ⟨rfl, hW, hC⟩
      have H2 := Lib.hid (And.intro ((H.out.1.calm H1.out).step hW hC) ((H1.out.mono (by simp)).trans hC))
      have c1 := cellB H2.out.1.head (i := 1) rfl
      have HD := Lib.hid (H2.out.1.list.kept ((Chg.refl [] w2).drew) (by simp) (by simp))
      have hwr : IntKind.i64.wrap (C - 1) = C - 1 := by simp [IntKind.wrap, IntKind.signed, IntKind.bits]; omega
      clear hW hC
      go_wp2
      go_region_held3 (fun w' => w'.cell? ⟨cb, 1, none⟩ = some (.int .i64 C)) (first | exact c1)
        (first | (go_at_call 52; refine (HA.out.2.2 _ HD.out).mono ?_; rintro e w3 ⟨rfl, rfl⟩))
      clear hwr
      go_wp2_with fail
      refine (clearc ab mb (N + 1) L w2.drew HD.out).mono ?_
      rintro e w3 ⟨v3, rfl, ho, hW, hC⟩
      have hs : w.heap.size ≤ w2.heap.size := H2.out.2.size
      have hlt2 := H2.out.1.lt
      have H3 := Lib.hid (And.intro (own_mono ho (show w.heap.size ≤ w2.drew.heap.size from hs)) (And.intro hW (And.intro (show Chg [ab, mb] w2 w3 from ⟨hC.os, hC.tape, hC.output, hC.size, hC.block⟩) (own_ge ho))))
      have hs3 : w.heap.size ≤ w3.heap.size := Nat.le_trans hs hC.size
      clear ho hW hC hs
      go_wp2_with fail
      refine (behindc w.heap.size v3 (ordT L) t w3 H3.out.1 hs3 (by have := H.out.2.2.1; omega)).mono ?_
      rintro e w4 ⟨v4, rfl, ho, hC⟩
      have hge : ∀ k ∈ v3.ownBlock.toList, w2.heap.size ≤ k := H3.out.2.2.2
      have hL := H2.out.1.list.lt
      have H4 := Lib.hid (And.intro ho (And.intro ((H2.out.1.step H3.out.2.1 H3.out.2.2.1).kept hC (fun hm => by have := hge _ hm; omega) (fun hm => by have := hge _ hm; omega) (fun hm => by have := hge _ hm; omega)) ((H2.out.2.trans H3.out.2.2.1).trans' hC (fun k hk => .inr (by have := hge k hk; have := H2.out.2.size; omega)))))
      clear ho hC hge
      obtain ⟨va4, vc4, rfl⟩ := own_slice H4.out.1
      go_wp2
      go_ret2
      exact ⟨_, rfl, by rw [List.length_append]; exact H4.out.1, H4.out.2.1.mono (by omega), H4.out.2.2.mono (by simp)⟩
    · rw [if_neg hz, if_neg (fun h : _ ∧ _ => hz h.2)]
      have hb : (n == C - 1) = false := by simpa using hz
      clear hz
      go_enter Tryz.func28, Tryz.ntmps28
      go_wp2_with fail
      refine (bofc cb ab mb N L C w H.out.1).mono ?_
      rintro e w1 ⟨rfl, hC⟩
      have H1 := Lib.hid hC
      clear hC
      go_wp2_with fail
      refine (HA.out.1 w1 (H.out.1.calm H1.out).list).mono ?_
      rintro e w2 ⟨rfl, hW, hC⟩
      have H2 := Lib.hid (And.intro ((H.out.1.calm H1.out).step hW hC) ((H1.out.mono (by simp)).trans hC))
      have c1 := cellB H2.out.1.head (i := 1) rfl
      have HD := Lib.hid (H2.out.1.list.kept ((Chg.refl [] w2).drew) (by simp) (by simp))
      have hwr : IntKind.i64.wrap (C - 1) = C - 1 := by simp [IntKind.wrap, IntKind.signed, IntKind.bits]; omega
      clear hW hC
      go_wp2
      go_region_held3 (fun w' => w'.cell? ⟨cb, 1, none⟩ = some (.int .i64 C)) (first | exact c1)
        (first | (go_at_call 52; refine (HA.out.2.2 _ HD.out).mono ?_; rintro e w3 ⟨rfl, rfl⟩))
      clear hwr
      go_wp2_with fail
      refine (HA.out.2.1 w2.drew HD.out).mono ?_
      rintro e w3 ⟨rfl, hW, hC⟩
      have H3 := Lib.hid (And.intro hW (show Chg [ab, mb] w2 w3 from ⟨hC.os, hC.tape, hC.output, hC.size, hC.block⟩))
      clear hW hC
      go_wp2
      go_ret2
      exact ⟨_, rfl, World.ownsRow_nil .., by rw [show N + 2 = N + 1 + 1 by omega]; exact H2.out.1.step H3.out.1 H3.out.2, (H2.out.2.trans H3.out.2).mono (by simp)⟩
  · rw [if_neg ha, if_neg (fun h : _ ∧ _ => ha h.1)]
    obtain ⟨r, hr⟩ : ∃ r, r = askR L t p false := ⟨_, rfl⟩
    rw [← hr] at ha ⊢
    rw [← hr] at hask
    have hb : (r != 0) = true := by simpa using ha
    have HA := Lib.hid hask
    clear hask hput ha hpl hr hll
    go_enter Tryz.func28, Tryz.ntmps28
    go_wp2_with fail
    refine (bofc cb ab mb N L C w H.out.1).mono ?_
    rintro e w1 ⟨rfl, hC⟩
    have H1 := Lib.hid hC
    clear hC
    go_wp2_with fail
    refine (HA.out w1 (H.out.1.calm H1.out).list).mono ?_
    rintro e w2 ⟨rfl, hW, hC⟩
    have H2 := Lib.hid (And.intro ((H.out.1.calm H1.out).step hW hC) ((H1.out.mono (by simp)).trans hC))
    clear hW hC
    go_wp2
    go_ret2
    exact ⟨_, rfl, World.ownsRow_nil .., H2.out.1.mono (by omega), H2.out.2.mono (by simp)⟩

end Go.Proofs.YtknngbnkcbcanaaGreat
