
/- Package mqueue: where a message belongs: put's predicate, slices.IndexFunc, slices.Insert, slices.Delete at messages: contracts. -/
import Derived.Test.YtiiafhlckmkcnaaGreatUa
import Derived.Test.YtiiafhlckmkcnaaGreatJR
import Derived.Shelf.Abstract
import Derived.Lib.AppendZerosOnto
import Derived.Lib.Overlaps
import Derived.Laws.CopyRow
import Derived.Laws.Externs
import Derived.Laws.NewBlocks
namespace Go.Proofs.YtiiafhlckmkcnaaGreat
open Go.RowKit

theorem infoMessage : (Tryz.prog.info? 33).map (fun i => (i.zero, i.size, i.bytes)) = some (some (.agg #[.int .i64 0, .int .i64 0]), 2, 16) := by kernel_rfl

/-- put's predicate: a lower priority than that of the message in block bx. -/
def msgB (m : Int × Int) : Obj := .cells #[.int .i64 m.1, .int .i64 m.2] 33 (0, 0)
set_option maxRecDepth 100000 in
theorem put1c (m x : Int × Int) (bx : Nat) (W : World) (hb : W.heap[bx]? = some (msgB m)) :
    Calls Tryz.prog 74 #[msgV x, .pointer (some ⟨bx, 0, none⟩)] W fun e w' => e = .returned (.bool (decide (x.2 < m.2))) ∧ Chg [] W w' := by
  obtain ⟨m1, m2⟩ := m
  obtain ⟨x1, x2⟩ := x
  unfold msgV
  have c1 := cellB (i := 1) (v := .int .i64 m2) hb rfl
  have hlt := lt_of_blk hb
  clear hb
  go_enter Tryz.func74, Tryz.ntmps74
  go_wp2
  go_ret
  exact ⟨rfl, (Chg.refl _ _).alloc _⟩

/-- The first place of a lower priority; -1: none. -/
def idxM (p : Int) (l : WL) : Int := match l.findIdx? (fun x => decide (x.2 < p)) with | none => -1 | some i => i

set_option maxRecDepth 100000 in
set_option maxHeartbeats 1000000 in
theorem uidxc (m : Int × Int) (bx : Nat) (v : Value) (l : WL) (w : World) (hv : IsPairs w v l) (hb : w.heap[bx]? = some (msgB m)) (hl : l.length ≤ 1000000) :
    Calls Tryz.prog 73 #[v, .func (.func 74) #[] #[.pointer (some ⟨bx, 0, none⟩)]] w fun e w' => e = .returned (.int .i64 (idxM m.2 l)) ∧ Chg [] w w' := by
  have eg : ∀ args w, (callFunc 74 args).run Tryz.prog w = .ok (.enter 74 args) w := enters_of Tryz.func74 (by kernel_rfl) rfl
  obtain ⟨a, cap, rfl⟩ := hv.slice
  obtain ⟨n, hn⟩ : ∃ n, n = l.length := ⟨_, rfl⟩
  rw [← hn] at hl ⊢
  have HV := Lib.hid (And.intro hv (And.intro hb hn))
  clear hv hb hn
  go_enter Tryz.func73, Tryz.ntmps73
  go_wp2
  go_loopw [8] (fun s wr => ∃ k : Nat, k ≤ n ∧ s = .int .i64 k ∧ (∀ j x, j < k → l[j]? = some x → decide (x.2 < m.2) = false) ∧ Chg [] w wr) (fun s _ => n - (intOf s).toNat)
  case atStart => exact ⟨0, by omega, rfl, fun j x hj => absurd hj (by omega), Chg.refl _ _⟩
  case round =>
    obtain ⟨k, hk, rfl, hall, hC⟩ := hrel
    have HK := Lib.hid (And.intro hall hC)
    clear hall hC
    by_cases hlt : k < n
    · obtain ⟨x, hx⟩ : ∃ x, l[k]? = some x := ⟨_, List.getElem?_eq_getElem (by have := HV.out.2.2; omega)⟩
      have hne : l ≠ [] := fun e => by subst e; simp at hx
      obtain ⟨g0, o0, cap0, hsl, hd⟩ := HV.out.1.addr hne
      rw [← HV.out.2.2] at hsl
      cases hsl
      obtain ⟨d0, d1⟩ := hd k x hx
      have d0 := cell_kept' d0 HK.out.2 (by simp)
      have d1 := cell_kept' d1 HK.out.2 (by simp)
      obtain ⟨x1, x2⟩ := x
      have HX := Lib.hid hx
      clear hd hne hx
      go_wp2_with fail
      refine (put1c m (x1, x2) bx wr (HK.out.2.blk HV.out.2.1 (by simp))).mono ?_
      rintro e w2 ⟨rfl, hC⟩
      have H2 := Lib.hid (HK.out.2.trans hC)
      clear hC
      cases hpx : decide (x2 < m.2) with
      | true =>
        have hi : idxM m.2 l = k := by
          unfold idxM
          have : l.findIdx? (fun x => decide (x.2 < m.2)) = some k := by
            rw [List.findIdx?_eq_some_iff_getElem]
            have hkl : k < l.length := by have := HV.out.2.2; omega
            have hxk : l[k] = (x1, x2) := by
              have := HX.out
              rw [List.getElem?_eq_getElem hkl] at this
              exact Option.some.inj this
            refine ⟨hkl, by rw [hxk]; exact hpx, fun j hj => ?_⟩
            have := HK.out.1 j _ hj (List.getElem?_eq_getElem (by omega))
            simpa using this
          rw [this]
        have HI := Lib.hid hi
        clear hpx hi
        go_wp2
        go_ret
        exact ⟨by rw [HI.out]; rfl, H2.out⟩
      | false =>
        have HP := Lib.hid hpx
        clear hpx
        go_wp2
        go_roundw
        case rel => exact ⟨k + 1, by omega, by go_num, fun j x hj hx => by
          by_cases hjk : j < k
          · exact HK.out.1 j x hjk hx
          · have : j = k := by omega
            subst this
            rw [HX.out] at hx
            cases hx
            exact HP.out, H2.out⟩
        case measure => simp [intOf]; omega
    · have hkn : k = n := by omega
      subst hkn
      have hi : idxM m.2 l = -1 := by
        unfold idxM
        have : l.findIdx? (fun x => decide (x.2 < m.2)) = none := by
          rw [List.findIdx?_eq_none_iff]
          intro x hx
          obtain ⟨j, hj⟩ := List.getElem?_of_mem hx
          exact HK.out.1 j x (by obtain ⟨h1, _⟩ := List.getElem?_eq_some_iff.1 hj; have := HV.out.2.2; omega) hj
        rw [this]
      have HI := Lib.hid hi
      clear hi
      go_wp2
      go_ret
      exact ⟨by rw [HI.out]; rfl, HK.out.2⟩

section
variable (P : Program)
/-- copy at elements of several cells, into a row: all is read before anything is written. -/
theorem run_copy_rowN (w : World) (dT sT ty elem : TypeId) (g o dLen dCap : Nat) (a : Addr) (sLen sCap size n : Nat) (cur : Array Value) (t : TypeId) (cs : List Value)
    (hu : P.underlying dT = some (.slice elem)) (hs : (P.info? elem).map (·.size) = some size)
    (hg : w.heap[g]? = some (.cells cur t (0, 0))) (hn : n = Nat.min sLen dLen) (hl : cs.length = n * size)
    (hsrc : ∀ j v, cs[j]? = some v → w.cell? (a.add j) = some v) (hfit : o + cs.length ≤ cur.size) (h1 : ∀ v ∈ cs, v.oneCell' = true) :
    (Builtin.copy_ #[dT, sT] ty #[.slice (some ⟨g, o, none⟩) dLen dCap, .slice (some a) sLen sCap]).run P w =
      .ok (goInt n) (w.setRow g (cur.toList.take o ++ cs ++ cur.toList.drop (o + cs.length)).toArray) := by
  have hld := run_loadCells_list (P := P) w a cs hsrc
  have hst := run_storeCells_at P g o t cs 0 cur w hg (by simpa using hfit) h1
  cases hq : P.info? elem with
  | none => simp [hq] at hs
  | some i =>
    have hi : i.size = size := by simpa [hq] using hs
    rw [hl] at hld
    simp [Builtin.copy_, run_underlying hu, Builtin.lenOf, Builtin.firstCells, sizeOf, typeInfo, hq, hi, ← hn, hld, hst]
end

end Go.Proofs.YtiiafhlckmkcnaaGreat
