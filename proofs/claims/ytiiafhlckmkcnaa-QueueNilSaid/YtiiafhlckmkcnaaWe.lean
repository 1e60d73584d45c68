
/- slices.SortFunc at a slice of ints of the call's own, whatever the comparison: a sorted permutation. -/
import Derived.Test.YtiiafhlckmkcnaaWd
import Derived.Test.YtiiafhlckmkcnaaRng
import Derived.Test.YtiiafhlckmkcnaaShelf
import Derived.Sort.OwnSortedInts
namespace Go.Proofs.Ytiiafhlckmkcnaa
open Go.RowKit Go.Sort

def SortPost (B : Nat) (v : Value) (zs : List Int) (cf : Int → Int → Int) (w : World) (e : Ending) (w' : World) : Prop :=
  e = .returned (.tuple #[]) ∧ ∃ ts : List Int, ts.Perm zs ∧ ts.Pairwise (fun x y => ¬ cf y x < 0) ∧ w'.ownsRow B 3 1 v zs.length (ts.map (Value.int .i64)) ∧ Chg v.ownBlock.toList w w'

theorem sort_ints (g : Nat) (cb : Array Value) (cf : Int → Int → Int) (hO : SWO (ltOf cf)) (eg : ∀ args w, (callFunc g args).run Try.prog w = .ok (.enter g args) w) (B : Nat) (v : Value) (zs : List Int) (w : World)
    (hown : w.ownsRow B 3 1 v zs.length (zs.map (Value.int .i64))) (hlen : zs.length < 4611686018427387904)
    (hcmp : ∀ W, Chg v.ownBlock.toList w W → ∀ x y : Int, Calls Try.prog g (#[.int .i64 x, .int .i64 y] ++ cb) W fun e w' => e = .returned (.int .i64 (cf x y)) ∧ Grw W w') :
    Calls Try.prog 70 #[v, .func (.func g) #[] cb] w (SortPost B v zs cf w) := by
  rcases hown.2 with ⟨rfl, h0⟩ | ⟨b, cap, cur, rfl, hbase, hb, h1, h2, h3, h4⟩
  · refine (Try.slices_SortFunc_none (α := Int) none 0 (.func (.func g) #[] cb) w).mono ?_
    rintro e w' ⟨rfl, rfl⟩
    have : zs = [] := List.eq_nil_of_length_eq_zero h0
    subst this
    exact ⟨rfl, [], .refl _, .nil, hown, Chg.refl _ _⟩
  · have hsz : zs.toArray.size = zs.length := by simp
    have hH := holds_of_blockI (ss := zs) hb (by simpa using h4)
    have hgr : ∀ (m : Nat) (os : Array Obj) (dk : Array Int), Chg [b] w (sortWorld (Value.int .i64) w b 0 m dk os) := fun m os dk => Chg.of_grown (row := some b) (grownBy_sortedI (n := m) (os := os) dk) (fun k hk => by cases hk; simp)
    have hc : CmpLays1 Try.prog g cb (Value.int .i64) cf b 0 zs.toArray.size w := fun m os dk _ x y =>
      (hcmp _ (hgr m os dk) x y).mono fun e w' ⟨he, q, os', hw⟩ => ⟨he, q, os', hw⟩
    have hS := Try.slices_SortFunc (Value.int .i64) (fun _ => rfl) cf hO g cb b 0 cap zs.toArray w eg hc hH (lt_of_blk hb) (by rw [hsz]; exact hlen)
    rw [hsz] at hS
    refine hS.mono ?_
    rintro e w' ⟨rfl, d', m, os, hP, hSo, rfl⟩
    have hpl : d'.toList.Perm zs := by
      have := hP.2.2
      rw [Array.extract_eq_self_of_le (by rw [hP.1, hsz]; exact Nat.le_refl _), Array.extract_eq_self_of_le (by simp)] at this
      simpa using this
    refine ⟨rfl, d'.toList, hpl, ?_, ?_, hgr m os d'⟩
    · rw [List.pairwise_iff_getElem]
      intro i j hi hj hij
      have hj' : j < d'.size := by simpa using hj
      have hi' : i < d'.size := by simpa using hi
      have := hSo i j (Nat.zero_le _) hij (by rw [← hpl.length_eq]; exact hj)
      rw [getElem!_pos d' j hj', getElem!_pos d' i hi'] at this
      simpa [ltOf] using this
    · exact ownsRow_sortedI (ss := zs) (ts := d'.toList) hpl.length_eq hbase hb h1 h2 h3

end Go.Proofs.Ytiiafhlckmkcnaa
