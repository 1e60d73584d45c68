
/- metronomeref15: the document's lock as it lies in memory; Held, Waiting, mayRead, ask, Read, Write, New: contracts. -/
import Derived.Test.YtpdfeinbbjfcaaaGreatKe
import Derived.Test.YtpdfeinbbjfcaaaGreatRf
import Derived.Test.YtpdfeinbbjfcaaaGreatKlo
import Derived.IntWalk
namespace Go.Proofs.YtpdfeinbbjfcaaaGreat
open Go.RowKit

theorem blk_ne15 {w : World} {a b : Nat} {cs ds : Array Value} {T U : TypeId} {fr gr : Nat × Nat} (ha : w.heap[a]? = some (.cells cs T fr)) (hb : w.heap[b]? = some (.cells ds U gr)) (h : T ≠ U) : a ≠ b := by
  rintro rfl
  rw [ha] at hb
  injection hb with hb
  injection hb with _ h2 _
  exact h h2

def dcells (rr rw : Nat) (s : LS) : Array Value := (Value.int .i64 s.wr :: (s.C.map (Value.int .i64) ++ [.pointer (some ⟨rr, 0, none⟩), .pointer (some ⟨rw, 0, none⟩)])).toArray

/-- The document's lock at block rc: who waits to read at rr, to write at rw. -/
structure DAt (w : World) (rc rr rw : Nat) (s : LS) : Prop where
  head : w.heap[rc]? = some (.cells (dcells rr rw s) 49 (0, 0))
  rd : RAt w rr s.R
  wt : RAt w rw s.W
  inv : LInv s
  ne : rr ≠ rw
theorem DAt.nc {w : World} {rc rr rw : Nat} {s : LS} (h : DAt w rc rr rw s) : rc ≠ rr ∧ rc ≠ rw ∧ NotW w rc := by
  obtain ⟨v1, h1, _⟩ := h.rd
  obtain ⟨v2, h2, _⟩ := h.wt
  exact ⟨blk_ne15 h.head h1 (by decide), blk_ne15 h.head h2 (by decide), NotW.of h.head (fun cs fr e => by cases e)⟩
theorem DAt.kept {S : List Nat} {w w' : World} {rc rr rw : Nat} {s : LS} (h : DAt w rc rr rw s) (hC : Chg S w w') (hS : ∀ k ∈ S, k ∉ [rc, rr, rw] ∧ NotW w k) : DAt w' rc rr rw s :=
  ⟨hC.blk h.head (fun hm => (hS _ hm).1 (by simp)), h.rd.kept hC (fun k hk => ⟨fun e => (hS k hk).1 (by simp [e]), (hS k hk).2⟩), h.wt.kept hC (fun k hk => ⟨fun e => (hS k hk).1 (by simp [e]), (hS k hk).2⟩), h.inv, h.ne⟩
theorem DAt.calm {w w' : World} {rc rr rw : Nat} {s : LS} (h : DAt w rc rr rw s) (hC : Chg [] w w') : DAt w' rc rr rw s := h.kept hC (by simp)
theorem DAt.lt {w : World} {rc rr rw : Nat} {s : LS} (h : DAt w rc rr rw s) : ∀ k ∈ [rc, rr, rw], k < w.heap.size := by
  have h1 := lt_of_blk h.head
  have h2 := h.rd.lt
  have h3 := h.wt.lt
  intro k hk
  simp only [List.mem_cons, List.not_mem_nil, or_false] at hk
  omega
theorem DAt.few {w : World} {rc rr rw : Nat} {s : LS} (_h : DAt w rc rr rw s) (hR : s.R.length ≤ 16) (hW : s.W.length ≤ 16) : s.R.length ≤ 999999 ∧ s.W.length ≤ 999999 := by omega
theorem ListOk.few {L : WL} (h : ListOk L) : L.length ≤ 16 := by
  have h1 := List.Nodup.length_le_of_subset (l₁ := L.map (·.1)) (l₂ := (List.range 16).map (fun k : Nat => (k : Int))) h.nodup (by
    intro t ht
    obtain ⟨y, hy, rfl⟩ := List.mem_map.1 ht
    have := (h.ok y hy).1
    unfold okT at this
    exact List.mem_map.2 ⟨y.1.toNat, by simp; omega, by omega⟩)
  simpa using h1
theorem DAt.c0 {w : World} {rc rr rw : Nat} {s : LS} (h : DAt w rc rr rw s) : w.cell? ⟨rc, 0, none⟩ = some (.int .i64 s.wr) := cellB h.head rfl
theorem DAt.cC {w : World} {rc rr rw : Nat} {s : LS} (h : DAt w rc rr rw s) {k : Nat} (hk : k < 16) : w.cell? ⟨rc, 1 + k, none⟩ = some (.int .i64 (cAt s.C k)) := by
  have hl := h.inv.ok.len
  refine cellB h.head ?_
  unfold dcells
  rw [List.getElem?_toArray, Nat.add_comm, List.getElem?_cons_succ, List.getElem?_append_left (by rw [List.length_map]; omega), List.getElem?_map, List.getElem?_eq_getElem (by omega)]
  unfold cAt
  rw [List.getD_eq_getElem?_getD, List.getElem?_eq_getElem (by omega)]
  rfl
theorem DAt.c17 {w : World} {rc rr rw : Nat} {s : LS} (h : DAt w rc rr rw s) : w.cell? ⟨rc, 17, none⟩ = some (.pointer (some ⟨rr, 0, none⟩)) := by
  have hl := h.inv.ok.len
  refine cellB h.head ?_
  unfold dcells
  rw [List.getElem?_toArray, List.getElem?_cons_succ, List.getElem?_append_right (by rw [List.length_map]; omega), List.length_map, hl]
  rfl
theorem DAt.c18 {w : World} {rc rr rw : Nat} {s : LS} (h : DAt w rc rr rw s) : w.cell? ⟨rc, 18, none⟩ = some (.pointer (some ⟨rw, 0, none⟩)) := by
  have hl := h.inv.ok.len
  refine cellB h.head ?_
  unfold dcells
  rw [List.getElem?_toArray, List.getElem?_cons_succ, List.getElem?_append_right (by rw [List.length_map]; omega), List.length_map, hl]
  rfl
theorem DAt.cfr {w : World} {rc rr rw : Nat} {s : LS} (h : DAt w rc rr rw s) (i : Nat) : w.frozen? ⟨rc, i, none⟩ = false := frozenB h.head i
theorem DAt.putWr {w : World} {rc rr rw : Nat} {s : LS} (h : DAt w rc rr rw s) (x : Int) (hI : LInv { s with wr := x }) :
    DAt (w.setCell ⟨rc, 0, none⟩ (.int .i64 x)) rc rr rw { s with wr := x } ∧ Chg [rc] w (w.setCell ⟨rc, 0, none⟩ (.int .i64 x)) :=
  have hC : Chg [rc] w (w.setCell ⟨rc, 0, none⟩ (.int .i64 x)) := (Chg.refl _ _).setCell _ _ (by simp)
  have hn := h.nc
  ⟨⟨blk_setCell h.head _, h.rd.kept hC (fun k hk => by simp at hk; subst hk; exact ⟨hn.1, hn.2.2⟩), h.wt.kept hC (fun k hk => by simp at hk; subst hk; exact ⟨hn.2.1, hn.2.2⟩), hI, h.ne⟩, hC⟩
theorem dcells_set {rr rw : Nat} {s : LS} (hl : s.C.length = 16) {k : Nat} (hk : k < 16) (x : Int) : (dcells rr rw s).setIfInBounds (1 + k) (.int .i64 x) = dcells rr rw { s with C := s.C.set k x } := by
  unfold dcells
  rw [List.setIfInBounds_toArray, Nat.add_comm, List.set_cons_succ, List.set_append_left _ _ (by rw [List.length_map]; omega), ← List.map_set]
theorem DAt.putC {w : World} {rc rr rw : Nat} {s : LS} (h : DAt w rc rr rw s) {k : Nat} (hk : k < 16) (x : Int) (hI : LInv { s with C := s.C.set k x }) :
    DAt (w.setCell ⟨rc, 1 + k, none⟩ (.int .i64 x)) rc rr rw { s with C := s.C.set k x } ∧ Chg [rc] w (w.setCell ⟨rc, 1 + k, none⟩ (.int .i64 x)) :=
  have hC : Chg [rc] w (w.setCell ⟨rc, 1 + k, none⟩ (.int .i64 x)) := (Chg.refl _ _).setCell _ _ (by simp)
  have hn := h.nc
  ⟨⟨by rw [← dcells_set h.inv.ok.len hk]; exact blk_setCell h.head _, h.rd.kept hC (fun k hk => by simp at hk; subst hk; exact ⟨hn.1, hn.2.2⟩), h.wt.kept hC (fun k hk => by simp at hk; subst hk; exact ⟨hn.2.1, hn.2.2⟩), hI, h.ne⟩, hC⟩
theorem DAt.stepR {w w' : World} {rc rr rw : Nat} {s : LS} {R : WL} (h : DAt w rc rr rw s) (hR : RAt w' rr R) (hC : Chg [rr] w w') (hI : LInv { s with R := R }) : DAt w' rc rr rw { s with R := R } :=
  have hn := h.nc
  ⟨hC.blk h.head (by simp; exact hn.1), hR, h.wt.kept hC (fun k hk => by simp at hk; subst hk; exact ⟨h.ne, h.rd.notW⟩), hI, h.ne⟩
theorem DAt.stepW {w w' : World} {rc rr rw : Nat} {s : LS} {W : WL} (h : DAt w rc rr rw s) (hR : RAt w' rw W) (hC : Chg [rw] w w') (hI : LInv { s with W := W }) : DAt w' rc rr rw { s with W := W } :=
  have hn := h.nc
  ⟨hC.blk h.head (by simp; exact hn.2.1), h.rd.kept hC (fun k hk => by simp at hk; subst hk; exact ⟨h.ne.symm, h.wt.notW⟩), hR, hI, h.ne⟩


theorem wr_ge {s : LS} (h : LOk s) : decide (0 ≤ s.wr) = !decide (s.wr = -1) := by
  have h1 := h.wr
  unfold okT at h1
  by_cases h2 : s.wr = -1
  · simp [h2]
  · have : 0 ≤ s.wr := by omega
    simp [h2, this]
theorem held_eq {s : LS} (h : LOk s) : s.held = (decide (0 ≤ s.wr) || anyK s.C 16) := by
  unfold LS.held
  rw [wr_ge h, anyK_all h.len]

set_option maxRecDepth 100000 in
theorem dheldc (rc rr rw : Nat) (s : LS) (w : World) (h : DAt w rc rr rw s) :
    Calls Tryz.prog 30 #[.pointer (some ⟨rc, 0, none⟩)] w fun e w' => e = .returned (.bool s.held) ∧ w = w' := by
  have c0 := h.c0
  have HL := Lib.hid h
  have HE := Lib.hid (held_eq h.inv.ok)
  obtain ⟨b, hb⟩ : ∃ b, b = decide (0 ≤ s.wr) := ⟨_, rfl⟩
  rw [← hb] at HE
  have hb' := hb.symm
  rw [HE.out]
  clear h hb
  go_enter Tryz.func30, Tryz.ntmps30
  go_wp2
  go_loopw [3, 4] (fun v i wr => ∃ k : Nat, k ≤ 16 ∧ i = .int .i64 k ∧ v = .bool (b || anyK s.C k) ∧ wr = w) (fun _ i _ => 16 - (intOf i).toNat)
  case atStart => exact ⟨0, by omega, rfl, by simp [anyK], rfl⟩
  case round =>
    obtain ⟨k, hk, rfl, rfl, rfl⟩ := hrel
    by_cases hlt : k < 16
    · have hs : (b || anyK s.C (k + 1)) = ((b || anyK s.C k) || decide (0 < cAt s.C k)) := by
        show (b || (anyK s.C k || decide (0 < cntC s.C k))) = _
        rw [show cntC s.C k = cAt s.C k by unfold cntC; rw [if_pos (by omega)]; simp]
        rw [Bool.or_assoc]
      have c1 := HL.out.cC hlt
      obtain ⟨n, hn⟩ : ∃ n, n = cAt s.C k := ⟨_, rfl⟩
      rw [← hn] at hs c1
      obtain ⟨c, hc⟩ : ∃ c, c = (b || anyK s.C k) := ⟨_, rfl⟩
      rw [← hc] at hs ⊢
      have HS := Lib.hid hs
      clear hs hn hc
      cases c with
      | true =>
        go_wp2
        go_roundw
        case rel => exact ⟨k + 1, by omega, by go_num, by rw [HS.out]; rfl, by trivial⟩
        case measure => simp [intOf]; omega
      | false =>
        obtain ⟨d, hd⟩ : ∃ d, d = decide (0 < n) := ⟨_, rfl⟩
        rw [← hd] at HS
        have hd' := hd.symm
        clear hd
        go_wp2
        go_roundw
        case rel => exact ⟨k + 1, by omega, by go_num, by rw [HS.out]; rfl, by trivial⟩
        case measure => simp [intOf]; omega
    · have hk16 : k = 16 := by omega
      subst hk16
      clear hk hlt
      go_wp2
      go_ret
      exact ⟨rfl, rfl⟩

set_option maxRecDepth 100000 in
theorem dwaitingc (rc rr rw : Nat) (s : LS) (t : Int) (w : World) (h : DAt w rc rr rw s) :
    Calls Tryz.prog 32 #[.pointer (some ⟨rc, 0, none⟩), .int .i64 t] w fun e w' => e = .returned (.tuple #[.bool (hasR s.W t), .bool (s.is t)]) ∧ w = w' := by
  have c1 := h.c17
  have c2 := h.c18
  have HP := Lib.hid (And.intro (rpriocc rr s.R t w h.rd (by have := h.inv.r.few; omega)) (rpriocc rw s.W t w h.wt (by have := h.inv.w.few; omega)))
  unfold LS.is
  generalize prioR s.R t = p at *
  generalize prioR s.W t = q at *
  generalize hasR s.R t = a at *
  generalize hasR s.W t = b at *
  clear h
  cases a
  all_goals
    simp only [Bool.or_false, Bool.or_true]
    go_enter Tryz.func32, Tryz.ntmps32
    go_wp2_with fail
    refine HP.out.1.mono ?_
    rintro e w1 ⟨rfl, rfl⟩
    go_wp2_with fail
    refine HP.out.2.mono ?_
    rintro e w1 ⟨rfl, rfl⟩
    go_wp2
    go_ret2
    exact ⟨rfl, rfl⟩

theorem fP_len {L : WL} (h : ListOk L) : (ordL L = [] ∧ fP L = 0) ∨ ∃ x r, ordL L = x :: r ∧ fP L = x.2 ∧ fT L = x.1 := by
  rcases fT_ok h with ⟨_, h2, h3⟩ | ⟨x, r, h1, h2, h3, _⟩
  · exact .inl ⟨h3, h2⟩
  · exact .inr ⟨x, r, h1, h3, h2⟩

set_option maxRecDepth 100000 in
set_option maxHeartbeats 2000000 in
theorem dmayc (rc rr rw : Nat) (s : LS) (t p : Int) (w : World) (h : DAt w rc rr rw s) (ht : okT t) (hp : 1 ≤ p) :
    Calls Tryz.prog 43 #[.pointer (some ⟨rc, 0, none⟩), .int .i64 t, .int .i64 p] w fun e w' => e = .returned (.bool (s.mayR t p)) ∧ Chg [] w w' := by
  have c0 := h.c0
  have c2 := h.c18
  obtain ⟨tn, rfl⟩ : ∃ tn : Nat, t = tn := ⟨t.toNat, by have := ht.1; omega⟩
  have htn : tn < 16 := by have := ht.2; omega
  have HL := Lib.hid h
  have hO := rorderc rw s.W w h.wt (by have := h.inv.w.few; omega)
  have hcnt : s.cnt tn = cAt s.C tn := by unfold LS.cnt cntC; rw [if_pos (by omega)]; simp
  have hge := wr_ge h.inv.ok
  have hfp := fP_len h.inv.w
  unfold LS.mayR
  rw [hcnt]
  obtain ⟨n, hn⟩ : ∃ n, n = cAt s.C tn := ⟨_, rfl⟩
  rw [← hn]
  have HN := Lib.hid (And.intro hn htn)
  clear h ht hcnt hn htn
  by_cases h1 : s.wr = -1
  · have b1 : decide (0 ≤ s.wr) = false := by rw [hge]; simp [h1]
    rw [decide_eq_true h1, Bool.true_and]
    clear hge h1
    by_cases h2 : 0 < n
    · have b2 : decide (0 < n) = true := decide_eq_true h2
      rw [b2, Bool.true_or]
      have HO := Lib.hid hO
      clear h2 hO hfp hp
      go_enter Tryz.func43, Tryz.ntmps43
      go_wp2_with fail
      refine HO.out.mono ?_
      rintro e w1 ⟨v, rfl, ho, hC⟩
      have d1 := (HL.out.calm hC).cC HN.out.2
      rw [← HN.out.1] at d1
      have hlt := HN.out.2
      have HC := Lib.hid hC
      clear ho hC
      go_wp2
      go_ret
      exact ⟨rfl, HC.out⟩
    · have b2 : decide (0 < n) = false := decide_eq_false h2
      rw [b2, Bool.false_or]
      rcases hfp with ⟨e1, e2⟩ | ⟨x, r, e1, e2, -⟩
      · rw [e1] at hO
        rw [e2, decide_eq_true (by omega)]
        have HO := Lib.hid hO
        clear h2 hO hp e1 e2
        go_enter Tryz.func43, Tryz.ntmps43
        go_wp2_with fail
        refine HO.out.mono ?_
        rintro e w1 ⟨v, rfl, ho, hC⟩
        obtain ⟨va, vc, rfl⟩ := own_slice ho
        rw [List.length_nil]
        have d1 := (HL.out.calm hC).cC HN.out.2
        rw [← HN.out.1] at d1
        have hlt := HN.out.2
        have HC := Lib.hid hC
        clear ho hC
        go_wp2
        go_ret
        exact ⟨rfl, HC.out⟩
      · rw [e1] at hO
        rw [e2]
        obtain ⟨x1, x2⟩ := x
        obtain ⟨d, hd⟩ : ∃ d, d = decide (x2 < p) := ⟨_, rfl⟩
        rw [← hd]
        have hd' := hd.symm
        have HO := Lib.hid hO
        clear h2 hO hp e1 e2 hd
        go_enter Tryz.func43, Tryz.ntmps43
        go_wp2_with fail
        refine HO.out.mono ?_
        rintro e w1 ⟨v, rfl, ho, hC⟩
        obtain ⟨g, o, cap, rfl, hg⟩ := (IsPairs.of_own ho).addr (by simp)
        have y2 := (hg 0 _ rfl).2
        have d1 := (HL.out.calm hC).cC HN.out.2
        rw [← HN.out.1] at d1
        rw [Nat.zero_mul, Nat.add_zero] at y2
        have hlt := HN.out.2
        have HC := Lib.hid hC
        have hlen : (((x1, x2) :: r).length : Int) ≠ 0 := by simp; omega
        have q1 : ((((x1, x2) :: r).length : Int) == 0) = false := by simpa using hlen
        have q0 : 0 < ((x1, x2) :: r).length := by simp
        generalize ((x1, x2) :: r).length = m at *
        clear ho hC hg hlen
        go_wp2
        go_ret
        exact ⟨rfl, HC.out⟩
  · have b1 : decide (0 ≤ s.wr) = true := by rw [hge]; simp [h1]
    rw [decide_eq_false h1, Bool.false_and]
    clear hge h1 hO hfp
    go_enter Tryz.func43, Tryz.ntmps43
    go_wp2
    go_ret
    exact ⟨rfl, Chg.refl _ _⟩


theorem LS.want_E (s : LS) (wr : Bool) (t p : Int) :
    (s.wantE wr t p = 2 ∧ (decide (t < 0) = true ∨ (decide (t < 0) = false ∧ decide (16 ≤ t) = true) ∨ (decide (t < 0) = false ∧ decide (16 ≤ t) = false ∧ decide (p < 1) = true) ∨ (decide (t < 0) = false ∧ decide (16 ≤ t) = false ∧ decide (p < 1) = false ∧ decide (31 < p) = true))) ∨
    ((decide (t < 0) = false ∧ decide (16 ≤ t) = false ∧ decide (p < 1) = false ∧ decide (31 < p) = false) ∧ okT t ∧ okP p ∧ s.wantE wr t p = s.badE wr t) := by
  by_cases hb : thB t = true ∧ prB p = true
  · right
    have h1 := thB_iff.1 hb.1
    have h2 := prB_iff.1 hb.2
    refine ⟨?_, h1, h2, by unfold LS.wantE; rw [if_pos hb]⟩
    unfold okT at h1
    unfold okP at h2
    simp
    omega
  · left
    refine ⟨by unfold LS.wantE; rw [if_neg hb], ?_⟩
    rw [thB_iff, prB_iff] at hb
    unfold okT okP at hb
    simp only [decide_eq_true_eq, decide_eq_false_iff_not]
    omega
theorem LS.bad_ways (s : LS) (wr : Bool) (t : Int) : (hasR s.R t = true ∧ s.badE wr t = 7) ∨ (hasR s.R t = false ∧ hasR s.W t = true ∧ s.badE wr t = 7) ∨ (hasR s.R t = false ∧ hasR s.W t = false ∧ (s.wr == t) = true ∧ s.badE wr t = 7) ∨
    (hasR s.R t = false ∧ hasR s.W t = false ∧ (s.wr == t) = false ∧ wr = true ∧ decide (0 < s.cnt t) = true ∧ s.badE wr t = 7) ∨ (hasR s.R t = false ∧ hasR s.W t = false ∧ (s.wr == t) = false ∧ wr = true ∧ decide (0 < s.cnt t) = false ∧ s.badE wr t = 0) ∨
    (hasR s.R t = false ∧ hasR s.W t = false ∧ (s.wr == t) = false ∧ wr = false ∧ decide (32767 ≤ s.cnt t) = true ∧ s.badE wr t = 5) ∨ (hasR s.R t = false ∧ hasR s.W t = false ∧ (s.wr == t) = false ∧ wr = false ∧ decide (32767 ≤ s.cnt t) = false ∧ s.badE wr t = 0) := by
  unfold LS.badE LS.is
  cases hasR s.R t <;> cases hasR s.W t <;> cases wr <;> by_cases h1 : s.wr = t <;> by_cases h2 : 0 < s.cnt t <;> by_cases h3 : 32767 ≤ s.cnt t <;> simp [h1, h2, h3]

set_option maxRecDepth 100000 in
set_option maxHeartbeats 4000000 in
theorem daskc (wr : Bool) (rc rr rw : Nat) (s : LS) (t p : Int) (w : World) (h : DAt w rc rr rw s) :
    Calls Tryz.prog 42 #[.pointer (some ⟨rc, 0, none⟩), .int .i64 t, .int .i64 p, .bool wr] w fun e w' => e = .returned (.int .i64 (s.wantE wr t p)) ∧ w = w' := by
  rcases LS.want_E s wr t p with ⟨e1, hb⟩ | ⟨⟨b1, b2, b3, b4⟩, ht, -, e1⟩
  · rw [e1]
    clear h e1
    rcases hb with h1 | ⟨h1, h2⟩ | ⟨h1, h2, h3⟩ | ⟨h1, h2, h3, h4⟩
    all_goals
      go_enter Tryz.func42, Tryz.ntmps42
      go_wp2
      go_ret
      exact ⟨rfl, rfl⟩
  · rw [e1]
    have c0 := h.c0
    have c1 := h.c17
    have c2 := h.c18
    have hP := And.intro (rpriocc rr s.R t w h.rd (by have := h.inv.r.few; omega)) (rpriocc rw s.W t w h.wt (by have := h.inv.w.few; omega))
    obtain ⟨tn, rfl⟩ : ∃ tn : Nat, t = tn := ⟨t.toNat, by have := ht.1; omega⟩
    have htn : tn < 16 := by have := ht.2; omega
    have cc := h.cC htn
    have hcnt : s.cnt tn = cAt s.C tn := by unfold LS.cnt cntC; rw [if_pos (by omega)]; simp
    have hw := s.bad_ways wr tn
    generalize prioR s.R tn = pr at *
    generalize prioR s.W tn = pw at *
    obtain ⟨r, hr⟩ : ∃ r, r = s.badE wr tn := ⟨_, rfl⟩
    rw [hcnt, ← hr] at hw
    rw [← hr]
    obtain ⟨n, hn⟩ : ∃ n, n = cAt s.C tn := ⟨_, rfl⟩
    rw [← hn] at cc hw
    obtain ⟨hA, hhA⟩ : ∃ x, x = hasR s.R tn := ⟨_, rfl⟩
    obtain ⟨hB, hhB⟩ : ∃ x, x = hasR s.W tn := ⟨_, rfl⟩
    rw [← hhA, ← hhB] at hP hw
    have HP := Lib.hid hP
    clear h ht hcnt hn hr e1 hP hhA hhB
    rcases hw with ⟨rfl, rfl⟩ | ⟨rfl, rfl, rfl⟩ | ⟨rfl, rfl, g1, rfl⟩ | ⟨rfl, rfl, g1, rfl, g2, rfl⟩ | ⟨rfl, rfl, g1, rfl, g2, rfl⟩ | ⟨rfl, rfl, g1, rfl, g2, rfl⟩ | ⟨rfl, rfl, g1, rfl, g2, rfl⟩
    all_goals
      go_enter Tryz.func42, Tryz.ntmps42
      go_wp2_with fail
      refine HP.out.1.mono ?_
      rintro e w1 ⟨rfl, rfl⟩
      go_wp2_with fail
      refine HP.out.2.mono ?_
      rintro e w1 ⟨rfl, rfl⟩
      go_wp2
      go_ret
      exact ⟨rfl, rfl⟩

def DPost (r : Array Value) (rc rr rw : Nat) (s' : LS) (w : World) (e : Ending) (w' : World) : Prop :=
  e = .returned (.tuple r) ∧ DAt w' rc rr rw s' ∧ Chg [rc, rr, rw] w w'

set_option maxRecDepth 100000 in
set_option maxHeartbeats 4000000 in
theorem dreadc (try_ : Bool) (rc rr rw : Nat) (s : LS) (t p : Int) (w : World) (h : DAt w rc rr rw s) :
    Calls Tryz.prog 14 #[.pointer (some ⟨rc, 0, none⟩), .int .i64 t, .int .i64 p, .bool try_] w (DPost #[.bool (s.wantB false t p), .int .i64 (s.wantE false t p)] rc rr rw (s.wantS false t p (!try_)) w) := by
  have hA := daskc false rc rr rw s t p w h
  have HL := Lib.hid h
  have hI := fun (he : s.wantE false t p = 0) (hm : s.may false t p = true) => h.inv.hold he hm
  have hJ := fun (he : s.wantE false t p = 0) (hm : s.may false t p = false) => h.inv.putW he hm
  clear h
  by_cases he : s.wantE false t p = 0
  · have hok := LS.wantE_ok he
    have hB : s.wantB false t p = s.may false t p := by unfold LS.wantB; rw [he]; simp
    have hS : s.wantS false t p (!try_) = if s.may false t p = true then s.hold false t else if (!try_) = true then s.putW false t p else s := by unfold LS.wantS; rw [if_pos he]
    rw [hB, hS, he]
    rw [he] at hA
    have hM := fun (W : World) (hW : Chg [] w W) => dmayc rc rr rw s t p W (HL.out.calm hW) hok.1 hok.2.1.1
    have hmay : s.mayR t p = s.may false t p := by unfold LS.may; simp
    rw [hmay] at hM
    have HA := Lib.hid hA
    cases hm : s.may false t p with
    | true =>
      rw [hm] at hM
      rw [if_pos rfl]
      obtain ⟨tn, rfl⟩ : ∃ tn : Nat, t = tn := ⟨t.toNat, by have := hok.1.1; omega⟩
      have htn : tn < 16 := by have := hok.1.2; omega
      have hcnt : s.cnt tn = cAt s.C tn := by unfold LS.cnt cntC; rw [if_pos (by omega)]; simp
      have hI := hI he hm
      unfold LS.hold at hI ⊢
      rw [if_neg (by simp)] at hI ⊢
      rw [Int.toNat_natCast, hcnt] at hI ⊢
      have hbd := HL.out.inv.ok.pos tn
      have cc := fun (W : World) (hW : Chg [] w W) => (HL.out.calm hW).cC htn
      obtain ⟨n, hn⟩ : ∃ n, n = cAt s.C tn := ⟨_, rfl⟩
      rw [← hn] at hI hbd cc ⊢
      have HM := Lib.hid (hM w (Chg.refl _ _))
      have HI := Lib.hid hI
      have HT := Lib.hid htn
      have CC := Lib.hid cc
      clear hM hI hA he hB hS hm hok hmay hcnt hn cc hJ
      go_enter Tryz.func14, Tryz.ntmps14
      go_wp2_with fail
      refine HA.out.mono ?_
      rintro e w1 ⟨rfl, rfl⟩
      go_wp2_with fail
      refine HM.out.mono ?_
      rintro e w1 ⟨rfl, hC⟩
      have d1 := CC.out w1 hC
      have f1 := (HL.out.calm hC).cfr (1 + tn)
      have H2 := Lib.hid (And.intro hC ((HL.out.calm hC.drew).putC HT.out (n + 1) HI.out))
      have hwr : IntKind.i64.wrap (n + 1) = n + 1 := IntWalk.i64_in _ (by omega)
      have hlt := HT.out
      have hi0 : (0 : Int) ≤ (tn : Int) := by omega
      have hi1 : (tn : Int) < 16 := by omega
      clear hC
      go_wp2
      refine region_still_tail 10 (by kernel_rfl) (by kernel_rfl) ?_
      simp only [List.take_succ_cons, List.take_zero, List.drop_succ_cons, List.drop_zero]
      repeat still_step
      refine wpStill_nil ?_
      go_wp2
      go_ret2
      exact ⟨rfl, H2.out.2.1, (H2.out.1.drew.mono (by simp)).trans (H2.out.2.2.mono (by simp))⟩
    | false =>
      rw [hm] at hM
      rw [if_neg (by simp)]
      have HM := Lib.hid (hM w (Chg.refl _ _))
      cases try_ with
      | true =>
        rw [if_neg (by simp)]
        clear hM hI hA he hB hS hm hok hmay hJ
        go_enter Tryz.func14, Tryz.ntmps14
        go_wp2_with fail
        refine HA.out.mono ?_
        rintro e w1 ⟨rfl, rfl⟩
        go_wp2_with fail
        refine HM.out.mono ?_
        rintro e w1 ⟨rfl, hC⟩
        have H2 := Lib.hid hC
        clear hC
        go_wp2
        go_ret2
        exact ⟨rfl, HL.out.calm H2.out, H2.out.mono (by simp)⟩
      | false =>
        rw [if_pos (by simp)]
        have HJ := Lib.hid (hJ he hm)
        clear hM hI hA he hB hS hm hok hmay hJ
        go_enter Tryz.func14, Tryz.ntmps14
        go_wp2_with fail
        refine HA.out.mono ?_
        rintro e w1 ⟨rfl, rfl⟩
        go_wp2_with fail
        refine HM.out.mono ?_
        rintro e w1 ⟨rfl, hC⟩
        have d1 := (HL.out.calm hC).c17
        have H2 := Lib.hid hC
        clear hC
        go_wp2_with fail
        refine (rputc rr s.R t p w1 (HL.out.calm H2.out).rd (by have := HL.out.inv.r.few; omega)).mono ?_
        rintro e w2 ⟨rfl, hR, hC⟩
        have H3 := Lib.hid (show DAt w2 rc rr rw (s.putW false t p) ∧ Chg [rc, rr, rw] w w2 from ⟨(HL.out.calm H2.out).stepR hR hC HJ.out, (H2.out.mono (by simp)).trans (hC.mono (by simp))⟩)
        clear hR hC
        generalize askR s.R t p false = ra
        go_wp2
        go_ret2
        exact ⟨rfl, H3.out.1, H3.out.2⟩
  · have hb : (s.wantE false t p != 0) = true := by simpa using he
    have hB : s.wantB false t p = false := by unfold LS.wantB; simp [he]
    have hS : s.wantS false t p (!try_) = s := by unfold LS.wantS; rw [if_neg he]
    rw [hB, hS]
    generalize s.wantE false t p = r at *
    have HA := Lib.hid hA
    clear hA he hB hS hI hJ
    go_enter Tryz.func14, Tryz.ntmps14
    go_wp2_with fail
    refine HA.out.mono ?_
    rintro e w1 ⟨rfl, rfl⟩
    go_wp2
    go_ret2
    exact ⟨rfl, HL.out, Chg.refl _ _⟩

set_option maxRecDepth 100000 in
set_option maxHeartbeats 4000000 in
theorem dwritec (try_ : Bool) (rc rr rw : Nat) (s : LS) (t p : Int) (w : World) (h : DAt w rc rr rw s) :
    Calls Tryz.prog 17 #[.pointer (some ⟨rc, 0, none⟩), .int .i64 t, .int .i64 p, .bool try_] w (DPost #[.bool (s.wantB true t p), .int .i64 (s.wantE true t p)] rc rr rw (s.wantS true t p (!try_)) w) := by
  have hA := daskc true rc rr rw s t p w h
  have HL := Lib.hid h
  have hI := fun (he : s.wantE true t p = 0) (hm : s.may true t p = true) => h.inv.hold he hm
  have hJ := fun (he : s.wantE true t p = 0) (hm : s.may true t p = false) => h.inv.putW he hm
  have c0 := h.c0
  have f0 := h.cfr 0
  have c2 := h.c18
  have hM := dheldc rc rr rw s w h
  clear h
  by_cases he : s.wantE true t p = 0
  · have hok := LS.wantE_ok he
    have hB : s.wantB true t p = s.may true t p := by unfold LS.wantB; rw [he]; simp
    have hS : s.wantS true t p (!try_) = if s.may true t p = true then s.hold true t else if (!try_) = true then s.putW true t p else s := by unfold LS.wantS; rw [if_pos he]
    rw [hB, hS, he]
    rw [he] at hA
    have hmay : s.held = !s.may true t p := by unfold LS.may; simp
    rw [hmay] at hM
    have HA := Lib.hid hA
    cases hm : s.may true t p with
    | true =>
      rw [hm] at hM
      rw [if_pos rfl]
      have HI := Lib.hid (HL.out.putWr t (hI he hm))
      have HM := Lib.hid hM
      clear hM hI hA he hB hS hm hok hmay hJ
      go_enter Tryz.func17, Tryz.ntmps17
      go_wp2_with fail
      refine HA.out.mono ?_
      rintro e w1 ⟨rfl, rfl⟩
      go_wp2_with fail
      refine HM.out.mono ?_
      rintro e w1 ⟨rfl, rfl⟩
      go_wp2
      go_ret2
      exact ⟨rfl, HI.out.1, HI.out.2.mono (by simp)⟩
    | false =>
      rw [hm] at hM
      rw [if_neg (by simp)]
      have HM := Lib.hid hM
      cases try_ with
      | true =>
        rw [if_neg (by simp)]
        clear hM hI hA he hB hS hm hok hmay hJ
        go_enter Tryz.func17, Tryz.ntmps17
        go_wp2_with fail
        refine HA.out.mono ?_
        rintro e w1 ⟨rfl, rfl⟩
        go_wp2_with fail
        refine HM.out.mono ?_
        rintro e w1 ⟨rfl, rfl⟩
        go_wp2
        go_ret2
        exact ⟨rfl, HL.out, Chg.refl _ _⟩
      | false =>
        rw [if_pos (by simp)]
        have HJ := Lib.hid (hJ he hm)
        clear hM hI hA he hB hS hm hok hmay hJ
        go_enter Tryz.func17, Tryz.ntmps17
        go_wp2_with fail
        refine HA.out.mono ?_
        rintro e w1 ⟨rfl, rfl⟩
        go_wp2_with fail
        refine HM.out.mono ?_
        rintro e w1 ⟨rfl, rfl⟩
        go_wp2_with fail
        refine (rputc rw s.W t p w HL.out.wt (by have := HL.out.inv.w.few; omega)).mono ?_
        rintro e w2 ⟨rfl, hR, hC⟩
        have H3 := Lib.hid (show DAt w2 rc rr rw (s.putW true t p) ∧ Chg [rc, rr, rw] w w2 from ⟨HL.out.stepW hR hC HJ.out, hC.mono (by simp)⟩)
        clear hR hC
        generalize askR s.W t p false = ra
        go_wp2
        go_ret2
        exact ⟨rfl, H3.out.1, H3.out.2⟩
  · have hb : (s.wantE true t p != 0) = true := by simpa using he
    have hB : s.wantB true t p = false := by unfold LS.wantB; simp [he]
    have hS : s.wantS true t p (!try_) = s := by unfold LS.wantS; rw [if_neg he]
    rw [hB, hS]
    generalize s.wantE true t p = r at *
    have HA := Lib.hid hA
    clear hA he hB hS hI hJ hM
    go_enter Tryz.func17, Tryz.ntmps17
    go_wp2_with fail
    refine HA.out.mono ?_
    rintro e w1 ⟨rfl, rfl⟩
    go_wp2
    go_ret2
    exact ⟨rfl, HL.out, Chg.refl _ _⟩

def DNewP (w : World) (e : Ending) (w' : World) : Prop := ∃ rc rr rw, e = .returned (.pointer (some ⟨rc, 0, none⟩)) ∧ (∀ k ∈ [rc, rr, rw], w.heap.size ≤ k) ∧ DAt w' rc rr rw lnew ∧ Chg [] w w'

set_option maxRecDepth 100000 in
theorem dnewc (w : World) : Calls Tryz.prog 6 #[] w (DNewP w) := by
  go_enter Tryz.func6, Tryz.ntmps6
  go_wp2
  go_ret
  have h1 := heap_alloc_eq w (.cells #[.slice none 0 0] 46)
  have h2 := heap_alloc_eq (w.alloc (.cells #[.slice none 0 0] 46)) (.cells #[.slice none 0 0] 46)
  have h3 := heap_alloc_eq ((w.alloc (.cells #[.slice none 0 0] 46)).alloc (.cells #[.slice none 0 0] 46)) (.cells (dcells w.heap.size (w.heap.size + 1) lnew) 49)
  simp only [World.size_alloc] at h2 h3
  refine ⟨_, w.heap.size, w.heap.size + 1, rfl, ?_, ⟨h3, ⟨_, blk_alloc (blk_alloc h1 _) _, World.ownsRow_nil ..⟩, ⟨_, blk_alloc h2 _, World.ownsRow_nil ..⟩, LInv.new, by omega⟩, (((Chg.refl _ _).alloc _).alloc _).alloc _⟩
  intro k hk
  simp only [List.mem_cons, List.not_mem_nil, or_false] at hk
  omega

end Go.Proofs.YtpdfeinbbjfcaaaGreat
