
/- metronomelaw15.LockAlone answers true, whatever the script. -/
import Derived.Test.YtpdfeinbbjfcaaaKlo
import Derived.Test.YtpdfeinbbjfcaaaKknown
import Derived.Test.YtpdfeinbbjfcaaaRow
import Derived.Deep.CutBlock
namespace Go.Proofs.Ytpdfeinbbjfcaaa
open Go.RowKit

set_option maxRecDepth 100000 in
theorem lnumc (e : Int) (w : World) : Calls Try.prog 11 #[.int .i64 e] w fun r w' => r = .returned (.int .i64 e) ∧ w = w' := by
  go_enter Try.func11, Try.ntmps11
  go_wp2
  go_ret
  exact ⟨rfl, rfl⟩

theorem OwnI.nil {lb : List Nat} {w : World} (h : ∀ k ∈ lb, k < w.heap.size) : OwnI lb w (.slice none 0 0) [] := ⟨w.heap.size, World.ownsRow_nil .., h⟩
theorem ordT_head {L : WL} (h : ordT L ≠ []) : (ordT L)[0]? = some (fT L) := by
  unfold ordT at h ⊢
  unfold fT
  cases ho : ordL L with
  | nil => rw [ho] at h; exact absurd rfl h
  | cons x r => rfl

/-- What a step of the script leaves: who held it, who was let in. -/
def LRel (w : World) (pb cb rb a0 m0 a1 m1 : Nat) (N : Int) (vw vi : Value) (W : World) : Prop :=
  ∃ (s : LS) (P : CL) (l wl : List Int), FK w W cb rb a0 m0 a1 m1 N s ∧ s.still ∧ PrOk s P ∧ PrAt W pb P ∧ OwnI [cb, rb, a0, m0, a1, m1] W vi l ∧ OwnI [cb, rb, a0, m0, a1, m1] W vw wl ∧ l.length < 4611686018427387904 ∧ wl.length < 4611686018427387904 ∧
    ∀ k ∈ l, s.wr = k → k ≠ -1 → wl ≠ [] → wl[0]? = some k



theorem FK.aside {S : List Nat} {w w1 w2 : World} {cb rb a0 m0 a1 m1 : Nat} {N : Int} {s : LS} (h : FK w w1 cb rb a0 m0 a1 m1 N s) (hC : Chg S w1 w2) (hS : ∀ k ∈ S, k ∉ [cb, rb, a0, m0, a1, m1] ∧ w.heap.size ≤ k) : FK w w2 cb rb a0 m0 a1 m1 N s :=
  ⟨h.l.kept hC (fun k hk => (hS k hk).1), h.c.trans' hC (fun k hk => .inr (hS k hk).2), h.g⟩
theorem PrAt.put {w : World} {pb : Nat} {P : CL} (h : PrAt w pb P) (k : Nat) (q : Int) : PrAt (w.setCell ⟨pb, k, none⟩ (.int .i64 q)) pb (P.set k q) := by
  unfold PrAt
  rw [blk_setCell h]
  simp [List.map_set]
theorem PrAt.frozen {w : World} {pb : Nat} {P : CL} (h : PrAt w pb P) (k : Nat) : w.frozen? ⟨pb, k, none⟩ = false := frozenB h k

/-- What stands before a step of the script. -/
structure LB (w W : World) (xb pb cb rb a0 m0 a1 m1 : Nat) (N : Int) (s : LS) (P : CL) (vw : Value) (kd t q : Int) : Prop where
  f : FK w W cb rb a0 m0 a1 m1 N s
  o : OwnI (pb :: [cb, rb, a0, m0, a1, m1]) W vw (ordT s.W)
  x : W.heap[xb]? = some (.cells #[.int .i64 kd, .int .i64 t, .int .i64 q] 28 (0, 0))
  p : PrAt W pb P
  ne : xb ∉ [cb, rb, a0, m0, a1, m1] ∧ pb ∉ [cb, rb, a0, m0, a1, m1] ∧ xb ≠ pb
  pl : pb < W.heap.size
  pw : w.heap.size ≤ pb
theorem OwnI.less {lb : List Nat} {k : Nat} {w : World} {v : Value} {l : List Int} (h : OwnI (k :: lb) w v l) : OwnI lb w v l := by
  obtain ⟨B, h1, h2⟩ := h
  exact ⟨B, h1, fun j hj => h2 j (by simp [hj])⟩
theorem OwnI.kept' {lb S : List Nat} {w w' : World} {v : Value} {l : List Int} (h : OwnI lb w v l) (hC : Chg S w w') (hS : ∀ k ∈ S, k ∈ lb) : OwnI lb w' v l := by
  obtain ⟨B, h1, h2⟩ := h
  exact ⟨B, own_kept h1 hC (fun k hk => own_notin h1 (h2 k (hS k hk))), h2⟩
/-- Behind a call. -/
theorem LB.call {w W W' : World} {xb pb cb rb a0 m0 a1 m1 : Nat} {N N' : Int} {s s' : LS} {P : CL} {vw : Value} {kd t q : Int} (h : LB w W xb pb cb rb a0 m0 a1 m1 N s P vw kd t q) (hL : LAt W' cb rb a0 m0 a1 m1 N' s') (hC : Chg [cb, rb, a0, m0, a1, m1] W W') :
    FK w W' cb rb a0 m0 a1 m1 N' s' ∧ OwnI (pb :: [cb, rb, a0, m0, a1, m1]) W' vw (ordT s.W) ∧ W'.heap[xb]? = some (.cells #[.int .i64 kd, .int .i64 t, .int .i64 q] 28 (0, 0)) ∧ PrAt W' pb P :=
  ⟨h.f.step hL hC, h.o.kept' hC (fun k hk => by simp at hk ⊢; omega), hC.blk h.x h.ne.1, h.p.kept hC h.ne.2.1⟩
/-- No thread's number is stored. -/
theorem LB.rel {w W W' : World} {xb pb cb rb a0 m0 a1 m1 : Nat} {N N' : Int} {s s' : LS} {P : CL} {vw : Value} {kd t q : Int} (h : LB w W xb pb cb rb a0 m0 a1 m1 N s P vw kd t q) (hL : LAt W' cb rb a0 m0 a1 m1 N' s') (hC : Chg [cb, rb, a0, m0, a1, m1] W W') (hs : s'.still) (hp : PrOk s' P) :
    LRel w pb cb rb a0 m0 a1 m1 N' vw (.slice none 0 0) W' := by
  obtain ⟨h1, h2, h3, h4⟩ := h.call hL hC
  refine ⟨s', P, [], ordT s.W, h1, hs, hp, h4, OwnI.nil hL.lt, h2.less, by simp, ?_, by simp⟩
  unfold ordT
  rw [List.length_map, ordT_len h.f.l.inv.w]
  have := h.f.l.lw.facts.2.2
  omega
theorem LB.relPut {w W W' : World} {xb pb cb rb a0 m0 a1 m1 : Nat} {N N' : Int} {s s' : LS} {P : CL} {vw : Value} {kd t q : Int} (h : LB w W xb pb cb rb a0 m0 a1 m1 N s P vw kd t q) (hL : LAt W' cb rb a0 m0 a1 m1 N' s') (hC : Chg [cb, rb, a0, m0, a1, m1] W W') (hs : s'.still) (k : Nat) (hp : PrOk s' (P.set k q)) :
    LRel w pb cb rb a0 m0 a1 m1 N' vw (.slice none 0 0) (W'.setCell ⟨pb, k, none⟩ (.int .i64 q)) := by
  obtain ⟨h1, h2, h3, h4⟩ := h.call hL hC
  have hS : Chg [pb] W' (W'.setCell ⟨pb, k, none⟩ (.int .i64 q)) := (Chg.refl _ _).setCell _ _ (by simp)
  have hF := h1.aside hS (fun j hj => by simp at hj; subst hj; exact ⟨h.ne.2.1, h.pw⟩)
  refine ⟨s', P.set k q, [], ordT s.W, hF, hs, hp, h4.put k q, OwnI.nil hF.l.lt, (h2.kept' hS (fun j hj => by simp at hj ⊢; omega)).less, by simp, ?_, by simp⟩
  unfold ordT
  rw [List.length_map, ordT_len h.f.l.inv.w]
  have := h.f.l.lw.facts.2.2
  omega
theorem let_few {s : LS} (_h : LInv s) (hR : s.R.length ≤ 16) (hW : s.W.length ≤ 16) : s.let_.1.length < 4611686018427387904 := by
  have := letN_len (s.R.length + s.W.length) s
  unfold LS.let_
  omega

set_option maxRecDepth 100000 in
set_option maxHeartbeats 16000000 in
theorem lockAlone_any (v : Value) (R : List (Nat → Int)) (w : World) (hv : IsRows 3 w v R) :
    Calls Try.prog 3 #[v] w fun e w' => e = .returned (.bool true) ∧ Chg [] w w' := by
  obtain ⟨a, cap, rfl⟩ := hv.slice
  have HV := Lib.hid hv
  clear hv
  obtain ⟨n, hn⟩ : ∃ n, n = R.length := ⟨_, rfl⟩
  rw [← hn]
  have HN := Lib.hid hn
  clear hn
  go_enter Try.func3, Try.ntmps3
  go_wp2_with fail
  refine (known15 w).mono ?_
  rintro e w0 ⟨rfl, hC⟩
  have HC0 := Lib.hid hC
  clear hC
  go_wp2_with fail
  refine (fnew w w0 HC0.out).mono ?_
  rintro e w1 ⟨cb, rb, a0, m0, a1, m1, rfl, hF, hC, hg⟩
  have hC1 : Chg [] w1 (w1.alloc (.cells ((List.replicate 16 (0 : Int)).map (Value.int .i64)).toArray 26)) := (Chg.refl _ _).alloc _
  have hA : PrAt (w1.alloc (.cells ((List.replicate 16 (0 : Int)).map (Value.int .i64)).toArray 26)) w1.heap.size (List.replicate 16 (0 : Int)) := heap_alloc_eq w1 _
  have H1 := Lib.hid (And.intro (hF.calm hC1) (And.intro hA (And.intro hF.l.lt hF.c.size)))
  clear hF hC hg hC1 hA
  go_wp2
  go_loopw [5] (fun i wr => ∃ (k : Nat) (s : LS) (P : CL), k ≤ n ∧ k ≤ 200 ∧ i = .int .i64 k ∧ FK w wr cb rb a0 m0 a1 m1 k s ∧ s.still ∧ PrOk s P ∧ PrAt wr w1.heap.size P) (fun i _ => n - (intOf i).toNat)
  case atStart => exact ⟨0, lnew, _, by omega, by omega, rfl, H1.out.1, still_new, PrOk.new, H1.out.2.1⟩
  case round =>
    obtain ⟨k, s, P, hk, hk2, rfl, hF, hs, hp, hP⟩ := hrel
    have HK := Lib.hid (And.intro hF (And.intro hs (And.intro hp hP)))
    have hl := hF.l.lt
    have HL := Lib.hid hl
    have hpb := lt_of_blk hP
    have hgg := hF.c.size
    have hp3 := H1.out.2.2
    have HP3 := Lib.hid hp3
    clear hF hs hp hP hl hp3
    by_cases hlt : k < n ∧ k < 200
    · obtain ⟨hlt, hlt2⟩ := hlt
      have hne : R ≠ [] := fun e => by have := HN.out; rw [e] at this; simp at this; omega
      obtain ⟨g, o, cap', hsl, hcells⟩ := HV.out.addr hne
      cases hsl
      obtain ⟨x, hx⟩ : ∃ x, R[k]? = some x := ⟨_, List.getElem?_eq_getElem (by have := HN.out; omega)⟩
      have hrow := IsRows.row hcells HK.out.1.c hx
      have d0 := hrow 0 (by omega)
      have d1 := hrow 1 (by omega)
      have d2 := hrow 2 (by omega)
      rw [Nat.add_zero] at d0
      clear hcells hrow hx hne
      generalize x 0 = kd at *
      generalize x 1 = t at *
      generalize x 2 = q at *
      have h1 : Chg [] wr (wr.alloc (.cells #[.int .i64 kd, .int .i64 t, .int .i64 q] 28)) := (Chg.refl _ _).alloc _
      have HA := Lib.hid (And.intro h1 (heap_alloc_eq wr (.cells #[.int .i64 kd, .int .i64 t, .int .i64 q] 28)))
      clear h1
      go_wp2_with fail
      refine (lwritersc cb rb a0 m0 a1 m1 k s _ (HK.out.1.l.calm HA.out.1)).mono ?_
      rintro e w3 ⟨vw, rfl, ho, hC⟩
      have hS3 := hC.blk HA.out.2 (by simp)
      have hC3 := HA.out.1.trans hC
      have HB := Lib.hid (show LB w w3 wr.heap.size w1.heap.size cb rb a0 m0 a1 m1 k s P vw kd t q from by
        refine ⟨HK.out.1.calm hC3, ⟨_, ho, fun j hj => ?_⟩, hS3, HK.out.2.2.2.kept hC3 (by simp), ⟨fun hm => ?_, fun hm => ?_, ?_⟩, ?_, HP3.out.2⟩
        · have h5 := HA.out.1.size
          rcases List.mem_cons.1 hj with rfl | hj
          · omega
          · have := HL.out j hj
            omega
        · have := HL.out _ hm
          omega
        · have := HP3.out.1 _ hm
          omega
        · omega
        · have := hC3.size
          omega)
      clear ho hC hS3 hC3 hpb hgg d0 d1 d2 HA
      have x0 := cellB HB.out.x (i := 0) rfl
      have x1 := cellB HB.out.x (i := 1) rfl
      have x2 := cellB HB.out.x (i := 2) rfl
      go_upto_block 2 with fail
      go_cut [7, 8] from 18 to 149 (fun vw vi wx => LRel w w1.heap.size cb rb a0 m0 a1 m1 ((k + 1 : Nat) : Int) vw vi wx)
      case first => as_aux_lemma =>
        have hkk : (k : Int) ≤ ((k + 1 : Nat) : Int) := by omega
        have hcast : ((k + 1 : Nat) : Int) = (k : Int) + 1 := by omega
        have HX := Lib.hid hcast
        clear hcast
        have hk8 : kd = 1 ∨ kd = 2 ∨ kd = 3 ∨ kd = 4 ∨ kd = 5 ∨ kd = 6 ∨ kd = 7 ∨ ((kd == 1) = false ∧ (kd == 2) = false ∧ (kd == 3) = false ∧ (kd == 4) = false ∧ (kd == 5) = false ∧ (kd == 6) = false ∧ (kd == 7) = false) := by
          by_cases h1 : kd = 1
          · simp [h1]
          · by_cases h2 : kd = 2
            · simp [h2]
            · by_cases h3 : kd = 3
              · simp [h3]
              · by_cases h4 : kd = 4
                · simp [h4]
                · by_cases h5 : kd = 5
                  · simp [h5]
                  · by_cases h6 : kd = 6
                    · simp [h6]
                    · by_cases h7 : kd = 7
                      · simp [h7]
                      · simp [h1, h2, h3, h4, h5, h6, h7]
        rcases hk8 with rfl | rfl | rfl | rfl | rfl | rfl | rfl | ⟨k1, k2, k3, k4, k5, k6, k7⟩
        · as_aux_lemma =>
          have hL := lreadc cb rb a0 m0 a1 m1 k s t q w3 HB.out.f.l (by omega)
          rw [← HX.out] at hL
          generalize s.wantB false t q = ub at hL
          have hs := still_want HB.out.f.l.inv HK.out.2.1 false t q true
          by_cases he : s.wantE false t q = 0
          · have hp := HK.out.2.2.1.want HB.out.f.l.inv false t q true he
            have hok := (LS.wantE_ok he).1
            obtain ⟨tn, rfl⟩ : ∃ tn : Nat, t = tn := ⟨t.toNat, by have := hok.1; omega⟩
            have htn : tn < 16 := by have := hok.2; omega
            rw [he] at hL
            have HLc := Lib.hid hL
            have HS := Lib.hid (And.intro hs hp)
            clear hL hs hp hok he
            go_wp2_with fail
            refine HLc.out.mono ?_
            rintro e w4 ⟨rfl, hL, hC⟩
            obtain ⟨-, -, h3, h4⟩ := HB.out.call hL hC
            have y1 := cellB h3 (i := 1) rfl
            have y2 := cellB h3 (i := 2) rfl
            have z1 := h4.cell HK.out.2.2.1.len htn
            have z2 := h4.frozen tn
            have HZ := Lib.hid (HB.out.relPut hL hC HS.out.1 tn HS.out.2)
            clear hL hC h3 h4
            go_wp2_with (go_at_call 11; refine (lnumc _ _).mono ?_; rintro e w' ⟨rfl, rfl⟩)
            go_meet
            case rel => exact HZ.out
          · have hp := HK.out.2.2.1.want_no false t q true he
            have hb : (s.wantE false t q == 0) = false := by simpa using he
            generalize s.wantE false t q = r at hL hb
            have HLc := Lib.hid hL
            have HS := Lib.hid (And.intro hs hp)
            clear hL hs hp he
            go_wp2_with fail
            refine HLc.out.mono ?_
            rintro e w4 ⟨rfl, hL, hC⟩
            have HZ := Lib.hid (HB.out.rel hL hC HS.out.1 HS.out.2)
            clear hL hC
            go_wp2_with (go_at_call 11; refine (lnumc _ _).mono ?_; rintro e w' ⟨rfl, rfl⟩)
            go_meet
            case rel => exact HZ.out
        · as_aux_lemma =>
          have hL := lwritec cb rb a0 m0 a1 m1 k s t q w3 HB.out.f.l (by omega)
          rw [← HX.out] at hL
          generalize s.wantB true t q = ub at hL
          have hs := still_want HB.out.f.l.inv HK.out.2.1 true t q true
          by_cases he : s.wantE true t q = 0
          · have hp := HK.out.2.2.1.want HB.out.f.l.inv true t q true he
            have hok := (LS.wantE_ok he).1
            obtain ⟨tn, rfl⟩ : ∃ tn : Nat, t = tn := ⟨t.toNat, by have := hok.1; omega⟩
            have htn : tn < 16 := by have := hok.2; omega
            rw [he] at hL
            have HLc := Lib.hid hL
            have HS := Lib.hid (And.intro hs hp)
            clear hL hs hp hok he
            go_wp2_with fail
            refine HLc.out.mono ?_
            rintro e w4 ⟨rfl, hL, hC⟩
            obtain ⟨-, -, h3, h4⟩ := HB.out.call hL hC
            have y1 := cellB h3 (i := 1) rfl
            have y2 := cellB h3 (i := 2) rfl
            have z1 := h4.cell HK.out.2.2.1.len htn
            have z2 := h4.frozen tn
            have HZ := Lib.hid (HB.out.relPut hL hC HS.out.1 tn HS.out.2)
            clear hL hC h3 h4
            go_wp2_with (go_at_call 11; refine (lnumc _ _).mono ?_; rintro e w' ⟨rfl, rfl⟩)
            go_meet
            case rel => exact HZ.out
          · have hp := HK.out.2.2.1.want_no true t q true he
            have hb : (s.wantE true t q == 0) = false := by simpa using he
            generalize s.wantE true t q = r at hL hb
            have HLc := Lib.hid hL
            have HS := Lib.hid (And.intro hs hp)
            clear hL hs hp he
            go_wp2_with fail
            refine HLc.out.mono ?_
            rintro e w4 ⟨rfl, hL, hC⟩
            have HZ := Lib.hid (HB.out.rel hL hC HS.out.1 HS.out.2)
            clear hL hC
            go_wp2_with (go_at_call 11; refine (lnumc _ _).mono ?_; rintro e w' ⟨rfl, rfl⟩)
            go_meet
            case rel => exact HZ.out
        · as_aux_lemma =>
          have hL := ltryreadc cb rb a0 m0 a1 m1 k s t q w3 HB.out.f.l (by omega)
          rw [← HX.out] at hL
          generalize s.wantB false t q = ub at hL
          generalize s.wantE false t q = r at hL
          have HS := Lib.hid (And.intro (still_want HB.out.f.l.inv HK.out.2.1 false t q false) (HK.out.2.2.1.try_ false t q))
          have HLc := Lib.hid hL
          clear hL
          go_wp2_with fail
          refine HLc.out.mono ?_
          rintro e w4 ⟨rfl, hL, hC⟩
          have HZ := Lib.hid (HB.out.rel hL hC HS.out.1 HS.out.2)
          clear hL hC
          go_wp2
          go_meet
          case rel => exact HZ.out
        · as_aux_lemma =>
          have hL := ltrywritec cb rb a0 m0 a1 m1 k s t q w3 HB.out.f.l (by omega)
          rw [← HX.out] at hL
          generalize s.wantB true t q = ub at hL
          generalize s.wantE true t q = r at hL
          have HS := Lib.hid (And.intro (still_want HB.out.f.l.inv HK.out.2.1 true t q false) (HK.out.2.2.1.try_ true t q))
          have HLc := Lib.hid hL
          clear hL
          go_wp2_with fail
          refine HLc.out.mono ?_
          rintro e w4 ⟨rfl, hL, hC⟩
          have HZ := Lib.hid (HB.out.rel hL hC HS.out.1 HS.out.2)
          clear hL hC
          go_wp2
          go_meet
          case rel => exact HZ.out
        · as_aux_lemma =>
          have hL := lunlockc cb rb a0 m0 a1 m1 k s t w3 HB.out.f.l
          generalize s.unE t = r at hL
          have HS := Lib.hid (And.intro (still_un HB.out.f.l.inv HK.out.2.1 t) (And.intro (HK.out.2.2.1.un HB.out.f.l.inv t) (un_in HB.out.f.l.inv t)))
          have HLc := Lib.hid hL
          clear hL
          go_wp2_with fail
          refine HLc.out.mono ?_
          rintro e w4 ⟨vi, rfl, ho, hL, hC⟩
          have HZ := Lib.hid (show LRel w w1.heap.size cb rb a0 m0 a1 m1 ((k + 1 : Nat) : Int) vw vi w4 from by
            obtain ⟨h1, h2, h3, h4⟩ := HB.out.call hL hC
            refine ⟨_, P, _, ordT s.W, h1.mono hkk, HS.out.1, HS.out.2.1, h4, ⟨_, ho, HB.out.f.l.lt⟩, h2.less, ?_, ?_, fun x hx h5 h6 h7 => ?_⟩
            · unfold LS.unL
              split
              · rename_i he
                have hW : (s.un1 t).W = s.W := by unfold LS.un1; split <;> rfl
                have hR : (s.un1 t).R = s.R := by unfold LS.un1; split <;> rfl
                exact let_few (HB.out.f.l.inv.un1 he) (by rw [hR]; exact HB.out.f.l.lr.facts.2.2) (by rw [hW]; exact HB.out.f.l.lw.facts.2.2)
              · simp
            · unfold ordT
              rw [List.length_map, ordT_len HB.out.f.l.inv.w]
              have := HB.out.f.l.lw.facts.2.2
              omega
            · rw [HS.out.2.2 x hx h5 h6]
              exact ordT_head h7)
          clear ho hL hC
          go_wp2
          go_meet
          case rel => exact HZ.out
        · as_aux_lemma =>
          have hL := lleavec cb rb a0 m0 a1 m1 k s t w3 HB.out.f.l
          generalize s.chE t 1 = r at hL
          have HS := Lib.hid (And.intro (still_lv HB.out.f.l.inv HK.out.2.1 t) (HK.out.2.2.1.lv HB.out.f.l.inv t))
          have HLc := Lib.hid hL
          clear hL
          go_wp2_with fail
          refine HLc.out.mono ?_
          rintro e w4 ⟨vi, rfl, ho, hL, hC⟩
          have HZ := Lib.hid (show LRel w w1.heap.size cb rb a0 m0 a1 m1 ((k + 1 : Nat) : Int) (.slice none 0 0) vi w4 from by
            obtain ⟨h1, h2, h3, h4⟩ := HB.out.call hL hC
            refine ⟨_, P, _, [], h1.mono hkk, HS.out.1, HS.out.2, h4, ⟨_, ho, HB.out.f.l.lt⟩, OwnI.nil hL.lt, ?_, by simp, fun x hx h5 h6 h7 => absurd rfl h7⟩
            unfold LS.lvT
            split
            · refine let_few (HB.out.f.l.inv.lv1 t) ?_ ?_
              · have := (lvL_sub HB.out.f.l.inv.r t).length_le
                have := HB.out.f.l.lr.facts.2.2
                show (lvL s.R t).length ≤ 16
                omega
              · have := (lvL_sub HB.out.f.l.inv.w t).length_le
                have := HB.out.f.l.lw.facts.2.2
                show (lvL s.W t).length ≤ 16
                omega
            · simp)
          clear ho hL hC
          go_wp2
          go_meet
          case rel => exact HZ.out
        · as_aux_lemma =>
          have hL := lchangec cb rb a0 m0 a1 m1 k s t q w3 HB.out.f.l
          have hs := still_ch HB.out.f.l.inv HK.out.2.1 t q
          have hfew : (s.chT t q).length < 4611686018427387904 := by
            unfold LS.chT
            split
            · refine let_few (HB.out.f.l.inv.ch1 t q) ?_ ?_
              · have h5 := congrArg List.length (chgL_keys HB.out.f.l.inv.r t q)
                simp at h5
                have := HB.out.f.l.lr.facts.2.2
                show (chgL s.R t q).length ≤ 16
                omega
              · have h5 := congrArg List.length (chgL_keys HB.out.f.l.inv.w t q)
                simp at h5
                have := HB.out.f.l.lw.facts.2.2
                show (chgL s.W t q).length ≤ 16
                omega
            · simp
          have HFW := Lib.hid hfew
          clear hfew
          by_cases he : s.chE t q = 0
          · have hp := HK.out.2.2.1.ch HB.out.f.l.inv t q he
            have hok : okT t := by
              unfold LS.chE at he
              split at he
              · rename_i hh; exact thB_iff.1 hh.1
              · omega
            obtain ⟨tn, rfl⟩ : ∃ tn : Nat, t = tn := ⟨t.toNat, by have := hok.1; omega⟩
            have htn : tn < 16 := by have := hok.2; omega
            rw [he] at hL
            have HLc := Lib.hid hL
            have HS := Lib.hid (And.intro hs hp)
            clear hL hs hp hok he
            go_wp2_with fail
            refine HLc.out.mono ?_
            rintro e w4 ⟨vi, rfl, ho, hL, hC⟩
            obtain ⟨h1, -, h3, h4⟩ := HB.out.call hL hC
            have y1 := cellB h3 (i := 1) rfl
            have y2 := cellB h3 (i := 2) rfl
            have z1 := h4.cell HK.out.2.2.1.len htn
            have z2 := h4.frozen tn
            have HZ := Lib.hid (show LRel w w1.heap.size cb rb a0 m0 a1 m1 ((k + 1 : Nat) : Int) (.slice none 0 0) vi (w4.setCell ⟨w1.heap.size, tn, none⟩ (.int .i64 q)) from by
              have hS : Chg [w1.heap.size] w4 (w4.setCell ⟨w1.heap.size, tn, none⟩ (.int .i64 q)) := (Chg.refl _ _).setCell _ _ (by simp)
              have hF := (h1.mono hkk).aside hS (fun j hj => by simp at hj; subst hj; exact ⟨HB.out.ne.2.1, HB.out.pw⟩)
              have hO : OwnI (w1.heap.size :: [cb, rb, a0, m0, a1, m1]) w4 vi _ := ⟨_, ho, fun j hj => by
                rcases List.mem_cons.1 hj with rfl | hj
                · exact HB.out.pl
                · exact HB.out.f.l.lt j hj⟩
              refine ⟨_, P.set tn q, _, [], hF, HS.out.1, HS.out.2, h4.put tn q, (hO.kept' hS (fun j hj => by simp at hj ⊢; omega)).less, OwnI.nil hF.l.lt, HFW.out, by simp, fun x hx h5 h6 h7 => absurd rfl h7⟩)
            clear ho hL hC h1 h3 h4
            go_wp2_with (go_at_call 11; refine (lnumc _ _).mono ?_; rintro e w' ⟨rfl, rfl⟩)
            go_meet
            case rel => exact HZ.out
          · have hp := HK.out.2.2.1.ch_no t q he
            have hb : (s.chE t q == 0) = false := by simpa using he
            generalize s.chE t q = r at hL hb
            have HLc := Lib.hid hL
            have HS := Lib.hid (And.intro hs hp)
            clear hL hs hp he
            go_wp2_with fail
            refine HLc.out.mono ?_
            rintro e w4 ⟨vi, rfl, ho, hL, hC⟩
            have HZ := Lib.hid (show LRel w w1.heap.size cb rb a0 m0 a1 m1 ((k + 1 : Nat) : Int) (.slice none 0 0) vi w4 from by
              obtain ⟨h1, h2, h3, h4⟩ := HB.out.call hL hC
              exact ⟨_, P, _, [], h1.mono hkk, HS.out.1, HS.out.2, h4, ⟨_, ho, HB.out.f.l.lt⟩, OwnI.nil hL.lt, HFW.out, by simp, fun x hx h5 h6 h7 => absurd rfl h7⟩)
            clear ho hL hC
            go_wp2_with (go_at_call 11; refine (lnumc _ _).mono ?_; rintro e w' ⟨rfl, rfl⟩)
            go_meet
            case rel => exact HZ.out
        · as_aux_lemma =>
          have HZ := Lib.hid (HB.out.rel (HB.out.f.l.mono hkk) (Chg.refl _ _) HK.out.2.1 HK.out.2.2.1)
          go_wp2
          go_meet
          case rel => exact HZ.out
      case rest => as_aux_lemma =>
        obtain ⟨s', P', l, wl, hF, hs, hp, hP, hoi, how, hl1, hl2, hin⟩ := hcut
        have HC := Lib.hid (And.intro hF (And.intro hs (And.intro hp (And.intro hP (And.intro hoi.ints (And.intro how.ints hin))))))
        obtain ⟨ai, ci, rfl⟩ := hoi.slice
        obtain ⟨aw, cw, rfl⟩ := how.slice
        clear hF hs hp hP hoi how hin x0 x1 x2 HB
        go_wp2_with fail
        refine (lalonec w1.heap.size cb rb a0 m0 a1 m1 _ s' P' wc HC.out.1.l HC.out.2.1 HC.out.2.2.1 HC.out.2.2.2.1).mono ?_
        rintro e w5 ⟨rfl, hC⟩
        have H5 := Lib.hid hC
        clear hC
        have hW := lwriterc cb rb a0 m0 a1 m1 _ s' w5 (HC.out.1.l.calm H5.out)
        obtain ⟨kw, hkw⟩ : ∃ x, x = (if s'.wr = -1 then (0 : Int) else s'.wr) := ⟨_, rfl⟩
        obtain ⟨bw, hbw⟩ : ∃ x, x = !decide (s'.wr = -1) := ⟨_, rfl⟩
        rw [← hkw, ← hbw] at hW
        have HWr := Lib.hid (show bw = false ∨ (bw = true ∧ s'.wr = kw ∧ kw ≠ -1) from by
          rw [hbw, hkw]
          by_cases h : s'.wr = -1
          · left; simp [h]
          · right; simp [h])
        have HW := Lib.hid hW
        obtain ⟨nl, hnl⟩ : ∃ x, x = l.length := ⟨_, rfl⟩
        obtain ⟨nw, hnw⟩ : ∃ x, x = wl.length := ⟨_, rfl⟩
        have HLL := Lib.hid (And.intro hnl hnw)
        rw [← hnl] at hl1 ⊢
        rw [← hnw] at hl2 ⊢
        clear hW hkw hbw hnl hnw
        go_wp2_with fail
        refine HW.out.mono ?_
        rintro e w6 ⟨rfl, hC⟩
        have H6 := Lib.hid (H5.out.trans hC)
        clear hC
        go_wp2
        go_loopw [12] (fun i wz => ∃ j : Nat, j ≤ nl ∧ i = .int .i64 j ∧ Chg [] wc wz) (fun i _ => nl - (intOf i).toNat)
        case atStart => exact ⟨0, by omega, rfl, H6.out⟩
        case round =>
          obtain ⟨j, hj, rfl, hC⟩ := hrel
          have HD := Lib.hid hC
          clear hC
          have hcase : (j < nl ∧ 0 < nw) ∨ (¬ j < nl) ∨ (j < nl ∧ ¬ 0 < nw) := by omega
          rcases hcase with ⟨c1, c2⟩ | c1 | ⟨c1, c2⟩
          · have hne : l ≠ [] := fun e => by have := HLL.out.1; rw [e] at this; simp at this; omega
            have hne2 : wl ≠ [] := fun e => by have := HLL.out.2; rw [e] at this; simp at this; omega
            obtain ⟨y, hy⟩ : ∃ y, l[j]? = some y := ⟨_, List.getElem?_eq_getElem (by have := HLL.out.1; omega)⟩
            obtain ⟨z, hz⟩ : ∃ z, wl[0]? = some z := ⟨_, List.getElem?_eq_getElem (by have := HLL.out.2; omega)⟩
            obtain ⟨bi, oi, ci2, ei, hci⟩ := HC.out.2.2.2.2.1.addr hne
            obtain ⟨bv, ov, cw2, ew, hcw⟩ := HC.out.2.2.2.2.2.1.addr hne2
            obtain ⟨rfl, -, rfl⟩ := Value.slice.inj ei
            obtain ⟨rfl, -, rfl⟩ := Value.slice.inj ew
            have y1 := cell_kept' (hci j _ hy) HD.out (by simp)
            have y2 := cell_kept' (hcw 0 _ hz) HD.out (by simp)
            rw [Nat.add_zero] at y2
            have hq : bw = false ∨ (bw = true ∧ (y == kw) = false) ∨ (bw = true ∧ (y == kw) = true ∧ (kw != z) = false) := by
              rcases HWr.out with h | ⟨h1, h2, h3⟩
              · exact .inl h
              · right
                by_cases hyk : y = kw
                · right
                  have hm : kw ∈ l := by rw [← hyk]; exact List.mem_of_getElem? hy
                  have := HC.out.2.2.2.2.2.2 kw hm h2 h3 hne2
                  rw [hz] at this
                  have hzk : z = kw := Option.some.inj this
                  refine ⟨h1, by simp [hyk], by simp [hzk]⟩
                · left
                  exact ⟨h1, by simpa using hyk⟩
            clear hne hne2 hy hz ei ew hci hcw hj
            rcases hq with rfl | ⟨rfl, q1⟩ | ⟨rfl, q1, q2⟩
            all_goals
              go_wp2
              go_roundw
              case rel => exact ⟨j + 1, by omega, by go_num, HD.out⟩
              case measure => simp [intOf]; omega
          all_goals
            go_wp2
            go_roundw
            case rel => exact ⟨k + 1, s', P', by omega, by omega, by go_num, HC.out.1.calm HD.out, HC.out.2.1, HC.out.2.2.1, HC.out.2.2.2.1.kept HD.out (by simp)⟩
            case measure => simp [intOf]; omega
    · have hcs : (k < n ∧ ¬ k < 200) ∨ ¬ k < n := by omega
      have HC9 := Lib.hid HK.out.1.c
      clear hlt hpb hgg hk hk2
      rcases hcs with ⟨c1, c2⟩ | c1
      all_goals
        go_wp2
        go_ret
        exact ⟨rfl, HC9.out⟩

end Go.Proofs.Ytpdfeinbbjfcaaa
