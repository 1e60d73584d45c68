
/- metronomelaw18.QueueOnce answers true, whatever the room and the script (written by wip/once18.py). -/
import Derived.Test.YtiiafhlckmkcnaaVa
import Derived.Test.YtiiafhlckmkcnaaUo
namespace Go.Proofs.Ytiiafhlckmkcnaa
open Go.RowKit

theorem OW.mono {w W : World} {u : UB} {v : Value} {N N' : Int} {s : QS} {bh : Nat} {H : List Bool} {a b : Int} {k k' : Nat} {room : Int} (h : OW w W u v N s bh H a b k room) (hN : N ≤ N') (hk : k ≤ k') : OW w W u v N' s bh H a b k' room :=
  ⟨⟨h.q.at_.mono hN, h.q.c, h.q.g, h.q.x⟩, h.h, h.hb, h.m, h.o, h.n, ⟨h.r.1, h.r.2.1, by have := h.r.2.2; omega⟩, h.rm⟩
theorem send_room (s : QS) (t p : Int) (m : Int × Int) : (s.sendS t p m).room = s.room := by unfold QS.sendS; split; split; rfl; split <;> rfl; rfl
theorem rcv_room (s : QS) (t p : Int) : (s.rcvS t p).room = s.room := by
  unfold QS.rcvS QS.rcv1
  split
  · split
    · rfl
    · split
      · rfl
      · split <;> rfl
  · rfl
theorem lv_room (s : QS) (t : Int) : (s.lvS t).room = s.room := by unfold QS.lvS; split; split <;> rfl; rfl
theorem ch_room (s : QS) (t p : Int) : (s.chS t p).room = s.room := by unfold QS.chS; split; split <;> rfl; rfl
theorem top_cons (x : Int × Int) (r : WL) : topM (x :: r) = x ∧ topB (x :: r) = true := ⟨rfl, rfl⟩

set_option maxRecDepth 100000 in
set_option maxHeartbeats 16000000 in
theorem queueOnce_any (room : Int) (v : Value) (R : List (Nat → Int)) (w : World) (hv : IsRows 5 w v R) :
    Calls Try.prog 3 #[.int .i64 room, v] w fun e w' => e = .returned (.bool true) ∧ Chg [] w w' := by
  obtain ⟨a, cap, rfl⟩ := hv.slice
  have HV := Lib.hid hv
  clear hv
  obtain ⟨n, hn⟩ : ∃ n, n = R.length := ⟨_, rfl⟩
  rw [← hn]
  have HN := Lib.hid hn
  clear hn
  cases hb : roomB room with
  | false =>
    have HB := Lib.hid hb
    clear hb
    go_enter Try.func3, Try.ntmps3
    go_wp2_with fail
    refine (known18 w).mono ?_
    rintro e w0 ⟨rfl, hC0⟩
    have H0 := Lib.hid hC0
    clear hC0
    go_wp2_with fail
    refine (unewno room w0 HB.out).mono ?_
    rintro e w' ⟨rfl, rfl⟩
    go_wp2_with (go_at_call 7; refine (unumc _ _).mono ?_; rintro e w' ⟨rfl, rfl⟩)
    go_ret
    exact ⟨rfl, H0.out⟩
  | true =>
    have HB := Lib.hid hb
    clear hb
    go_enter Try.func3, Try.ntmps3
    go_wp2_with fail
    refine (known18 w).mono ?_
    rintro e w0 ⟨rfl, hC0⟩
    have H0 := Lib.hid hC0
    clear hC0
    go_wp2_with fail
    refine (unewc room w0 HB.out).mono ?_
    rintro e w1 ⟨u, rfl, hg, hU, hC⟩
    have HK := Lib.hid (show KQ w w1 u (.slice none 0 0) 0 (qnew room) [] from ⟨hU, H0.out.trans hC, fun k hk => by
      rcases List.mem_append.1 hk with h1 | h1
      · exact Nat.le_trans H0.out.size (hg k h1)
      · simp [Value.ownBlock] at h1, by simp⟩)
    clear hg hU hC
    go_upto_region 8 with (go_at_call 7; refine (unumc _ _).mono ?_; rintro e w' ⟨rfl, rfl⟩)
    obtain ⟨bh, hbh⟩ : ∃ bh, bh = w1.heap.size := ⟨_, rfl⟩
    obtain ⟨w2, hw2⟩ : ∃ w2, w2 = w1.alloc (.cells (boolsV (List.replicate 16 false)) 29 (0, 0)) := ⟨_, rfl⟩
    have hC2 : Chg [] w1 w2 := by rw [hw2]; exact (Chg.refl _ _).alloc _
    have HO := Lib.hid (show OW w w2 u (.slice none 0 0) 0 (qnew room) bh (List.replicate 16 false) 0 0 0 room from
      ⟨HK.out.calm hC2, by rw [hw2, hbh]; exact heap_alloc_eq w1 _, ⟨by rw [hbh]; exact HK.out.c.size, fun hk => by have := HK.out.at_.lt _ hk; omega⟩, MarkI.new room, OnceI.new room, by simp [qnew], by simp, rfl⟩)
    rw [← hbh, show w1.alloc (.cells #[.bool false, .bool false, .bool false, .bool false, .bool false, .bool false, .bool false, .bool false, .bool false, .bool false, .bool false, .bool false, .bool false, .bool false, .bool false, .bool false] 29) = w2 from hw2.symm]
    clear hC2 hw2 hbh HK H0
    go_wp2
    go_loopw [7, 8, 10] (fun a b i wr => ∃ (k : Nat) (s : QS) (v' : Value) (H : List Bool) (x y : Int), k ≤ n ∧ k ≤ 200 ∧ a = .int .i64 x ∧ b = .int .i64 y ∧ i = .int .i64 k ∧ OW w wr u v' k s bh H x y k room) (fun _ _ i _ => 200 - (intOf i).toNat)
    case atStart => exact ⟨0, _, _, _, 0, 0, by omega, by omega, rfl, rfl, rfl, HO.out⟩
    case round =>
      obtain ⟨k, s, v', H, x, y, hk, hk2, rfl, rfl, rfl, hO⟩ := hrel
      clear HO
      have HO := Lib.hid hO
      clear hO
      have hcase : (k < n ∧ k < 200) ∨ (¬ k < n) ∨ (k < n ∧ ¬ k < 200) := by omega
      rcases hcase with ⟨hlt, hlt2⟩ | hlt | ⟨hlt, hlt2⟩
      · as_aux_lemma =>
        have hne : R ≠ [] := fun e => by have := HN.out; rw [e] at this; simp at this; omega
        obtain ⟨g, o, cap', hsl, hcells⟩ := HV.out.addr hne
        cases hsl
        obtain ⟨z, hz⟩ : ∃ z, R[k]? = some z := ⟨_, List.getElem?_eq_getElem (by have := HN.out; omega)⟩
        have hrow := IsRows.row hcells HO.out.q.c hz
        have d0 := hrow 0 (by omega)
        have d1 := hrow 1 (by omega)
        have d2 := hrow 2 (by omega)
        have d3 := hrow 3 (by omega)
        have d4 := hrow 4 (by omega)
        rw [Nat.add_zero] at d0
        clear hcells hrow hz hne
        generalize z 0 = kd at *
        generalize z 1 = t at *
        generalize z 2 = p at *
        generalize z 3 = mv at *
        generalize z 4 = mp at *
        obtain ⟨bx, hbx⟩ : ∃ bx, bx = wr.heap.size := ⟨_, rfl⟩
        obtain ⟨wx, hwx⟩ : ∃ wx, wx = wr.alloc (.cells #[.int .i64 kd, .int .i64 t, .int .i64 p, .int .i64 mv, .int .i64 mp] 33 (0, 0)) := ⟨_, rfl⟩
        have hCx : Chg [] wr wx := by rw [hwx]; exact (Chg.refl _ _).alloc _
        have HX := Lib.hid (And.intro (HO.out.calm hCx) (And.intro (show wx.heap[bx]? = some (.cells #[.int .i64 kd, .int .i64 t, .int .i64 p, .int .i64 mv, .int .i64 mp] 33 (0, 0)) by rw [hwx, hbx]; exact heap_alloc_eq wr _) (show bx ∉ blkU u v' ∧ bx ≠ bh by
          have h1 := lt_of_blk HO.out.h
          exact ⟨fun hk => by have := HO.out.q.at_.lt _ hk; omega, by omega⟩)))
        have hr := HO.out.r
        have hkk : (k : Int) + 1 = ((k + 1 : Nat) : Int) := by omega
        have hwx1 : IntKind.i64.wrap (x + 1) = x + 1 := by rw [IntKind.wrap_i64]; omega
        have hwy1 : IntKind.i64.wrap (y + 1) = y + 1 := by rw [IntKind.wrap_i64]; omega
        have HR := Lib.hid hr
        clear hr hCx
        go_upto_region 12 with fail
        rw [← hbx, ← hwx]
        clear hbx hwx d0 d1 d2 d3 d4
        have x0 := cellB HX.out.2.1 (i := 0) rfl
        have x1 := cellB HX.out.2.1 (i := 1) rfl
        have x2 := cellB HX.out.2.1 (i := 2) rfl
        have x4 := cellB HX.out.2.1 (i := 4) rfl
        go_upto_block 2 with fail
        go_cut [7, 8, 12, 13, 14, 15, 16, 17] from 28 to 184 (fun a b _ _ _ _ _ _ wc => ∃ (s' : QS) (v2 : Value) (H' : List Bool) (x' y' : Int), a = .int .i64 x' ∧ b = .int .i64 y' ∧ OW w wc u v2 ((k + 1 : Nat) : Int) s' bh H' x' y' (k + 1) room)
        case first => as_aux_lemma =>
          have hk4 : kd = 1 ∨ kd = 2 ∨ kd = 3 ∨ kd = 4 ∨ ((kd == 1) = false ∧ (kd == 2) = false ∧ (kd == 3) = false ∧ (kd == 4) = false) := by
            by_cases h1 : kd = 1
            · simp [h1]
            · by_cases h2 : kd = 2
              · simp [h2]
              · by_cases h3 : kd = 3
                · simp [h3]
                · by_cases h4 : kd = 4
                  · simp [h4]
                  · simp [h1, h2, h3, h4]
          rcases hk4 with rfl | rfl | rfl | rfl | ⟨k1, k2, k3, k4⟩
          · as_aux_lemma => -- Send
            have hw := send_ways HX.out.1.q.at_.inv HX.out.1.m t p ((k : Int), mp)
            have hS1 := usendc u v' k s t p ((k : Int), mp) wx HX.out.1.q.at_ (by omega)
            unfold msgV at hS1
            have hnn := HX.out.1.n
            rcases hw with ⟨he, hs⟩ | ⟨he, ht, hP, hL, hM⟩ | ⟨he, hP, hL, hM⟩ | ⟨he, ⟨o, ho, hP⟩, hL, hM⟩
            · rw [hs] at hS1
              obtain ⟨E, hE⟩ : ∃ E, E = s.askE t p mp false := ⟨_, rfl⟩
              have he : E ≠ 0 := by rw [hE]; exact he
              simp only [← hE] at hS1
              have hbE : (E != 0) = true := by simpa using he
              obtain ⟨p0', p1', p2', p3', hP⟩ : ∃ a b c d, s.sendP t p ((k : Int), mp) = ⟨a, b, c, d⟩ := ⟨_, _, _, _, rfl⟩
              rw [hP] at hS1
              unfold pdV at hS1
              have HS1 := Lib.hid hS1
              have HM := Lib.hid (And.intro hnn hs)
              clear hS1 hP hE he hs hnn
              go_wp2_with fail
              refine (HS1.out).mono ?_
              intro e w4 hS
              obtain ⟨v4, rfl, hK4, hh4, hb4⟩ := HX.out.1.step hS
              obtain ⟨v5, _, _, hCs, _⟩ := hS
              have hx4 := hCs.blk HX.out.2.1 HX.out.2.2.1
              clear hCs
              obtain ⟨ba, hba⟩ : ∃ ba, ba = w4.heap.size := ⟨_, rfl⟩
              obtain ⟨w5, hw5⟩ : ∃ w5, w5 = w4.alloc (.cells #[.bool p0', .int .i64 p1', .int .i64 p2', .int .i64 p3'] 35 (0, 0)) := ⟨_, rfl⟩
              have hC5 : Chg [] w4 w5 := by rw [hw5]; exact (Chg.refl _ _).alloc _
              have hp5 : w5.heap[ba]? = some (.cells #[.bool p0', .int .i64 p1', .int .i64 p2', .int .i64 p3'] 35 (0, 0)) := by rw [hw5, hba]; exact heap_alloc_eq w4 _
              have hx5 := hC5.blk hx4 (by simp)
              have x1 := cellB hx5 (i := 1) rfl
              have p0 := cellB hp5 (i := 0) rfl
              have p1 := cellB hp5 (i := 1) rfl
              have p2 := cellB hp5 (i := 2) rfl
              have p3 := cellB hp5 (i := 3) rfl
              have H5 := Lib.hid (And.intro (hK4.calm hC5) (And.intro (hC5.blk hh4 (by simp)) hb4))
              clear hC5 hp5 hx5 hx4 hK4 hh4 hb4
              go_upto_region 15 with fail
              rw [← hba, ← hw5]
              clear hba hw5
              go_wp2_with (go_at_call 7; refine (unumc _ _).mono ?_; rintro e w' ⟨rfl, rfl⟩)
              go_meet
              case rel => exact ⟨_, _, _, _, _, rfl, rfl, ⟨hkk ▸ H5.out.1, H5.out.2.1, H5.out.2.2, HX.out.1.m, HX.out.1.o, HM.out.1, ⟨by have := HR.out; omega, by have := HR.out; omega, by have := HR.out; omega⟩, ((rfl : s.room = s.room)).trans HX.out.1.rm⟩⟩
            · obtain ⟨tn, rfl⟩ : ∃ tn : Nat, t = tn := ⟨t.toNat, by have := ht.1; omega⟩
              have htn : (tn : Int) < 16 := ht.2
              have htn' : tn < 16 := by omega
              have hz := HX.out.1.m.1
              rw [hP, he] at hS1
              unfold pdV at hS1
              have HS1 := Lib.hid hS1
              have HM := Lib.hid (And.intro hM (And.intro hL hnn))
              clear hS1 hP he hL hM hnn ht
              go_wp2_with fail
              refine (HS1.out).mono ?_
              intro e w4 hS
              obtain ⟨v4, rfl, hK4, hh4, hb4⟩ := HX.out.1.step hS
              obtain ⟨v5, _, _, hCs, _⟩ := hS
              have hx4 := hCs.blk HX.out.2.1 HX.out.2.2.1
              clear hCs
              obtain ⟨ba, hba⟩ : ∃ ba, ba = w4.heap.size := ⟨_, rfl⟩
              obtain ⟨w5, hw5⟩ : ∃ w5, w5 = w4.alloc (.cells #[.bool false, .int .i64 (k : Int), .int .i64 mp, .int .i64 (-1)] 35 (0, 0)) := ⟨_, rfl⟩
              have hC5 : Chg [] w4 w5 := by rw [hw5]; exact (Chg.refl _ _).alloc _
              have hp5 : w5.heap[ba]? = some (.cells #[.bool false, .int .i64 (k : Int), .int .i64 mp, .int .i64 (-1)] 35 (0, 0)) := by rw [hw5, hba]; exact heap_alloc_eq w4 _
              have hx5 := hC5.blk hx4 (by simp)
              have x1 := cellB hx5 (i := 1) rfl
              have p0 := cellB hp5 (i := 0) rfl
              have p1 := cellB hp5 (i := 1) rfl
              have p2 := cellB hp5 (i := 2) rfl
              have p3 := cellB hp5 (i := 3) rfl
              have H5 := Lib.hid (And.intro (hK4.calm hC5) (And.intro (hC5.blk hh4 (by simp)) hb4))
              clear hC5 hp5 hx5 hx4 hK4 hh4 hb4
              go_upto_region 15 with fail
              rw [← hba, ← hw5]
              clear hba hw5
              obtain ⟨hv, hhv⟩ : ∃ b, H[tn]? = some b := ⟨_, List.getElem?_eq_getElem (by omega)⟩
              have z1 := bools_cell H5.out.2.1 (i := tn) hhv
              have z2 := frozenB H5.out.2.1 tn
              have H6 := Lib.hid (KQ.mark H5.out.1 H5.out.2.1 H5.out.2.2 tn true)
              clear hz hhv
              go_wp2_with (go_at_call 7; refine (unumc _ _).mono ?_; rintro e w' ⟨rfl, rfl⟩)
              go_meet
              case rel => exact ⟨_, _, _, _, _, rfl, rfl, ⟨hkk ▸ H6.out.1, H6.out.2, H5.out.2.2, HM.out.1, HX.out.1.o.send HX.out.1.q.at_.inv _ p ((k : Int), mp), by rw [HM.out.2.1]; exact HM.out.2.2, ⟨by have := HR.out; omega, by have := HR.out; omega, by have := HR.out; omega⟩, (send_room _ _ _ _).trans HX.out.1.rm⟩⟩
            · rw [hP, he] at hS1
              unfold pdV at hS1
              have HS1 := Lib.hid hS1
              have HM := Lib.hid (And.intro hM (And.intro hL hnn))
              clear hS1 hP he hL hM hnn
              go_wp2_with fail
              refine (HS1.out).mono ?_
              intro e w4 hS
              obtain ⟨v4, rfl, hK4, hh4, hb4⟩ := HX.out.1.step hS
              obtain ⟨v5, _, _, hCs, _⟩ := hS
              have hx4 := hCs.blk HX.out.2.1 HX.out.2.2.1
              clear hCs
              obtain ⟨ba, hba⟩ : ∃ ba, ba = w4.heap.size := ⟨_, rfl⟩
              obtain ⟨w5, hw5⟩ : ∃ w5, w5 = w4.alloc (.cells #[.bool true, .int .i64 (k : Int), .int .i64 mp, .int .i64 (-1)] 35 (0, 0)) := ⟨_, rfl⟩
              have hC5 : Chg [] w4 w5 := by rw [hw5]; exact (Chg.refl _ _).alloc _
              have hp5 : w5.heap[ba]? = some (.cells #[.bool true, .int .i64 (k : Int), .int .i64 mp, .int .i64 (-1)] 35 (0, 0)) := by rw [hw5, hba]; exact heap_alloc_eq w4 _
              have hx5 := hC5.blk hx4 (by simp)
              have x1 := cellB hx5 (i := 1) rfl
              have p0 := cellB hp5 (i := 0) rfl
              have p1 := cellB hp5 (i := 1) rfl
              have p2 := cellB hp5 (i := 2) rfl
              have p3 := cellB hp5 (i := 3) rfl
              have H5 := Lib.hid (And.intro (hK4.calm hC5) (And.intro (hC5.blk hh4 (by simp)) hb4))
              clear hC5 hp5 hx5 hx4 hK4 hh4 hb4
              go_upto_region 15 with fail
              rw [← hba, ← hw5]
              clear hba hw5
              go_wp2_with (go_at_call 7; refine (unumc _ _).mono ?_; rintro e w' ⟨rfl, rfl⟩)
              go_meet
              case rel => exact ⟨_, _, _, _, _, rfl, rfl, ⟨hkk ▸ H5.out.1, H5.out.2.1, H5.out.2.2, HM.out.1, HX.out.1.o.send HX.out.1.q.at_.inv t p ((k : Int), mp), by have h1 := HM.out.2.1; have h2 := HM.out.2.2; omega, ⟨by have := HR.out; omega, by have := HR.out; omega, by have := HR.out; omega⟩, (send_room _ _ _ _).trans HX.out.1.rm⟩⟩
            · have hoo : decide (0 ≤ o) = true := decide_eq_true ho
              rw [hP, he] at hS1
              unfold pdV at hS1
              have HS1 := Lib.hid hS1
              have HM := Lib.hid (And.intro hM (And.intro hL hnn))
              clear hS1 hP he hL hM hnn ho
              go_wp2_with fail
              refine (HS1.out).mono ?_
              intro e w4 hS
              obtain ⟨v4, rfl, hK4, hh4, hb4⟩ := HX.out.1.step hS
              obtain ⟨v5, _, _, hCs, _⟩ := hS
              have hx4 := hCs.blk HX.out.2.1 HX.out.2.2.1
              clear hCs
              obtain ⟨ba, hba⟩ : ∃ ba, ba = w4.heap.size := ⟨_, rfl⟩
              obtain ⟨w5, hw5⟩ : ∃ w5, w5 = w4.alloc (.cells #[.bool true, .int .i64 (k : Int), .int .i64 mp, .int .i64 o] 35 (0, 0)) := ⟨_, rfl⟩
              have hC5 : Chg [] w4 w5 := by rw [hw5]; exact (Chg.refl _ _).alloc _
              have hp5 : w5.heap[ba]? = some (.cells #[.bool true, .int .i64 (k : Int), .int .i64 mp, .int .i64 o] 35 (0, 0)) := by rw [hw5, hba]; exact heap_alloc_eq w4 _
              have hx5 := hC5.blk hx4 (by simp)
              have x1 := cellB hx5 (i := 1) rfl
              have p0 := cellB hp5 (i := 0) rfl
              have p1 := cellB hp5 (i := 1) rfl
              have p2 := cellB hp5 (i := 2) rfl
              have p3 := cellB hp5 (i := 3) rfl
              have H5 := Lib.hid (And.intro (hK4.calm hC5) (And.intro (hC5.blk hh4 (by simp)) hb4))
              clear hC5 hp5 hx5 hx4 hK4 hh4 hb4
              go_upto_region 15 with fail
              rw [← hba, ← hw5]
              clear hba hw5
              go_wp2_with (go_at_call 7; refine (unumc _ _).mono ?_; rintro e w' ⟨rfl, rfl⟩)
              go_meet
              case rel => exact ⟨_, _, _, _, _, rfl, rfl, ⟨hkk ▸ H5.out.1, H5.out.2.1, H5.out.2.2, HM.out.1, HX.out.1.o.send HX.out.1.q.at_.inv t p ((k : Int), mp), by rw [HM.out.2.1]; have h2 := HM.out.2.2; omega, ⟨by have := HR.out; omega, by have := HR.out; omega, by have := HR.out; omega⟩, (send_room _ _ _ _).trans HX.out.1.rm⟩⟩
          · as_aux_lemma => -- Receive
            have hw := rcv_ways HX.out.1.q.at_.inv HX.out.1.m t p
            have hnn := HX.out.1.n
            have hol := HX.out.1.q.at_.inv.olen
            obtain ⟨q1, q2, hq⟩ : ∃ a b, topM s.ord = (a, b) := ⟨_, _, rfl⟩
            obtain ⟨qb, hqb⟩ : ∃ b, topB s.ord = b := ⟨_, rfl⟩
            have hT := utopc u v' k s wx HX.out.1.q.at_
            rw [hq, hqb] at hT
            unfold msgV at hT
            have HT := Lib.hid hT
            clear hT
            rcases hw with ⟨he, hs⟩ | ⟨he, ho, hP, hL, hM⟩ | ⟨he, ⟨y1, r, ho, hP⟩, hL, hM⟩ | ⟨he, ⟨y1, r, o, ho, hok, hmk, hP, hM⟩, hL⟩
            · as_aux_lemma =>
              go_wp2_with fail
              refine HT.out.mono ?_
              rintro e wt ⟨rfl, hCt⟩
              obtain ⟨bt, hbt⟩ : ∃ bt, bt = wt.heap.size := ⟨_, rfl⟩
              obtain ⟨wu, hwu⟩ : ∃ wu, wu = wt.alloc (.cells #[.int .i64 q1, .int .i64 q2] 31 (0, 0)) := ⟨_, rfl⟩
              have hCu : Chg [] wx wu := by rw [hwu]; exact hCt.alloc _
              have hbu : wu.heap[bt]? = some (.cells #[.int .i64 q1, .int .i64 q2] 31 (0, 0)) := by rw [hwu, hbt]; exact heap_alloc_eq wt _
              have HU := Lib.hid (And.intro (HX.out.1.calm hCu) (And.intro (hCu.blk HX.out.2.1 (by simp)) (And.intro hbu (show bt ∉ blkU u v' ∧ bt ≠ bh by
                have h1 := lt_of_blk (hCt.blk HX.out.1.h (by simp))
                exact ⟨fun hk => by have := HX.out.1.q.at_.lt _ hk; have := hCt.size; omega, by omega⟩))))
              have hS1 := urcvc u v' k s t p wu HU.out.1.q.at_ (by omega)
              go_upto_region 23 with fail
              rw [← hbt, ← hwu]
              clear hbt hwu hCu hbu hCt
              have x1 := cellB HU.out.2.1 (i := 1) rfl
              have x2 := cellB HU.out.2.1 (i := 2) rfl
              rw [hs] at hS1
              obtain ⟨E, hE⟩ : ∃ E, E = s.askE t p 0 false := ⟨_, rfl⟩
              rw [← hE] at hS1 he
              have hbE : (E != 0) = true := by simpa using he
              obtain ⟨p0', p1', p2', p3', hP⟩ : ∃ a b c d, s.rcvP t p = ⟨a, b, c, d⟩ := ⟨_, _, _, _, rfl⟩
              rw [hP] at hS1
              unfold pdV at hS1
              have HS1 := Lib.hid hS1
              have HM := Lib.hid hnn
              clear hS1 hP hE he hs hnn hq hqb hol
              go_wp2_with fail
              refine HS1.out.mono ?_
              intro e w4 hS
              obtain ⟨v4, rfl, hK4, hh4, hb4⟩ := HU.out.1.step hS
              obtain ⟨v5, _, _, hCs, _⟩ := hS
              have hx4 := hCs.blk HU.out.2.1 HX.out.2.2.1
              have ht4 := hCs.blk HU.out.2.2.1 HU.out.2.2.2.1
              clear hCs
              obtain ⟨ba, hba⟩ : ∃ ba, ba = w4.heap.size := ⟨_, rfl⟩
              obtain ⟨w5, hw5⟩ : ∃ w5, w5 = w4.alloc (.cells #[.bool p0', .int .i64 p1', .int .i64 p2', .int .i64 p3'] 35 (0, 0)) := ⟨_, rfl⟩
              have hC5 : Chg [] w4 w5 := by rw [hw5]; exact (Chg.refl _ _).alloc _
              have hp5 : w5.heap[ba]? = some (.cells #[.bool p0', .int .i64 p1', .int .i64 p2', .int .i64 p3'] 35 (0, 0)) := by rw [hw5, hba]; exact heap_alloc_eq w4 _
              have hx5 := hC5.blk hx4 (by simp)
              have x1 := cellB hx5 (i := 1) rfl
              have p0 := cellB hp5 (i := 0) rfl
              have p1 := cellB hp5 (i := 1) rfl
              have p2 := cellB hp5 (i := 2) rfl
              have p3 := cellB hp5 (i := 3) rfl
              have t0 := cellB (hC5.blk ht4 (by simp)) (i := 0) rfl
              have t1 := cellB (hC5.blk ht4 (by simp)) (i := 1) rfl
              have H5 := Lib.hid (And.intro (hK4.calm hC5) (And.intro (hC5.blk hh4 (by simp)) hb4))
              clear ht4 hC5 hp5 hx5 hx4 hK4 hh4 hb4
              go_upto_region 24 with fail
              rw [← hba, ← hw5]
              clear hba hw5
              go_wp2_with (go_at_call 7; refine (unumc _ _).mono ?_; rintro e w' ⟨rfl, rfl⟩)
              go_meet
              case rel => exact ⟨_, _, _, _, _, rfl, rfl, ⟨hkk ▸ H5.out.1, H5.out.2.1, H5.out.2.2, HX.out.1.m, HX.out.1.o, HM.out, ⟨by have := HR.out; omega, by have := HR.out; omega, by have := HR.out; omega⟩, ((rfl : s.room = s.room)).trans HX.out.1.rm⟩⟩
            · as_aux_lemma =>
              rw [ho] at hq hqb
              have hqb' : qb = false := hqb.symm
              subst hqb'
              go_wp2_with fail
              refine HT.out.mono ?_
              rintro e wt ⟨rfl, hCt⟩
              obtain ⟨bt, hbt⟩ : ∃ bt, bt = wt.heap.size := ⟨_, rfl⟩
              obtain ⟨wu, hwu⟩ : ∃ wu, wu = wt.alloc (.cells #[.int .i64 q1, .int .i64 q2] 31 (0, 0)) := ⟨_, rfl⟩
              have hCu : Chg [] wx wu := by rw [hwu]; exact hCt.alloc _
              have hbu : wu.heap[bt]? = some (.cells #[.int .i64 q1, .int .i64 q2] 31 (0, 0)) := by rw [hwu, hbt]; exact heap_alloc_eq wt _
              have HU := Lib.hid (And.intro (HX.out.1.calm hCu) (And.intro (hCu.blk HX.out.2.1 (by simp)) (And.intro hbu (show bt ∉ blkU u v' ∧ bt ≠ bh by
                have h1 := lt_of_blk (hCt.blk HX.out.1.h (by simp))
                exact ⟨fun hk => by have := HX.out.1.q.at_.lt _ hk; have := hCt.size; omega, by omega⟩))))
              have hS1 := urcvc u v' k s t p wu HU.out.1.q.at_ (by omega)
              go_upto_region 23 with fail
              rw [← hbt, ← hwu]
              clear hbt hwu hCu hbu hCt
              have x1 := cellB HU.out.2.1 (i := 1) rfl
              have x2 := cellB HU.out.2.1 (i := 2) rfl
              rw [hP, he] at hS1
              unfold pdV at hS1
              try dsimp only at hS1
              have HS1 := Lib.hid hS1
              have HM := Lib.hid (And.intro hM (And.intro hL hnn))
              clear hS1 hP he hL hM hnn hq hqb hol ho
              go_wp2_with fail
              refine HS1.out.mono ?_
              intro e w4 hS
              obtain ⟨v4, rfl, hK4, hh4, hb4⟩ := HU.out.1.step hS
              obtain ⟨v5, _, _, hCs, _⟩ := hS
              have hx4 := hCs.blk HU.out.2.1 HX.out.2.2.1
              have ht4 := hCs.blk HU.out.2.2.1 HU.out.2.2.2.1
              clear hCs
              obtain ⟨ba, hba⟩ : ∃ ba, ba = w4.heap.size := ⟨_, rfl⟩
              obtain ⟨w5, hw5⟩ : ∃ w5, w5 = w4.alloc (.cells #[.bool false, .int .i64 0, .int .i64 0, .int .i64 (-1)] 35 (0, 0)) := ⟨_, rfl⟩
              have hC5 : Chg [] w4 w5 := by rw [hw5]; exact (Chg.refl _ _).alloc _
              have hp5 : w5.heap[ba]? = some (.cells #[.bool false, .int .i64 0, .int .i64 0, .int .i64 (-1)] 35 (0, 0)) := by rw [hw5, hba]; exact heap_alloc_eq w4 _
              have hx5 := hC5.blk hx4 (by simp)
              have x1 := cellB hx5 (i := 1) rfl
              have p0 := cellB hp5 (i := 0) rfl
              have p1 := cellB hp5 (i := 1) rfl
              have p2 := cellB hp5 (i := 2) rfl
              have p3 := cellB hp5 (i := 3) rfl
              have t0 := cellB (hC5.blk ht4 (by simp)) (i := 0) rfl
              have t1 := cellB (hC5.blk ht4 (by simp)) (i := 1) rfl
              have H5 := Lib.hid (And.intro (hK4.calm hC5) (And.intro (hC5.blk hh4 (by simp)) hb4))
              clear ht4 hC5 hp5 hx5 hx4 hK4 hh4 hb4
              go_upto_region 24 with fail
              rw [← hba, ← hw5]
              clear hba hw5
              go_wp2_with (go_at_call 7; refine (unumc _ _).mono ?_; rintro e w' ⟨rfl, rfl⟩)
              go_meet
              case rel => exact ⟨_, _, _, _, _, rfl, rfl, ⟨hkk ▸ H5.out.1, H5.out.2.1, H5.out.2.2, HM.out.1, HX.out.1.o.rcv HX.out.1.q.at_.inv t p, by rw [HM.out.2.1]; exact HM.out.2.2, ⟨by have := HR.out; omega, by have := HR.out; omega, by have := HR.out; omega⟩, (rcv_room _ _ _).trans HX.out.1.rm⟩⟩
            · as_aux_lemma =>
              obtain ⟨a1, a2⟩ := y1
              have hnq := fun W : World => (neqM (a1, a2) (a1, a2) W).trans (by rw [eqbM_self])
              unfold msgV at hnq
              rw [ho] at hq hqb
              obtain ⟨e1, e2⟩ : q1 = a1 ∧ q2 = a2 := by
                have h1 := (top_cons (a1, a2) r).1.symm.trans hq
                exact ⟨(congrArg Prod.fst h1).symm, (congrArg Prod.snd h1).symm⟩
              subst e1
              subst e2
              have hqb' : qb = true := hqb.symm.trans rfl
              subst hqb'
              go_wp2_with fail
              refine HT.out.mono ?_
              rintro e wt ⟨rfl, hCt⟩
              obtain ⟨bt, hbt⟩ : ∃ bt, bt = wt.heap.size := ⟨_, rfl⟩
              obtain ⟨wu, hwu⟩ : ∃ wu, wu = wt.alloc (.cells #[.int .i64 q1, .int .i64 q2] 31 (0, 0)) := ⟨_, rfl⟩
              have hCu : Chg [] wx wu := by rw [hwu]; exact hCt.alloc _
              have hbu : wu.heap[bt]? = some (.cells #[.int .i64 q1, .int .i64 q2] 31 (0, 0)) := by rw [hwu, hbt]; exact heap_alloc_eq wt _
              have HU := Lib.hid (And.intro (HX.out.1.calm hCu) (And.intro (hCu.blk HX.out.2.1 (by simp)) (And.intro hbu (show bt ∉ blkU u v' ∧ bt ≠ bh by
                have h1 := lt_of_blk (hCt.blk HX.out.1.h (by simp))
                exact ⟨fun hk => by have := HX.out.1.q.at_.lt _ hk; have := hCt.size; omega, by omega⟩))))
              have hS1 := urcvc u v' k s t p wu HU.out.1.q.at_ (by omega)
              go_upto_region 23 with fail
              rw [← hbt, ← hwu]
              clear hbt hwu hCu hbu hCt
              have x1 := cellB HU.out.2.1 (i := 1) rfl
              have x2 := cellB HU.out.2.1 (i := 2) rfl
              rw [hP, he] at hS1
              unfold pdV at hS1
              try dsimp only at hS1
              have HS1 := Lib.hid hS1
              have HM := Lib.hid (And.intro hM (And.intro hL hnn))
              clear hS1 hP he hL hM hnn hq hqb hol ho
              go_wp2_with fail
              refine HS1.out.mono ?_
              intro e w4 hS
              obtain ⟨v4, rfl, hK4, hh4, hb4⟩ := HU.out.1.step hS
              obtain ⟨v5, _, _, hCs, _⟩ := hS
              have hx4 := hCs.blk HU.out.2.1 HX.out.2.2.1
              have ht4 := hCs.blk HU.out.2.2.1 HU.out.2.2.2.1
              clear hCs
              obtain ⟨ba, hba⟩ : ∃ ba, ba = w4.heap.size := ⟨_, rfl⟩
              obtain ⟨w5, hw5⟩ : ∃ w5, w5 = w4.alloc (.cells #[.bool true, .int .i64 q1, .int .i64 q2, .int .i64 (-1)] 35 (0, 0)) := ⟨_, rfl⟩
              have hC5 : Chg [] w4 w5 := by rw [hw5]; exact (Chg.refl _ _).alloc _
              have hp5 : w5.heap[ba]? = some (.cells #[.bool true, .int .i64 q1, .int .i64 q2, .int .i64 (-1)] 35 (0, 0)) := by rw [hw5, hba]; exact heap_alloc_eq w4 _
              have hx5 := hC5.blk hx4 (by simp)
              have x1 := cellB hx5 (i := 1) rfl
              have p0 := cellB hp5 (i := 0) rfl
              have p1 := cellB hp5 (i := 1) rfl
              have p2 := cellB hp5 (i := 2) rfl
              have p3 := cellB hp5 (i := 3) rfl
              have t0 := cellB (hC5.blk ht4 (by simp)) (i := 0) rfl
              have t1 := cellB (hC5.blk ht4 (by simp)) (i := 1) rfl
              have H5 := Lib.hid (And.intro (hK4.calm hC5) (And.intro (hC5.blk hh4 (by simp)) hb4))
              clear ht4 hC5 hp5 hx5 hx4 hK4 hh4 hb4
              go_upto_region 24 with fail
              rw [← hba, ← hw5]
              clear hba hw5
              go_wp2_with (go_at_call 7; refine (unumc _ _).mono ?_; rintro e w' ⟨rfl, rfl⟩)
              go_meet
              case rel => exact ⟨_, _, _, _, _, rfl, rfl, ⟨hkk ▸ H5.out.1, H5.out.2.1, H5.out.2.2, HM.out.1, HX.out.1.o.rcv HX.out.1.q.at_.inv t p, by have h1 := HM.out.2.1; have h2 := HM.out.2.2; omega, ⟨by have := HR.out; omega, by have h1 := HM.out.2.1; have h2 := HM.out.2.2; omega, by have := HR.out; omega⟩, (rcv_room _ _ _).trans HX.out.1.rm⟩⟩
            · as_aux_lemma =>
              obtain ⟨on, rfl⟩ : ∃ on : Nat, o = on := ⟨o.toNat, by have := hok.1; omega⟩
              have hon : (on : Int) < 16 := hok.2
              have hon' : on < 16 := by omega
              have hoo : decide ((0 : Int) ≤ (on : Int)) = true := decide_eq_true (by omega)
              have ho15 : decide ((15 : Int) < (on : Int)) = false := by simp; omega
              rw [Int.toNat_natCast] at hmk hM
              obtain ⟨a1, a2⟩ := y1
              have hnq := fun W : World => (neqM (a1, a2) (a1, a2) W).trans (by rw [eqbM_self])
              unfold msgV at hnq
              rw [ho] at hq hqb
              obtain ⟨e1, e2⟩ : q1 = a1 ∧ q2 = a2 := by
                have h1 := (top_cons (a1, a2) r).1.symm.trans hq
                exact ⟨(congrArg Prod.fst h1).symm, (congrArg Prod.snd h1).symm⟩
              subst e1
              subst e2
              have hqb' : qb = true := hqb.symm.trans rfl
              subst hqb'
              go_wp2_with fail
              refine HT.out.mono ?_
              rintro e wt ⟨rfl, hCt⟩
              obtain ⟨bt, hbt⟩ : ∃ bt, bt = wt.heap.size := ⟨_, rfl⟩
              obtain ⟨wu, hwu⟩ : ∃ wu, wu = wt.alloc (.cells #[.int .i64 q1, .int .i64 q2] 31 (0, 0)) := ⟨_, rfl⟩
              have hCu : Chg [] wx wu := by rw [hwu]; exact hCt.alloc _
              have hbu : wu.heap[bt]? = some (.cells #[.int .i64 q1, .int .i64 q2] 31 (0, 0)) := by rw [hwu, hbt]; exact heap_alloc_eq wt _
              have HU := Lib.hid (And.intro (HX.out.1.calm hCu) (And.intro (hCu.blk HX.out.2.1 (by simp)) (And.intro hbu (show bt ∉ blkU u v' ∧ bt ≠ bh by
                have h1 := lt_of_blk (hCt.blk HX.out.1.h (by simp))
                exact ⟨fun hk => by have := HX.out.1.q.at_.lt _ hk; have := hCt.size; omega, by omega⟩))))
              have hS1 := urcvc u v' k s t p wu HU.out.1.q.at_ (by omega)
              go_upto_region 23 with fail
              rw [← hbt, ← hwu]
              clear hbt hwu hCu hbu hCt
              have x1 := cellB HU.out.2.1 (i := 1) rfl
              have x2 := cellB HU.out.2.1 (i := 2) rfl
              rw [hP, he] at hS1
              unfold pdV at hS1
              try dsimp only at hS1
              have HS1 := Lib.hid hS1
              have HM := Lib.hid (And.intro hM (And.intro hL (And.intro hnn hmk)))
              clear hS1 hP he hL hM hnn hq hqb hol ho hmk hok
              go_wp2_with fail
              refine HS1.out.mono ?_
              intro e w4 hS
              obtain ⟨v4, rfl, hK4, hh4, hb4⟩ := HU.out.1.step hS
              obtain ⟨v5, _, _, hCs, _⟩ := hS
              have hx4 := hCs.blk HU.out.2.1 HX.out.2.2.1
              have ht4 := hCs.blk HU.out.2.2.1 HU.out.2.2.2.1
              clear hCs
              obtain ⟨ba, hba⟩ : ∃ ba, ba = w4.heap.size := ⟨_, rfl⟩
              obtain ⟨w5, hw5⟩ : ∃ w5, w5 = w4.alloc (.cells #[.bool true, .int .i64 q1, .int .i64 q2, .int .i64 (on : Int)] 35 (0, 0)) := ⟨_, rfl⟩
              have hC5 : Chg [] w4 w5 := by rw [hw5]; exact (Chg.refl _ _).alloc _
              have hp5 : w5.heap[ba]? = some (.cells #[.bool true, .int .i64 q1, .int .i64 q2, .int .i64 (on : Int)] 35 (0, 0)) := by rw [hw5, hba]; exact heap_alloc_eq w4 _
              have hx5 := hC5.blk hx4 (by simp)
              have x1 := cellB hx5 (i := 1) rfl
              have p0 := cellB hp5 (i := 0) rfl
              have p1 := cellB hp5 (i := 1) rfl
              have p2 := cellB hp5 (i := 2) rfl
              have p3 := cellB hp5 (i := 3) rfl
              have t0 := cellB (hC5.blk ht4 (by simp)) (i := 0) rfl
              have t1 := cellB (hC5.blk ht4 (by simp)) (i := 1) rfl
              have H5 := Lib.hid (And.intro (hK4.calm hC5) (And.intro (hC5.blk hh4 (by simp)) hb4))
              clear ht4 hC5 hp5 hx5 hx4 hK4 hh4 hb4
              go_upto_region 24 with fail
              rw [← hba, ← hw5]
              clear hba hw5
              have z1 := bools_cell H5.out.2.1 (i := on) HM.out.2.2.2
              have z2 := frozenB H5.out.2.1 on
              have H6 := Lib.hid (KQ.mark H5.out.1 H5.out.2.1 H5.out.2.2 on false)
              go_wp2_with (go_at_call 7; refine (unumc _ _).mono ?_; rintro e w' ⟨rfl, rfl⟩)
              go_meet
              case rel => exact ⟨_, _, _, _, _, rfl, rfl, ⟨hkk ▸ H6.out.1, H6.out.2, H5.out.2.2, HM.out.1, HX.out.1.o.rcv HX.out.1.q.at_.inv t p, by rw [HM.out.2.1]; have h2 := HM.out.2.2.1; omega, ⟨by have := HR.out; omega, by have := HR.out; omega, by have := HR.out; omega⟩, (rcv_room _ _ _).trans HX.out.1.rm⟩⟩
          · as_aux_lemma => -- Leave
            have hw := lv_ways HX.out.1.q.at_.inv HX.out.1.m t
            have hnn := HX.out.1.n
            have hS1 := uleavec u v' k s t wx HX.out.1.q.at_
            rcases hw with ⟨he, hs⟩ | ⟨he, ht, hL, hM⟩
            · rw [hs] at hS1
              obtain ⟨E, hE⟩ : ∃ E, E = s.askE t 1 0 true := ⟨_, rfl⟩
              rw [← hE] at hS1 he
              have hbE : (E == 0) = false := by simpa using he
              have HS1 := Lib.hid hS1
              have HM := Lib.hid hnn
              clear hS1 hE he hs hnn
              go_wp2_with fail
              refine HS1.out.mono ?_
              intro e w4 hS
              obtain ⟨v4, rfl, hK4, hh4, hb4⟩ := HX.out.1.step hS
              obtain ⟨v5, _, _, hCs, _⟩ := hS
              have hx4 := hCs.blk HX.out.2.1 HX.out.2.2.1
              have x1 := cellB hx4 (i := 1) rfl
              have H5 := Lib.hid (And.intro hK4 (And.intro hh4 hb4))
              clear hCs hx4 hK4 hh4 hb4
              go_wp2_with (go_at_call 7; refine (unumc _ _).mono ?_; rintro e w' ⟨rfl, rfl⟩)
              go_meet
              case rel => exact ⟨_, _, _, _, _, rfl, rfl, ⟨hkk ▸ H5.out.1, H5.out.2.1, H5.out.2.2, HX.out.1.m, HX.out.1.o, HM.out, ⟨by have := HR.out; omega, by have := HR.out; omega, by have := HR.out; omega⟩, ((rfl : s.room = s.room)).trans HX.out.1.rm⟩⟩
            · obtain ⟨tn, rfl⟩ : ∃ tn : Nat, t = tn := ⟨t.toNat, by have := ht.1; omega⟩
              have htn : (tn : Int) < 16 := ht.2
              have htn' : tn < 16 := by omega
              have hz := HX.out.1.m.1
              rw [he] at hS1
              rw [Int.toNat_natCast] at hM
              have HS1 := Lib.hid hS1
              have HM := Lib.hid (And.intro hM (And.intro hL hnn))
              clear hS1 he hL hM hnn ht
              go_wp2_with fail
              refine HS1.out.mono ?_
              intro e w4 hS
              obtain ⟨v4, rfl, hK4, hh4, hb4⟩ := HX.out.1.step hS
              obtain ⟨v5, _, _, hCs, _⟩ := hS
              have hx4 := hCs.blk HX.out.2.1 HX.out.2.2.1
              have x1 := cellB hx4 (i := 1) rfl
              have H5 := Lib.hid (And.intro hK4 (And.intro hh4 hb4))
              clear hCs hx4 hK4 hh4 hb4
              obtain ⟨hv, hhv⟩ : ∃ b, H[tn]? = some b := ⟨_, List.getElem?_eq_getElem (by omega)⟩
              have z1 := bools_cell H5.out.2.1 (i := tn) hhv
              have z2 := frozenB H5.out.2.1 tn
              have H6 := Lib.hid (KQ.mark H5.out.1 H5.out.2.1 H5.out.2.2 tn false)
              clear hz hhv
              go_wp2_with (go_at_call 7; refine (unumc _ _).mono ?_; rintro e w' ⟨rfl, rfl⟩)
              go_meet
              case rel => exact ⟨_, _, _, _, _, rfl, rfl, ⟨hkk ▸ H6.out.1, H6.out.2, H5.out.2.2, HM.out.1, HX.out.1.o.lv _, by rw [HM.out.2.1]; exact HM.out.2.2, ⟨by have := HR.out; omega, by have := HR.out; omega, by have := HR.out; omega⟩, (lv_room _ _).trans HX.out.1.rm⟩⟩
          · as_aux_lemma => -- Change
            have hm := ch_mark HX.out.1.q.at_.inv HX.out.1.m t p
            have hnn := HX.out.1.n
            have HS1 := Lib.hid (uchc u v' k s t p wx HX.out.1.q.at_)
            have HM := Lib.hid (And.intro hm hnn)
            clear hm hnn
            go_wp2_with fail
            refine HS1.out.mono ?_
            intro e w4 hS
            obtain ⟨v4, rfl, hK4, hh4, hb4⟩ := HX.out.1.step hS
            obtain ⟨v5, _, _, hCs, _⟩ := hS
            have hx4 := hCs.blk HX.out.2.1 HX.out.2.2.1
            have x1 := cellB hx4 (i := 1) rfl
            have H5 := Lib.hid (And.intro hK4 (And.intro hh4 hb4))
            clear hCs hx4 hK4 hh4 hb4
            go_wp2
            go_meet
            case rel => exact ⟨_, _, _, _, _, rfl, rfl, ⟨hkk ▸ H5.out.1, H5.out.2.1, H5.out.2.2, HM.out.1.2, HX.out.1.o.ch t p, by rw [HM.out.1.1]; exact HM.out.2, ⟨by have := HR.out; omega, by have := HR.out; omega, by have := HR.out; omega⟩, (ch_room _ _ _).trans HX.out.1.rm⟩⟩
          · as_aux_lemma => -- nothing
            go_wp2
            go_meet
            case rel => exact ⟨_, _, _, _, _, rfl, rfl, HX.out.1.mono (by omega) (by omega)⟩
        case rest => as_aux_lemma =>
          obtain ⟨s', v2, H', x', y', rfl, rfl, hO⟩ := hcut
          clear hkk hwx1 hwy1
          obtain ⟨z, hz⟩ : ∃ z : Int, z = (s'.ord.length : Int) := ⟨_, rfl⟩
          have hzl : z = (s'.L.length : Int) := by rw [hz, hO.q.at_.inv.olen]
          have hzn : z = x' - y' := by rw [hzl]; exact hO.n
          have hr2 := hO.r
          have hwz : IntKind.i64.wrap (x' - y') = x' - y' := by rw [IntKind.wrap_i64]; omega
          have e1 : (z != x' - y') = false := by simp [hzn]
          have e2 : decide (room < z) = false := by have h1 := hO.q.at_.inv.few; have h2 := hO.rm; simp; omega
          have hLen := fun (W : World) (hW : Chg [] wc W) => ulenc u v2 _ s' W (hO.calm hW).q.at_
          rw [← hz] at hLen
          have HLen := Lib.hid hLen
          have HRc := Lib.hid (fun (W : World) (hW : Chg [] wc W) => uReceiversc u v2 _ s' W (hO.calm hW).q.at_)
          have HSn := Lib.hid (fun (W : World) (hW : Chg [] wc W) => uSendersc u v2 _ s' W (hO.calm hW).q.at_)
          have hRz : decide (0 < z) = true → (ordT s'.R).length = 0 := fun h => by
            rw [hO.o.r (fun e => by rw [e] at hzl; simp at hzl; simp [hzl] at h)]
            rfl
          have hSz : decide (z < room) = true → (ordT s'.S).length = 0 := fun h => by
            rw [hO.o.s (by rw [hO.rm, ← hzl]; exact of_decide_eq_true h)]
            rfl
          have HO2 := Lib.hid (And.intro hO (And.intro hRz hSz))
          clear hz hzl hzn hr2 hLen hRz hSz hO
          obtain ⟨bp, hbp⟩ : ∃ b, b = decide (0 < z) := ⟨_, rfl⟩
          obtain ⟨bq, hbq⟩ : ∃ b, b = decide (z < room) := ⟨_, rfl⟩
          have hbp' := hbp.symm
          have hbq' := hbq.symm
          have HBB := Lib.hid (And.intro hbp hbq)
          clear hbp hbq
          cases bp <;> cases bq
          · as_aux_lemma =>
            go_wp2_with fail
            refine (HLen.out wc (Chg.refl _ _)).mono ?_
            rintro e wl1 ⟨rfl, hC⟩
            have HC1 := Lib.hid (show Chg [] wc wl1 from Chg.trans (Chg.refl _ _) hC)
            clear hC
            go_wp2_with fail
            refine (HLen.out wl1 HC1.out).mono ?_
            rintro e wl2 ⟨rfl, hC⟩
            have HC2 := Lib.hid (show Chg [] wc wl2 from Chg.trans HC1.out hC)
            clear hC
            go_wp2_with fail
            refine (HLen.out wl2 HC2.out).mono ?_
            rintro e wl3 ⟨rfl, hC⟩
            have HC3 := Lib.hid (show Chg [] wc wl3 from Chg.trans HC2.out hC)
            clear hC
            go_wp2_with fail
            refine (HLen.out wl3 HC3.out).mono ?_
            rintro e wl4 ⟨rfl, hC⟩
            have HC4 := Lib.hid (show Chg [] wc wl4 from Chg.trans HC3.out hC)
            clear hC
            go_wp2
            go_roundw
            case rel => exact ⟨k + 1, s', v2, H', x', y', by omega, by omega, rfl, rfl, by go_num, HO2.out.1.calm HC4.out⟩
            case measure => simp [intOf]; omega
          · as_aux_lemma =>
            go_wp2_with fail
            refine (HLen.out wc (Chg.refl _ _)).mono ?_
            rintro e wl1 ⟨rfl, hC⟩
            have HC1 := Lib.hid (show Chg [] wc wl1 from Chg.trans (Chg.refl _ _) hC)
            clear hC
            go_wp2_with fail
            refine (HLen.out wl1 HC1.out).mono ?_
            rintro e wl2 ⟨rfl, hC⟩
            have HC2 := Lib.hid (show Chg [] wc wl2 from Chg.trans HC1.out hC)
            clear hC
            go_wp2_with fail
            refine (HLen.out wl2 HC2.out).mono ?_
            rintro e wl3 ⟨rfl, hC⟩
            have HC3 := Lib.hid (show Chg [] wc wl3 from Chg.trans HC2.out hC)
            clear hC
            go_wp2_with fail
            refine (HLen.out wl3 HC3.out).mono ?_
            rintro e wl4 ⟨rfl, hC⟩
            have HC4 := Lib.hid (show Chg [] wc wl4 from Chg.trans HC3.out hC)
            clear hC
            go_wp2_with fail
            refine (HSn.out wl4 HC4.out).mono ?_
            rintro e wl5 ⟨vv, rfl, ho, hC⟩
            obtain ⟨va, vc, rfl⟩ := own_slice ho
            rw [HO2.out.2.2 HBB.out.2.symm]
            have HC5 := Lib.hid (show Chg [] wc wl5 from Chg.trans HC4.out hC)
            clear hC ho
            go_wp2
            go_roundw
            case rel => exact ⟨k + 1, s', v2, H', x', y', by omega, by omega, rfl, rfl, by go_num, HO2.out.1.calm HC5.out⟩
            case measure => simp [intOf]; omega
          · as_aux_lemma =>
            go_wp2_with fail
            refine (HLen.out wc (Chg.refl _ _)).mono ?_
            rintro e wl1 ⟨rfl, hC⟩
            have HC1 := Lib.hid (show Chg [] wc wl1 from Chg.trans (Chg.refl _ _) hC)
            clear hC
            go_wp2_with fail
            refine (HLen.out wl1 HC1.out).mono ?_
            rintro e wl2 ⟨rfl, hC⟩
            have HC2 := Lib.hid (show Chg [] wc wl2 from Chg.trans HC1.out hC)
            clear hC
            go_wp2_with fail
            refine (HLen.out wl2 HC2.out).mono ?_
            rintro e wl3 ⟨rfl, hC⟩
            have HC3 := Lib.hid (show Chg [] wc wl3 from Chg.trans HC2.out hC)
            clear hC
            go_wp2_with fail
            refine (HRc.out wl3 HC3.out).mono ?_
            rintro e wl4 ⟨vv, rfl, ho, hC⟩
            obtain ⟨va, vc, rfl⟩ := own_slice ho
            rw [HO2.out.2.1 HBB.out.1.symm]
            have HC4 := Lib.hid (show Chg [] wc wl4 from Chg.trans HC3.out hC)
            clear hC ho
            go_wp2_with fail
            refine (HLen.out wl4 HC4.out).mono ?_
            rintro e wl5 ⟨rfl, hC⟩
            have HC5 := Lib.hid (show Chg [] wc wl5 from Chg.trans HC4.out hC)
            clear hC
            go_wp2
            go_roundw
            case rel => exact ⟨k + 1, s', v2, H', x', y', by omega, by omega, rfl, rfl, by go_num, HO2.out.1.calm HC5.out⟩
            case measure => simp [intOf]; omega
          · as_aux_lemma =>
            go_wp2_with fail
            refine (HLen.out wc (Chg.refl _ _)).mono ?_
            rintro e wl1 ⟨rfl, hC⟩
            have HC1 := Lib.hid (show Chg [] wc wl1 from Chg.trans (Chg.refl _ _) hC)
            clear hC
            go_wp2_with fail
            refine (HLen.out wl1 HC1.out).mono ?_
            rintro e wl2 ⟨rfl, hC⟩
            have HC2 := Lib.hid (show Chg [] wc wl2 from Chg.trans HC1.out hC)
            clear hC
            go_wp2_with fail
            refine (HLen.out wl2 HC2.out).mono ?_
            rintro e wl3 ⟨rfl, hC⟩
            have HC3 := Lib.hid (show Chg [] wc wl3 from Chg.trans HC2.out hC)
            clear hC
            go_wp2_with fail
            refine (HRc.out wl3 HC3.out).mono ?_
            rintro e wl4 ⟨vv, rfl, ho, hC⟩
            obtain ⟨va, vc, rfl⟩ := own_slice ho
            rw [HO2.out.2.1 HBB.out.1.symm]
            have HC4 := Lib.hid (show Chg [] wc wl4 from Chg.trans HC3.out hC)
            clear hC ho
            go_wp2_with fail
            refine (HLen.out wl4 HC4.out).mono ?_
            rintro e wl5 ⟨rfl, hC⟩
            have HC5 := Lib.hid (show Chg [] wc wl5 from Chg.trans HC4.out hC)
            clear hC
            go_wp2_with fail
            refine (HSn.out wl5 HC5.out).mono ?_
            rintro e wl6 ⟨vv, rfl, ho, hC⟩
            obtain ⟨va, vc, rfl⟩ := own_slice ho
            rw [HO2.out.2.2 HBB.out.2.symm]
            have HC6 := Lib.hid (show Chg [] wc wl6 from Chg.trans HC5.out hC)
            clear hC ho
            go_wp2
            go_roundw
            case rel => exact ⟨k + 1, s', v2, H', x', y', by omega, by omega, rfl, rfl, by go_num, HO2.out.1.calm HC6.out⟩
            case measure => simp [intOf]; omega
      all_goals
        go_wp2
        go_ret
        exact ⟨rfl, HO.out.q.c⟩

end Go.Proofs.Ytiiafhlckmkcnaa
