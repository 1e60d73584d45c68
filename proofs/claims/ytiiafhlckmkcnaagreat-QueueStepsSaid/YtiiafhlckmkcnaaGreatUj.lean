
/- Package mqueue: change: contract. -/
import Derived.Test.YtiiafhlckmkcnaaGreatUi
namespace Go.Proofs.YtiiafhlckmkcnaaGreat
open Go.RowKit

theorem lines0 (x y : Option Addr) (w : World) : (Instr.index 45 (.agg #[.pointer x, .pointer y]) (.int .i64 0)).run Tryz.prog w = .ok (.pointer x) w := by kernel_rfl
theorem lines1 (x y : Option Addr) (w : World) : (Instr.index 45 (.agg #[.pointer x, .pointer y]) (.int .i64 1)).run Tryz.prog w = .ok (.pointer y) w := by kernel_rfl
set_option maxRecDepth 100000 in
set_option maxHeartbeats 4000000 in
theorem uchangec (u : UB) (v : Value) (N : Int) (s : QS) (t p : Int) (g : Nat) (cap : Array Value) (w : World) (h : UAt w u v N s) (eg : ∀ args w, (callFunc g args).run Tryz.prog w = .ok (.enter g args) w) (Post : World → Prop)
    (hno : s.askE t p 0 true ≠ 0 → ∀ W, Chg [] w W → Post W)
    (hS : s.askE t p 0 true = 0 → hasR s.S t = true → ∀ W, Chg [] w W → Calls Tryz.prog g (#[.pointer (some ⟨u.sa, 0, none⟩)] ++ cap) W fun e w' => e = .returned (.tuple #[]) ∧ Post w')
    (hR : s.askE t p 0 true = 0 → hasR s.S t = false → hasR s.R t = true → ∀ W, Chg [] w W → Calls Tryz.prog g (#[.pointer (some ⟨u.ra, 0, none⟩)] ++ cap) W fun e w' => e = .returned (.tuple #[]) ∧ Post w') :
    Calls Tryz.prog 48 #[.pointer (some ⟨u.q, 0, none⟩), .int .i64 t, .int .i64 p, .func (.func g) #[] cap] w fun e w' => e = .returned (.int .i64 (s.askE t p 0 true)) ∧ Post w' := by
  have HA := Lib.hid (uaskc u v N s t p 0 true w h)
  have HU := Lib.hid h
  have hx0 := lines0 (some ⟨u.sa, 0, none⟩) (some ⟨u.ra, 0, none⟩)
  have hx1 := lines1 (some ⟨u.sa, 0, none⟩) (some ⟨u.ra, 0, none⟩)
  clear h
  by_cases he : s.askE t p 0 true = 0
  · rw [he] at HA ⊢
    have hS := hS he
    have hR := hR he
    have hok := askE_ok2 he
    clear hno he
    cases hb : hasR s.S t with
    | true =>
      have HC := Lib.hid (hS hb)
      have hH := fun (W : World) (hW : WAt W u.sa u.sm N s.S) => hasc u.sa u.sm N s.S t W hW
      rw [hb] at hH
      have HH := Lib.hid hH
      clear hS hR hH hb hok
      go_enter Tryz.func48, Tryz.ntmps48
      go_wp2
      go_step3
      go_wp2_with fail
      refine HA.out.mono ?_
      rintro e w1 ⟨rfl, hC1⟩
      have h1 := HU.out.calm hC1
      have c2 := cellB h1.head (i := 2) (v := .pointer (some ⟨u.sa, 0, none⟩)) rfl
      have c3 := cellB h1.head (i := 3) (v := .pointer (some ⟨u.ra, 0, none⟩)) rfl
      have H1 := Lib.hid (And.intro h1 hC1)
      clear h1 hC1
      go_wp2
      go_step3
      go_wp2
      refine wp_loop_rounds 1 ?_
      rw [rounds_succ]
      go_wp2_with fail
      refine (HH.out w1 H1.out.1.ls).mono ?_
      rintro e w2 ⟨rfl, hC2⟩
      have H2 := Lib.hid (H1.out.2.trans hC2)
      clear hC2
      go_wp2_with fail
      refine (HC.out w2 H2.out).mono ?_
      rintro e w3 ⟨rfl, hP⟩
      have HP := Lib.hid hP
      clear hP
      go_wp2
      rw [Exit.noGoto_ret]
      go_ret
      exact ⟨rfl, HP.out⟩
    | false =>
      have hr : hasR s.R t = true := by
        have h1 := hok.2.2.2
        unfold QS.is at h1
        rw [hb] at h1
        simpa using h1
      have HC := Lib.hid (hR hb hr)
      have hH := fun (W : World) (hW : WAt W u.sa u.sm N s.S) => hasc u.sa u.sm N s.S t W hW
      have hG := fun (W : World) (hW : WAt W u.ra u.rm N s.R) => hasc u.ra u.rm N s.R t W hW
      rw [hb] at hH
      rw [hr] at hG
      have HH := Lib.hid (And.intro hH hG)
      clear hS hR hH hG hb hr hok
      go_enter Tryz.func48, Tryz.ntmps48
      go_wp2
      go_step3
      go_wp2_with fail
      refine HA.out.mono ?_
      rintro e w1 ⟨rfl, hC1⟩
      have h1 := HU.out.calm hC1
      have c2 := cellB h1.head (i := 2) (v := .pointer (some ⟨u.sa, 0, none⟩)) rfl
      have c3 := cellB h1.head (i := 3) (v := .pointer (some ⟨u.ra, 0, none⟩)) rfl
      have H1 := Lib.hid (And.intro h1 hC1)
      clear h1 hC1
      go_wp2
      go_step3
      go_wp2
      refine wp_loop_rounds 2 ?_
      rw [rounds_succ]
      go_wp2_with fail
      refine (HH.out.1 w1 H1.out.1.ls).mono ?_
      rintro e w2 ⟨rfl, hC2⟩
      have H2 := Lib.hid (And.intro (H1.out.1.calm hC2) (H1.out.2.trans hC2))
      clear hC2
      go_wp2
      rw [rounds_succ]
      go_wp2_with fail
      refine (HH.out.2 w2 H2.out.1.lr).mono ?_
      rintro e w3 ⟨rfl, hC3⟩
      have H3 := Lib.hid (H2.out.2.trans hC3)
      clear hC3
      go_wp2_with fail
      refine (HC.out w3 H3.out).mono ?_
      rintro e w4 ⟨rfl, hP⟩
      have HP := Lib.hid hP
      clear hP
      go_wp2
      rw [Exit.noGoto_ret]
      go_ret
      exact ⟨rfl, HP.out⟩
  · have HN := Lib.hid (hno he)
    clear hno hS hR
    obtain ⟨E, hE⟩ : ∃ E, E = s.askE t p 0 true := ⟨_, rfl⟩
    rw [← hE] at he HA ⊢
    have hb : (E != 0) = true := by simpa using he
    clear hE he
    go_enter Tryz.func48, Tryz.ntmps48
    go_wp2
    go_step3
    go_wp2_with fail
    refine HA.out.mono ?_
    rintro e w1 ⟨rfl, hC1⟩
    have H1 := Lib.hid hC1
    clear hC1
    go_wp2
    rw [Exit.noGoto_ret]
    go_ret
    exact ⟨rfl, HN.out _ H1.out⟩

end Go.Proofs.YtiiafhlckmkcnaaGreat
