
/- metronomelaw18.QueueOnce, the plain law: nobody waits to receive where there is a message, nor to send where there is room; who sends in wait is marked. No program in sight. -/
import Derived.Test.YtiiafhlckmkcnaaUi
namespace Go.Proofs.Ytiiafhlckmkcnaa

/-- Nobody waits in vain. -/
structure OnceI (s : QS) : Prop where
  r : s.L ≠ [] → s.R = []
  s : (s.L.length : Int) < s.room → s.S = []
/-- Each that waits to send is marked. -/
def MarkI (s : QS) (H : List Bool) : Prop := H.length = 16 ∧ ∀ t : Int, hasR s.S t = true → okT t ∧ H[t.toNat]? = some true

theorem OnceI.new (room : Int) : OnceI (qnew room) := ⟨fun h => absurd rfl h, fun _ => rfl⟩
theorem MarkI.new (room : Int) : MarkI (qnew room) (List.replicate 16 false) := ⟨by simp, fun t h => by simp [qnew, hasR] at h⟩
theorem headB_nil {L : WL} (hL : ListOk L) (h : headB (ordL L) = false) : L = [] := by
  cases ho : ordL L with
  | nil => exact (ord_nil_iff hL).1 ho
  | cons x r => rw [ho] at h; cases h
theorem headB_of {L : WL} (h : headB (ordL L) = true) : L ≠ [] := by
  rintro rfl
  cases h
theorem hasR_sub {L L' : WL} (hs : L'.Sublist L) {t : Int} (h : hasR L' t = true) : hasR L t = true := by
  obtain ⟨p, hp⟩ := hasR_mem.1 h
  exact hasR_mem.2 ⟨p, hs.subset hp⟩

theorem OnceI.send {s : QS} (hi : QInv s) (h : OnceI s) (t p : Int) (m : Int × Int) : OnceI (s.sendS t p m) := by
  unfold QS.sendS
  split
  · split
    · rename_i h1 h2
      have hL : s.L = [] := by
        by_cases hl : s.L = []
        · exact hl
        · exact absurd (h.r hl) (headB_of h2)
      exact ⟨fun hn => absurd hL hn, h.s⟩
    · rename_i h1 h2
      have hR : s.R = [] := headB_nil hi.lr (by simpa using h2)
      split
      · rename_i h3
        unfold QS.full at h3
        simp at h3
        exact ⟨fun _ => hR, fun hlt => by simp only at hlt; omega⟩
      · rename_i h3
        unfold QS.full at h3
        simp at h3
        have := hi.few
        exact ⟨fun _ => hR, fun _ => h.s (by omega)⟩
  · exact h
theorem OnceI.rcv {s : QS} (hi : QInv s) (h : OnceI s) (t p : Int) : OnceI (s.rcvS t p) := by
  unfold QS.rcvS
  split
  · cases ho : s.ord with
    | nil =>
      have hL : s.L = [] := by
        have := hi.olen
        rw [ho] at this
        exact List.eq_nil_of_length_eq_zero this.symm
      exact ⟨fun hn => absurd hL hn, h.s⟩
    | cons x r =>
      have hne : s.L ≠ [] := fun e => by
        have := hi.olen
        rw [ho, e] at this
        simp at this
      have hR := h.r hne
      have hlen : (delM s.L x.2).length + 1 = s.L.length := by
        have h1 := ordM_len hi.msg
        have h2 := ordM_len (hi.msg.del x.2)
        have ho' : ordM s.L = x :: r := ho
        rw [ordM_del ho'] at h2
        rw [ho', List.length_cons] at h1
        omega
      simp only
      unfold QS.rcv1
      rw [ho]
      simp only
      split
      · rename_i h2
        have hS := headB_of h2
        refine ⟨fun _ => hR, fun hlt => ?_⟩
        simp only [List.length_append, List.length_cons, List.length_nil] at hlt
        exact absurd (h.s (by omega)) hS
      · rename_i h2
        have hS : s.S = [] := headB_nil hi.ls (by simpa using h2)
        exact ⟨fun _ => hR, fun _ => hS⟩
  · exact h
theorem lv_nil (t : Int) : lvL [] t = [] := by unfold lvL; split <;> rfl
theorem ch_nil (t p : Int) : chgL [] t p = [] := by unfold chgL; split <;> rfl
theorem OnceI.lv {s : QS} (h : OnceI s) (t : Int) : OnceI (s.lvS t) := by
  unfold QS.lvS
  split
  · split
    · exact ⟨h.r, fun hl => by show lvL s.S t = []; rw [h.s hl]; exact lv_nil t⟩
    · exact ⟨fun hl => by show lvL s.R t = []; rw [h.r hl]; exact lv_nil t, h.s⟩
  · exact h
theorem OnceI.ch {s : QS} (h : OnceI s) (t p : Int) : OnceI (s.chS t p) := by
  unfold QS.chS
  split
  · split
    · exact ⟨h.r, fun hl => by show chgL s.S t p = []; rw [h.s hl]; exact ch_nil t p⟩
    · exact ⟨fun hl => by show chgL s.R t p = []; rw [h.r hl]; exact ch_nil t p, h.s⟩
  · exact h

/-- The invariants of the program's own queue, step by step. -/
theorem MarkI.sub {s s' : QS} {H : List Bool} (h : MarkI s H) (hs : ∀ t, hasR s'.S t = true → hasR s.S t = true) : MarkI s' H := ⟨h.1, fun t ht => h.2 t (hs t ht)⟩
/-- A send that waits marks its thread. -/
theorem MarkI.put {s s' : QS} {H : List Bool} (h : MarkI s H) {t : Int} (ht : okT t) (hs : ∀ a, hasR s'.S a = true → hasR s.S a = true ∨ a = t) : MarkI s' (H.set t.toNat true) := by
  refine ⟨by simp [h.1], fun a ha => ?_⟩
  rcases hs a ha with h1 | rfl
  · obtain ⟨h2, h3⟩ := h.2 a h1
    refine ⟨h2, ?_⟩
    rw [List.getElem?_set]
    split
    · unfold okT at ht
      rw [if_pos (by rw [h.1]; omega)]
    · exact h3
  · refine ⟨ht, ?_⟩
    unfold okT at ht
    rw [List.getElem?_set, if_pos rfl, if_pos (by rw [h.1]; omega)]
theorem MarkI.del {s s' : QS} {H : List Bool} (h : MarkI s H) {t : Int} (ht : okT t) (hs : ∀ a, hasR s'.S a = true → hasR s.S a = true ∧ a ≠ t) : MarkI s' (H.set t.toNat false) := by
  refine ⟨by simp [h.1], fun a ha => ?_⟩
  obtain ⟨h1, h2⟩ := hs a ha
  obtain ⟨h3, h4⟩ := h.2 a h1
  refine ⟨h3, ?_⟩
  unfold okT at ht h3
  rw [List.getElem?_set, if_neg (by omega)]
  exact h4

theorem head_okT {L : WL} (hL : ListOk L) (h : headB (ordL L) = true) : okT (headT (ordL L)) := by
  cases ho : ordL L with
  | nil => rw [ho] at h; cases h
  | cons x r => exact (hL.ok x (ordL_mem (by rw [ho]; simp))).1
theorem put_has {L : WL} {t p a : Int} (h : hasR (putL L t p) a = true) : hasR L a = true ∨ a = t := by
  unfold putL at h
  split at h
  · obtain ⟨q, hq⟩ := hasR_mem.1 h
    rcases List.mem_append.1 hq with h1 | h1
    · exact .inl (hasR_mem.2 ⟨q, h1⟩)
    · simp at h1; exact .inr h1.1
  · exact .inl h
theorem del_has {L : WL} (hL : ListOk L) {t a : Int} (h : hasR (wdel L t) a = true) : hasR L a = true ∧ a ≠ t := by
  rw [wdel_filter hL.nodup] at h
  obtain ⟨q, hq⟩ := hasR_mem.1 h
  obtain ⟨h1, h2⟩ := List.mem_filter.1 hq
  exact ⟨hasR_mem.2 ⟨q, h1⟩, by simpa using h2⟩
theorem chg_has {L : WL} (hL : ListOk L) {t p a : Int} (h : hasR (chgL L t p) a = true) : hasR L a = true := by
  obtain ⟨q, hq⟩ := hasR_mem.1 h
  have : a ∈ (chgL L t p).map (·.1) := List.mem_map.2 ⟨_, hq, rfl⟩
  rw [chgL_keys hL] at this
  obtain ⟨y, hy, rfl⟩ := List.mem_map.1 this
  exact hasR_mem.2 ⟨y.2, hy⟩

/-- What a send comes to. -/
theorem send_ways {s : QS} (hi : QInv s) {H : List Bool} (hm : MarkI s H) (t p : Int) (m : Int × Int) :
    (s.askE t p m.2 false ≠ 0 ∧ s.sendS t p m = s) ∨
    (s.askE t p m.2 false = 0 ∧ okT t ∧ s.sendP t p m = ⟨false, m.1, m.2, -1⟩ ∧ (s.sendS t p m).L = s.L ∧ MarkI (s.sendS t p m) (H.set t.toNat true)) ∨
    (s.askE t p m.2 false = 0 ∧ s.sendP t p m = ⟨true, m.1, m.2, -1⟩ ∧ (s.sendS t p m).L.length = s.L.length + 1 ∧ MarkI (s.sendS t p m) H) ∨
    (s.askE t p m.2 false = 0 ∧ (∃ o, 0 ≤ o ∧ s.sendP t p m = ⟨true, m.1, m.2, o⟩) ∧ (s.sendS t p m).L = s.L ∧ MarkI (s.sendS t p m) H) := by
  by_cases he : s.askE t p m.2 false = 0
  · have hok := askE_ok he
    unfold QS.sendS QS.sendP
    rw [if_pos he, if_pos he]
    cases hh : headB (ordL s.R) with
    | true =>
      simp only [if_true]
      exact .inr (.inr (.inr ⟨he, ⟨_, (head_okT hi.lr hh).1, rfl⟩, trivial, hm⟩))
    | false =>
      simp only [Bool.false_eq_true, if_false]
      cases hf : s.full with
      | true =>
        simp only [if_true]
        exact .inr (.inl ⟨he, hok.1, trivial, trivial, hm.put hok.1 (fun a ha => put_has ha)⟩)
      | false =>
        simp only [Bool.false_eq_true, if_false]
        exact .inr (.inr (.inl ⟨he, trivial, by simp, hm⟩))
  · exact .inl ⟨he, by unfold QS.sendS; rw [if_neg he]⟩
/-- What a receive comes to. -/
theorem rcv_ways {s : QS} (hi : QInv s) {H : List Bool} (hm : MarkI s H) (t p : Int) :
    (s.askE t p 0 false ≠ 0 ∧ s.rcvS t p = s) ∨
    (s.askE t p 0 false = 0 ∧ s.ord = [] ∧ s.rcvP t p = ⟨false, 0, 0, -1⟩ ∧ (s.rcvS t p).L = s.L ∧ MarkI (s.rcvS t p) H) ∨
    (s.askE t p 0 false = 0 ∧ (∃ x r, s.ord = x :: r ∧ s.rcvP t p = ⟨true, x.1, x.2, -1⟩) ∧ (s.rcvS t p).L.length + 1 = s.L.length ∧ MarkI (s.rcvS t p) H) ∨
    (s.askE t p 0 false = 0 ∧ (∃ x r o, s.ord = x :: r ∧ okT o ∧ H[o.toNat]? = some true ∧ s.rcvP t p = ⟨true, x.1, x.2, o⟩ ∧ MarkI (s.rcvS t p) (H.set o.toNat false)) ∧ (s.rcvS t p).L.length = s.L.length) := by
  by_cases he : s.askE t p 0 false = 0
  · unfold QS.rcvS QS.rcvP
    rw [if_pos he, if_pos he]
    cases ho : s.ord with
    | nil => exact .inr (.inl ⟨he, rfl, rfl, rfl, hm⟩)
    | cons x r =>
      have hlen : (delM s.L x.2).length + 1 = s.L.length := by
        have h1 := ordM_len hi.msg
        have h2 := ordM_len (hi.msg.del x.2)
        have ho' : ordM s.L = x :: r := ho
        rw [ordM_del ho'] at h2
        rw [ho', List.length_cons] at h1
        omega
      unfold QS.rcv1
      rw [ho]
      simp only
      cases hh : headB (ordL s.S) with
      | true =>
        simp only [if_true]
        have hhas : hasR s.S (headT (ordL s.S)) = true := by
          cases hs : ordL s.S with
          | nil => rw [hs] at hh; cases hh
          | cons y q => exact hasR_mem.2 ⟨y.2, ordL_mem (by rw [hs]; simp [headT])⟩
        have hok := hm.2 _ hhas
        refine .inr (.inr (.inr ⟨he, ⟨x, r, _, rfl, hok.1, hok.2, rfl, hm.del hok.1 (fun a ha => ?_)⟩, by simp; omega⟩))
        have e : takeL s.S = wdel s.S (headT (ordL s.S)) := by
          unfold takeL
          cases hs : ordL s.S with
          | nil => rw [hs] at hh; cases hh
          | cons y q => rfl
        exact del_has hi.ls (by rw [← e]; exact ha)
      | false =>
        simp only [Bool.false_eq_true, if_false]
        exact .inr (.inr (.inl ⟨he, ⟨x, r, rfl, rfl⟩, hlen, hm⟩))
  · exact .inl ⟨he, by unfold QS.rcvS; rw [if_neg he]⟩
theorem lv_ways {s : QS} (hi : QInv s) {H : List Bool} (hm : MarkI s H) (t : Int) :
    (s.askE t 1 0 true ≠ 0 ∧ s.lvS t = s) ∨ (s.askE t 1 0 true = 0 ∧ okT t ∧ (s.lvS t).L = s.L ∧ MarkI (s.lvS t) (H.set t.toNat false)) := by
  by_cases he : s.askE t 1 0 true = 0
  · have hok := askE_ok2 he
    refine .inr ⟨he, hok.1, ?_, ?_⟩
    · unfold QS.lvS
      rw [if_pos he]
      split <;> rfl
    · refine hm.del hok.1 (fun a ha => ?_)
      unfold QS.lvS at ha
      rw [if_pos he] at ha
      cases hb : hasR s.S t with
      | true =>
        rw [hb, if_pos rfl] at ha
        exact del_has hi.ls (by rw [← lvL_is hok.1 hb]; exact ha)
      | false =>
        rw [hb] at ha
        simp only [Bool.false_eq_true, if_false] at ha
        refine ⟨ha, fun e => ?_⟩
        rw [e, hb] at ha
        cases ha
  · exact .inl ⟨he, by unfold QS.lvS; rw [if_neg he]⟩
theorem ch_mark {s : QS} (hi : QInv s) {H : List Bool} (hm : MarkI s H) (t p : Int) : (s.chS t p).L = s.L ∧ MarkI (s.chS t p) H := by
  unfold QS.chS
  split
  · split
    · exact ⟨rfl, hm.sub (fun a ha => chg_has hi.ls ha)⟩
    · exact ⟨rfl, hm⟩
  · exact ⟨rfl, hm⟩

end Go.Proofs.Ytiiafhlckmkcnaa
