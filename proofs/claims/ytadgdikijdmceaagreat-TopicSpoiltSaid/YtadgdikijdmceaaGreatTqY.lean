import Derived.Test.YtadgdikijdmceaaGreatTqX
set_option linter.unusedSimpArgs false
set_option linter.unusedVariables false
set_option maxRecDepth 100000
namespace Go.Proofs.YtadgdikijdmceaaGreat
open Go Go.Fx Go.Proofs Go.Pl

theorem allOk_sum {l : List BA} (h : sumZ l ≤ 32768) : allOk l = true := by
  unfold allOk
  rw [List.all_eq_true]
  intro x hx
  have := sumZ_mem hx
  exact decide_eq_true (by omega)
theorem wtL_app (a b : List BA) : wtL (a ++ b) = wtL a + wtL b := by
  unfold wtL
  rw [List.length_append, sumZ_app]; omega
theorem rDropF_eq {name : BA} {seg : Nat} (hs : 1 ≤ seg) (off : Nat) : ∀ (l : List Sg) (f k : Nat), Tw name seg f l → nextS l ≤ k + f → rDropF seg off (nextS l) k f = f + seg * dropK off l
  | [], f, k, h, hk => by
    rcases h.sq with ⟨_, rfl⟩ | ⟨l0, x, e, _⟩
    · cases k with
      | zero => rfl
      | succ k => rw [rDropF, if_neg (by show ¬ (0 + seg ≤ off ∧ 0 + seg < 0); omega)]; rfl
    · exact absurd (congrArg List.length e) (by simp)
  | [x], f, k, h, hk => by
    have hn := h.next
    have hb := (h.bound (List.mem_singleton.2 rfl)).1
    rw [allR_one] at hn
    have e : rDropF seg off (nextS [x]) k f = f := by
      cases k with
      | zero => rfl
      | succ k => rw [rDropF, if_neg (by omega)]
    rw [e]; rfl
  | x :: y :: l, f, k, h, hk => by
    obtain ⟨h1, h2, h3, h4⟩ := h.tail
    have hn1 : nextS (x :: y :: l) = nextS (y :: l) := by
      unfold nextS
      rw [List.getLast?_cons_cons]
    have hn2 := h1.next
    have hpos : 1 ≤ (allR (y :: l)).length := by
      have := h1.count hs
      rw [List.length_cons] at this
      omega
    rw [hn1] at hk ⊢
    rw [dropK, h4]
    by_cases hc : f + seg ≤ off
    · rw [if_pos hc]
      cases k with
      | zero => exfalso; omega
      | succ k =>
        rw [rDropF, if_pos ⟨hc, by omega⟩, rDropF_eq hs off (y :: l) (f + seg) k h1 (by omega), Nat.mul_add, Nat.mul_one]
        omega
    · rw [if_neg hc]
      cases k with
      | zero => rfl
      | succ k => rw [rDropF, if_neg (by omega)]; rfl
theorem PlOk.wf {A : HProp} {seg : Nat} {s : PlS} (h : PlOk A seg s) {d : Dk} {l : List Sm} {f : Nat} {v : Value} {P : HProp} (hE : Ext s.P P) (hsg : SgsR P v l) (k : Nat) (hk : k < (s.l.map Sm.s).length ∨ k = 0) (hl : l.map Sm.s = (s.l.map Sm.s).drop k) (hf : f = s.f + seg * k) (hd : Firm d (fsS (l.map Sm.s))) : PlOk A seg ⟨s.tb, v, l, d, f, s.all, s.rv, P⟩ := by
  obtain ⟨q, hq1, hq2⟩ := h.pre
  rcases hk with hk | rfl
  · obtain ⟨a, b⟩ := h.tw.drop k hk
    refine ⟨h.ext.trans hE, hsg, by show Tw nT seg f (l.map Sm.s); rw [hl, hf]; exact a, hd, ⟨s.all.take f, ?_, ?_⟩, h.w⟩
    · show s.all = s.all.take f ++ allR (l.map Sm.s)
      have e1 : s.all.drop f = allR (l.map Sm.s) := by
        rw [hl, ← b, hq1, hf, ← hq2, ← List.drop_drop, List.drop_left]
      rw [← e1, List.take_append_drop]
    · show (s.all.take f).length = f
      rw [List.length_take]
      have e2 := congrArg List.length b
      rw [List.length_drop] at e2
      have hc := a.count
      have : 1 ≤ ((s.l.map Sm.s).drop k).length := by rw [List.length_drop]; omega
      have h3 := congrArg List.length hq1
      rw [List.length_append] at h3
      by_cases hs : 1 ≤ seg
      · have := hc hs; omega
      · have : seg = 0 := by omega
        subst this
        omega
  · rw [List.drop_zero] at hl
    rw [Nat.mul_zero, Nat.add_zero] at hf
    subst hf
    exact ⟨h.ext.trans hE, hsg, by show Tw nT seg s.f (l.map Sm.s); rw [hl]; exact h.tw, hd, ⟨q, by show s.all = q ++ allR (l.map Sm.s); rw [hl]; exact hq1, hq2⟩, h.w⟩
def StepR (A : HProp) (seg : Nat) (s : PlS) (x : Ts) (s' : PlS) : Prop := PlOk A seg s' ∧ s'.d.fuse = -1 ∧ s'.d.room = s.d.room ∧ s'.tb = s.tb ∧ Ext s.P s'.P ∧ wtL s'.all ≤ wtL s.all + wtL x.l
end Go.Proofs.YtadgdikijdmceaaGreat
