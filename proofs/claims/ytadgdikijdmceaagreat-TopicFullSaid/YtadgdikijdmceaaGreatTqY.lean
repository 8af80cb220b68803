import Derived.Test.YtadgdikijdmceaaGreatTqX
set_option linter.unusedSimpArgs false
set_option linter.unusedVariables false
set_option maxRecDepth 100000
namespace Go.Proofs.YtadgdikijdmceaaGreat
open Go Go.Fx Go.Proofs Go.Pl

theorem allOk_sum {l : List BA} (h : sumZ l ≤ 32768) : allOk l = true := by
  unfold allOk
  rw [List.all_eq_true]
  intro x hx
  have := sumZ_mem hx
  exact decide_eq_true (by omega)
theorem wtL_app (a b : List BA) : wtL (a ++ b) = wtL a + wtL b := by
  unfold wtL
  rw [List.length_append, sumZ_app]; omega
theorem rDropF_eq {name : BA} {seg : Nat} (hs : 1 ≤ seg) (off : Nat) : ∀ (l : List Sg) (f k : Nat), Tw name seg f l → nextS l ≤ k + f → rDropF seg off (nextS l) k f = f + seg * dropK off l
  | [], f, k, h, hk => by
    rcases h.sq with ⟨_, rfl⟩ | ⟨l0, x, e, _⟩
    · cases k with
      | zero => rfl
      | succ k => rw [rDropF, if_neg (by show ¬ (0 + seg ≤ off ∧ 0 + seg < 0); omega)]; rfl
    · exact absurd (congrArg List.length e) (by simp)
  | [x], f, k, h, hk => by
    have hn := h.next
    have hb := (h.bound (List.mem_singleton.2 rfl)).1
    rw [allR_one] at hn
    have e : rDropF seg off (nextS [x]) k f = f := by
      cases k with
      | zero => rfl
      | succ k => rw [rDropF, if_neg (by omega)]
    rw [e]; rfl
  | x :: y :: l, f, k, h, hk => by
    obtain ⟨h1, h2, h3, h4⟩ := h.tail
    have hn1 : nextS (x :: y :: l) = nextS (y :: l) := by
      unfold nextS
      rw [List.getLast?_cons_cons]
    have hn2 := h1.next
    have hpos : 1 ≤ (allR (y :: l)).length := by
      have := h1.count hs
      rw [List.length_cons] at this
      omega
    rw [hn1] at hk ⊢
    rw [dropK, h4]
    by_cases hc : f + seg ≤ off
    · rw [if_pos hc]
      cases k with
      | zero => exfalso; omega
      | succ k =>
        rw [rDropF, if_pos ⟨hc, by omega⟩, rDropF_eq hs off (y :: l) (f + seg) k h1 (by omega), Nat.mul_add, Nat.mul_one]
        omega
    · rw [if_neg hc]
      cases k with
      | zero => rfl
      | succ k => rw [rDropF, if_neg (by omega)]; rfl
theorem PlOk.wf {A : HProp} {seg : Nat} {s : PlS} (h : PlOk A seg s) {d : Dk} {l : List Sm} {f : Nat} {v : Value} {P : HProp} (hE : Ext s.P P) (hsg : SgsR P v l) (k : Nat) (hk : k < (s.l.map Sm.s).length ∨ k = 0) (hl : l.map Sm.s = (s.l.map Sm.s).drop k) (hf : f = s.f + seg * k) (hd : Firm d (fsS (l.map Sm.s))) : PlOk A seg ⟨s.tb, v, l, d, f, s.all, s.rv, P⟩ := by
  obtain ⟨q, hq1, hq2⟩ := h.pre
  rcases hk with hk | rfl
  · obtain ⟨a, b⟩ := h.tw.drop k hk
    refine ⟨h.ext.trans hE, hsg, by show Tw nT seg f (l.map Sm.s); rw [hl, hf]; exact a, hd, ⟨s.all.take f, ?_, ?_⟩, h.w⟩
    · show s.all = s.all.take f ++ allR (l.map Sm.s)
      have e1 : s.all.drop f = allR (l.map Sm.s) := by
        rw [hl, ← b, hq1, hf, ← hq2, ← List.drop_drop, List.drop_left]
      rw [← e1, List.take_append_drop]
    · show (s.all.take f).length = f
      rw [List.length_take]
      have e2 := congrArg List.length b
      rw [List.length_drop] at e2
      have hc := a.count
      have : 1 ≤ ((s.l.map Sm.s).drop k).length := by rw [List.length_drop]; omega
      have h3 := congrArg List.length hq1
      rw [List.length_append] at h3
      by_cases hs : 1 ≤ seg
      · have := hc hs; omega
      · have : seg = 0 := by omega
        subst this
        omega
  · rw [List.drop_zero] at hl
    rw [Nat.mul_zero, Nat.add_zero] at hf
    subst hf
    exact ⟨h.ext.trans hE, hsg, by show Tw nT seg s.f (l.map Sm.s); rw [hl]; exact h.tw, hd, ⟨q, by show s.all = q ++ allR (l.map Sm.s); rw [hl]; exact hq1, hq2⟩, h.w⟩
def StepR (A : HProp) (seg : Nat) (s : PlS) (x : Ts) (s' : PlS) : Prop := PlOk A seg s' ∧ s'.d.fuse = -1 ∧ s'.d.room = s.d.room ∧ s'.tb = s.tb ∧ Ext s.P s'.P ∧ wtL s'.all ≤ wtL s.all + wtL x.l
set_option maxHeartbeats 8000000 in
theorem step0_spec (A : HProp) (b rb seg : Nat) (s : PlS) (x : Ts) (full : Bool) (h : PlOk A seg s) (hs : 1 ≤ seg) (hs1 : seg ≤ 65536) (hfu : s.d.fuse = -1) (hx : Vw s.P 1 x.v.1 (x.l.map strV)) (hxl : sumZ x.l ≤ 32768) (hw : wtL s.all + wtL x.l ≤ 16384) (hroom : full = true ∨ 32768 ≤ s.d.room) (ho : x.op = 0) :
    FSpec Tryz.prog 52 [.pointer (some ⟨s.tb, 0, none⟩), .pointer (some ⟨rb, 0, none⟩), .agg (tsV x).toArray, .bool full] (plP b rb seg s) PlS (StepR A seg s x) (fun _ => .bool true) (fun s' => plP b rb seg s') := by
  obtain ⟨f1, f2, f3, f4, f5, f6, f7⟩ := h.facts hs hs1
  obtain ⟨q, hq1, hq2⟩ := h.pre
  have hxa := allOk_sum hxl
  have hwl := wtL_lenT x.l
  have hxn : x.l.length ≤ 1000 := by unfold wtL at hw; omega
  have hmain := append_main (rs := x.l) may_nT (by decide) hs h.tw h.firm hxa (by rw [f1]; omega) (by omega) (.inl hfu)
  have hfus : fused s.d.files = lenT (allR (s.l.map Sm.s)) := by
    rw [h.firm.eq.fused h.firm.ok.nd (by rw [fsS_keys]; exact (h.tw.nm hs).nodup), fused_fsS]
  have hA := fun (u : Value) (P : HProp) (g : Ext s.P P) (hu : RcR P u x.l) => tAppend_spec s.tb b nT seg s.vs 0 s.d s.l u x.l P (h.sg.ext g) hu (by decide) hs hs1 h.firm.ok (fun y hy => by
    obtain ⟨_, a2, a3, a4⟩ := f7 y hy
    exact ⟨a2, by omega, by omega⟩) (by rw [h.firm.loose]; exact Nat.zero_le _) (by omega) (by omega) (by rw [f1]; omega) (by omega)
  have hRA := fun (u : Value) (P : HProp) (hu : Vw P 1 u (x.l.map strV)) => rAppend_spec rb s.rv.1 u s.f seg s.all x.l P (by omega) (by omega) hu
  generalize appendT nT seg (s.l.map Sm.s) 0 x.l s.d = r at hmain hA
  obtain ⟨op, l, ⟨v, hv⟩, off, n, m⟩ := x
  dsimp only at ho hx hxl hw hxa hwl hxn hmain hA hRA
  subst ho
  dsimp only [tsV]
  have ll : (l.map strV).length = l.length := by simp
  have hPl : ∀ (s' : PlS), PlOk A seg s' → True := fun _ _ => trivial
  refine fspec_lrnT (fun R hh g => (VwIn.slice (VwIn.there (VwIn.there (VwIn.there (VwIn.there (VwIn.here hx)))))) hh g) ?_
  rintro ⟨px, cx, rfl⟩
  rcases hmain with g | ⟨g0, g, gf⟩ | ⟨_, _, _, g⟩
  · have he := g.e
    have hn : r.n = s.all.length := by rw [g.n, f1]
    have t2 : decide (r.e = 4) = false := by rw [he]; rfl
    have hf0 := g.f0
    obtain ⟨rl, rf, rd, rn, re⟩ := r
    dsimp only at he hn hf0 hA g t2
    subst he hn hf0
    obtain ⟨tb, vs, sl, d, f, all, ⟨rv, hrv⟩, P⟩ := s
    unfold plP
    dsimp only at f1 f2 f3 f4 f5 f6 hA hRA hx hw hfu h g hq1 hq2 hroom ⊢
    cases full with
    | true =>
      refine spec_intro [] _ Tryz.func52 rfl Tryz.ntmps52 (by rfl) (fun w0 R => ?_)
      refine ok_map (fun _ h => nilRow (e := 9) (n := 1) h) ?_
      repeat' (first | (refine go_Y ?_; intros) | (refine gs_Y ?_ ?_ <;> (intro hgd; try (simp only [Bool.not_true, Bool.not_false] at hgd))) | (refine gc_Y ?_ ?_ <;> intro _) | fail)
      rename_i bx w hw0
      refine ops_learn (rowShapeS (e := 9) (n := 1) (v := w) (xs := [] ++ l.map strV) (by decide) takeD) ?_
      rintro ⟨p2, c2, rfl, hc2, hp2⟩
      rw [List.nil_append] at hw0 hc2 ⊢
      refine ops_poolN (ty := 9) (n := 1) (v := .slice p2 (l.map strV).length c2) (xs := l.map strV) (P := P) takeD ?_
      intro P1 hE1 hv1
      refine cl_Y (hA (.slice p2 (l.map strV).length c2) P1 hE1 ⟨hv1, ⟨p2, c2, rfl, hc2, hp2⟩⟩) ?_
      rintro ⟨v', l', P2⟩ ⟨k1, k2, k3⟩
      dsimp only at k1 k2 k3 ⊢
      repeat' (first | (refine go_Y ?_; intros) | (refine gs_Y ?_ ?_ <;> (intro hgd; try (simp only [Bool.not_true, Bool.not_false] at hgd))) | (refine gc_Y ?_ ?_ <;> intro _) | fail)
      refine cl_Y (hRA (.slice px (l.map strV).length cx) P2 ((hE1.trans k1).vw hx)) ?_
      rintro ⟨rv', hrv'⟩ _
      repeat' (first | (refine go_Y ?_; intros) | (refine gs_Y ?_ ?_ <;> (intro hgd; try (simp only [Bool.not_true, Bool.not_false] at hgd))) | (refine gc_Y ?_ ?_ <;> intro _) | fail)
      (refine rt_Y (y := ⟨tb, v', l', rd, f, all ++ l, ⟨rv', hrv'⟩, P2⟩) (hrs := Tryz.results52) (hv := ?_) (hφ := ?_))
      · rfl
      · refine ⟨⟨h.ext.trans (hE1.trans k1), k2, by show Tw nT seg f (l'.map Sm.s); rw [k3]; exact g.tw, by show Firm rd (fsS (l'.map Sm.s)); rw [k3]; exact g.firm, ⟨q, ?_, hq2⟩, by show wtL (all ++ l) ≤ _; rw [wtL_app]; exact hw⟩, g.fuse hfu, g.room, rfl, hE1.trans k1, by show wtL (all ++ l) ≤ _; rw [wtL_app]; exact Nat.le_refl _⟩
        show all ++ l = q ++ allR (l'.map Sm.s)
        rw [k3, g.rc, hq1, List.append_assoc]
    | false =>
      refine spec_intro [] _ Tryz.func52 rfl Tryz.ntmps52 (by rfl) (fun w0 R => ?_)
      refine ok_map (fun _ h => nilRow (e := 9) (n := 1) h) ?_
      repeat' (first | (refine go_Y ?_; intros) | (refine gs_Y ?_ ?_ <;> (intro hgd; try (simp only [Bool.not_true, Bool.not_false] at hgd))) | (refine gc_Y ?_ ?_ <;> intro _) | fail)
      rename_i bx w hw0
      refine ops_learn (rowShapeS (e := 9) (n := 1) (v := w) (xs := [] ++ l.map strV) (by decide) takeD) ?_
      rintro ⟨p2, c2, rfl, hc2, hp2⟩
      rw [List.nil_append] at hw0 hc2 ⊢
      refine ops_poolN (ty := 9) (n := 1) (v := .slice p2 (l.map strV).length c2) (xs := l.map strV) (P := P) takeD ?_
      intro P1 hE1 hv1
      refine cl_Y (hA (.slice p2 (l.map strV).length c2) P1 hE1 ⟨hv1, ⟨p2, c2, rfl, hc2, hp2⟩⟩) ?_
      rintro ⟨v', l', P2⟩ ⟨k1, k2, k3⟩
      dsimp only at k1 k2 k3 ⊢
      repeat' (first | (refine go_Y ?_; intros) | (refine gs_Y ?_ ?_ <;> (intro hgd; try (simp only [Bool.not_true, Bool.not_false] at hgd))) | (refine gc_Y ?_ ?_ <;> intro _) | fail)
      refine cl_Y (hRA (.slice px (l.map strV).length cx) P2 ((hE1.trans k1).vw hx)) ?_
      rintro ⟨rv', hrv'⟩ _
      repeat' (first | (refine go_Y ?_; intros) | (refine gs_Y ?_ ?_ <;> (intro hgd; try (simp only [Bool.not_true, Bool.not_false] at hgd))) | (refine gc_Y ?_ ?_ <;> intro _) | fail)
      (refine rt_Y (y := ⟨tb, v', l', rd, f, all ++ l, ⟨rv', hrv'⟩, P2⟩) (hrs := Tryz.results52) (hv := ?_) (hφ := ?_))
      · rfl
      · refine ⟨⟨h.ext.trans (hE1.trans k1), k2, by show Tw nT seg f (l'.map Sm.s); rw [k3]; exact g.tw, by show Firm rd (fsS (l'.map Sm.s)); rw [k3]; exact g.firm, ⟨q, ?_, hq2⟩, by show wtL (all ++ l) ≤ _; rw [wtL_app]; exact hw⟩, g.fuse hfu, g.room, rfl, hE1.trans k1, by show wtL (all ++ l) ≤ _; rw [wtL_app]; exact Nat.le_refl _⟩
        show all ++ l = q ++ allR (l'.map Sm.s)
        rw [k3, g.rc, hq1, List.append_assoc]
  · have hft : full = true := by
      rcases hroom with h1 | h1
      · exact h1
      · exfalso
        rw [hfus] at gf
        omega
    subst hft
    have he := g.e
    have hn := g.n
    have hf0 := g.f0
    have hli := g.li
    obtain ⟨rl, rf, rd, rn, re⟩ := r
    dsimp only at he hn hf0 hA g hli
    subst he hn hf0 hli
    have hlp : decide ((0 : Int) < ((l.map strV).length : Int)) = true := decide_eq_true (by
      have := List.length_pos_iff.2 g.ne
      omega)
    have t0 : decide (((0 : Nat) : Int) = 0) = true := rfl
    obtain ⟨tb, vs, sl, d, f, all, ⟨rv, hrv⟩, P⟩ := s
    unfold plP
    dsimp only at f1 f2 f3 f4 f5 f6 hA hRA hx hw hfu h g hq1 hq2 hroom ⊢
    refine spec_intro [] _ Tryz.func52 rfl Tryz.ntmps52 (by rfl) (fun w0 R => ?_)
    refine ok_map (fun _ h => nilRow (e := 9) (n := 1) h) ?_
    repeat' (first | (refine go_Y ?_; intros) | (refine gs_Y ?_ ?_ <;> (intro hgd; try (simp only [Bool.not_true, Bool.not_false] at hgd))) | (refine gc_Y ?_ ?_ <;> intro _) | fail)
    rename_i bx w hw0
    refine ops_learn (rowShapeS (e := 9) (n := 1) (v := w) (xs := [] ++ l.map strV) (by decide) takeD) ?_
    rintro ⟨p2, c2, rfl, hc2, hp2⟩
    rw [List.nil_append] at hw0 hc2 ⊢
    refine ops_poolN (ty := 9) (n := 1) (v := .slice p2 (l.map strV).length c2) (xs := l.map strV) (P := P) takeD ?_
    intro P1 hE1 hv1
    refine cl_Y (hA (.slice p2 (l.map strV).length c2) P1 hE1 ⟨hv1, ⟨p2, c2, rfl, hc2, hp2⟩⟩) ?_
    rintro ⟨v', l', P2⟩ ⟨k1, k2, k3⟩
    dsimp only at k1 k2 k3 ⊢
    repeat' (first | (refine go_Y ?_; intros) | (refine gs_Y ?_ ?_ <;> (intro hgd; try (simp only [Bool.not_true, Bool.not_false] at hgd))) | (refine gc_Y ?_ ?_ <;> intro _) | fail)
    (refine rt_Y (y := ⟨tb, v', l', rd, f, all, ⟨rv, hrv⟩, P2⟩) (hrs := Tryz.results52) (hv := ?_) (hφ := ?_))
    · exact congrArg Value.bool hlp
    · refine ⟨⟨h.ext.trans (hE1.trans k1), k2, by show Tw nT seg f (l'.map Sm.s); rw [k3]; exact h.tw, by show Firm rd (fsS (l'.map Sm.s)); rw [k3]; exact g.firm, ⟨q, ?_, hq2⟩, h.w⟩, g.fuse, g.room, rfl, hE1.trans k1, Nat.le_add_right _ _⟩
      show all = q ++ allR (l'.map Sm.s)
      rw [k3, hq1]
  · exact absurd hfu g
set_option maxHeartbeats 8000000 in
theorem step2_spec (A : HProp) (b rb seg : Nat) (s : PlS) (x : Ts) (full : Bool) (h : PlOk A seg s) (hs : 1 ≤ seg) (hs1 : seg ≤ 65536) (hfu : s.d.fuse = -1) (ho : x.op = 2) :
    FSpec Tryz.prog 52 [.pointer (some ⟨s.tb, 0, none⟩), .pointer (some ⟨rb, 0, none⟩), .agg (tsV x).toArray, .bool full] (plP b rb seg s) PlS (StepR A seg s x) (fun _ => .bool true) (fun s' => plP b rb seg s') := by
  obtain ⟨f1, f2, f3, f4, f5, f6, f7⟩ := h.facts hs hs1
  have hD := tDrop_spec s.tb b nT (seg : Int) s.vs 0 s.d s.l x.off s.P h.sg (by omega) (by omega) (fun y hy => (f7 y hy).1) h.firm.ok (by rw [h.firm.loose]; exact Nat.zero_le _)
  have hkl : dropK x.off (s.l.map Sm.s) < (s.l.map Sm.s).length ∨ dropK x.off (s.l.map Sm.s) = 0 := by
    by_cases h0 : s.l.map Sm.s = []
    · right; rw [h0]; rfl
    · left; exact dropK_lt _ _ h0
  have hwf := fun (d : Dk) (l : List Sm) (f : Nat) (v : Value) => h.wf (d := d) (l := l) (f := f) (v := v) (P := s.P) (.refl _)
  obtain ⟨op, l, ⟨v, hv⟩, off, n, m⟩ := x
  dsimp only at ho hD hkl
  subst ho
  dsimp only [tsV]
  by_cases hoff : off ≤ nextS (s.l.map Sm.s)
  · rcases drop_main may_nT (by decide) hs h.tw h.firm hoff with ⟨d', e1, e2, e3, e4⟩ | ⟨_, _, _, _, e⟩
    · rw [e1] at hD
      dsimp only at hD
      have hRD := rDrop_spec rb s.rv.1 s.f seg off s.all (by omega) (by omega) hs (by omega) (by omega)
      have hrf := rDropF_eq hs off (s.l.map Sm.s) s.f (nextS (s.l.map Sm.s)) h.tw (by omega)
      rw [f1] at hrf
      rw [hrf] at hRD
      generalize dropK off (s.l.map Sm.s) = k at *
      obtain ⟨tb, vs, sl, d, f, all, ⟨rv, hrv⟩, P⟩ := s
      unfold plP
      dsimp only at f1 f2 f3 f4 f5 f6 hD hRD hfu h hwf hkl e1 e2 e3 e4 ⊢
      refine spec_intro [] _ Tryz.func52 rfl Tryz.ntmps52 (by rfl) (fun w0 R => ?_)
      repeat' (first | (refine go_Y ?_; intros) | (refine gs_Y ?_ ?_ <;> (intro hgd; try (simp only [Bool.not_true, Bool.not_false] at hgd))) | (refine gc_Y ?_ ?_ <;> intro _) | fail)
      rename_i bx
      refine ok_drawL (cv := []) [3] ([pts bx (.cells [.int .i64 2, v, .int .u64 (off : Int), .int .i64 n, .int .i64 m].toArray 25)]) (takeD) (by kernel_rfl) rfl (by decide +kernel) ?_
      repeat' (first | (refine go_Y ?_; intros) | (refine gs_Y ?_ ?_ <;> (intro hgd; try (simp only [Bool.not_true, Bool.not_false] at hgd))) | (refine gc_Y ?_ ?_ <;> intro _) | fail)
      refine clN_Y (hD) ?_
      rintro ⟨v', l'⟩ ⟨k1, k2⟩
      dsimp only at k1 k2 ⊢
      repeat' (first | (refine go_Y ?_; intros) | (refine gs_Y ?_ ?_ <;> (intro hgd; try (simp only [Bool.not_true, Bool.not_false] at hgd))) | (refine gc_Y ?_ ?_ <;> intro _) | fail)
      refine cl_Y (hRD) ?_
      intro _ _
      repeat' (first | (refine go_Y ?_; intros) | (refine gs_Y ?_ ?_ <;> (intro hgd; try (simp only [Bool.not_true, Bool.not_false] at hgd))) | (refine gc_Y ?_ ?_ <;> intro _) | fail)
      (refine rt_Y (y := ⟨tb, v', l', d', f + seg * k, all, ⟨rv, hrv⟩, P⟩) (hrs := Tryz.results52) (hv := ?_) (hφ := ?_))
      · rfl
      · exact ⟨hwf d' l' (f + seg * k) v' k1 k hkl k2 rfl (by rw [k2]; exact e2), e4 hfu, e3, rfl, .refl _, Nat.le_add_right _ _⟩
    · exact absurd hfu e
  · have e1 : dropT off (s.l.map Sm.s) 0 s.d = (s.l.map Sm.s, 0, s.d, 3) := by unfold dropT; rw [if_neg (fun h => h rfl), if_pos (by omega)]
    rw [e1] at hD
    dsimp only at hD
    have hRD := rDrop_none rb s.rv.1 s.f seg off s.all (by omega) (by omega)
    obtain ⟨tb, vs, sl, d, f, all, ⟨rv, hrv⟩, P⟩ := s
    unfold plP
    dsimp only at f1 f2 f3 f4 f5 f6 hD hRD hfu h hwf hkl e1 ⊢
    refine spec_intro [] _ Tryz.func52 rfl Tryz.ntmps52 (by rfl) (fun w0 R => ?_)
    repeat' (first | (refine go_Y ?_; intros) | (refine gs_Y ?_ ?_ <;> (intro hgd; try (simp only [Bool.not_true, Bool.not_false] at hgd))) | (refine gc_Y ?_ ?_ <;> intro _) | fail)
    rename_i bx
    refine ok_drawL (cv := []) [3] ([pts bx (.cells [.int .i64 2, v, .int .u64 (off : Int), .int .i64 n, .int .i64 m].toArray 25)]) (takeD) (by kernel_rfl) rfl (by decide +kernel) ?_
    repeat' (first | (refine go_Y ?_; intros) | (refine gs_Y ?_ ?_ <;> (intro hgd; try (simp only [Bool.not_true, Bool.not_false] at hgd))) | (refine gc_Y ?_ ?_ <;> intro _) | fail)
    refine clN_Y (hD) ?_
    rintro ⟨v', l'⟩ ⟨k1, k2⟩
    dsimp only at k1 k2 ⊢
    repeat' (first | (refine go_Y ?_; intros) | (refine gs_Y ?_ ?_ <;> (intro hgd; try (simp only [Bool.not_true, Bool.not_false] at hgd))) | (refine gc_Y ?_ ?_ <;> intro _) | fail)
    refine cl_Y (hRD) ?_
    intro _ _
    repeat' (first | (refine go_Y ?_; intros) | (refine gs_Y ?_ ?_ <;> (intro hgd; try (simp only [Bool.not_true, Bool.not_false] at hgd))) | (refine gc_Y ?_ ?_ <;> intro _) | fail)
    (refine rt_Y (y := ⟨tb, v', l', d, f, all, ⟨rv, hrv⟩, P⟩) (hrs := Tryz.results52) (hv := ?_) (hφ := ?_))
    · rfl
    · exact ⟨hwf d l' f v' k1 0 (.inr rfl) (by rw [k2, List.drop_zero]) (by rw [Nat.mul_zero, Nat.add_zero]) (by rw [k2]; exact h.firm), hfu, rfl, rfl, .refl _, Nat.le_add_right _ _⟩
set_option maxHeartbeats 8000000 in
theorem step1_spec (A : HProp) (b rb seg : Nat) (s : PlS) (x : Ts) (full : Bool) (h : PlOk A seg s) (hs : 1 ≤ seg) (hs1 : seg ≤ 65536) (hfu : s.d.fuse = -1) (ho : x.op = 1) :
    FSpec Tryz.prog 52 [.pointer (some ⟨s.tb, 0, none⟩), .pointer (some ⟨rb, 0, none⟩), .agg (tsV x).toArray, .bool full] (plP b rb seg s) PlS (StepR A seg s x) (fun _ => .bool true) (fun s' => plP b rb seg s') := by
  obtain ⟨f1, f2, f3, f4, f5, f6, f7⟩ := h.facts hs hs1
  obtain ⟨q, hq1, hq2⟩ := h.pre
  have hR := tRead_spec s.tb b nT (seg : Int) s.vs 0 s.d s.l x.off x.n s.P h.sg (by omega) (by omega) (fun x hx => (f7 x hx).1)
  rw [read_main may_nT (by decide) hs h.firm h.tw hq1 hq2] at hR
  have hRR := rRead_spec rb s.rv.1 s.f seg x.off x.n s.all (by omega)
  have hra := rRead_all (f := s.f) (all := s.all) x.off x.n
  have hgr := fun P (g : Ext s.P P) => h.grow g
  obtain ⟨op, l, ⟨v, hv⟩, off, n, m⟩ := x
  dsimp only at ho hR hRR hra
  subst ho
  dsimp only [tsV]
  generalize rReadL s.f s.all off n = rl at hR hRR hra
  generalize rReadE s.f s.all off = re at hR hRR
  obtain ⟨tb, vs, sl, d, f, all, ⟨rv, hrv⟩, P⟩ := s
  unfold plP
  dsimp only at f1 f2 f3 f4 f5 f6 hR hRR hfu h hgr hra ⊢
  refine spec_intro [] _ Tryz.func52 rfl Tryz.ntmps52 (by rfl) (fun w0 R => ?_)
  repeat' (first | (refine go_Y ?_; intros) | (refine gs_Y ?_ ?_ <;> (intro hgd; try (simp only [Bool.not_true, Bool.not_false] at hgd))) | (refine gc_Y ?_ ?_ <;> intro _) | fail)
  refine cl_Y (hR) ?_
  rintro ⟨⟨v1, hv1⟩, P1⟩ g1
  dsimp only
  repeat' (first | (refine go_Y ?_; intros) | (refine gs_Y ?_ ?_ <;> (intro hgd; try (simp only [Bool.not_true, Bool.not_false] at hgd))) | (refine gc_Y ?_ ?_ <;> intro _) | fail)
  refine cl_Y (hRR) ?_
  rintro ⟨v2, hv2⟩ _
  dsimp only
  have hS := SameT_spec v1 v2 (rwS v1 rl) (rwS v2 rl) _ _ Vw.row Vw.row (by omega)
  rw [sameT_self] at hS
  repeat' (first | (refine go_Y ?_; intros) | (refine gs_Y ?_ ?_ <;> (intro hgd; try (simp only [Bool.not_true, Bool.not_false] at hgd))) | (refine gc_Y ?_ ?_ <;> intro _) | fail)
  refine cl_Y (hS) ?_
  intro _ _
  repeat' (first | (refine go_Y ?_; intros) | (refine gs_Y ?_ ?_ <;> (intro hgd; try (simp only [Bool.not_true, Bool.not_false] at hgd))) | (refine gc_Y ?_ ?_ <;> intro _) | fail)
  (refine rt_Y (y := ⟨tb, vs, sl, d, f, all, ⟨rv, hrv⟩, P1⟩) (hrs := Tryz.results52) (hv := ?_) (hφ := ?_))
  · rfl
  · exact ⟨hgr P1 g1, hfu, rfl, rfl, g1, Nat.le_add_right _ _⟩
end Go.Proofs.YtadgdikijdmceaaGreat
