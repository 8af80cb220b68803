import Derived.Test.YtadgdikijdmceaaGreatTrB
import Derived.Test.YtadgdikijdmceaaGreatTrR
set_option linter.unusedSimpArgs false
set_option linter.unusedVariables false
set_option maxRecDepth 100000
namespace Go.Proofs.YtadgdikijdmceaaGreat
open Go Go.Fx Go.Proofs Go.Pl

theorem begins18_spec (u v : Value) (A B : HProp) (xs ys : List BA) (hA : Vw A 1 u (xs.map strV)) (hB : Vw B 1 v (ys.map strV)) (hc : plainV v) (hb : xs.length ≤ 4611686018427387904) :
    FSpec Tryz.prog 30 [u, v] [A, B] Unit (fun _ => True) (fun _ => .bool (begB xs ys)) (fun _ => [A, B]) := by
  have hlm : (xs.map strV).length = xs.length := by simp
  have hlm' : (ys.map strV).length = ys.length := by simp
  obtain ⟨pv, len, cv, rfl, hcv, hsp⟩ := hc
  unfold begB
  refine spec_intro [] _ Tryz.func30 rfl Tryz.ntmps30 (by rfl) (fun w0 R => ?_)
  refine ok_learn (VwIn.slice (VwIn.here hA)) ?_
  rintro ⟨pu, cu, rfl⟩
  refine ok_learn (VwIn.slice (VwIn.there (VwIn.here hB))) ?_
  rintro ⟨_, _, e⟩
  simp only [Value.slice.injEq] at e
  obtain ⟨rfl, rfl, rfl⟩ := e
  cases t1 : decide (((xs.map strV).length : Int) ≤ ((ys.map strV).length : Int)) with
  | false =>
    rw [hlm, hlm'] at t1
    have t1' := t1
    rw [← hlm, ← hlm'] at t1'
    rw [t1, Bool.false_and]
    repeat' (first | (refine go_Y ?_; intros) | (refine gs_Y ?_ ?_ <;> (intro hgd; try (simp only [Bool.not_true, Bool.not_false] at hgd))) | (refine gc_Y ?_ ?_ <;> intro _) | fail)
    (refine rt_Y (y := ()) (hrs := Tryz.results30) (hv := ?_) (hφ := ?_))
    · rfl
    · trivial
  | true =>
    have hle : xs.length ≤ ys.length := by simp at t1; omega
    have t2 : decide ((xs.length : Int) ≤ (ys.length : Int)) = true := by simpa using hle
    rw [t2, Bool.true_and]
    have hB' := Vw.take hB (k := (xs.map strV).length) (by omega)
    rw [← List.map_take, hlm] at hB'
    have hS := SameT_spec _ _ A B xs (ys.take xs.length) hA hB' hb
    rw [← hlm] at hS
    have hcap : (xs.map strV).length ≤ cv := by omega
    rw [← hlm]
    repeat' (first | (refine go_Y ?_; intros) | (refine gs_Y ?_ ?_ <;> (intro hgd; try (simp only [Bool.not_true, Bool.not_false] at hgd))) | (refine gc_Y ?_ ?_ <;> intro _) | fail)
    refine cl_Y (hS) ?_
    intro _ _
    repeat' (first | (refine go_Y ?_; intros) | (refine gs_Y ?_ ?_ <;> (intro hgd; try (simp only [Bool.not_true, Bool.not_false] at hgd))) | (refine gc_Y ?_ ?_ <;> intro _) | fail)
    (refine rt_Y (y := ()) (hrs := Tryz.results30) (hv := ?_) (hφ := ?_))
    · rfl
    · trivial

structure CrS where
  s : PlS
  fault : Int
  more : List BA
  mv : V1s
  drop : Nat
def CrC (seg : Nat) (l : List Sg) (f : Nat) (more : List BA) (K : Nat) (F : FS) : Prop := ∃ j k, k ≤ K ∧ (k < l.length ∨ k = 0) ∧ TornSt nT seg (f + seg * k) (allR (l.drop k) ++ more.take j) F
structure CrOk (A : HProp) (seg B : Nat) (g : CrS) : Prop where
  ext : Ext A g.s.P
  tw : Tw nT seg g.s.f (g.s.l.map Sm.s)
  pre : ∃ q, g.s.all = q ++ allR (g.s.l.map Sm.s) ∧ q.length = g.s.f
  w : wtL g.s.all + wtL g.more ≤ B
  cr : CInv (CrC seg (g.s.l.map Sm.s) g.s.f g.more (dropK g.drop (g.s.l.map Sm.s))) g.s.d
  mvw : Vw g.s.P 1 g.mv.1 (g.more.map strV)
  mp : plainV g.mv.1
  ma : allOk g.more = true
  dr : g.drop ≤ g.s.all.length
  room : g.s.d.room = 1048576
  lo : g.s.d.loose.length ≤ 1000000
  up : g.fault = 0 → SgsR g.s.P g.s.vs g.s.l ∧ Firm g.s.d (fsS (g.s.l.map Sm.s)) ∧ g.more = [] ∧ g.mv.1 = .slice none 0 0 ∧ g.drop = 0
abbrev crP (b rb seg : Nat) (g : CrS) : List HProp := [tpP g.s.tb b nT (seg : Int) g.s.vs g.fault, diskP b g.s.d, rtP rb g.s.rv.1 g.s.f seg, rwS g.s.rv.1 g.s.all, g.s.P]
theorem CrOk.pl {A : HProp} {seg B : Nat} {g : CrS} (h : CrOk A seg B g) (hB : B ≤ 16384) (h0 : g.fault = 0) : PlOk A seg g.s := by
  obtain ⟨a, b, _⟩ := h.up h0
  exact ⟨h.ext, a, h.tw, b, h.pre, by have := h.w; omega⟩
theorem vw_nil18 {A : HProp} : Vw A 1 (.slice none 0 0) (([] : List BA).map strV) := Vw.nil0
theorem plain_nil18 : plainV (.slice none 0 0) := ⟨none, 0, 0, rfl, Nat.le_refl _, fun _ e => by cases e⟩
theorem CrC.firm {seg f : Nat} {l : List Sg} {F : FS} (hs : 1 ≤ seg) (h : Tw nT seg f l) (hF : FEq F (fsS l)) (K : Nat) : CrC seg l f [] K F := by
  refine ⟨0, 0, Nat.zero_le _, .inr rfl, ?_⟩
  rw [List.take_nil, List.append_nil, List.drop_zero, Nat.mul_zero, Nat.add_zero]
  exact torn_nrm hs h.sqm h.zero (by rw [h.nrm hs]; exact hF)
theorem PlOk.cr {A : HProp} {seg B : Nat} {s : PlS} (h : PlOk A seg s) (hs : 1 ≤ seg) (hw : wtL s.all ≤ B) (hr : s.d.room = 1048576) : CrOk A seg B ⟨s, 0, [], ⟨.slice none 0 0, rfl⟩, 0⟩ :=
  ⟨h.ext, h.tw, h.pre, by show wtL s.all + 0 ≤ B; omega, .firm h.firm (.firm hs h.tw h.firm.eq _), vw_nil18, plain_nil18, rfl, Nat.zero_le _, hr, by show s.d.loose.length ≤ _; rw [h.firm.loose]; exact Nat.zero_le _, fun _ => ⟨h.sg, h.firm, rfl, rfl, rfl⟩⟩

theorem keys_names {F : FS} {R : List BA} {seg f : Nat} (hs : 1 ≤ seg) (hn : (F.map (·.1)).Nodup) (h : TornSt nT seg f R F) : (∀ x ∈ F.map (·.1), mayN x = true) ∧ F.length ≤ R.length + 1 := by
  rcases h with ⟨_, _, hF⟩ | ⟨l0, x, t, hq, _, hF, hR⟩
  · have := hF.perm hn (by simp)
    have h0 := List.Perm.eq_nil this
    have : F = [] := List.map_eq_nil_iff.1 h0
    rw [this]
    exact ⟨fun x hx => by simp at hx, Nat.zero_le _⟩
  · have hnm := hq.nm hs
    have hp := hF.perm hn (by rw [fsT_keys]; exact hnm.nodup)
    rw [fsT_keys] at hp
    refine ⟨fun y hy => ?_, ?_⟩
    · obtain ⟨z, hz, rfl⟩ := List.mem_map.1 (hp.mem_iff.1 hy)
      rw [hnm.file z hz]
      exact mayN_fileT _ _ may_nT (by decide)
    · have h1 := hp.length_eq
      rw [List.length_map, List.length_map, List.length_append, List.length_singleton] at h1
      have h2 : l0.length ≤ seg * l0.length := Nat.le_mul_of_pos_left _ (by omega)
      have h3 := congrArg List.length hR
      rw [allR_app, allR_one, List.length_append, hq.fl.recs] at h3
      omega
theorem CrOk.after {A : HProp} {seg B : Nat} {g : CrS} (h : CrOk A seg B g) (hs : 1 ≤ seg) (keep torn : Int) : ∃ d' l' j k, topenT (g.s.d.crash keep torn) nT seg = (d', 0, l') ∧ Firm d' (fsS l') ∧ Tw nT seg (g.s.f + seg * k) l' ∧ allR l' = allR ((g.s.l.map Sm.s).drop k) ++ g.more.take j ∧
    k ≤ dropK g.drop (g.s.l.map Sm.s) ∧ (k < (g.s.l.map Sm.s).length ∨ k = 0) ∧ d'.fuse = -1 ∧ d'.room = 1048576 ∧ (∀ x ∈ (g.s.d.crash keep torn).files.map (·.1), mayN x = true) ∧ (g.s.d.crash keep torn).files.length ≤ (allR ((g.s.l.map Sm.s).drop k)).length + g.more.length + 1 := by
  obtain ⟨j, k, hk, hkl, ht⟩ := h.cr.crash keep torn
  have hD : ∀ k, (k < (g.s.l.map Sm.s).length ∨ k = 0) → Tw nT seg (g.s.f + seg * k) ((g.s.l.map Sm.s).drop k) := fun k hkl => by
    rcases hkl with hkl | rfl
    · exact (h.tw.drop k hkl).1
    · rw [Nat.mul_zero, Nat.add_zero, List.drop_zero]; exact h.tw
  have htw := hD k hkl
  have hok : allOk (allR ((g.s.l.map Sm.s).drop k) ++ g.more.take j) = true := by
    rw [show allOk (allR ((g.s.l.map Sm.s).drop k) ++ g.more.take j) = (allOk (allR ((g.s.l.map Sm.s).drop k)) && allOk (g.more.take j)) from allOk_app, htw.ok, allOk_take h.ma]; rfl
  rw [topen_eq may_nT rfl]
  obtain ⟨d', l', e1, e2, e3, e4, e5, e6⟩ := load_torn may_nT (by decide) hs htw.mod (fun e => htw.zero (List.append_eq_nil_iff.1 e).1) hok ht (h.cr.ok.crash keep torn) rfl rfl rfl
  obtain ⟨n1, n2⟩ := keys_names hs (h.cr.ok.crash keep torn).nd ht
  rw [List.length_append, List.length_take] at n2
  exact ⟨d', l', j, k, e1, e2, e3, e4, hk, hkl, e5, by rw [e6]; exact h.room, n1, by omega⟩
theorem split18 {seg f k : Nat} {l : List Sg} {all q : List BA} (h : Tw nT seg f l) (hq1 : all = q ++ allR l) (hq2 : q.length = f) (hs : 1 ≤ seg) (hk : k < l.length ∨ k = 0) : all.drop (f + seg * k) = allR (l.drop k) ∧ f + seg * k ≤ all.length := by
  rcases hk with hk | rfl
  · obtain ⟨a, b⟩ := h.drop k hk
    have e1 : all.drop (f + seg * k) = allR (l.drop k) := by rw [← b, hq1, ← hq2, ← List.drop_drop, List.drop_left]
    refine ⟨e1, ?_⟩
    have h1 := congrArg List.length e1
    rw [List.length_drop] at h1
    have h2 := a.count hs
    rw [List.length_drop] at h2
    omega
  · rw [Nat.mul_zero, Nat.add_zero, List.drop_zero]
    refine ⟨by rw [hq1, ← hq2, List.drop_left], ?_⟩
    rw [hq1, List.length_append]; omega
theorem CrOk.app {A : HProp} {seg B B' : Nat} {g : CrS} (h : CrOk A seg B g) (h0 : g.fault = 0) (hs : 1 ≤ seg) {v' : Value} {P' : HProp} {d' : Dk} {f' : Int} {rs : List BA} {mv : V1s} (hE : Ext g.s.P P') (hf : f' ≠ 0) (hc : CInv (AppC nT seg g.s.f (allR (g.s.l.map Sm.s)) rs) d') (hv : Vw P' 1 mv.1 (rs.map strV)) (hp : plainV mv.1) (ha : allOk rs = true) (hr : d'.room = 1048576) (hl : d'.loose.length ≤ 1000000) (hw : wtL g.s.all + wtL rs ≤ B') :
    CrOk A seg B' ⟨⟨g.s.tb, v', g.s.l, d', g.s.f, g.s.all, g.s.rv, P'⟩, f', rs, mv, 0⟩ :=
  ⟨h.ext.trans hE, h.tw, h.pre, hw, hc.mono fun F hF => by
    obtain ⟨j, hj⟩ := hF
    exact ⟨j, 0, Nat.zero_le _, .inr rfl, by rw [List.drop_zero, Nat.mul_zero, Nat.add_zero]; exact hj⟩, hv, hp, ha, Nat.zero_le _, hr, hl, fun e => absurd e hf⟩
theorem CrOk.drp {A : HProp} {seg B : Nat} {g : CrS} (h : CrOk A seg B g) (h0 : g.fault = 0) (hs : 1 ≤ seg) {v' : Value} {d' : Dk} {f' : Int} {off : Nat} (hf : f' ≠ 0) (hc : CInv (DropC (g.s.l.map Sm.s) (dropK off (g.s.l.map Sm.s))) d') (ho : off ≤ g.s.all.length) (hr : d'.room = 1048576) (hl : d'.loose.length ≤ 1000000) (hw : wtL g.s.all ≤ B) :
    CrOk A seg B ⟨⟨g.s.tb, v', g.s.l, d', g.s.f, g.s.all, g.s.rv, g.s.P⟩, f', [], ⟨.slice none 0 0, rfl⟩, off⟩ :=
  ⟨h.ext, h.tw, h.pre, by show wtL g.s.all + 0 ≤ B; omega, hc.mono fun F hF => by
    obtain ⟨j, hj, hF⟩ := hF
    have hjl : j < (g.s.l.map Sm.s).length ∨ j = 0 := by
      by_cases e : g.s.l.map Sm.s = []
      · right
        show j = 0
        have : dropK off (g.s.l.map Sm.s) = 0 := by rw [e]; rfl
        have hj' : j ≤ dropK off (g.s.l.map Sm.s) := hj
        omega
      · left; exact Nat.lt_of_le_of_lt hj (dropK_lt _ _ e)
    have htw : Tw nT seg (g.s.f + seg * j) ((g.s.l.map Sm.s).drop j) := by
      rcases hjl with hjl | rfl
      · exact (h.tw.drop j hjl).1
      · rw [Nat.mul_zero, Nat.add_zero, List.drop_zero]; exact h.tw
    refine ⟨0, j, hj, hjl, ?_⟩
    rw [List.take_nil, List.append_nil]
    exact torn_nrm hs htw.sqm htw.zero (by rw [htw.nrm hs]; exact hF), vw_nil18, plain_nil18, rfl, ho, hr, hl, fun e => absurd e hf⟩
end Go.Proofs.YtadgdikijdmceaaGreat
