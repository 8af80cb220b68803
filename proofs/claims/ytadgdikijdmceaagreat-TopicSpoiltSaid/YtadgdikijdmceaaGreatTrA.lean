import Derived.Test.YtadgdikijdmceaaGreatTqZ
set_option linter.unusedSimpArgs false
set_option linter.unusedVariables false
set_option maxRecDepth 100000
namespace Go.Proofs.YtadgdikijdmceaaGreat
open Go Go.Fx Go.Proofs Go.Pl

theorem hRead_spec {A : HProp} {b seg : Nat} {s : PlS} (h : PlOk A seg s) (hs : 1 ≤ seg) (hs1 : seg ≤ 65536) (off : Nat) (most : Int) :
    FSpec Tryz.prog 11 [.pointer (some ⟨s.tb, 0, none⟩), .int .u64 (off : Int), .int .i64 most] [tpP s.tb b nT (seg : Int) s.vs 0, diskP b s.d, s.P] (V1s × HProp) (fun y => Ext s.P y.2)
      (fun y => .tuple #[y.1.1, .int .i64 (rReadE s.f s.all off)]) (fun y => [rwS y.1.1 (rReadL s.f s.all off most), tpP s.tb b nT (seg : Int) s.vs 0, diskP b s.d, y.2]) := by
  obtain ⟨f1, f2, f3, f4, f5, f6, f7⟩ := h.facts hs hs1
  obtain ⟨q, hq1, hq2⟩ := h.pre
  have hR := tRead_spec s.tb b nT (seg : Int) s.vs 0 s.d s.l off most s.P h.sg (by omega) (by omega) (fun x hx => (f7 x hx).1)
  rw [read_main may_nT (by decide) hs h.firm h.tw hq1 hq2] at hR
  exact hR
theorem hDrop_spec {A : HProp} {b seg : Nat} {s : PlS} (h : PlOk A seg s) (hs : 1 ≤ seg) (hs1 : seg ≤ 65536) (hfu : s.d.fuse = -1) (off : Nat) (ho : off ≤ s.all.length) :
    FSpec Tryz.prog 15 [.pointer (some ⟨s.tb, 0, none⟩), .int .u64 (off : Int)] [tpP s.tb b nT (seg : Int) s.vs 0, diskP b s.d, s.P] PlS
      (fun s' => PlOk A seg s' ∧ s'.tb = s.tb ∧ s'.P = s.P ∧ s'.all = s.all ∧ s'.f = rDropF seg off s.all.length s.all.length s.f ∧ s'.d.fuse = -1 ∧ s'.d.room = s.d.room) (fun _ => .int .i64 0) (fun s' => [tpP s.tb b nT (seg : Int) s'.vs 0, diskP b s'.d, s.P]) := by
  obtain ⟨f1, f2, f3, f4, f5, f6, f7⟩ := h.facts hs hs1
  have hD := tDrop_spec s.tb b nT (seg : Int) s.vs 0 s.d s.l off s.P h.sg (by omega) (by omega) (fun y hy => (f7 y hy).1) h.firm.ok (by rw [h.firm.loose]; exact Nat.zero_le _)
  have hkl : dropK off (s.l.map Sm.s) < (s.l.map Sm.s).length ∨ dropK off (s.l.map Sm.s) = 0 := by
    by_cases h0 : s.l.map Sm.s = []
    · right; rw [h0]; rfl
    · left; exact dropK_lt _ _ h0
  rcases drop_main (off := off) may_nT (by decide) hs h.tw h.firm (by omega) with ⟨d', e1, e2, e3, e4⟩ | ⟨_, _, _, _, e⟩
  · rw [e1] at hD
    dsimp only at hD
    have hrf := rDropF_eq hs off (s.l.map Sm.s) s.f (nextS (s.l.map Sm.s)) h.tw (by omega)
    rw [f1] at hrf
    intro w0 w R hsat
    refine (hD w0 w R hsat).mono ?_
    rintro e w' ⟨⟨v', l'⟩, ⟨k1, k2⟩, rfl, hs'⟩
    exact ⟨⟨s.tb, v', l', d', s.f + seg * dropK off (s.l.map Sm.s), s.all, s.rv, s.P⟩, ⟨h.wf (.refl _) k1 _ hkl k2 rfl (by rw [k2]; exact e2), rfl, rfl, rfl, hrf.symm, e4 hfu, e3⟩, rfl, hs'⟩
  · exact absurd hfu e
theorem hAppend_spec {A : HProp} {b seg : Nat} {s : PlS} (h : PlOk A seg s) (hs : 1 ≤ seg) (hs1 : seg ≤ 65536) (hfu : s.d.fuse = -1) (u : Value) (rs : List BA) (hu : RcR s.P u rs) (hxl : sumZ rs ≤ 32768) (hw : wtL s.all + wtL rs ≤ 16384) (hroom : (lenT (allR (s.l.map Sm.s)) : Int) + (lenT rs : Int) ≤ s.d.room) :
    FSpec Tryz.prog 10 [.pointer (some ⟨s.tb, 0, none⟩), u] [tpP s.tb b nT (seg : Int) s.vs 0, diskP b s.d, s.P] PlS
      (fun s' => PlOk A seg s' ∧ s'.tb = s.tb ∧ Ext s.P s'.P ∧ s'.all = s.all ++ rs ∧ s'.f = s.f ∧ s'.d.fuse = -1 ∧ s'.d.room = s.d.room) (fun _ => .tuple #[.int .u64 (s.all.length : Int), .int .i64 0]) (fun s' => [tpP s.tb b nT (seg : Int) s'.vs 0, diskP b s'.d, s'.P]) := by
  obtain ⟨f1, f2, f3, f4, f5, f6, f7⟩ := h.facts hs hs1
  obtain ⟨q, hq1, hq2⟩ := h.pre
  have hxa := allOk_sum hxl
  have hwl := wtL_lenT rs
  have hxn : rs.length ≤ 1000 := by unfold wtL at hw; omega
  have hmain := append_main (rs := rs) may_nT (by decide) hs h.tw h.firm hxa (by rw [f1]; omega) (by omega) (.inl hfu)
  have hfus : fused s.d.files = lenT (allR (s.l.map Sm.s)) := by
    rw [h.firm.eq.fused h.firm.ok.nd (by rw [fsS_keys]; exact (h.tw.nm hs).nodup), fused_fsS]
  have hA := tAppend_spec s.tb b nT seg s.vs 0 s.d s.l u rs s.P h.sg hu (by decide) hs hs1 h.firm.ok (fun y hy => by
    obtain ⟨_, a2, a3, a4⟩ := f7 y hy
    exact ⟨a2, by omega, by omega⟩) (by rw [h.firm.loose]; exact Nat.zero_le _) (by omega) (by omega) (by rw [f1]; omega) (by omega)
  generalize appendT nT seg (s.l.map Sm.s) 0 rs s.d = r at hmain hA
  rcases hmain with g | ⟨_, _, gf⟩ | ⟨_, _, _, g⟩
  · have he := g.e
    have hn : r.n = s.all.length := by rw [g.n, f1]
    have hf0 := g.f0
    rw [he, hn, hf0] at hA
    intro w0 w R hsat
    refine (hA w0 w R hsat).mono ?_
    rintro e w' ⟨⟨v', l', P'⟩, ⟨k1, k2, k3⟩, rfl, hs'⟩
    dsimp only at k1 k2 k3 hs'
    refine ⟨⟨s.tb, v', l', r.d, s.f, s.all ++ rs, s.rv, P'⟩, ⟨⟨h.ext.trans k1, k2, by show Tw nT seg s.f (l'.map Sm.s); rw [k3]; exact g.tw, by show Firm r.d (fsS (l'.map Sm.s)); rw [k3]; exact g.firm, ⟨q, ?_, hq2⟩, by show wtL (s.all ++ rs) ≤ _; rw [wtL_app]; exact hw⟩, rfl, k1, rfl, rfl, g.fuse hfu, g.room⟩, rfl, hs'⟩
    show s.all ++ rs = q ++ allR (l'.map Sm.s)
    rw [k3, g.rc, hq1, List.append_assoc]
  · exfalso
    rw [hfus] at gf
    omega
  · exact absurd hfu g
def empP : HProp := fun _ => True
theorem empP_in {L : List HProp} {h : Frag} (s : SatL L h) : SatL (empP :: L) h := satL_emp (A := empP) trivial s
def tA : BA := ⟨#[97]⟩
def tB : BA := ⟨#[98]⟩
def tC : BA := ⟨#[99]⟩
set_option maxHeartbeats 16000000 in
theorem alive18_spec : FSpec Tryz.prog 9 [] [] Unit (fun _ => True) (fun _ => .bool true) (fun _ => []) := by
  have hn := new_spec 1000 (by decide) (by decide)
  have hO := fun b => tOpen_spec b (newD 1000) nT 2 empP (by decide) (by decide) (by decide) (by decide) (by simp [newD]) (by simp [newD]) (.new (by decide) (by decide)) (by simp [newD])
  rw [open_new18 (by decide) (by decide)] at hO
  simp only [tpV_ok] at hO
  have hfn : Firm (newD 1000) [] := Firm.new (by decide) (by decide)
  have hfu0 : (newD 1000).fuse = -1 := rfl
  have hro0 : (newD 1000).room = 1000 := rfl
  generalize newD 1000 = d0 at hn hO hfn hfu0 hro0
  refine spec_intro [] _ Tryz.func9 rfl Tryz.ntmps9 (by rfl) (fun w0 R => ?_)
  refine ok_map (fun _ h => empP_in h) ?_
  repeat' (first | (refine go_Y ?_; intros) | (refine gs_Y ?_ ?_ <;> (intro hgd; try (simp only [Bool.not_true, Bool.not_false] at hgd))) | (refine gc_Y ?_ ?_ <;> intro _) | fail)
  refine cl_Y (hn) ?_
  intro b _
  repeat' (first | (refine go_Y ?_; intros) | (refine gs_Y ?_ ?_ <;> (intro hgd; try (simp only [Bool.not_true, Bool.not_false] at hgd))) | (refine gc_Y ?_ ?_ <;> intro _) | fail)
  refine cl_Y (hO b) ?_
  rintro ⟨tb, vs, l0, P0⟩ ⟨g0, g1⟩
  obtain ⟨g1, g2⟩ := g1 trivial
  dsimp only at g0 g1 g2 ⊢
  obtain rfl : l0 = [] := List.map_eq_nil_iff.1 g2
  repeat' (first | (refine go_Y ?_; intros) | (refine gs_Y ?_ ?_ <;> (intro hgd; try (simp only [Bool.not_true, Bool.not_false] at hgd))) | (refine gc_Y ?_ ?_ <;> intro _) | fail)
  rename_i w hw
  refine ops_learn (rowShapeS (e := 9) (n := 1) (v := w) (xs := [[.string ⟨#[97]⟩], [.string ⟨#[98]⟩], [.string ⟨#[99]⟩]]) (by decide) takeD) ?_
  rintro ⟨p2, c2, rfl, hc2, hp2⟩
  refine ops_poolN (ty := 9) (n := 1) (v := .slice p2 3 c2) (xs := [tA, tB, tC].map strV) (P := P0) takeD ?_
  intro P1 hE1 hv1
  have hok0 : PlOk empP 2 ⟨tb, vs, [], d0, 0, [], ⟨.slice none 0 0, rfl⟩, P1⟩ := ⟨g0.trans hE1, g1.ext hE1, ⟨rfl, rfl, .inl ⟨rfl, rfl⟩⟩, hfn, ⟨[], rfl, rfl⟩, by show wtL [] ≤ _; decide⟩
  have hA1 := hAppend_spec (b := b) hok0 (by decide) (by decide) hfu0 (.slice p2 3 c2) [tA, tB, tC] ⟨hv1, ⟨p2, c2, rfl, hc2, hp2⟩⟩ (by decide) (by show wtL [] + wtL [tA, tB, tC] ≤ 16384; decide) (by show ((lenT (allR []) : Nat) : Int) + (lenT [tA, tB, tC] : Int) ≤ d0.room; rw [hro0]; decide)
  dsimp only at hA1
  refine cl_Y (hA1) ?_
  rintro ⟨tb1, v1, l1, d1, f1, all1, rv1, P2⟩ ⟨hok1, q1, q2, q3, q4, q5, q6⟩
  dsimp only at q1 q2 q3 q4 q5 q6 ⊢
  subst q1 q4
  obtain rfl : all1 = [tA, tB, tC] := q3
  have hR1 := hRead_spec (b := b) hok1 (by decide) (by decide) 1 9
  dsimp only at hR1
  have r1 : rReadL 0 [tA, tB, tC] 1 9 = [tB, tC] := by decide
  have r2 : rReadE 0 [tA, tB, tC] 1 = 0 := by decide
  rw [r1, r2] at hR1
  repeat' (first | (refine go_Y ?_; intros) | (refine gs_Y ?_ ?_ <;> (intro hgd; try (simp only [Bool.not_true, Bool.not_false] at hgd))) | (refine gc_Y ?_ ?_ <;> intro _) | fail)
  refine cl_Y (hR1) ?_
  rintro ⟨⟨w1, hw1⟩, P3⟩ k1
  dsimp only at k1 ⊢
  have hok2 := hok1.grow k1
  obtain ⟨f1, _, _, _, _, _, _⟩ := hok2.facts (by decide) (by decide)
  have hN := tNext_spec tb1 b nT ((2 : Nat) : Int) v1 0 l1 P3 hok2.sg (by have := (hok2.facts (by decide) (by decide)).2.2.1; dsimp only at this; omega) (by dsimp only at f1; rw [f1]; decide)
  dsimp only at f1
  rw [f1] at hN
  repeat' (first | (refine go_Y ?_; intros) | (refine gs_Y ?_ ?_ <;> (intro hgd; try (simp only [Bool.not_true, Bool.not_false] at hgd))) | (refine gc_Y ?_ ?_ <;> intro _) | fail)
  refine cl_Y (hN) ?_
  intro _ _
  have hD1 := hDrop_spec (b := b) hok2 (by decide) (by decide) q5 1 (by show 1 ≤ 3; decide)
  dsimp only at hD1
  repeat' (first | (refine go_Y ?_; intros) | (refine gs_Y ?_ ?_ <;> (intro hgd; try (simp only [Bool.not_true, Bool.not_false] at hgd))) | (refine gc_Y ?_ ?_ <;> intro _) | fail)
  refine cl_Y (hD1) ?_
  rintro ⟨tb3, v3, l3, d3, f3, all3, rv3, P4⟩ ⟨hok3, m1, m2, m3, m4, m5, m6⟩
  dsimp only at m1 m2 m3 m4 m5 m6 ⊢
  subst m1 m2 m3
  obtain rfl : f3 = 0 := by rw [m4]; decide
  have hF3 := tFirst_spec tb3 b nT ((2 : Nat) : Int) v3 0 l3 P4 hok3.sg (by have := (hok3.facts (by decide) (by decide)).2.2.1; dsimp only at this; omega)
  have e3 := hok3.tw.first
  dsimp only at e3
  rw [e3] at hF3
  repeat' (first | (refine go_Y ?_; intros) | (refine gs_Y ?_ ?_ <;> (intro hgd; try (simp only [Bool.not_true, Bool.not_false] at hgd))) | (refine gc_Y ?_ ?_ <;> intro _) | fail)
  refine cl_Y (hF3) ?_
  intro _ _
  have hD2 := hDrop_spec (b := b) hok3 (by decide) (by decide) m5 3 (by show 3 ≤ 3; decide)
  dsimp only at hD2
  repeat' (first | (refine go_Y ?_; intros) | (refine gs_Y ?_ ?_ <;> (intro hgd; try (simp only [Bool.not_true, Bool.not_false] at hgd))) | (refine gc_Y ?_ ?_ <;> intro _) | fail)
  refine cl_Y (hD2) ?_
  rintro ⟨tb4, v4, l4, d4, f4, all4, rv4, P5⟩ ⟨hok4, n1, n2, n3, n4, n5, n6⟩
  dsimp only at n1 n2 n3 n4 n5 n6 ⊢
  subst n1 n2 n3
  obtain rfl : f4 = 2 := by rw [n4]; decide
  have hF4 := tFirst_spec tb4 b nT ((2 : Nat) : Int) v4 0 l4 P5 hok4.sg (by have := (hok4.facts (by decide) (by decide)).2.2.1; dsimp only at this; omega)
  have e4 := hok4.tw.first
  dsimp only at e4
  rw [e4] at hF4
  repeat' (first | (refine go_Y ?_; intros) | (refine gs_Y ?_ ?_ <;> (intro hgd; try (simp only [Bool.not_true, Bool.not_false] at hgd))) | (refine gc_Y ?_ ?_ <;> intro _) | fail)
  refine cl_Y (hF4) ?_
  intro _ _
  have hR2 := hRead_spec (b := b) hok4 (by decide) (by decide) 1 1
  dsimp only at hR2
  have r3 : rReadL 2 [tA, tB, tC] 1 1 = [] := by decide
  have r4 : rReadE 2 [tA, tB, tC] 1 = 3 := by decide
  rw [r3, r4] at hR2
  repeat' (first | (refine go_Y ?_; intros) | (refine gs_Y ?_ ?_ <;> (intro hgd; try (simp only [Bool.not_true, Bool.not_false] at hgd))) | (refine gc_Y ?_ ?_ <;> intro _) | fail)
  refine cl_Y (hR2) ?_
  rintro ⟨⟨w2, hw2⟩, P6⟩ k2
  dsimp only at k2 ⊢
  have hok5 := hok4.grow k2
  have hR3 := hRead_spec (b := b) hok5 (by decide) (by decide) 3 1
  dsimp only at hR3
  have r5 : rReadL 2 [tA, tB, tC] 3 1 = [] := by decide
  have r6 : rReadE 2 [tA, tB, tC] 3 = 0 := by decide
  rw [r5, r6] at hR3
  repeat' (first | (refine go_Y ?_; intros) | (refine gs_Y ?_ ?_ <;> (intro hgd; try (simp only [Bool.not_true, Bool.not_false] at hgd))) | (refine gc_Y ?_ ?_ <;> intro _) | fail)
  refine cl_Y (hR3) ?_
  rintro ⟨⟨w3, hw3⟩, P7⟩ k3
  dsimp only at k3 ⊢
  have hok6 := hok5.grow k3
  have hR4 := hRead_spec (b := b) hok6 (by decide) (by decide) 4 1
  dsimp only at hR4
  have r7 : rReadL 2 [tA, tB, tC] 4 1 = [] := by decide
  have r8 : rReadE 2 [tA, tB, tC] 4 = 3 := by decide
  rw [r7, r8] at hR4
  repeat' (first | (refine go_Y ?_; intros) | (refine gs_Y ?_ ?_ <;> (intro hgd; try (simp only [Bool.not_true, Bool.not_false] at hgd))) | (refine gc_Y ?_ ?_ <;> intro _) | fail)
  refine cl_Y (hR4) ?_
  rintro ⟨⟨w4, hw4⟩, P8⟩ k4
  dsimp only at k4 ⊢
  have hS := fun (w9 : Value) => SameT_spec w1 w9 (rwS w1 [tB, tC]) (rwS w9 [tB, tC]) [tB, tC] [tB, tC] Vw.row Vw.row (by decide)
  rw [sameT_self] at hS
  have c0 : decide ((([] : List BA).length : Int) = 0) = true := rfl
  have c1 : decide ((([tA, tB, tC] : List BA).length : Int) = 3) = true := rfl
  have c2 : decide (((0 : Nat) : Int) = 0) = true := rfl
  have c3 : decide (((2 : Nat) : Int) = 2) = true := rfl
  have c4 : decide (((([] : List BA).map strV).length : Int) = 0) = true := rfl
  repeat' (first | (refine go_Y ?_; intros) | (refine gs_Y ?_ ?_ <;> (intro hgd; try (simp only [Bool.not_true, Bool.not_false] at hgd))) | (refine gc_Y ?_ ?_ <;> intro _) | fail)
  rename_i w9 hw9
  refine cl_Y (hS w9) ?_
  intro _ _
  repeat' (first | (refine go_Y ?_; intros) | (refine gs_Y ?_ ?_ <;> (intro hgd; try (simp only [Bool.not_true, Bool.not_false] at hgd))) | (refine gc_Y ?_ ?_ <;> intro _) | fail)
  (refine rt_Y (y := ()) (hrs := Tryz.results9) (hv := ?_) (hφ := ?_))
  · rfl
  · trivial
end Go.Proofs.YtadgdikijdmceaaGreat
