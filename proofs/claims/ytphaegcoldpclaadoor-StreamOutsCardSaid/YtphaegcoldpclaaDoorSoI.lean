import Derived.Test.YtphaegcoldpclaaDoorSoF
import Derived.Test.YtphaegcoldpclaaDoorSoH
import Derived.Test.YtphaegcoldpclaaDoorSoP
import Derived.Test.YtphaegcoldpclaaDoorStG
import Derived.Test.YtphaegcoldpclaaDoorG11
import Derived.Test.YtphaegcoldpclaaDoorPool
set_option linter.unusedSimpArgs false
set_option linter.unusedVariables false
set_option maxRecDepth 100000
namespace Go.Proofs.YtphaegcoldpclaaDoor
open Go Go.Fx Go.Proofs Go.Pl

theorem ofGo_len (tx : Int) (ts : List BA) (k : Nat) (l : List Chg) (z : Ot) : (ofGo tx ts k l z).outs.length = z.outs.length + l.length ∧ (ofGo tx ts k l z).seqs.length = z.seqs.length := by
  induction l generalizing k z with
  | nil => exact ⟨rfl, rfl⟩
  | cons a l ih =>
    obtain ⟨h1, h2⟩ := ih (k + 1) (ofStep tx ts k a z)
    rw [ofGo, h1, h2]
    exact ⟨by show (z.outs ++ [_]).length + _ = _; rw [List.length_append, List.length_cons, List.length_cons, List.length_nil]; omega, by show (z.seqs.set _ _).length = _; rw [List.length_set]⟩
theorem ofOuts_len (s : Sc) (tx m : Int) (qs : List Int) (l : List Chg) : (ofOuts s tx m qs l).length = l.length + 2 ∧ (ofSeqs s tx m qs l).length = qs.length := by
  obtain ⟨h1, h2⟩ := ofGo_len tx (topicsS s) 0 l (of0 tx m qs)
  refine ⟨?_, h2⟩
  show (_ ++ [_]).length = _
  rw [List.length_append, h1]
  show 1 + l.length + 1 = _
  omega
theorem mayOf_check {s : Sc} {m : Int} {qs : List Int} {l : List Chg} (h : mayOf s m qs l = true) : checkS s = true := by
  unfold mayOf at h
  rw [Bool.and_eq_true] at h
  exact h.1
theorem cm_same {cs cs' : List Cm} (h : cs'.map Cm.c = cs.map Cm.c) {x : Cm} (hx : x ∈ cs') : ∃ y ∈ cs, y.bef = x.bef ∧ y.aft = x.aft := by
  have hm : x.c ∈ cs.map Cm.c := by rw [← h]; exact List.mem_map_of_mem hx
  obtain ⟨y, hy, he⟩ := List.mem_map.1 hm
  simp only [Cm.c, Chg.mk.injEq] at he
  exact ⟨y, hy, he.2.2.1, he.2.2.2⟩
structure OwnC (A : HProp) (l : List Cm) where
  v : V1s
  cs : List Cm
  P : HProp
  ext : Ext A P
  vw : Vw P 4 v.1 (cs.map cmV)
  c : ∀ x ∈ cs, CmR P x
  e : cs.map Cm.c = l.map Cm.c
theorem copyOwn_spec (l : List Cm) (u : Value) (A : HProp) (hA : Vw A 4 u (l.map cmV)) (hz : l.length ≤ 1000000) (hl : ∀ x ∈ l, CmR A x ∧ x.bef.length ≤ 1000000 ∧ x.aft.length ≤ 1000000) :
    FSpec Tryd.prog 8 [u] [A] (OwnC A l) (fun _ => True) (fun y => y.v.1) (fun y => [y.P]) := by
  intro w0 w R hs
  refine (copy15_spec l u A hA hz hl w0 w R hs).mono ?_
  rintro e w' ⟨⟨v, cs, P1⟩, ⟨h1, h2, h3⟩, rfl, hs'⟩
  exact ⟨⟨v, cs, pool (row 51 4 v.1 (cs.map cmV)) P1, h1.trans (Ext.pool _ _), pool_row, fun x hx => (h2 x hx).ext (Ext.pool _ _), h3⟩, trivial, rfl, hs'.map fun _ k => pool_in k⟩
set_option maxHeartbeats 16000000 in
theorem StreamOuts_spec (vs uq ul : Value) (ts : List Tb) (m tx : Int) (qs : List Int) (cs : List Cm) (A : HProp) (hU : UT A) (hvc : vs.oneCell' = true) (h : SVr A vs ts) (hq : Vw A 1 uq (qs.map sqV)) (hc : CsR A ul cs)
    (hwf : ∀ x ∈ cs, (∀ v ∈ x.bef, v.wf) ∧ ∀ v ∈ x.aft, v.wf) (m0 : 0 ≤ m) (t0 : 0 ≤ tx) (tx1 : tx ≤ 18446744073709551615) (hq0 : ∀ x ∈ qs, 0 ≤ x) :
    FSpec Tryd.prog 3 [.agg #[vs], .agg #[.int .u64 m, uq], .int .u64 tx, ul] [A] HProp (fun P' => Ext A P') (fun _ => .bool true) (fun P' => [P']) := by
  have hv := hc.vw
  have hzc := hc.len
  have lm : (cs.map cmV).length = cs.length := by simp
  have lq : (qs.map sqV).length = qs.length := by simp
  have hh := heavy20_spec vs uq ul ts m qs cs A h hq hc
  have eOK : (!decide ((0 : Int) = (0 : Int))) = false := by decide
  have l0 : decide (((([] : List (List Value)).length : Nat) : Int) = 0) = true := by decide
  have l1 : decide ((0 : Int) < ((0 : Nat) : Int)) = false := by decide
  have l2 : (!(false == decide ((0 : Int) < ((0 : Nat) : Int)))) = false := by decide
  have l3 : decide ((0 : Int) < ((ts.length + 1 : Nat) : Int)) = true := by rw [decide_eq_true_eq]; omega
  have l4 : (!(true == decide ((0 : Int) < ((ts.length + 1 : Nat) : Int)))) = false := by rw [l3]; rfl
  refine spec_intro [] _ Tryd.func3 rfl Tryd.ntmps3 (by rfl) (fun w0 R => ?_)
  refine ok_learn (VwIn.slice (VwIn.here hv)) ?_
  rintro ⟨pl, cl, rfl⟩
  refine ok_learn (VwIn.slice (VwIn.here hq)) ?_
  rintro ⟨pq, cq, rfl⟩
  refine ok_learn (VwIn.slice (VwIn.here h.vw)) ?_
  rintro ⟨ps, cps, rfl⟩
  repeat' (first | (refine go_Y ?_; intros) | (refine gs_Y ?_ ?_ <;> (intro hgd; try (simp only [Bool.not_true, Bool.not_false] at hgd))) | (refine gc_Y ?_ ?_ <;> intro _) | fail)
  refine cl_Y (hh) ?_
  intro y1 hlg
  cases y1 with
  | true =>
    repeat' (first | (refine go_Y ?_; intros) | (refine gs_Y ?_ ?_ <;> (intro hgd; try (simp only [Bool.not_true, Bool.not_false] at hgd))) | (refine gc_Y ?_ ?_ <;> intro _) | fail)
    refine cl_Y (alive20_spec A hU) ?_
    intro _ _
    repeat' (first | (refine go_Y ?_; intros) | (refine gs_Y ?_ ?_ <;> (intro hgd; try (simp only [Bool.not_true, Bool.not_false] at hgd))) | (refine gc_Y ?_ ?_ <;> intro _) | fail)
    (refine rt_Y (y := A) (hrs := Tryd.results3) (hv := ?_) (hφ := ?_))
    · rfl
    · exact Ext.refl A
  | false =>
  obtain ⟨hsm, hql, hcs1, hcs2⟩ := hlg rfl
  have hsv := h.sv hsm
  have hcp := copyOwn_spec cs (.slice pl (cs.map cmV).length cl) A hv (by omega) (fun x hx => ⟨hc.c x hx, by have := hcs2 x hx; omega, by have := hcs2 x hx; omega⟩)
  have o0 : OwnC A cs := ⟨⟨.slice pl (cs.map cmV).length cl, rfl⟩, cs, A, Ext.refl A, hv, hc.c, rfl⟩
  repeat' (first | (refine go_Y ?_; intros) | (refine gs_Y ?_ ?_ <;> (intro hgd; try (simp only [Bool.not_true, Bool.not_false] at hgd))) | (refine gc_Y ?_ ?_ <;> intro _) | fail)
  rename_i b4 b5
  refine ok_meetE (γ := OwnC A cs × Option Addr × Nat × Nat) (fun g ρ L => Knows ρ [(2, .int .u64 tx), (3, .slice pl (cs.map cmV).length cl), (4, .pointer (some ⟨b4, 0, none⟩)), (5, .pointer (some ⟨b5, 0, none⟩)), (9, g.1.v.1), (10, .pointer (some ⟨g.2.2.2, 0, none⟩))] ∧
      L = [pts b4 (.cells [.slice ps (ts.map tbV).length cps].toArray 24), pts b5 (.cells [.int .u64 m, .slice pq (qs.map sqV).length cq].toArray 28), g.1.P, row 25 1 (.slice g.2.1 (qs.map sqV).length g.2.2.1) (qs.map sqV), pts g.2.2.2 (.cells [.int .u64 m, .slice g.2.1 (qs.map sqV).length g.2.2.1].toArray 28)] ++ R) ?_ ?_
  · refine ok_map (L' := [pts b4 (.cells [.slice ps (ts.map tbV).length cps].toArray 24), pts b5 (.cells [.int .u64 m, .slice pq (qs.map sqV).length cq].toArray 28), A] ++ R) entD ?_
    refine ok_draw_node (cv := []) 4 [1, 3, 4, 6] [pts b5 (.cells [.int .u64 m, .slice pq (qs.map sqV).length cq].toArray 28)] (by kernel_rfl) rfl (by decide +kernel) (by decide +kernel) (by decide +kernel) (takePre takeD) _ rfl ?_
    refine node_have 0 [] (γ := OwnC A cs × Option Addr × Nat × Nat) (fun ⟨o, p1, c1, b10⟩ ρ L => Knows ρ [(2, .int .u64 tx), (3, .slice pl (cs.map cmV).length cl), (4, .pointer (some ⟨b4, 0, none⟩)), (5, .pointer (some ⟨b5, 0, none⟩)), (9, o.v.1), (10, .pointer (some ⟨b10, 0, none⟩))] ∧ L = [pts b4 (.cells [.slice ps (ts.map tbV).length cps].toArray 24), pts b5 (.cells [.int .u64 m, .slice pq (qs.map sqV).length cq].toArray 28), o.P, row 25 1 (.slice p1 (qs.map sqV).length c1) (qs.map sqV), pts b10 (.cells [.int .u64 m, .slice p1 (qs.map sqV).length c1].toArray 28)] ++ R) ?_ ?_
    · rintro ⟨o, p1, c1, b10⟩ ρ L ⟨hk, rfl⟩
      refine cont_regs hk ?_
      refine cont_node0 (by decide +kernel) ?_
      repeat' (first | (refine go_Y ?_; intros) | fail)
      refine cont_map (L' := [pts b4 (.cells [.slice ps (ts.map tbV).length cps].toArray 24), pts b5 (.cells [.int .u64 m, .slice pq (qs.map sqV).length cq].toArray 28), o.P, row 25 1 (.slice p1 (qs.map sqV).length c1) (qs.map sqV), pts b10 (.cells [.int .u64 m, .slice p1 (qs.map sqV).length c1].toArray 28)] ++ R) entD ?_
      exact cont_meet (o, p1, c1, b10) ⟨⟨rfl, rfl, rfl, rfl, rfl, rfl, trivial⟩, rfl⟩
    intro n1_3_4_6
    refine node_have 1 [5, 6] (γ := OwnC A cs × Option Addr × Nat × Nat) (fun ⟨o, p1, c1, b10⟩ ρ L => Knows ρ [(2, .int .u64 tx), (3, .slice pl (cs.map cmV).length cl), (4, .pointer (some ⟨b4, 0, none⟩)), (5, .pointer (some ⟨b5, 0, none⟩)), (23, o.v.1), (25, .agg #[.int .u64 m, .slice p1 (qs.map sqV).length c1]), (10, .pointer (some ⟨b10, 0, none⟩))] ∧ L = [pts b4 (.cells [.slice ps (ts.map tbV).length cps].toArray 24), pts b5 (.cells [.int .u64 m, .slice pq (qs.map sqV).length cq].toArray 28), o.P, row 25 1 (.slice p1 (qs.map sqV).length c1) (qs.map sqV), pts b10 (.cells [.int .u64 0, .slice none 0 0].toArray 28)] ++ R) ?_ ?_
    · rintro ⟨o, p1, c1, b10⟩ ρ L ⟨hk, rfl⟩
      refine cont_regs hk ?_
      refine cont_node [] [(6, [5, 6], [])] rfl (by decide +kernel) ?_
      refine nodeE1 ?_
      · dsimp only [List.length_cons, List.length_nil]
        repeat' (first | (refine go_Y ?_; intros) | fail)
        refine cont_map (L' := [pts b4 (.cells [.slice ps (ts.map tbV).length cps].toArray 24), pts b5 (.cells [.int .u64 m, .slice pq (qs.map sqV).length cq].toArray 28), o.P, row 25 1 (.slice p1 (qs.map sqV).length c1) (qs.map sqV), pts b10 (.cells [.int .u64 m, .slice p1 (qs.map sqV).length c1].toArray 28)] ++ R) entD ?_
        exact n1_3_4_6 ⟨o, p1, c1, b10⟩ _ _ ⟨⟨rfl, rfl, rfl, rfl, rfl, rfl, trivial⟩, rfl⟩
    intro n1_3_4
    refine node_have 2 [4, 5, 6] (γ := OwnC A cs × Option Addr × Nat × Nat) (fun ⟨o, p1, c1, b10⟩ ρ L => Knows ρ [(2, .int .u64 tx), (3, .slice pl (cs.map cmV).length cl), (4, .pointer (some ⟨b4, 0, none⟩)), (5, .pointer (some ⟨b5, 0, none⟩)), (23, o.v.1), (25, .agg #[.int .u64 m, .slice p1 (qs.map sqV).length c1])] ∧ L = [pts b4 (.cells [.slice ps (ts.map tbV).length cps].toArray 24), pts b5 (.cells [.int .u64 m, .slice pq (qs.map sqV).length cq].toArray 28), o.P, row 25 1 (.slice p1 (qs.map sqV).length c1) (qs.map sqV)] ++ R) ?_ ?_
    · rintro ⟨o, p1, c1, b10⟩ ρ L ⟨hk, rfl⟩
      refine cont_regs hk ?_
      refine cont_node [] [(4, [4], [5, 6])] rfl (by decide +kernel) ?_
      refine nodeE1 ?_
      · dsimp only [List.length_cons, List.length_nil]
        repeat' (first | (refine go_Y ?_; intros) | fail)
        rename_i w
        refine cont_map (L' := [pts b4 (.cells [.slice ps (ts.map tbV).length cps].toArray 24), pts b5 (.cells [.int .u64 m, .slice pq (qs.map sqV).length cq].toArray 28), o.P, row 25 1 (.slice p1 (qs.map sqV).length c1) (qs.map sqV), pts w (.cells [.int .u64 0, .slice none 0 0].toArray 28)] ++ R) entD ?_
        exact n1_3_4 ⟨o, p1, c1, w⟩ _ _ ⟨⟨rfl, rfl, rfl, rfl, rfl, rfl, rfl, trivial⟩, rfl⟩
    intro n1_3
    refine node_have 2 [2, 3, 5, 6] (γ := OwnC A cs × Option Addr × Nat × Nat) (fun ⟨o, p1, c1, b10⟩ ρ L => Knows ρ [(2, .int .u64 tx), (3, .slice pl (cs.map cmV).length cl), (4, .pointer (some ⟨b4, 0, none⟩)), (5, .pointer (some ⟨b5, 0, none⟩)), (23, o.v.1), (10, .pointer (some ⟨b10, 0, none⟩))] ∧ L = [pts b4 (.cells [.slice ps (ts.map tbV).length cps].toArray 24), pts b5 (.cells [.int .u64 m, .slice pq (qs.map sqV).length cq].toArray 28), o.P, pts b10 (.cells [.int .u64 0, .slice none 0 0].toArray 28)] ++ R) ?_ ?_
    · rintro ⟨o, p1, c1, b10⟩ ρ L ⟨hk, rfl⟩
      refine cont_regs hk ?_
      refine cont_node [] [(3, [2, 3], [5, 6])] rfl (by decide +kernel) ?_
      refine nodeE1 ?_
      · dsimp only [List.length_cons, List.length_nil]
        repeat' (first | (refine go_Y ?_; intros) | fail)
        refine clN_Y (copy20_spec m qs (.slice pq (qs.map sqV).length cq) o.P (o.ext.vw hq) (by omega)) ?_
        rintro ⟨w, hw⟩ _
        dsimp only
        refine ops_learn (rowShapeS (e := 25) (n := 1) (v := w) (xs := qs.map sqV) (by decide) takeD) ?_
        rintro ⟨p, c, rfl, _, _⟩
        repeat' (first | (refine go_Y ?_; intros) | fail)
        refine cont_map (L' := [pts b4 (.cells [.slice ps (ts.map tbV).length cps].toArray 24), pts b5 (.cells [.int .u64 m, .slice pq (qs.map sqV).length cq].toArray 28), o.P, row 25 1 (.slice p (qs.map sqV).length c) (qs.map sqV), pts b10 (.cells [.int .u64 0, .slice none 0 0].toArray 28)] ++ R) entD ?_
        exact n1_3_4 ⟨o, p, c, b10⟩ _ _ ⟨⟨rfl, rfl, rfl, rfl, rfl, rfl, rfl, trivial⟩, rfl⟩
    intro n1_4
    refine node_have 3 [2, 3, 4, 5, 6] (γ := OwnC A cs × Option Addr × Nat × Nat) (fun ⟨o, p1, c1, b10⟩ ρ L => Knows ρ [(2, .int .u64 tx), (3, .slice pl (cs.map cmV).length cl), (4, .pointer (some ⟨b4, 0, none⟩)), (5, .pointer (some ⟨b5, 0, none⟩)), (23, o.v.1)] ∧ L = [pts b4 (.cells [.slice ps (ts.map tbV).length cps].toArray 24), pts b5 (.cells [.int .u64 m, .slice pq (qs.map sqV).length cq].toArray 28), o.P] ++ R) ?_ ?_
    · rintro ⟨o, p1, c1, b10⟩ ρ L ⟨hk, rfl⟩
      refine cont_regs hk ?_
      refine cont_node [] [(3, [2, 3], [4, 5, 6]), (4, [4], [2, 3, 5, 6])] rfl (by decide +kernel) ?_
      refine nodeE2 ?_ ?_
      · dsimp only [List.length_cons, List.length_nil]
        repeat' (first | (refine go_Y ?_; intros) | fail)
        refine clN_Y (copy20_spec m qs (.slice pq (qs.map sqV).length cq) o.P (o.ext.vw hq) (by omega)) ?_
        rintro ⟨w, hw⟩ _
        dsimp only
        refine ops_learn (rowShapeS (e := 25) (n := 1) (v := w) (xs := qs.map sqV) (by decide) takeD) ?_
        rintro ⟨p, c, rfl, _, _⟩
        repeat' (first | (refine go_Y ?_; intros) | fail)
        refine cont_map (L' := [pts b4 (.cells [.slice ps (ts.map tbV).length cps].toArray 24), pts b5 (.cells [.int .u64 m, .slice pq (qs.map sqV).length cq].toArray 28), o.P, row 25 1 (.slice p (qs.map sqV).length c) (qs.map sqV)] ++ R) entD ?_
        exact n1_3 ⟨o, p, c, b10⟩ _ _ ⟨⟨rfl, rfl, rfl, rfl, rfl, rfl, trivial⟩, rfl⟩
      · dsimp only [List.length_cons, List.length_nil]
        repeat' (first | (refine go_Y ?_; intros) | fail)
        rename_i w
        refine cont_map (L' := [pts b4 (.cells [.slice ps (ts.map tbV).length cps].toArray 24), pts b5 (.cells [.int .u64 m, .slice pq (qs.map sqV).length cq].toArray 28), o.P, pts w (.cells [.int .u64 0, .slice none 0 0].toArray 28)] ++ R) entD ?_
        exact n1_4 ⟨o, p1, c1, w⟩ _ _ ⟨⟨rfl, rfl, rfl, rfl, rfl, rfl, trivial⟩, rfl⟩
    intro n1
    refine node_have 3 [0, 1, 2, 3, 5, 6] (γ := OwnC A cs × Option Addr × Nat × Nat) (fun ⟨o, p1, c1, b10⟩ ρ L => Knows ρ [(2, .int .u64 tx), (3, .slice pl (cs.map cmV).length cl), (4, .pointer (some ⟨b4, 0, none⟩)), (5, .pointer (some ⟨b5, 0, none⟩)), (10, .pointer (some ⟨b10, 0, none⟩))] ∧ L = [pts b4 (.cells [.slice ps (ts.map tbV).length cps].toArray 24), pts b5 (.cells [.int .u64 m, .slice pq (qs.map sqV).length cq].toArray 28), A, pts b10 (.cells [.int .u64 0, .slice none 0 0].toArray 28)] ++ R) ?_ ?_
    · rintro ⟨o, p1, c1, b10⟩ ρ L ⟨hk, rfl⟩
      refine cont_regs hk ?_
      refine cont_node [] [(1, [0, 1], [2, 3, 5, 6])] rfl (by decide +kernel) ?_
      refine nodeE1 ?_
      · dsimp only [List.length_cons, List.length_nil]
        repeat' (first | (refine go_Y ?_; intros) | fail)
        refine clN_Y (hcp) ?_
        intro w _
        repeat' (first | (refine go_Y ?_; intros) | fail)
        refine cont_map (L' := [pts b4 (.cells [.slice ps (ts.map tbV).length cps].toArray 24), pts b5 (.cells [.int .u64 m, .slice pq (qs.map sqV).length cq].toArray 28), w.P, pts b10 (.cells [.int .u64 0, .slice none 0 0].toArray 28)] ++ R) entD ?_
        exact n1_4 ⟨w, p1, c1, b10⟩ _ _ ⟨⟨rfl, rfl, rfl, rfl, rfl, rfl, trivial⟩, rfl⟩
    intro n4
    refine cont_node [] [(1, [0, 1], [2, 3, 4, 5, 6]), (4, [4], [0, 1, 2, 3, 5, 6])] rfl (by decide +kernel) ?_
    refine nodeE2 ?_ ?_
    · dsimp only [List.length_cons, List.length_nil]
      repeat' (first | (refine go_Y ?_; intros) | fail)
      refine clN_Y (hcp) ?_
      intro w _
      repeat' (first | (refine go_Y ?_; intros) | fail)
      refine cont_map (L' := [pts b4 (.cells [.slice ps (ts.map tbV).length cps].toArray 24), pts b5 (.cells [.int .u64 m, .slice pq (qs.map sqV).length cq].toArray 28), w.P] ++ R) entD ?_
      exact n1 ⟨w, none, 0, 0⟩ _ _ ⟨⟨rfl, rfl, rfl, rfl, rfl, trivial⟩, rfl⟩
    · dsimp only [List.length_cons, List.length_nil]
      repeat' (first | (refine go_Y ?_; intros) | fail)
      rename_i w
      refine cont_map (L' := [pts b4 (.cells [.slice ps (ts.map tbV).length cps].toArray 24), pts b5 (.cells [.int .u64 m, .slice pq (qs.map sqV).length cq].toArray 28), A, pts w (.cells [.int .u64 0, .slice none 0 0].toArray 28)] ++ R) entD ?_
      exact n4 ⟨o0, none, 0, w⟩ _ _ ⟨⟨rfl, rfl, rfl, rfl, rfl, trivial⟩, rfl⟩
  rintro ⟨⟨⟨vo, hvo⟩, cs', P2, hE, hvw, hcr2, hcc⟩, p1, c1, b10⟩ ρ L ⟨hk, rfl⟩
  dsimp only at hE hvw hcr2 hcc hk ⊢
  refine cont_regs hk ?_
  have hU2 := hU.ext hE
  have hq2 := hE.vw hq
  have hv2 := hE.vw hv
  have hsv2 := hsv.ext hE
  have hcl : cs'.length = cs.length := by have := congrArg List.length hcc; simpa using this
  have hwf' : ∀ x ∈ cs', (∀ v ∈ x.bef, v.wf) ∧ (∀ v ∈ x.aft, v.wf) ∧ x.bef.length ≤ 1000000 ∧ x.aft.length ≤ 1000000 := fun x hx => by
    obtain ⟨y, hy, e1, e2⟩ := cm_same hcc hx
    rw [← e1, ← e2]
    have := hcs2 y hy
    exact ⟨(hwf y hy).1, (hwf y hy).2, by omega, by omega⟩
  have hwf2 : ∀ x ∈ cs, (∀ v ∈ x.bef, v.wf) ∧ (∀ v ∈ x.aft, v.wf) ∧ x.bef.length ≤ 1000000 ∧ x.aft.length ≤ 1000000 := fun y hy => by
    have := hcs2 y hy
    exact ⟨(hwf y hy).1, (hwf y hy).2, by omega, by omega⟩
  have hcc2 : ∀ x ∈ cs, CmR P2 x := fun x hx => (hc.c x hx).ext hE
  have hof := of_spec (.slice ps (ts.map tbV).length cps) (.slice p1 (qs.map sqV).length c1) vo ts m tx qs cs' P2 (row 25 1 (.slice p1 (qs.map sqV).length c1) (qs.map sqV)) hsv2 hU2 Vw.row hvw hcr2 hwf' m0 t0 tx1 hq0 (by omega) (by omega)
  rw [hcc] at hof
  have hs15 := same15P_spec cs' cs vo (.slice pl (cs.map cmV).length cl) P2 hvw hv2 (by omega) (fun x hx => ⟨hcr2 x hx, (hwf' x hx).2.2⟩) hcc2
  have hspa := samePlace_spec m m qs qs (.slice p1 (qs.map sqV).length c1) (.slice pq (qs.map sqV).length cq) (row 25 1 (.slice p1 (qs.map sqV).length c1) (qs.map sqV)) P2 rfl rfl Vw.row hq2 (by omega)
  have hmay := may20_spec (.slice ps (ts.map tbV).length cps) (.slice pq (qs.map sqV).length cq) (.slice pl (cs.map cmV).length cl) ts m tx qs cs P2 hvc hsv2 hU2 hq2 hv2 hcc2 hwf2 (by omega) (by omega)
  have hrm := rMay_spec (.slice ps (ts.map tbV).length cps) ts P2 hvc hsv2
  have hal := alive20_spec P2 hU2
  have hck : mayOf (ts.map Tb.c) m qs (cs.map Cm.c) = true → checkS (ts.map Tb.c) = true := mayOf_check
  have hof2 := of20_spec (.slice ps (ts.map tbV).length cps) (.slice pq (qs.map sqV).length cq) (.slice pl (cs.map cmV).length cl) ts m tx qs cs P2 hsv2 hq2 hv2 hcc2 hwf2 m0 t0 tx1 hq0
  obtain ⟨hol, hsl⟩ := ofOuts_len (ts.map Tb.c) tx m qs (cs.map Cm.c)
  have htl := hsv2.len
  generalize ofOuts (ts.map Tb.c) tx m qs (cs.map Cm.c) = O at hof hof2 hol
  generalize ofSeqs (ts.map Tb.c) tx m qs (cs.map Cm.c) = S at hof hof2 hsl
  generalize mayOf (ts.map Tb.c) m qs (cs.map Cm.c) = T at hof hmay hck hof2
  rw [List.length_map] at hol
  have htops : checkS (ts.map Tb.c) = true → FSpec Tryd.prog 13 [.agg #[.slice ps (ts.map tbV).length cps]] [P2] Nat (fun _ => True) (fun b => .slice (some ⟨b, 0, none⟩) (ts.length + 1) (ts.length + 1)) (fun b => [row 9 1 (.slice (some ⟨b, 0, none⟩) (ts.length + 1) (ts.length + 1)) ((topicsS (ts.map Tb.c)).map txV), P2]) := fun hcs => topics_ok _ ts P2 hsv2 hcs
  have htops2 : checkS (ts.map Tb.c) = true → FSpec Tryd.prog 16 [.agg #[.slice ps (ts.map tbV).length cps]] [P2] V1s (fun _ => True) (fun y => y.1) (fun y => [row 9 1 y.1 ((topicsS (ts.map Tb.c)).map txV), P2]) := fun hcs => topics20_spec (.slice ps (ts.map tbV).length cps) ts P2 hsv2 (by obtain ⟨_, _, _, hl1, hl2⟩ := checkS_ok hcs; rw [List.length_map] at hl2; omega)
  have hctl : checkS (ts.map Tb.c) = true → ts.length ≤ 12 := fun hcs => by obtain ⟨_, _, _, hl1, hl2⟩ := checkS_ok hcs; rw [List.length_map] at hl2; omega
  have ltp : (topicsS (ts.map Tb.c)).length = ts.length + 1 := by simp [topicsS]
  have lts : (ts.map tbV).length = ts.length := by simp
  generalize topicsS (ts.map Tb.c) = tp at htops htops2 ltp
  repeat' (first | (refine go_Y ?_; intros) | (refine gs_Y ?_ ?_ <;> (intro hgd; try (simp only [Bool.not_true, Bool.not_false] at hgd))) | (refine gc_Y ?_ ?_ <;> intro _) | fail)
  cases T with
  | false =>
    clear hof2 hck
    simp only [cond_false, List.map_nil] at hof
    refine cl_Y (hof) ?_
    rintro ⟨⟨v2, hv2'⟩, ⟨v3, hv3⟩⟩ _
    dsimp only
    refine ops_learn (rowShapeS (e := 57) (n := 3) (v := v2) (xs := []) (by decide) takeD) ?_
    rintro ⟨p2, c2, rfl, _, _⟩
    refine ops_learn (rowShapeS (e := 25) (n := 1) (v := v3) (xs := []) (by decide) takeD) ?_
    rintro ⟨p3, c3, rfl, _, _⟩
    refine opsL_mapL (fun _ h => nilRow (e := 25) (n := 1) h) ?_
    have hspb := samePlace_spec 0 0 [] [] (.slice p3 ([] : List (List Value)).length c3) (.slice none 0 0) (row 25 1 (.slice p3 ([] : List (List Value)).length c3) []) (row 25 1 (.slice none 0 0) []) rfl rfl Vw.row Vw.row (by simp)
    repeat' (first | (refine go_Y ?_; intros) | (refine gs_Y ?_ ?_ <;> (intro hgd; try (simp only [Bool.not_true, Bool.not_false] at hgd))) | (refine gc_Y ?_ ?_ <;> intro _) | fail)
    refine cl_Y (hs15) ?_
    intro y hy
    obtain rfl : y = true := hy.2 hcc
    repeat' (first | (refine go_Y ?_; intros) | (refine gs_Y ?_ ?_ <;> (intro hgd; try (simp only [Bool.not_true, Bool.not_false] at hgd))) | (refine gc_Y ?_ ?_ <;> intro _) | fail)
    refine cl_Y (hspa) ?_
    intro y hy2
    obtain rfl : y = true := hy2.2 ⟨rfl, rfl⟩
    cases hcs : checkS (ts.map Tb.c) with
    | false =>
      rw [hcs] at hrm
      have htop := topics_bad _ ts P2 hsv2 hcs
      repeat' (first | (refine go_Y ?_; intros) | (refine gs_Y ?_ ?_ <;> (intro hgd; try (simp only [Bool.not_true, Bool.not_false] at hgd))) | (refine gc_Y ?_ ?_ <;> intro _) | fail)
      refine cl_Y (htop) ?_
      intro _ _
      repeat' (first | (refine go_Y ?_; intros) | (refine gs_Y ?_ ?_ <;> (intro hgd; try (simp only [Bool.not_true, Bool.not_false] at hgd))) | (refine gc_Y ?_ ?_ <;> intro _) | fail)
      refine cl_Y (hrm) ?_
      intro _ _
      repeat' (first | (refine go_Y ?_; intros) | (refine gs_Y ?_ ?_ <;> (intro hgd; try (simp only [Bool.not_true, Bool.not_false] at hgd))) | (refine gc_Y ?_ ?_ <;> intro _) | fail)
      refine cl_Y (hmay) ?_
      intro _ _
      repeat' (first | (refine go_Y ?_; intros) | (refine gs_Y ?_ ?_ <;> (intro hgd; try (simp only [Bool.not_true, Bool.not_false] at hgd))) | (refine gc_Y ?_ ?_ <;> intro _) | fail)
      refine cl_Y (hspb) ?_
      intro y hy3
      obtain rfl : y = true := hy3.2 ⟨rfl, rfl⟩
      repeat' (first | (refine go_Y ?_; intros) | (refine gs_Y ?_ ?_ <;> (intro hgd; try (simp only [Bool.not_true, Bool.not_false] at hgd))) | (refine gc_Y ?_ ?_ <;> intro _) | fail)
      refine cl_Y (hal) ?_
      intro _ _
      repeat' (first | (refine go_Y ?_; intros) | (refine gs_Y ?_ ?_ <;> (intro hgd; try (simp only [Bool.not_true, Bool.not_false] at hgd))) | (refine gc_Y ?_ ?_ <;> intro _) | fail)
      (refine rt_Y (y := P2) (hrs := Tryd.results3) (hv := ?_) (hφ := ?_))
      · rfl
      · exact hE
    | true =>
      rw [hcs] at hrm
      have htop := htops hcs
      have htop2 := htops2 hcs
      have ht12 := hctl hcs
      repeat' (first | (refine go_Y ?_; intros) | (refine gs_Y ?_ ?_ <;> (intro hgd; try (simp only [Bool.not_true, Bool.not_false] at hgd))) | (refine gc_Y ?_ ?_ <;> intro _) | fail)
      refine cl_Y (htop) ?_
      intro bt _
      repeat' (first | (refine go_Y ?_; intros) | (refine gs_Y ?_ ?_ <;> (intro hgd; try (simp only [Bool.not_true, Bool.not_false] at hgd))) | (refine gc_Y ?_ ?_ <;> intro _) | fail)
      refine cl_Y (hrm) ?_
      intro _ _
      repeat' (first | (refine go_Y ?_; intros) | (refine gs_Y ?_ ?_ <;> (intro hgd; try (simp only [Bool.not_true, Bool.not_false] at hgd))) | (refine gc_Y ?_ ?_ <;> intro _) | fail)
      refine cl_Y (htop2) ?_
      rintro ⟨v5, hv5⟩ _
      dsimp only
      refine ops_learn (rowShapeS (e := 9) (n := 1) (v := v5) (xs := tp.map txV) (by decide) takeD) ?_
      rintro ⟨p5, c5, rfl, _, _⟩
      have htx := texts_spec tp (.slice (some ⟨bt, 0, none⟩) (ts.length + 1) (ts.length + 1)) (.slice p5 (tp.map txV).length c5) (row 9 1 (.slice (some ⟨bt, 0, none⟩) (ts.length + 1) (ts.length + 1)) (tp.map txV)) (row 9 1 (.slice p5 (tp.map txV).length c5) (tp.map txV)) Vw.row Vw.row (by omega)
      repeat' (first | (refine go_Y ?_; intros) | (refine gs_Y ?_ ?_ <;> (intro hgd; try (simp only [Bool.not_true, Bool.not_false] at hgd))) | (refine gc_Y ?_ ?_ <;> intro _) | fail)
      refine cl_Y (htx) ?_
      intro _ _
      repeat' (first | (refine go_Y ?_; intros) | (refine gs_Y ?_ ?_ <;> (intro hgd; try (simp only [Bool.not_true, Bool.not_false] at hgd))) | (refine gc_Y ?_ ?_ <;> intro _) | fail)
      refine cl_Y (hmay) ?_
      intro _ _
      repeat' (first | (refine go_Y ?_; intros) | (refine gs_Y ?_ ?_ <;> (intro hgd; try (simp only [Bool.not_true, Bool.not_false] at hgd))) | (refine gc_Y ?_ ?_ <;> intro _) | fail)
      refine cl_Y (hspb) ?_
      intro y hy3
      obtain rfl : y = true := hy3.2 ⟨rfl, rfl⟩
      repeat' (first | (refine go_Y ?_; intros) | (refine gs_Y ?_ ?_ <;> (intro hgd; try (simp only [Bool.not_true, Bool.not_false] at hgd))) | (refine gc_Y ?_ ?_ <;> intro _) | fail)
      refine cl_Y (hal) ?_
      intro _ _
      repeat' (first | (refine go_Y ?_; intros) | (refine gs_Y ?_ ?_ <;> (intro hgd; try (simp only [Bool.not_true, Bool.not_false] at hgd))) | (refine gc_Y ?_ ?_ <;> intro _) | fail)
      (refine rt_Y (y := P2) (hrs := Tryd.results3) (hv := ?_) (hφ := ?_))
      · rfl
      · exact hE
  | true =>
    have hcs := hck rfl
    rw [hcs] at hrm
    have htop := htops hcs
    have htop2 := htops2 hcs
    have ht12 := hctl hcs
    have hof3 := hof2 rfl
    clear hof2 hck
    simp only [cond_true] at hof
    refine cl_Y (hof) ?_
    rintro ⟨⟨v2, hv2'⟩, ⟨v3, hv3⟩⟩ _
    dsimp only
    refine ops_learn (rowShapeS (e := 57) (n := 3) (v := v2) (xs := O.map outV) (by decide) takeD) ?_
    rintro ⟨p2, c2, rfl, _, _⟩
    refine ops_learn (rowShapeS (e := 25) (n := 1) (v := v3) (xs := S.map sqV) (by decide) takeD) ?_
    rintro ⟨p3, c3, rfl, _, _⟩
    repeat' (first | (refine go_Y ?_; intros) | (refine gs_Y ?_ ?_ <;> (intro hgd; try (simp only [Bool.not_true, Bool.not_false] at hgd))) | (refine gc_Y ?_ ?_ <;> intro _) | fail)
    refine cl_Y (hs15) ?_
    intro y hy
    obtain rfl : y = true := hy.2 hcc
    repeat' (first | (refine go_Y ?_; intros) | (refine gs_Y ?_ ?_ <;> (intro hgd; try (simp only [Bool.not_true, Bool.not_false] at hgd))) | (refine gc_Y ?_ ?_ <;> intro _) | fail)
    refine cl_Y (hspa) ?_
    intro y hy2
    obtain rfl : y = true := hy2.2 ⟨rfl, rfl⟩
    repeat' (first | (refine go_Y ?_; intros) | (refine gs_Y ?_ ?_ <;> (intro hgd; try (simp only [Bool.not_true, Bool.not_false] at hgd))) | (refine gc_Y ?_ ?_ <;> intro _) | fail)
    refine cl_Y (htop) ?_
    intro bt _
    repeat' (first | (refine go_Y ?_; intros) | (refine gs_Y ?_ ?_ <;> (intro hgd; try (simp only [Bool.not_true, Bool.not_false] at hgd))) | (refine gc_Y ?_ ?_ <;> intro _) | fail)
    refine cl_Y (hrm) ?_
    intro _ _
    repeat' (first | (refine go_Y ?_; intros) | (refine gs_Y ?_ ?_ <;> (intro hgd; try (simp only [Bool.not_true, Bool.not_false] at hgd))) | (refine gc_Y ?_ ?_ <;> intro _) | fail)
    refine cl_Y (htop2) ?_
    rintro ⟨v5, hv5⟩ _
    dsimp only
    refine ops_learn (rowShapeS (e := 9) (n := 1) (v := v5) (xs := tp.map txV) (by decide) takeD) ?_
    rintro ⟨p5, c5, rfl, _, _⟩
    have htx := texts_spec tp (.slice (some ⟨bt, 0, none⟩) (ts.length + 1) (ts.length + 1)) (.slice p5 (tp.map txV).length c5) (row 9 1 (.slice (some ⟨bt, 0, none⟩) (ts.length + 1) (ts.length + 1)) (tp.map txV)) (row 9 1 (.slice p5 (tp.map txV).length c5) (tp.map txV)) Vw.row Vw.row (by omega)
    repeat' (first | (refine go_Y ?_; intros) | (refine gs_Y ?_ ?_ <;> (intro hgd; try (simp only [Bool.not_true, Bool.not_false] at hgd))) | (refine gc_Y ?_ ?_ <;> intro _) | fail)
    refine cl_Y (htx) ?_
    intro _ _
    repeat' (first | (refine go_Y ?_; intros) | (refine gs_Y ?_ ?_ <;> (intro hgd; try (simp only [Bool.not_true, Bool.not_false] at hgd))) | (refine gc_Y ?_ ?_ <;> intro _) | fail)
    refine cl_Y (hmay) ?_
    intro _ _
    repeat' (first | (refine go_Y ?_; intros) | (refine gs_Y ?_ ?_ <;> (intro hgd; try (simp only [Bool.not_true, Bool.not_false] at hgd))) | (refine gc_Y ?_ ?_ <;> intro _) | fail)
    refine cl_Y (hof3) ?_
    rintro ⟨⟨v6, hv6⟩, ⟨v7, hv7⟩⟩ _
    dsimp only
    refine ops_learn (rowShapeS (e := 57) (n := 3) (v := v6) (xs := O.map outV) (by decide) takeD) ?_
    rintro ⟨p6, c6, rfl, _, _⟩
    refine ops_learn (rowShapeS (e := 25) (n := 1) (v := v7) (xs := S.map sqV) (by decide) takeD) ?_
    rintro ⟨p7, c7, rfl, _, _⟩
    have hso := sameOut_spec O (.slice p2 (O.map outV).length c2) (.slice p6 (O.map outV).length c6) (row 57 3 (.slice p2 (O.map outV).length c2) (O.map outV)) (row 57 3 (.slice p6 (O.map outV).length c6) (O.map outV)) Vw.row Vw.row (by omega)
    have hspe := samePlace_spec (m + 2) (m + 2) S S (.slice p3 (S.map sqV).length c3) (.slice p7 (S.map sqV).length c7) (row 25 1 (.slice p3 (S.map sqV).length c3) (S.map sqV)) (row 25 1 (.slice p7 (S.map sqV).length c7) (S.map sqV)) rfl rfl Vw.row Vw.row (by omega)
    repeat' (first | (refine go_Y ?_; intros) | (refine gs_Y ?_ ?_ <;> (intro hgd; try (simp only [Bool.not_true, Bool.not_false] at hgd))) | (refine gc_Y ?_ ?_ <;> intro _) | fail)
    refine cl_Y (hso) ?_
    intro _ _
    repeat' (first | (refine go_Y ?_; intros) | (refine gs_Y ?_ ?_ <;> (intro hgd; try (simp only [Bool.not_true, Bool.not_false] at hgd))) | (refine gc_Y ?_ ?_ <;> intro _) | fail)
    refine cl_Y (hspe) ?_
    intro y hy4
    obtain rfl : y = true := hy4.2 ⟨rfl, rfl⟩
    repeat' (first | (refine go_Y ?_; intros) | (refine gs_Y ?_ ?_ <;> (intro hgd; try (simp only [Bool.not_true, Bool.not_false] at hgd))) | (refine gc_Y ?_ ?_ <;> intro _) | fail)
    refine cl_Y (hal) ?_
    intro _ _
    repeat' (first | (refine go_Y ?_; intros) | (refine gs_Y ?_ ?_ <;> (intro hgd; try (simp only [Bool.not_true, Bool.not_false] at hgd))) | (refine gc_Y ?_ ?_ <;> intro _) | fail)
    (refine rt_Y (y := P2) (hrs := Tryd.results3) (hv := ?_) (hφ := ?_))
    · rfl
    · exact hE
end Go.Proofs.YtphaegcoldpclaaDoor
