/- Texts merged: L14A L14B L14C L14D. -/
import Derived.Test.YtphaegcoldpclaaDoorG6
/- The laws of rows: Same (fascicleref04), num, Two. -/
-- @DEFS Y
set_option linter.unusedSimpArgs false
set_option linter.unusedVariables false
set_option maxRecDepth 100000
namespace Go.Proofs.YtphaegcoldpclaaDoor
open Go Go.Fx Go.Proofs Go.Pl

instance : DecidableEq (List Vl) := inferInstance
def twoS : Sc := [⟨⟨#[97]⟩, [⟨⟨#[105, 100]⟩, 2, false⟩], 0, -1, -1⟩, ⟨⟨#[98]⟩, [⟨⟨#[105, 100]⟩, 2, false⟩, ⟨⟨#[111, 102]⟩, 2, false⟩], 0, 1, 0⟩]
theorem two_ok : checkS twoS = true := by decide +kernel
end Go.Proofs.YtphaegcoldpclaaDoor
/- The laws' guards: Long (04), Large (13), Heavy (14); Two. -/
-- @DEFS Y
set_option linter.unusedSimpArgs false
set_option linter.unusedVariables false
set_option maxRecDepth 100000
namespace Go.Proofs.YtphaegcoldpclaaDoor
open Go Go.Fx Go.Proofs Go.Pl

theorem quo_nat (n k : Nat) (hk : 0 < k) (h : n ≤ 140737488355328) : IntKind.i64.wrap ((n : Int).tdiv (k : Int)) = ((n / k : Nat) : Int) := by
  have e : (n : Int).tdiv (k : Int) = ((n / k : Nat) : Int) := by rw [Int.ofNat_tdiv]
  rw [e]
  have : n / k ≤ n := Nat.div_le_self n k
  generalize n / k = q at this ⊢
  exact wrap_i64 (by omega) (by omega)
set_option maxHeartbeats 1000000 in
theorem long_spec (u : Value) (A : HProp) (l : List Vl) (hA : Vw A 4 u (l.map valV)) (hz : l.length ≤ 140737488355328) (hs : ∀ v ∈ l, v.text.size ≤ 140737488355328) :
    FSpec Tryd.prog 28 [u] [A] Bool (fun y => y = false → l.length ≤ 4000) (fun y => .bool y) (fun _ => [A]) := by
  have lm : (l.map valV).length = l.length := by simp
  refine spec_intro [] _ Tryd.func28 rfl Tryd.ntmps28 (by rfl) (fun w0 R => ?_)
  refine ok_learn (VwIn.slice (VwIn.here hA)) ?_
  rintro ⟨pu, cu, rfl⟩
  repeat' (first | (refine go_Y ?_; intros) | (refine gs_Y ?_ ?_ <;> (intro hgd; try (simp only [Bool.not_true, Bool.not_false] at hgd))) | (refine gc_Y ?_ ?_ <;> intro _) | fail)
  refine ok_loop' (γ := Nat × Nat) (fun g ρ L => g.1 ≤ l.length ∧ g.1 ≤ 100 ∧ l.length ≤ g.2 ∧ g.2 ≤ l.length + g.1 * 140737488355328 ∧ Knows ρ [(0, .slice pu (l.map valV).length cu), (3, .int .i64 (g.2 : Int)), (4, .int .i64 g.1)] ∧ L = [A] ++ R) (fun g => l.length - g.1) (0, l.length)
    ⟨by omega, by omega, by simp, by simp, ⟨rfl, by show Value.int .i64 ((l.map valV).length : Int) = _; rw [lm], rfl, trivial⟩, rfl⟩ ?_
  rintro ⟨i, n⟩ ρ L ⟨hi, hi1, hn1, hn2, hk, rfl⟩
  dsimp only at hi hi1 hn1 hn2 hk ⊢
  refine ok_regs hk ?_
  cases t1 : decide ((i : Int) < ((l.map valV).length : Int)) with
  | false =>
    repeat' (first | (refine go_Y ?_; intros) | (refine gs_Y ?_ ?_ <;> (intro hgd; try (simp only [Bool.not_true, Bool.not_false] at hgd))) | (refine gc_Y ?_ ?_ <;> intro _) | fail)
    (refine rt_Y (y := decide ((4000 : Int) < (n : Int))) (hrs := Tryd.results28) (hv := ?_) (hφ := ?_))
    · rfl
    · intro hb
      have := of_decide_eq_false hb
      omega
  | true =>
    have h : i < l.length := by have := of_decide_eq_true t1; omega
    cases t2 : decide ((i : Int) < 100) with
    | false =>
      repeat' (first | (refine go_Y ?_; intros) | (refine gs_Y ?_ ?_ <;> (intro hgd; try (simp only [Bool.not_true, Bool.not_false] at hgd))) | (refine gc_Y ?_ ?_ <;> intro _) | fail)
      (refine rt_Y (y := decide ((4000 : Int) < (n : Int))) (hrs := Tryd.results28) (hv := ?_) (hφ := ?_))
      · rfl
      · intro hb
        have := of_decide_eq_false hb
        omega
    | true =>
      have h2 : i < 100 := by have := of_decide_eq_true t2; omega
      have hx : (l.map valV)[i]? = some (valV l[i]) := by rw [List.getElem?_map, List.getElem?_eq_getElem h]; rfl
      have hnn : i < (l.map valV).length := by omega
      have hsz := hs _ (List.getElem_mem h)
      refine ok_learn (VwIn.base (VwIn.here hA) (by intro e; rw [e] at hnn; simp at hnn)) ?_
      rintro ⟨bu, ou, rfl⟩
      generalize l[i] = v at hx hsz
      obtain ⟨vk, vi, vr, vs⟩ := v
      dsimp only [valV] at hx hsz
      have hq := quo_nat vs.size 8 (by decide) hsz
      have hqb : vs.size / 8 ≤ 140737488355328 := Nat.le_trans (Nat.div_le_self _ _) hsz
      generalize vs.size / 8 = q at hq hqb
      have hq' : IntKind.i64.wrap ((vs.size : Int).tdiv 8) = (q : Int) := hq
      have hib : i * 140737488355328 ≤ 100 * 140737488355328 := Nat.mul_le_mul_right _ hi1
      repeat' (first | (refine go_Y ?_; intros) | (refine gs_Y ?_ ?_ <;> (intro hgd; try (simp only [Bool.not_true, Bool.not_false] at hgd))) | (refine gc_Y ?_ ?_ <;> intro _) | fail)
      refine cont_back (i + 1, n + q) ⟨h, by dsimp only; omega, by dsimp only; omega, by dsimp only; rw [Nat.succ_mul]; omega, ⟨rfl, by show Value.int .i64 ((n : Int) + (q : Int)) = _; simp, rfl, trivial⟩, rfl⟩ (by show l.length - (i + 1) < l.length - i; omega)
def cId : Co := ⟨⟨#[105, 100]⟩, 2, false⟩
def cOf : Co := ⟨⟨#[111, 102]⟩, 2, false⟩
def twoT (g1 c1 g2 c2 : Nat) : List Tb := [⟨⟨#[97]⟩, [cId], ⟨.slice (some ⟨g1, 0, none⟩) 1 c1, rfl⟩, 0, -1, -1⟩, ⟨⟨#[98]⟩, [cId, cOf], ⟨.slice (some ⟨g2, 0, none⟩) 2 c2, rfl⟩, 0, 1, 0⟩]
set_option maxHeartbeats 1000000 in
theorem two_spec : FSpec Tryd.prog 30 [] [] (V1s × List Tb × HProp) (fun y => SV y.2.2 y.1.1 y.2.1 ∧ y.2.1.map Tb.c = twoS) (fun y => .agg #[y.1.1]) (fun y => [y.2.2]) := by
  refine spec_intro [] _ Tryd.func30 rfl Tryd.ntmps30 (by rfl) (fun w0 R => ?_)
  repeat' (first | (refine go_Y ?_; intros) | (refine gs_Y ?_ ?_ <;> (intro hgd; try (simp only [Bool.not_true, Bool.not_false] at hgd))) | (refine gc_Y ?_ ?_ <;> intro _) | fail)
  rename_i b0 v1 hv1
  refine ops_learn (rowShape (e := 118) (n := 3) (v := v1) (xs := [coV ⟨⟨#[105, 100]⟩, 2, false⟩]) (by decide) takeD) ?_
  rintro (⟨rfl, hn⟩ | ⟨g1, c1, rfl, hc1⟩)
  · cases hn
  repeat' (first | (refine go_Y ?_; intros) | (refine gs_Y ?_ ?_ <;> (intro hgd; try (simp only [Bool.not_true, Bool.not_false] at hgd))) | (refine gc_Y ?_ ?_ <;> intro _) | fail)
  rename_i v2 hv2
  refine ops_learn (rowShape (e := 118) (n := 3) (v := v2) (xs := [coV ⟨⟨#[105, 100]⟩, 2, false⟩, coV ⟨⟨#[111, 102]⟩, 2, false⟩]) (by decide) takeD) ?_
  rintro (⟨rfl, hn⟩ | ⟨g2, c2, rfl, hc2⟩)
  · cases hn
  repeat' (first | (refine go_Y ?_; intros) | (refine gs_Y ?_ ?_ <;> (intro hgd; try (simp only [Bool.not_true, Bool.not_false] at hgd))) | (refine gc_Y ?_ ?_ <;> intro _) | fail)
  rename_i v3 hv3
  refine ops_learn (rowShape (e := 84) (n := 5) (v := v3) (xs := [[.string ⟨#[97]⟩, .slice (some ⟨g1, 0, none⟩) 1 c1, .int .i64 0, .int .i64 (-1), .int .i64 (-1)], [.string ⟨#[98]⟩, .slice (some ⟨g2, 0, none⟩) 2 c2, .int .i64 0, .int .i64 1, .int .i64 0]]) (by decide) takeD) ?_
  rintro (⟨rfl, hn⟩ | ⟨g3, c3, rfl, hc3⟩)
  · cases hn
  repeat' (first | (refine go_Y ?_; intros) | (refine gs_Y ?_ ?_ <;> (intro hgd; try (simp only [Bool.not_true, Bool.not_false] at hgd))) | (refine gc_Y ?_ ?_ <;> intro _) | fail)
  refine cont_map (fun _ h => pool_in (A := row 118 3 (.slice (some ⟨g2, 0, none⟩) 2 c2) [coV cId, coV cOf]) (P := row 118 3 (.slice (some ⟨g1, 0, none⟩) 1 c1) [coV cId]) (Take.out2 takeD h)) ?_
  refine cont_map (fun _ h => pool_in (A := row 84 5 (.slice (some ⟨g3, 0, none⟩) 2 c3) ((twoT g1 c1 g2 c2).map tbV)) (P := pool (row 118 3 (.slice (some ⟨g2, 0, none⟩) 2 c2) [coV cId, coV cOf]) (row 118 3 (.slice (some ⟨g1, 0, none⟩) 1 c1) [coV cId])) (Take.out2 takeD h)) ?_
  (refine rt_Y (y := (⟨.slice (some ⟨g3, 0, none⟩) 2 c3, rfl⟩, (twoT g1 c1 g2 c2), pool (row 84 5 (.slice (some ⟨g3, 0, none⟩) 2 c3) ((twoT g1 c1 g2 c2).map tbV)) (pool (row 118 3 (.slice (some ⟨g2, 0, none⟩) 2 c2) [coV cId, coV cOf]) (row 118 3 (.slice (some ⟨g1, 0, none⟩) 1 c1) [coV cId])))) (hrs := Tryd.results30) (hv := ?_) (hφ := ?_))
  · rfl
  · refine ⟨⟨pool_row, fun t ht => ?_, by show (2 : Nat) ≤ _; decide, ⟨_, _, _, rfl, hc3⟩⟩, rfl⟩
    simp only [twoT, List.mem_cons, List.not_mem_nil, or_false] at ht
    rcases ht with rfl | rfl
    · exact ⟨(Ext.pool _ _).vw ((Ext.pool _ _).vw Vw.row), by show (1 : Nat) ≤ _; decide, by show (1 : Nat) ≤ 140737488355328; decide, fun c hc => by
        simp only [List.mem_cons, List.not_mem_nil, or_false] at hc
        subst hc; decide⟩
    · exact ⟨(Ext.pool _ _).vw pool_row, by show (2 : Nat) ≤ _; decide, by show (1 : Nat) ≤ 140737488355328; decide, fun c hc => by
        simp only [List.mem_cons, List.not_mem_nil, or_false] at hc
        rcases hc with rfl | rfl <;> decide⟩
end Go.Proofs.YtphaegcoldpclaaDoor
/- The chapter's example of a state (fasciclelaw14.alive). -/
-- @DEFS Y
set_option linter.unusedSimpArgs false
set_option linter.unusedVariables false
set_option maxRecDepth 100000
namespace Go.Proofs.YtphaegcoldpclaaDoor
open Go Go.Fx Go.Proofs Go.Pl

def nV (n : Int) : Vl := ⟨2, n, 0, ⟨#[]⟩⟩
theorem nV_wf {n : Int} (h0 : 0 ≤ n) (h1 : n ≤ 10) : (nV n).wf := ⟨by show (0 : Int) ≤ 2; decide, by show (2 : Int) ≤ 255; decide, by show _ ≤ n; omega, by show n ≤ _; omega, by show (0 : Int) ≤ 0; decide, by show (0 : Int) ≤ _; decide, by show (0 : Nat) ≤ _; decide⟩
def al0 : Rl := ⟨twoS, [], 0⟩
def alO1 : Opr := ⟨1, 0, [nV 1]⟩
def alO2 : Opr := ⟨1, 1, [nV 2, nV 1]⟩
def alO3 : Opr := ⟨3, 0, [nV 1]⟩
def al1 : Rl := (al0.doOp alO1).1
def al2 : Rl := (al1.doOp alO2).1
def al3 : Rl := (al2.doOp alO3).1
theorem al0_ok : al0.Ok := Rl.Ok.new two_ok
theorem al1_ok : al1.Ok := al0_ok.doOp _
theorem al_e1 : (al0.doOp alO1).2.2.2 = 0 := by decide +kernel
/-- Out of a pool that grew: what it was. -/
theorem ext_in {A P : HProp} (e : Ext A P) {L : List HProp} {h : Frag} (s : SatL (P :: L) h) : SatL (A :: L) h := by
  obtain ⟨h1, h2, ha, l1, l2, hP, hL⟩ := s
  obtain ⟨h1', l1', hA⟩ := e h1 hP
  exact ⟨h1', h2, ha.sub l1' (Frag.le.refl _), l1'.trans l1, l2, hA, hL⟩
end Go.Proofs.YtphaegcoldpclaaDoor
/- The laws' guards: Large (13), Heavy (14). -/
-- @DEFS Y
set_option linter.unusedSimpArgs false
set_option linter.unusedVariables false
set_option maxRecDepth 100000
namespace Go.Proofs.YtphaegcoldpclaaDoor
open Go Go.Fx Go.Proofs Go.Pl

/-- A table, a schema, in memory, of whatever length. -/
structure TbR (A : HProp) (t : Tb) : Prop where
  vw : Vw A 3 t.cv.1 (t.cols.map coV)
  len : t.cols.length ≤ 5864062014805
  nm : t.name.size ≤ 140737488355328
  cnm : ∀ c ∈ t.cols, c.name.size ≤ 140737488355328
structure SVr (A : HProp) (vs : Value) (ts : List Tb) : Prop where
  vw : Vw A 5 vs (ts.map tbV)
  tab : ∀ t ∈ ts, TbR A t
  len : ts.length ≤ 140737488355328
  cap : capOk vs
def smallS (ts : List Tb) : Prop := ts.length ≤ 30 ∧ ∀ t ∈ ts, t.cols.length ≤ 600
theorem SVr.sv {A : HProp} {vs : Value} {ts : List Tb} (h : SVr A vs ts) (_ : smallS ts) : SV A vs ts :=
  ⟨h.vw, fun t ht => ⟨(h.tab t ht).vw, (h.tab t ht).len, (h.tab t ht).nm, (h.tab t ht).cnm⟩, h.len, h.cap⟩
end Go.Proofs.YtphaegcoldpclaaDoor
