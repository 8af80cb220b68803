/- The laws' guards: Long (04), Large (13), Heavy (14); Two. -/
import Derived.Test.YtbagfdolcabniaaDoorL14A
-- @DEFS Y
set_option linter.unusedSimpArgs false
set_option linter.unusedVariables false
set_option maxRecDepth 100000
namespace Go.Proofs.YtbagfdolcabniaaDoor
open Go Go.Fx Go.Proofs Go.Pl

theorem quo_nat (n k : Nat) (hk : 0 < k) (h : n ≤ 140737488355328) : IntKind.i64.wrap ((n : Int).tdiv (k : Int)) = ((n / k : Nat) : Int) := by
  have e : (n : Int).tdiv (k : Int) = ((n / k : Nat) : Int) := by rw [Int.ofNat_tdiv]
  rw [e]
  have : n / k ≤ n := Nat.div_le_self n k
  generalize n / k = q at this ⊢
  exact wrap_i64 (by omega) (by omega)
set_option maxHeartbeats 1000000 in
theorem long_spec (u : Value) (A : HProp) (l : List Vl) (hA : Vw A 4 u (l.map valV)) (hz : l.length ≤ 140737488355328) (hs : ∀ v ∈ l, v.text.size ≤ 140737488355328) :
    FSpec Tryd.prog 49 [u] [A] Bool (fun y => y = false → l.length ≤ 4000) (fun y => .bool y) (fun _ => [A]) := by
  have lm : (l.map valV).length = l.length := by simp
  refine spec_intro [] _ Tryd.func49 rfl Tryd.ntmps49 (by rfl) (fun w0 R => ?_)
  refine ok_learn (VwIn.slice (VwIn.here hA)) ?_
  rintro ⟨pu, cu, rfl⟩
  repeat' (first | (refine go_Y ?_; intros) | (refine gs_Y ?_ ?_ <;> (intro hgd; try (simp only [Bool.not_true, Bool.not_false] at hgd))) | (refine gc_Y ?_ ?_ <;> intro _) | fail)
  refine ok_loop' (γ := Nat × Nat) (fun g ρ L => g.1 ≤ l.length ∧ g.1 ≤ 100 ∧ l.length ≤ g.2 ∧ g.2 ≤ l.length + g.1 * 140737488355328 ∧ Knows ρ [(0, .slice pu (l.map valV).length cu), (3, .int .i64 (g.2 : Int)), (4, .int .i64 g.1)] ∧ L = [A] ++ R) (fun g => l.length - g.1) (0, l.length)
    ⟨by omega, by omega, by simp, by simp, ⟨rfl, by show Value.int .i64 ((l.map valV).length : Int) = _; rw [lm], rfl, trivial⟩, rfl⟩ ?_
  rintro ⟨i, n⟩ ρ L ⟨hi, hi1, hn1, hn2, hk, rfl⟩
  dsimp only at hi hi1 hn1 hn2 hk ⊢
  refine ok_regs hk ?_
  cases t1 : decide ((i : Int) < ((l.map valV).length : Int)) with
  | false =>
    repeat' (first | (refine go_Y ?_; intros) | (refine gs_Y ?_ ?_ <;> (intro hgd; try (simp only [Bool.not_true, Bool.not_false] at hgd))) | (refine gc_Y ?_ ?_ <;> intro _) | fail)
    (refine rt_Y (y := decide ((4000 : Int) < (n : Int))) (hrs := Tryd.results49) (hv := ?_) (hφ := ?_))
    · rfl
    · intro hb
      have := of_decide_eq_false hb
      omega
  | true =>
    have h : i < l.length := by have := of_decide_eq_true t1; omega
    cases t2 : decide ((i : Int) < 100) with
    | false =>
      repeat' (first | (refine go_Y ?_; intros) | (refine gs_Y ?_ ?_ <;> (intro hgd; try (simp only [Bool.not_true, Bool.not_false] at hgd))) | (refine gc_Y ?_ ?_ <;> intro _) | fail)
      (refine rt_Y (y := decide ((4000 : Int) < (n : Int))) (hrs := Tryd.results49) (hv := ?_) (hφ := ?_))
      · rfl
      · intro hb
        have := of_decide_eq_false hb
        omega
    | true =>
      have h2 : i < 100 := by have := of_decide_eq_true t2; omega
      have hx : (l.map valV)[i]? = some (valV l[i]) := by rw [List.getElem?_map, List.getElem?_eq_getElem h]; rfl
      have hnn : i < (l.map valV).length := by omega
      have hsz := hs _ (List.getElem_mem h)
      refine ok_learn (VwIn.base (VwIn.here hA) (by intro e; rw [e] at hnn; simp at hnn)) ?_
      rintro ⟨bu, ou, rfl⟩
      generalize l[i] = v at hx hsz
      obtain ⟨vk, vi, vr, vs⟩ := v
      dsimp only [valV] at hx hsz
      have hq := quo_nat vs.size 8 (by decide) hsz
      have hqb : vs.size / 8 ≤ 140737488355328 := Nat.le_trans (Nat.div_le_self _ _) hsz
      generalize vs.size / 8 = q at hq hqb
      have hq' : IntKind.i64.wrap ((vs.size : Int).tdiv 8) = (q : Int) := hq
      have hib : i * 140737488355328 ≤ 100 * 140737488355328 := Nat.mul_le_mul_right _ hi1
      repeat' (first | (refine go_Y ?_; intros) | (refine gs_Y ?_ ?_ <;> (intro hgd; try (simp only [Bool.not_true, Bool.not_false] at hgd))) | (refine gc_Y ?_ ?_ <;> intro _) | fail)
      refine cont_back (i + 1, n + q) ⟨h, by dsimp only; omega, by dsimp only; omega, by dsimp only; rw [Nat.succ_mul]; omega, ⟨rfl, by show Value.int .i64 ((n : Int) + (q : Int)) = _; simp, rfl, trivial⟩, rfl⟩ (by show l.length - (i + 1) < l.length - i; omega)
def cId : Co := ⟨⟨#[105, 100]⟩, 2, false⟩
def cOf : Co := ⟨⟨#[111, 102]⟩, 2, false⟩
def twoT (g1 c1 g2 c2 : Nat) : List Tb := [⟨⟨#[97]⟩, [cId], ⟨.slice (some ⟨g1, 0, none⟩) 1 c1, rfl⟩, 0, -1, -1⟩, ⟨⟨#[98]⟩, [cId, cOf], ⟨.slice (some ⟨g2, 0, none⟩) 2 c2, rfl⟩, 0, 1, 0⟩]
set_option maxHeartbeats 1000000 in
theorem two_spec : FSpec Tryd.prog 51 [] [] (V1s × List Tb × HProp) (fun y => SV y.2.2 y.1.1 y.2.1 ∧ y.2.1.map Tb.c = twoS) (fun y => .agg #[y.1.1]) (fun y => [y.2.2]) := by
  refine spec_intro [] _ Tryd.func51 rfl Tryd.ntmps51 (by rfl) (fun w0 R => ?_)
  repeat' (first | (refine go_Y ?_; intros) | (refine gs_Y ?_ ?_ <;> (intro hgd; try (simp only [Bool.not_true, Bool.not_false] at hgd))) | (refine gc_Y ?_ ?_ <;> intro _) | fail)
  rename_i b0 v1 hv1
  refine ops_learn (rowShape (e := 150) (n := 3) (v := v1) (xs := [coV ⟨⟨#[105, 100]⟩, 2, false⟩]) (by decide) takeD) ?_
  rintro (⟨rfl, hn⟩ | ⟨g1, c1, rfl, hc1⟩)
  · cases hn
  repeat' (first | (refine go_Y ?_; intros) | (refine gs_Y ?_ ?_ <;> (intro hgd; try (simp only [Bool.not_true, Bool.not_false] at hgd))) | (refine gc_Y ?_ ?_ <;> intro _) | fail)
  rename_i v2 hv2
  refine ops_learn (rowShape (e := 150) (n := 3) (v := v2) (xs := [coV ⟨⟨#[105, 100]⟩, 2, false⟩, coV ⟨⟨#[111, 102]⟩, 2, false⟩]) (by decide) takeD) ?_
  rintro (⟨rfl, hn⟩ | ⟨g2, c2, rfl, hc2⟩)
  · cases hn
  repeat' (first | (refine go_Y ?_; intros) | (refine gs_Y ?_ ?_ <;> (intro hgd; try (simp only [Bool.not_true, Bool.not_false] at hgd))) | (refine gc_Y ?_ ?_ <;> intro _) | fail)
  rename_i v3 hv3
  refine ops_learn (rowShape (e := 47) (n := 5) (v := v3) (xs := [[.string ⟨#[97]⟩, .slice (some ⟨g1, 0, none⟩) 1 c1, .int .i64 0, .int .i64 (-1), .int .i64 (-1)], [.string ⟨#[98]⟩, .slice (some ⟨g2, 0, none⟩) 2 c2, .int .i64 0, .int .i64 1, .int .i64 0]]) (by decide) takeD) ?_
  rintro (⟨rfl, hn⟩ | ⟨g3, c3, rfl, hc3⟩)
  · cases hn
  repeat' (first | (refine go_Y ?_; intros) | (refine gs_Y ?_ ?_ <;> (intro hgd; try (simp only [Bool.not_true, Bool.not_false] at hgd))) | (refine gc_Y ?_ ?_ <;> intro _) | fail)
  refine cont_map (fun _ h => pool_in (A := row 150 3 (.slice (some ⟨g2, 0, none⟩) 2 c2) [coV cId, coV cOf]) (P := row 150 3 (.slice (some ⟨g1, 0, none⟩) 1 c1) [coV cId]) (Take.out2 takeD h)) ?_
  refine cont_map (fun _ h => pool_in (A := row 47 5 (.slice (some ⟨g3, 0, none⟩) 2 c3) ((twoT g1 c1 g2 c2).map tbV)) (P := pool (row 150 3 (.slice (some ⟨g2, 0, none⟩) 2 c2) [coV cId, coV cOf]) (row 150 3 (.slice (some ⟨g1, 0, none⟩) 1 c1) [coV cId])) (Take.out2 takeD h)) ?_
  (refine rt_Y (y := (⟨.slice (some ⟨g3, 0, none⟩) 2 c3, rfl⟩, (twoT g1 c1 g2 c2), pool (row 47 5 (.slice (some ⟨g3, 0, none⟩) 2 c3) ((twoT g1 c1 g2 c2).map tbV)) (pool (row 150 3 (.slice (some ⟨g2, 0, none⟩) 2 c2) [coV cId, coV cOf]) (row 150 3 (.slice (some ⟨g1, 0, none⟩) 1 c1) [coV cId])))) (hrs := Tryd.results51) (hv := ?_) (hφ := ?_))
  · rfl
  · refine ⟨⟨pool_row, fun t ht => ?_, by show (2 : Nat) ≤ 1000; decide, ⟨_, _, _, rfl, hc3⟩⟩, rfl⟩
    simp only [twoT, List.mem_cons, List.not_mem_nil, or_false] at ht
    rcases ht with rfl | rfl
    · exact ⟨(Ext.pool _ _).vw ((Ext.pool _ _).vw Vw.row), by show (1 : Nat) ≤ 1000; decide, by show (1 : Nat) ≤ 140737488355328; decide, fun c hc => by
        simp only [List.mem_cons, List.not_mem_nil, or_false] at hc
        subst hc; decide⟩
    · exact ⟨(Ext.pool _ _).vw pool_row, by show (2 : Nat) ≤ 1000; decide, by show (1 : Nat) ≤ 140737488355328; decide, fun c hc => by
        simp only [List.mem_cons, List.not_mem_nil, or_false] at hc
        rcases hc with rfl | rfl <;> decide⟩
end Go.Proofs.YtbagfdolcabniaaDoor
