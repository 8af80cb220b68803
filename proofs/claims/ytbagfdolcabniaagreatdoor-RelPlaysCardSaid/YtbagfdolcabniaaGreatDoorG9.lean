/- Texts merged: L14A L14B L14C L14D. -/
import Derived.Test.YtbagfdolcabniaaGreatDoorG4
/- The laws of rows: Same (fascicleref04), num, Two. -/
-- @DEFS Y
set_option linter.unusedSimpArgs false
set_option linter.unusedVariables false
set_option maxRecDepth 100000
namespace Go.Proofs.YtbagfdolcabniaaGreatDoor
open Go Go.Fx Go.Proofs Go.Pl

instance : DecidableEq (List Vl) := inferInstance
set_option maxHeartbeats 1000000 in
theorem same04_spec (a c : List Vl) (u w : Value) (A B : HProp) (hA : Vw A 4 u (a.map valV)) (hB : Vw B 4 w (c.map valV)) (hz : a.length ≤ 1000000) :
    FSpec Tryz.prog 20 [u, w] [A, B] Unit (fun _ => True) (fun _ => .bool (decide (a = c))) (fun _ => [A, B]) := by
  have la : (a.map valV).length = a.length := by simp
  have lc : (c.map valV).length = c.length := by simp
  refine spec_intro [] _ Tryz.func20 rfl Tryz.ntmps20 (by rfl) (fun w0 R => ?_)
  refine ok_learn (VwIn.slice (VwIn.here hA)) ?_
  rintro ⟨pu, cu, rfl⟩
  refine ok_learn (VwIn.slice (VwIn.there (VwIn.here hB))) ?_
  rintro ⟨pw, cw, rfl⟩
  cases t0 : (!decide (((a.map valV).length : Int) = ((c.map valV).length : Int))) with
  | true =>
    have hne : decide (a = c) = false := by simp; intro e; subst e; simp at t0
    rw [hne]
    repeat' (first | (refine go_Y ?_; intros) | (refine gs_Y ?_ ?_ <;> (intro hgd; try (simp only [Bool.not_true, Bool.not_false] at hgd))) | (refine gc_Y ?_ ?_ <;> intro _) | fail)
    (refine rt_Y (y := ()) (hrs := Tryz.results20) (hv := ?_) (hφ := ?_))
    · rfl
    · trivial
  | false =>
    have hlen : a.length = c.length := by simp at t0; omega
    repeat' (first | (refine go_Y ?_; intros) | (refine gs_Y ?_ ?_ <;> (intro hgd; try (simp only [Bool.not_true, Bool.not_false] at hgd))) | (refine gc_Y ?_ ?_ <;> intro _) | fail)
    refine ok_loop' (γ := Nat) (fun i ρ L => i ≤ a.length ∧ a.take i = c.take i ∧ Knows ρ [(0, .slice pu (a.map valV).length cu), (1, .slice pw (c.map valV).length cw), (5, .int .i64 i)] ∧ L = [A, B] ++ R) (fun i => a.length - i) 0 ⟨by omega, by simp, ⟨rfl, rfl, rfl, trivial⟩, rfl⟩ ?_
    rintro i ρ L ⟨hi, he, hk, rfl⟩
    refine ok_regs hk ?_
    cases t1 : decide ((i : Int) < ((a.map valV).length : Int)) with
    | false =>
      have hie : i = a.length := by have := of_decide_eq_false t1; omega
      have hac : decide (a = c) = true := by
        rw [hie, List.take_length] at he
        rw [hlen, List.take_length] at he
        simp [he]
      rw [hac]
      repeat' (first | (refine go_Y ?_; intros) | (refine gs_Y ?_ ?_ <;> (intro hgd; try (simp only [Bool.not_true, Bool.not_false] at hgd))) | (refine gc_Y ?_ ?_ <;> intro _) | fail)
      (refine rt_Y (y := ()) (hrs := Tryz.results20) (hv := ?_) (hφ := ?_))
      · rfl
      · trivial
    | true =>
      have h : i < a.length := by have := of_decide_eq_true t1; omega
      have hc' : i < c.length := by omega
      have hx : (a.map valV)[i]? = some (valV a[i]) := by rw [List.getElem?_map, List.getElem?_eq_getElem h]; rfl
      have hy : (c.map valV)[i]? = some (valV c[i]) := by rw [List.getElem?_map, List.getElem?_eq_getElem hc']; rfl
      have hn1 : i < (a.map valV).length := by omega
      have hn2 : i < (c.map valV).length := by omega
      have t1a : a.take (i + 1) = a.take i ++ [a[i]] := List.take_succ_eq_append_getElem h
      have t1c : c.take (i + 1) = c.take i ++ [c[i]] := List.take_succ_eq_append_getElem hc'
      have hq := eqL_valV a[i] c[i]
      have hdiff : a[i] ≠ c[i] → decide (a = c) = false := fun hn => by
        simp only [decide_eq_false_iff_not]
        intro e; subst e; exact hn rfl
      refine ok_learn (VwIn.base (VwIn.here hA) (by intro e; rw [e] at hn1; simp at hn1)) ?_
      rintro ⟨bu, ou, rfl⟩
      refine ok_learn (VwIn.base (VwIn.there (VwIn.here hB)) (by intro e; rw [e] at hn2; simp at hn2)) ?_
      rintro ⟨bw, ow, rfl⟩
      generalize a[i] = x at hx hq hdiff t1a
      generalize c[i] = y at hy hq hdiff t1c
      obtain ⟨xk, xi, xr, xs⟩ := x
      obtain ⟨yk, yi, yr, ys⟩ := y
      dsimp only [valV] at hx hy hq
      cases hn : nilB BinOp.neq (eqL [TypeDesc.int .u8, TypeDesc.int .i64, TypeDesc.int .u64, TypeDesc.string] [Value.int .u8 xk, Value.int .i64 xi, Value.int .u64 xr, Value.string xs] [Value.int .u8 yk, Value.int .i64 yi, Value.int .u64 yr, Value.string ys]) with
      | true =>
        have hd : (⟨xk, xi, xr, xs⟩ : Vl) ≠ ⟨yk, yi, yr, ys⟩ := by
          rw [hq] at hn
          have : decide ((⟨xk, xi, xr, xs⟩ : Vl) = ⟨yk, yi, yr, ys⟩) = false := by simpa only [nilB, Bool.not_eq_true'] using hn
          exact of_decide_eq_false this
        rw [hdiff hd]
        repeat' (first | (refine go_Y ?_; intros) | (refine gs_Y ?_ ?_ <;> (intro hgd; try (simp only [Bool.not_true, Bool.not_false] at hgd))) | (refine gc_Y ?_ ?_ <;> intro _) | fail)
        (refine rt_Y (y := ()) (hrs := Tryz.results20) (hv := ?_) (hφ := ?_))
        · rfl
        · trivial
      | false =>
        have hd : (⟨xk, xi, xr, xs⟩ : Vl) = ⟨yk, yi, yr, ys⟩ := by
          rw [hq] at hn
          have : decide ((⟨xk, xi, xr, xs⟩ : Vl) = ⟨yk, yi, yr, ys⟩) = true := by simpa only [nilB, Bool.not_eq_false'] using hn
          exact of_decide_eq_true this
        repeat' (first | (refine go_Y ?_; intros) | (refine gs_Y ?_ ?_ <;> (intro hgd; try (simp only [Bool.not_true, Bool.not_false] at hgd))) | (refine gc_Y ?_ ?_ <;> intro _) | fail)
        refine cont_map (L' := [A, B] ++ R) entD ?_
        refine cont_back (i + 1) ⟨h, by rw [t1a, t1c, he, hd], ⟨rfl, rfl, rfl, trivial⟩, rfl⟩ (by omega)
theorem num14_spec (n : Int) : FSpec Tryz.prog 45 [.int .i64 n] [] Unit (fun _ => True) (fun _ => .agg (valV ⟨2, n, 0, ⟨#[]⟩⟩).toArray) (fun _ => []) := by
  refine spec_intro [] _ Tryz.func45 rfl Tryz.ntmps45 (by rfl) (fun w0 R => ?_)
  repeat' (first | (refine go_Y ?_; intros) | (refine gs_Y ?_ ?_ <;> (intro hgd; try (simp only [Bool.not_true, Bool.not_false] at hgd))) | (refine gc_Y ?_ ?_ <;> intro _) | fail)
  (refine rt_Y (y := ()) (hrs := Tryz.results45) (hv := ?_) (hφ := ?_))
  · rfl
  · trivial
def twoS : Sc := [⟨⟨#[97]⟩, [⟨⟨#[105, 100]⟩, 2, false⟩], 0, -1, -1⟩, ⟨⟨#[98]⟩, [⟨⟨#[105, 100]⟩, 2, false⟩, ⟨⟨#[111, 102]⟩, 2, false⟩], 0, 1, 0⟩]
theorem two_ok : checkS twoS = true := by decide +kernel
end Go.Proofs.YtbagfdolcabniaaGreatDoor
/- The laws' guards: Long (04), Large (13), Heavy (14); Two. -/
-- @DEFS Y
set_option linter.unusedSimpArgs false
set_option linter.unusedVariables false
set_option maxRecDepth 100000
namespace Go.Proofs.YtbagfdolcabniaaGreatDoor
open Go Go.Fx Go.Proofs Go.Pl

theorem quo_nat (n k : Nat) (hk : 0 < k) (h : n ≤ 140737488355328) : IntKind.i64.wrap ((n : Int).tdiv (k : Int)) = ((n / k : Nat) : Int) := by
  have e : (n : Int).tdiv (k : Int) = ((n / k : Nat) : Int) := by rw [Int.ofNat_tdiv]
  rw [e]
  have : n / k ≤ n := Nat.div_le_self n k
  generalize n / k = q at this ⊢
  exact wrap_i64 (by omega) (by omega)
set_option maxHeartbeats 1000000 in
theorem long_spec (u : Value) (A : HProp) (l : List Vl) (hA : Vw A 4 u (l.map valV)) (hz : l.length ≤ 140737488355328) (hs : ∀ v ∈ l, v.text.size ≤ 140737488355328) :
    FSpec Tryz.prog 38 [u] [A] Bool (fun y => y = false → l.length ≤ 4000) (fun y => .bool y) (fun _ => [A]) := by
  have lm : (l.map valV).length = l.length := by simp
  refine spec_intro [] _ Tryz.func38 rfl Tryz.ntmps38 (by rfl) (fun w0 R => ?_)
  refine ok_learn (VwIn.slice (VwIn.here hA)) ?_
  rintro ⟨pu, cu, rfl⟩
  repeat' (first | (refine go_Y ?_; intros) | (refine gs_Y ?_ ?_ <;> (intro hgd; try (simp only [Bool.not_true, Bool.not_false] at hgd))) | (refine gc_Y ?_ ?_ <;> intro _) | fail)
  refine ok_loop' (γ := Nat × Nat) (fun g ρ L => g.1 ≤ l.length ∧ g.1 ≤ 100 ∧ l.length ≤ g.2 ∧ g.2 ≤ l.length + g.1 * 140737488355328 ∧ Knows ρ [(0, .slice pu (l.map valV).length cu), (3, .int .i64 (g.2 : Int)), (4, .int .i64 g.1)] ∧ L = [A] ++ R) (fun g => l.length - g.1) (0, l.length)
    ⟨by omega, by omega, by simp, by simp, ⟨rfl, by show Value.int .i64 ((l.map valV).length : Int) = _; rw [lm], rfl, trivial⟩, rfl⟩ ?_
  rintro ⟨i, n⟩ ρ L ⟨hi, hi1, hn1, hn2, hk, rfl⟩
  dsimp only at hi hi1 hn1 hn2 hk ⊢
  refine ok_regs hk ?_
  cases t1 : decide ((i : Int) < ((l.map valV).length : Int)) with
  | false =>
    repeat' (first | (refine go_Y ?_; intros) | (refine gs_Y ?_ ?_ <;> (intro hgd; try (simp only [Bool.not_true, Bool.not_false] at hgd))) | (refine gc_Y ?_ ?_ <;> intro _) | fail)
    (refine rt_Y (y := decide ((4000 : Int) < (n : Int))) (hrs := Tryz.results38) (hv := ?_) (hφ := ?_))
    · rfl
    · intro hb
      have := of_decide_eq_false hb
      omega
  | true =>
    have h : i < l.length := by have := of_decide_eq_true t1; omega
    cases t2 : decide ((i : Int) < 100) with
    | false =>
      repeat' (first | (refine go_Y ?_; intros) | (refine gs_Y ?_ ?_ <;> (intro hgd; try (simp only [Bool.not_true, Bool.not_false] at hgd))) | (refine gc_Y ?_ ?_ <;> intro _) | fail)
      (refine rt_Y (y := decide ((4000 : Int) < (n : Int))) (hrs := Tryz.results38) (hv := ?_) (hφ := ?_))
      · rfl
      · intro hb
        have := of_decide_eq_false hb
        omega
    | true =>
      have h2 : i < 100 := by have := of_decide_eq_true t2; omega
      have hx : (l.map valV)[i]? = some (valV l[i]) := by rw [List.getElem?_map, List.getElem?_eq_getElem h]; rfl
      have hnn : i < (l.map valV).length := by omega
      have hsz := hs _ (List.getElem_mem h)
      refine ok_learn (VwIn.base (VwIn.here hA) (by intro e; rw [e] at hnn; simp at hnn)) ?_
      rintro ⟨bu, ou, rfl⟩
      generalize l[i] = v at hx hsz
      obtain ⟨vk, vi, vr, vs⟩ := v
      dsimp only [valV] at hx hsz
      have hq := quo_nat vs.size 8 (by decide) hsz
      have hqb : vs.size / 8 ≤ 140737488355328 := Nat.le_trans (Nat.div_le_self _ _) hsz
      generalize vs.size / 8 = q at hq hqb
      have hq' : IntKind.i64.wrap ((vs.size : Int).tdiv 8) = (q : Int) := hq
      have hib : i * 140737488355328 ≤ 100 * 140737488355328 := Nat.mul_le_mul_right _ hi1
      repeat' (first | (refine go_Y ?_; intros) | (refine gs_Y ?_ ?_ <;> (intro hgd; try (simp only [Bool.not_true, Bool.not_false] at hgd))) | (refine gc_Y ?_ ?_ <;> intro _) | fail)
      refine cont_back (i + 1, n + q) ⟨h, by dsimp only; omega, by dsimp only; omega, by dsimp only; rw [Nat.succ_mul]; omega, ⟨rfl, by show Value.int .i64 ((n : Int) + (q : Int)) = _; simp, rfl, trivial⟩, rfl⟩ (by show l.length - (i + 1) < l.length - i; omega)
def cId : Co := ⟨⟨#[105, 100]⟩, 2, false⟩
def cOf : Co := ⟨⟨#[111, 102]⟩, 2, false⟩
def twoT (g1 c1 g2 c2 : Nat) : List Tb := [⟨⟨#[97]⟩, [cId], ⟨.slice (some ⟨g1, 0, none⟩) 1 c1, rfl⟩, 0, -1, -1⟩, ⟨⟨#[98]⟩, [cId, cOf], ⟨.slice (some ⟨g2, 0, none⟩) 2 c2, rfl⟩, 0, 1, 0⟩]
set_option maxHeartbeats 1000000 in
theorem two_spec : FSpec Tryz.prog 44 [] [] (V1s × List Tb × HProp) (fun y => SV y.2.2 y.1.1 y.2.1 ∧ y.2.1.map Tb.c = twoS) (fun y => .agg #[y.1.1]) (fun y => [y.2.2]) := by
  refine spec_intro [] _ Tryz.func44 rfl Tryz.ntmps44 (by rfl) (fun w0 R => ?_)
  repeat' (first | (refine go_Y ?_; intros) | (refine gs_Y ?_ ?_ <;> (intro hgd; try (simp only [Bool.not_true, Bool.not_false] at hgd))) | (refine gc_Y ?_ ?_ <;> intro _) | fail)
  rename_i b0 v1 hv1
  refine ops_learn (rowShape (e := 144) (n := 3) (v := v1) (xs := [coV ⟨⟨#[105, 100]⟩, 2, false⟩]) (by decide) takeD) ?_
  rintro (⟨rfl, hn⟩ | ⟨g1, c1, rfl, hc1⟩)
  · cases hn
  repeat' (first | (refine go_Y ?_; intros) | (refine gs_Y ?_ ?_ <;> (intro hgd; try (simp only [Bool.not_true, Bool.not_false] at hgd))) | (refine gc_Y ?_ ?_ <;> intro _) | fail)
  rename_i v2 hv2
  refine ops_learn (rowShape (e := 144) (n := 3) (v := v2) (xs := [coV ⟨⟨#[105, 100]⟩, 2, false⟩, coV ⟨⟨#[111, 102]⟩, 2, false⟩]) (by decide) takeD) ?_
  rintro (⟨rfl, hn⟩ | ⟨g2, c2, rfl, hc2⟩)
  · cases hn
  repeat' (first | (refine go_Y ?_; intros) | (refine gs_Y ?_ ?_ <;> (intro hgd; try (simp only [Bool.not_true, Bool.not_false] at hgd))) | (refine gc_Y ?_ ?_ <;> intro _) | fail)
  rename_i v3 hv3
  refine ops_learn (rowShape (e := 88) (n := 5) (v := v3) (xs := [[.string ⟨#[97]⟩, .slice (some ⟨g1, 0, none⟩) 1 c1, .int .i64 0, .int .i64 (-1), .int .i64 (-1)], [.string ⟨#[98]⟩, .slice (some ⟨g2, 0, none⟩) 2 c2, .int .i64 0, .int .i64 1, .int .i64 0]]) (by decide) takeD) ?_
  rintro (⟨rfl, hn⟩ | ⟨g3, c3, rfl, hc3⟩)
  · cases hn
  repeat' (first | (refine go_Y ?_; intros) | (refine gs_Y ?_ ?_ <;> (intro hgd; try (simp only [Bool.not_true, Bool.not_false] at hgd))) | (refine gc_Y ?_ ?_ <;> intro _) | fail)
  refine cont_map (fun _ h => pool_in (A := row 144 3 (.slice (some ⟨g2, 0, none⟩) 2 c2) [coV cId, coV cOf]) (P := row 144 3 (.slice (some ⟨g1, 0, none⟩) 1 c1) [coV cId]) (Take.out2 takeD h)) ?_
  refine cont_map (fun _ h => pool_in (A := row 88 5 (.slice (some ⟨g3, 0, none⟩) 2 c3) ((twoT g1 c1 g2 c2).map tbV)) (P := pool (row 144 3 (.slice (some ⟨g2, 0, none⟩) 2 c2) [coV cId, coV cOf]) (row 144 3 (.slice (some ⟨g1, 0, none⟩) 1 c1) [coV cId])) (Take.out2 takeD h)) ?_
  (refine rt_Y (y := (⟨.slice (some ⟨g3, 0, none⟩) 2 c3, rfl⟩, (twoT g1 c1 g2 c2), pool (row 88 5 (.slice (some ⟨g3, 0, none⟩) 2 c3) ((twoT g1 c1 g2 c2).map tbV)) (pool (row 144 3 (.slice (some ⟨g2, 0, none⟩) 2 c2) [coV cId, coV cOf]) (row 144 3 (.slice (some ⟨g1, 0, none⟩) 1 c1) [coV cId])))) (hrs := Tryz.results44) (hv := ?_) (hφ := ?_))
  · rfl
  · refine ⟨⟨pool_row, fun t ht => ?_, by show (2 : Nat) ≤ _; decide, ⟨_, _, _, rfl, hc3⟩⟩, rfl⟩
    simp only [twoT, List.mem_cons, List.not_mem_nil, or_false] at ht
    rcases ht with rfl | rfl
    · exact ⟨(Ext.pool _ _).vw ((Ext.pool _ _).vw Vw.row), by show (1 : Nat) ≤ _; decide, by show (1 : Nat) ≤ 140737488355328; decide, fun c hc => by
        simp only [List.mem_cons, List.not_mem_nil, or_false] at hc
        subst hc; decide⟩
    · exact ⟨(Ext.pool _ _).vw pool_row, by show (2 : Nat) ≤ _; decide, by show (1 : Nat) ≤ 140737488355328; decide, fun c hc => by
        simp only [List.mem_cons, List.not_mem_nil, or_false] at hc
        rcases hc with rfl | rfl <;> decide⟩
end Go.Proofs.YtbagfdolcabniaaGreatDoor
/- The chapter's example of a state (fasciclelaw14.alive). -/
-- @DEFS Y
set_option linter.unusedSimpArgs false
set_option linter.unusedVariables false
set_option maxRecDepth 100000
namespace Go.Proofs.YtbagfdolcabniaaGreatDoor
open Go Go.Fx Go.Proofs Go.Pl

def nV (n : Int) : Vl := ⟨2, n, 0, ⟨#[]⟩⟩
theorem nV_wf {n : Int} (h0 : 0 ≤ n) (h1 : n ≤ 10) : (nV n).wf := ⟨by show (0 : Int) ≤ 2; decide, by show (2 : Int) ≤ 255; decide, by show _ ≤ n; omega, by show n ≤ _; omega, by show (0 : Int) ≤ 0; decide, by show (0 : Int) ≤ _; decide, by show (0 : Nat) ≤ _; decide⟩
def al0 : Rl := ⟨twoS, [], 0⟩
def alO1 : Opr := ⟨1, 0, [nV 1]⟩
def alO2 : Opr := ⟨1, 1, [nV 2, nV 1]⟩
def alO3 : Opr := ⟨3, 0, [nV 1]⟩
def al1 : Rl := (al0.doOp alO1).1
def al2 : Rl := (al1.doOp alO2).1
def al3 : Rl := (al2.doOp alO3).1
theorem al0_ok : al0.Ok := Rl.Ok.new two_ok
theorem al1_ok : al1.Ok := al0_ok.doOp _
theorem al2_ok : al2.Ok := al1_ok.doOp _
theorem al3_ok : al3.Ok := al2_ok.doOp _
theorem al_e1 : (al0.doOp alO1).2.2.2 = 0 := by decide +kernel
theorem al_e2 : (al1.doOp alO2).2.2.2 = 0 := by decide +kernel
theorem al_e3 : (al2.doOp alO3).2.2.2 = 0 := by decide +kernel
theorem al_l2 : (al1.doOp alO2).2.2.1.length = 2 := by decide +kernel
theorem al_l3 : (al2.doOp alO3).2.1.length = 1 := by decide +kernel
theorem al_w2 : al2.whole = true := by decide +kernel
theorem al_w3 : al3.whole = false := by decide +kernel
theorem al_n3 : al3.rows.length = 1 := by decide +kernel

theorem vw_nil5 {P : HProp} : Vw P 5 (.slice none 0 0) (([] : List Tb).map tbV) := fun h _ => ⟨fun _ hx => by simp at hx, none, 0, rfl, .inl rfl, fun _ => rfl, fun b o hp => by cases hp⟩
/-- Out of a pool that grew: what it was. -/
theorem ext_in {A P : HProp} (e : Ext A P) {L : List HProp} {h : Frag} (s : SatL (P :: L) h) : SatL (A :: L) h := by
  obtain ⟨h1, h2, ha, l1, l2, hP, hL⟩ := s
  obtain ⟨h1', l1', hA⟩ := e h1 hP
  exact ⟨h1', h2, ha.sub l1' (Frag.le.refl _), l1'.trans l1, l2, hA, hL⟩
set_option maxHeartbeats 4000000 in
theorem alive14_spec (A : HProp) (hA : UT A) : FSpec Tryz.prog 9 [] [A] Unit (fun _ => True) (fun _ => .bool true) (fun _ => [A]) := by
  have e2 : decide ((((al1.doOp alO2).2.2.1.map valV).length : Int) = 2) = true := by rw [List.length_map, al_l2]; rfl
  have e3 : decide ((((al2.doOp alO3).2.1.map valV).length : Int) = 1) = true := by rw [List.length_map, al_l3]; rfl
  refine spec_intro [] _ Tryz.func9 rfl Tryz.ntmps9 (by rfl) (fun w0 R => ?_)
  repeat' (first | (refine go_Y ?_; intros) | (refine gs_Y ?_ ?_ <;> (intro hgd; try (simp only [Bool.not_true, Bool.not_false] at hgd))) | (refine gc_Y ?_ ?_ <;> intro _) | fail)
  refine cl_Y (two_spec) ?_
  rintro ⟨⟨v, hv⟩, tk, P0⟩ ⟨hsv0, hmc⟩
  dsimp only at hsv0 hmc ⊢
  refine opsL_map (fun _ h => pool_in (A := P0) (P := A) (Take.out2 takeD h)) ?_
  have hsv : SV (pool P0 A) v tk := hsv0.ext (Ext.poolL _ _)
  have hU : UT (pool P0 A) := hA.ext (Ext.pool _ _)
  have hEA : Ext A (pool P0 A) := Ext.pool _ _
  generalize pool P0 A = P at hsv hU hEA
  have hnew := new_spec v tk P hsv (by rw [hmc]; exact two_ok)
  rw [hmc] at hnew
  repeat' (first | (refine go_Y ?_; intros) | (refine gs_Y ?_ ?_ <;> (intro hgd; try (simp only [Bool.not_true, Bool.not_false] at hgd))) | (refine gc_Y ?_ ?_ <;> intro _) | fail)
  refine cl_Y (hnew) ?_
  rintro ⟨b, P1⟩ hE1
  dsimp only at hE1 ⊢
  have hU1 := hU.ext hE1
  have hEA1 := hEA.trans hE1
  repeat' (first | (refine go_Y ?_; intros) | (refine gs_Y ?_ ?_ <;> (intro hgd; try (simp only [Bool.not_true, Bool.not_false] at hgd))) | (refine gc_Y ?_ ?_ <;> intro _) | fail)
  refine cl_Y (num14_spec 1) ?_
  intro _ _
  repeat' (first | (refine go_Y ?_; intros) | (refine gs_Y ?_ ?_ <;> (intro hgd; try (simp only [Bool.not_true, Bool.not_false] at hgd))) | (refine gc_Y ?_ ?_ <;> intro _) | fail)
  rename_i w1 hw1
  refine ops_learn (rowShape (e := 50) (n := 4) (v := w1) (xs := [nV 1].map valV) (by decide) takeD) ?_
  rintro (⟨rfl, hn⟩ | ⟨g1, c1, rfl, _⟩)
  · cases hn
  refine opsL_map (fun _ h => pool_in (A := row 50 4 (.slice (some ⟨g1, 0, none⟩) 1 c1) ([nV 1].map valV)) (P := P1) (Take.out2 takeD h)) ?_
  have hx1 := Ext.pool (row 50 4 (.slice (some ⟨g1, 0, none⟩) 1 c1) ([nV 1].map valV)) P1
  have hwv1 : Vw (pool (row 50 4 (.slice (some ⟨g1, 0, none⟩) 1 c1) ([nV 1].map valV)) P1) 4 (.slice (some ⟨g1, 0, none⟩) 1 c1) (alO1.row.map valV) := pool_row
  refine opsL_map (fun _ h => relP_ext (b := b) (r := al0) hx1 (Take.out1 takeD h)) ?_
  have hUq1 := hU1.ext hx1
  have hEq1 := hEA1.trans hx1
  generalize pool (row 50 4 (.slice (some ⟨g1, 0, none⟩) 1 c1) ([nV 1].map valV)) P1 = Q1 at hx1 hwv1 hUq1 hEq1
  have hdo1 := relDo_spec b al0 alO1 (.slice (some ⟨g1, 0, none⟩) 1 c1) Q1 al0_ok hUq1 hwv1 rfl (fun v hv => by rw [List.mem_singleton.1 hv]; exact nV_wf (by decide) (by decide)) (by decide)
  rw [al_e1] at hdo1
  repeat' (first | (refine go_Y ?_; intros) | (refine gs_Y ?_ ?_ <;> (intro hgd; try (simp only [Bool.not_true, Bool.not_false] at hgd))) | (refine gc_Y ?_ ?_ <;> intro _) | fail)
  refine cl_Y (hdo1) ?_
  rintro ⟨⟨b1, hb1⟩, ⟨a1, ha1⟩, P2⟩ ⟨hE2, hbv1⟩
  dsimp only at hE2 hbv1 ⊢
  have hU2 := hUq1.ext hE2
  have hEA2 := hEq1.trans hE2
  refine opsL_map (L' := [relP P2 b al1, P2] ++ R) entD ?_
  repeat' (first | (refine go_Y ?_; intros) | (refine gs_Y ?_ ?_ <;> (intro hgd; try (simp only [Bool.not_true, Bool.not_false] at hgd))) | (refine gc_Y ?_ ?_ <;> intro _) | fail)
  refine cl_Y (num14_spec 2) ?_
  intro _ _
  repeat' (first | (refine go_Y ?_; intros) | (refine gs_Y ?_ ?_ <;> (intro hgd; try (simp only [Bool.not_true, Bool.not_false] at hgd))) | (refine gc_Y ?_ ?_ <;> intro _) | fail)
  refine cl_Y (num14_spec 1) ?_
  intro _ _
  repeat' (first | (refine go_Y ?_; intros) | (refine gs_Y ?_ ?_ <;> (intro hgd; try (simp only [Bool.not_true, Bool.not_false] at hgd))) | (refine gc_Y ?_ ?_ <;> intro _) | fail)
  rename_i w2 hw2
  refine ops_learn (rowShape (e := 50) (n := 4) (v := w2) (xs := [nV 2, nV 1].map valV) (by decide) takeD) ?_
  rintro (⟨rfl, hn⟩ | ⟨g2, c2, rfl, _⟩)
  · cases hn
  refine opsL_map (fun _ h => pool_in (A := row 50 4 (.slice (some ⟨g2, 0, none⟩) 2 c2) ([nV 2, nV 1].map valV)) (P := P2) (Take.out2 takeD h)) ?_
  have hx2 := Ext.pool (row 50 4 (.slice (some ⟨g2, 0, none⟩) 2 c2) ([nV 2, nV 1].map valV)) P2
  have hwv2 : Vw (pool (row 50 4 (.slice (some ⟨g2, 0, none⟩) 2 c2) ([nV 2, nV 1].map valV)) P2) 4 (.slice (some ⟨g2, 0, none⟩) 2 c2) (alO2.row.map valV) := pool_row
  refine opsL_map (fun _ h => relP_ext (b := b) (r := al1) hx2 (Take.out1 takeD h)) ?_
  have hUq2 := hU2.ext hx2
  have hEq2 := hEA2.trans hx2
  generalize pool (row 50 4 (.slice (some ⟨g2, 0, none⟩) 2 c2) ([nV 2, nV 1].map valV)) P2 = Q2 at hx2 hwv2 hUq2 hEq2
  have hdo2 := relDo_spec b al1 alO2 (.slice (some ⟨g2, 0, none⟩) 2 c2) Q2 al1_ok hUq2 hwv2 rfl (fun v hv => by
    simp only [alO2, List.mem_cons, List.not_mem_nil, or_false] at hv
    rcases hv with rfl | rfl <;> exact nV_wf (by decide) (by decide)) (by decide)
  rw [al_e2] at hdo2
  repeat' (first | (refine go_Y ?_; intros) | (refine gs_Y ?_ ?_ <;> (intro hgd; try (simp only [Bool.not_true, Bool.not_false] at hgd))) | (refine gc_Y ?_ ?_ <;> intro _) | fail)
  refine cl_Y (hdo2) ?_
  rintro ⟨⟨b2, hb2⟩, ⟨a2, ha2⟩, P3⟩ ⟨hE3, hbv2⟩
  dsimp only at hE3 hbv2 ⊢
  have hU3 := hUq2.ext hE3
  have hEA3 := hEq2.trans hE3
  refine opsL_map (L' := [row 50 4 a2 ((al1.doOp alO2).2.2.1.map valV), relP P3 b al2, P3] ++ R) entD ?_
  have hwh2 := relWhole_spec b al2 P3 al2_ok
  rw [al_w2, cond_true] at hwh2
  repeat' (first | (refine go_Y ?_; intros) | (refine gs_Y ?_ ?_ <;> (intro hgd; try (simp only [Bool.not_true, Bool.not_false] at hgd))) | (refine gc_Y ?_ ?_ <;> intro _) | fail)
  refine cl_Y (hwh2) ?_
  intro _ _
  repeat' (first | (refine go_Y ?_; intros) | (refine gs_Y ?_ ?_ <;> (intro hgd; try (simp only [Bool.not_true, Bool.not_false] at hgd))) | (refine gc_Y ?_ ?_ <;> intro _) | fail)
  refine cl_Y (num14_spec 1) ?_
  intro _ _
  repeat' (first | (refine go_Y ?_; intros) | (refine gs_Y ?_ ?_ <;> (intro hgd; try (simp only [Bool.not_true, Bool.not_false] at hgd))) | (refine gc_Y ?_ ?_ <;> intro _) | fail)
  rename_i w3 hw3
  refine ops_learn (rowShape (e := 50) (n := 4) (v := w3) (xs := [nV 1].map valV) (by decide) takeD) ?_
  rintro (⟨rfl, hn⟩ | ⟨g3, c3, rfl, _⟩)
  · cases hn
  refine opsL_map (fun _ h => pool_in (A := row 50 4 (.slice (some ⟨g3, 0, none⟩) 1 c3) ([nV 1].map valV)) (P := P3) (Take.out2 takeD h)) ?_
  have hx3 := Ext.pool (row 50 4 (.slice (some ⟨g3, 0, none⟩) 1 c3) ([nV 1].map valV)) P3
  have hwv3 : Vw (pool (row 50 4 (.slice (some ⟨g3, 0, none⟩) 1 c3) ([nV 1].map valV)) P3) 4 (.slice (some ⟨g3, 0, none⟩) 1 c3) (alO3.row.map valV) := pool_row
  refine opsL_map (fun _ h => relP_ext (b := b) (r := al2) hx3 (Take.out1 takeD h)) ?_
  have hUq3 := hU3.ext hx3
  have hEq3 := hEA3.trans hx3
  generalize pool (row 50 4 (.slice (some ⟨g3, 0, none⟩) 1 c3) ([nV 1].map valV)) P3 = Q3 at hx3 hwv3 hUq3 hEq3
  have hdo3 := relDo_spec b al2 alO3 (.slice (some ⟨g3, 0, none⟩) 1 c3) Q3 al2_ok hUq3 hwv3 rfl (fun v hv => by rw [List.mem_singleton.1 hv]; exact nV_wf (by decide) (by decide)) (by decide)
  rw [al_e3] at hdo3
  repeat' (first | (refine go_Y ?_; intros) | (refine gs_Y ?_ ?_ <;> (intro hgd; try (simp only [Bool.not_true, Bool.not_false] at hgd))) | (refine gc_Y ?_ ?_ <;> intro _) | fail)
  refine cl_Y (hdo3) ?_
  rintro ⟨⟨b3, hb3⟩, ⟨a3, ha3⟩, P4⟩ ⟨hE4, hbv3⟩
  dsimp only at hE4 hbv3 ⊢
  have hEA4 := hEq3.trans hE4
  refine opsL_map (L' := [row 50 4 a2 ((al1.doOp alO2).2.2.1.map valV), relP P4 b al3, P4] ++ R) entD ?_
  have hnb := new_bad (.slice none 0 0) [] P4 ⟨vw_nil5, (fun _ h => by cases h), by show (0 : Nat) ≤ _; decide, cap0⟩ rfl
  have hwh3 := relWhole_spec b al3 P4 al3_ok
  rw [al_w3, cond_false] at hwh3
  have hln := relLen_spec b al3 P4
  rw [al_n3, show ((1 : Nat) : Int) = 1 from rfl] at hln
  repeat' (first | (refine go_Y ?_; intros) | (refine gs_Y ?_ ?_ <;> (intro hgd; try (simp only [Bool.not_true, Bool.not_false] at hgd))) | (refine gc_Y ?_ ?_ <;> intro _) | fail)
  refine cl_Y (hnb) ?_
  intro _ _
  repeat' (first | (refine go_Y ?_; intros) | (refine gs_Y ?_ ?_ <;> (intro hgd; try (simp only [Bool.not_true, Bool.not_false] at hgd))) | (refine gc_Y ?_ ?_ <;> intro _) | fail)
  refine cl_Y (hwh3) ?_
  intro _ _
  repeat' (first | (refine go_Y ?_; intros) | (refine gs_Y ?_ ?_ <;> (intro hgd; try (simp only [Bool.not_true, Bool.not_false] at hgd))) | (refine gc_Y ?_ ?_ <;> intro _) | fail)
  refine cl_Y (hln) ?_
  intro _ _
  repeat' (first | (refine go_Y ?_; intros) | (refine gs_Y ?_ ?_ <;> (intro hgd; try (simp only [Bool.not_true, Bool.not_false] at hgd))) | (refine gc_Y ?_ ?_ <;> intro _) | fail)
  refine cont_map (fun _ h => ext_in hEA4 (Take.out1 takeD h)) ?_
  (refine rt_Y (y := ()) (hrs := Tryz.results9) (hv := ?_) (hφ := ?_))
  · rfl
  · trivial
end Go.Proofs.YtbagfdolcabniaaGreatDoor
/- The laws' guards: Large (13), Heavy (14). -/
-- @DEFS Y
set_option linter.unusedSimpArgs false
set_option linter.unusedVariables false
set_option maxRecDepth 100000
namespace Go.Proofs.YtbagfdolcabniaaGreatDoor
open Go Go.Fx Go.Proofs Go.Pl

/-- A table, a schema, in memory, of whatever length. -/
structure TbR (A : HProp) (t : Tb) : Prop where
  vw : Vw A 3 t.cv.1 (t.cols.map coV)
  len : t.cols.length ≤ 5864062014805
  nm : t.name.size ≤ 140737488355328
  cnm : ∀ c ∈ t.cols, c.name.size ≤ 140737488355328
structure SVr (A : HProp) (vs : Value) (ts : List Tb) : Prop where
  vw : Vw A 5 vs (ts.map tbV)
  tab : ∀ t ∈ ts, TbR A t
  len : ts.length ≤ 140737488355328
  cap : capOk vs
def smallS (ts : List Tb) : Prop := ts.length ≤ 30 ∧ ∀ t ∈ ts, t.cols.length ≤ 600
theorem SVr.sv {A : HProp} {vs : Value} {ts : List Tb} (h : SVr A vs ts) (_ : smallS ts) : SV A vs ts :=
  ⟨h.vw, fun t ht => ⟨(h.tab t ht).vw, (h.tab t ht).len, (h.tab t ht).nm, (h.tab t ht).cnm⟩, h.len, h.cap⟩
theorem SVr.sv0 {A : HProp} {vs : Value} {ts : List Tb} (h : SVr A vs ts) : SV A vs ts :=
  ⟨h.vw, fun t ht => ⟨(h.tab t ht).vw, (h.tab t ht).len, (h.tab t ht).nm, (h.tab t ht).cnm⟩, h.len, h.cap⟩

set_option maxHeartbeats 4000000 in
theorem large_spec (vs : Value) (ts : List Tb) (A : HProp) (h : SVr A vs ts) :
    FSpec Tryz.prog 39 [.agg #[vs]] [A] Bool (fun y => y = false → smallS ts) (fun y => .bool y) (fun _ => [A]) := by
  have hv := h.vw
  have hz := h.len
  have lm : (ts.map tbV).length = ts.length := by simp
  refine spec_intro [] _ Tryz.func39 rfl Tryz.ntmps39 (by rfl) (fun w0 R => ?_)
  refine ok_learn (VwIn.slice (VwIn.here hv)) ?_
  rintro ⟨pv, cv, rfl⟩
  repeat' (first | (refine go_Y ?_; intros) | (refine gs_Y ?_ ?_ <;> (intro hgd; try (simp only [Bool.not_true, Bool.not_false] at hgd))) | (refine gc_Y ?_ ?_ <;> intro _) | fail)
  rename_i b1
  refine ok_loop' (γ := Nat × Nat) (fun g ρ L => g.1 ≤ ts.length ∧ g.1 ≤ 40 ∧ (∀ t ∈ ts.take g.1, t.cols.length ≤ g.2) ∧ g.2 ≤ g.1 * 9007199254740992 ∧ Knows ρ [(1, .pointer (some ⟨b1, 0, none⟩)), (3, .int .i64 (g.2 : Int)), (4, .int .i64 g.1)] ∧ L = [pts b1 (.cells [.slice pv (ts.map tbV).length cv].toArray 24), A] ++ R) (fun g => ts.length - g.1) (0, 0)
    ⟨by omega, by omega, fun _ h => by simp at h, by simp, ⟨rfl, rfl, rfl, trivial⟩, rfl⟩ ?_
  rintro ⟨i, n⟩ ρ L ⟨hi, hi1, hall, hn, hk, rfl⟩
  dsimp only at hi hi1 hall hn hk ⊢
  refine ok_regs hk ?_
  have hend : (decide ((30 : Int) < ((ts.map tbV).length : Int)) || decide ((600 : Int) < (n : Int))) = false → (i = ts.length ∨ i = 40) → smallS ts := fun hb he => by
    simp only [Bool.or_eq_false_iff, decide_eq_false_iff_not] at hb
    have hie : i = ts.length := by omega
    rw [hie, List.take_length] at hall
    exact ⟨by omega, fun t ht => by have := hall t ht; omega⟩
  cases t1 : decide ((i : Int) < ((ts.map tbV).length : Int)) with
  | false =>
    have hie : i = ts.length := by have := of_decide_eq_false t1; omega
    cases u1 : decide ((30 : Int) < ((ts.map tbV).length : Int)) with
    | true =>
      repeat' (first | (refine go_Y ?_; intros) | (refine gs_Y ?_ ?_ <;> (intro hgd; try (simp only [Bool.not_true, Bool.not_false] at hgd))) | (refine gc_Y ?_ ?_ <;> intro _) | fail)
      (refine rt_Y (y := true) (hrs := Tryz.results39) (hv := ?_) (hφ := ?_))
      · rfl
      · intro hb; cases hb
    | false =>
      repeat' (first | (refine go_Y ?_; intros) | (refine gs_Y ?_ ?_ <;> (intro hgd; try (simp only [Bool.not_true, Bool.not_false] at hgd))) | (refine gc_Y ?_ ?_ <;> intro _) | fail)
      (refine rt_Y (y := decide ((600 : Int) < (n : Int))) (hrs := Tryz.results39) (hv := ?_) (hφ := ?_))
      · rfl
      · exact fun hb => hend (by rw [u1, hb]; rfl) (.inl hie)
  | true =>
    have h0 : i < ts.length := by have := of_decide_eq_true t1; omega
    cases t2 : decide ((i : Int) < 40) with
    | false =>
      have hie : i = 40 := by have := of_decide_eq_false t2; omega
      cases u1 : decide ((30 : Int) < ((ts.map tbV).length : Int)) with
      | true =>
        repeat' (first | (refine go_Y ?_; intros) | (refine gs_Y ?_ ?_ <;> (intro hgd; try (simp only [Bool.not_true, Bool.not_false] at hgd))) | (refine gc_Y ?_ ?_ <;> intro _) | fail)
        (refine rt_Y (y := true) (hrs := Tryz.results39) (hv := ?_) (hφ := ?_))
        · rfl
        · intro hb; cases hb
      | false =>
        repeat' (first | (refine go_Y ?_; intros) | (refine gs_Y ?_ ?_ <;> (intro hgd; try (simp only [Bool.not_true, Bool.not_false] at hgd))) | (refine gc_Y ?_ ?_ <;> intro _) | fail)
        (refine rt_Y (y := decide ((600 : Int) < (n : Int))) (hrs := Tryz.results39) (hv := ?_) (hφ := ?_))
        · rfl
        · exact fun hb => hend (by rw [u1, hb]; rfl) (.inr hie)
    | true =>
      have h40 : i < 40 := by have := of_decide_eq_true t2; omega
      have hti : ts[i]? = some ts[i] := List.getElem?_eq_getElem h0
      have hx : (ts.map tbV)[i]? = some (tbV ts[i]) := by rw [List.getElem?_map, hti]; rfl
      have hnn : i < (ts.map tbV).length := by omega
      have htk : ts.take (i + 1) = ts.take i ++ [ts[i]] := List.take_succ_eq_append_getElem h0
      obtain ⟨hcv, hcl, hcn, hcs⟩ := h.tab _ (List.getElem_mem h0)
      refine ok_learn (VwIn.base (VwIn.there (VwIn.here hv)) (by intro e; rw [e] at hnn; simp at hnn)) ?_
      rintro ⟨bu, ou, rfl⟩
      generalize ts[i] = t at hx htk hcv hcl hcn hcs
      obtain ⟨tn, cols, ⟨cv', hcv'⟩, key, ref, par⟩ := t
      dsimp only [tbV] at hx hcv hcl hcn hcs
      have lc : (cols.map coV).length = cols.length := by simp
      refine ok_learn (VwIn.slice (VwIn.there (VwIn.here hcv))) ?_
      rintro ⟨pc, cc, rfl⟩
      have hq := quo_nat tn.size 16 (by decide) hcn
      have hqb : tn.size / 16 ≤ 140737488355328 := Nat.le_trans (Nat.div_le_self _ _) hcn
      generalize tn.size / 16 = q at hq hqb
      have hq' : IntKind.i64.wrap ((tn.size : Int).tdiv 16) = (q : Int) := hq
      have hib : i * 9007199254740992 ≤ 40 * 9007199254740992 := Nat.mul_le_mul_right _ hi1
      repeat' (first | (refine go_Y ?_; intros) | (refine gs_Y ?_ ?_ <;> (intro hgd; try (simp only [Bool.not_true, Bool.not_false] at hgd))) | (refine gc_Y ?_ ?_ <;> intro _) | fail)
      refine ok_loop' (γ := Nat × Nat) (fun g ρ L => g.1 ≤ cols.length ∧ g.1 ≤ 40 ∧ n + cols.length + q ≤ g.2 ∧ g.2 ≤ n + cols.length + q + g.1 * 140737488355328 ∧ Knows ρ [(1, .pointer (some ⟨b1, 0, none⟩)), (3, .int .i64 (g.2 : Int)), (4, .int .i64 i), (5, .int .i64 g.1)] ∧ L = [pts b1 (.cells [.slice (some ⟨bu, ou, none⟩) (ts.map tbV).length cv].toArray 24), A] ++ R) (fun g => cols.length - g.1) (0, n + cols.length + q)
        ⟨by omega, by omega, by simp, by simp, ⟨rfl, by show Value.int .i64 ((n : Int) + ((cols.map coV).length : Int) + (q : Int)) = _; rw [lc]; simp, rfl, rfl, trivial⟩, rfl⟩ ?_
      rintro ⟨k, z⟩ ρ L ⟨hk0, hk1, hz1, hz2, hk', rfl⟩
      dsimp only at hk0 hk1 hz1 hz2 hk' ⊢
      refine ok_regs hk' ?_
      have hkb : k * 140737488355328 ≤ 40 * 140737488355328 := Nat.mul_le_mul_right _ hk1
      have hnext : ∀ x ∈ ts.take (i + 1), x.cols.length ≤ z := fun x hx => by
        rw [htk] at hx
        rcases List.mem_append.1 hx with hx | hx
        · have := hall x hx; omega
        · rw [List.mem_singleton] at hx; subst hx; dsimp only; omega
      have hzz : z ≤ (i + 1) * 9007199254740992 := by rw [Nat.succ_mul]; omega
      cases t3 : decide ((k : Int) < ((cols.map coV).length : Int)) with
      | false =>
        repeat' (first | (refine go_Y ?_; intros) | (refine gs_Y ?_ ?_ <;> (intro hgd; try (simp only [Bool.not_true, Bool.not_false] at hgd))) | (refine gc_Y ?_ ?_ <;> intro _) | fail)
        refine cont_back (i + 1, z) ⟨h0, by dsimp only; omega, hnext, hzz, ⟨rfl, rfl, rfl, trivial⟩, rfl⟩ (by show ts.length - (i + 1) < ts.length - i; omega)
      | true =>
        have hkl : k < cols.length := by have := of_decide_eq_true t3; omega
        cases t4 : decide ((k : Int) < 40) with
        | false =>
          repeat' (first | (refine go_Y ?_; intros) | (refine gs_Y ?_ ?_ <;> (intro hgd; try (simp only [Bool.not_true, Bool.not_false] at hgd))) | (refine gc_Y ?_ ?_ <;> intro _) | fail)
          refine cont_back (i + 1, z) ⟨h0, by dsimp only; omega, hnext, hzz, ⟨rfl, rfl, rfl, trivial⟩, rfl⟩ (by show ts.length - (i + 1) < ts.length - i; omega)
        | true =>
          have hk4 : k < 40 := by have := of_decide_eq_true t4; omega
          have hxc : (cols.map coV)[k]? = some (coV cols[k]) := by rw [List.getElem?_map, List.getElem?_eq_getElem hkl]; rfl
          have hnk : k < (cols.map coV).length := by omega
          have hcz := hcs _ (List.getElem_mem hkl)
          refine ok_learn (VwIn.base (VwIn.there (VwIn.here hcv)) (by intro e; rw [e] at hnk; simp at hnk)) ?_
          rintro ⟨bc, oc, rfl⟩
          generalize cols[k] = c at hxc hcz
          obtain ⟨cn, ck, cb⟩ := c
          dsimp only [coV] at hxc hcz
          have hp := quo_nat cn.size 16 (by decide) hcz
          have hpb : cn.size / 16 ≤ 140737488355328 := Nat.le_trans (Nat.div_le_self _ _) hcz
          generalize cn.size / 16 = p at hp hpb
          have hp' : IntKind.i64.wrap ((cn.size : Int).tdiv 16) = (p : Int) := hp
          repeat' (first | (refine go_Y ?_; intros) | (refine gs_Y ?_ ?_ <;> (intro hgd; try (simp only [Bool.not_true, Bool.not_false] at hgd))) | (refine gc_Y ?_ ?_ <;> intro _) | fail)
          refine cont_back (k + 1, z + p) ⟨hkl, by dsimp only; omega, by dsimp only; omega, by dsimp only; rw [Nat.succ_mul]; omega, ⟨rfl, by show Value.int .i64 ((z : Int) + (p : Int)) = _; simp, rfl, rfl, trivial⟩, rfl⟩ (by show cols.length - (k + 1) < cols.length - k; omega)
end Go.Proofs.YtbagfdolcabniaaGreatDoor
