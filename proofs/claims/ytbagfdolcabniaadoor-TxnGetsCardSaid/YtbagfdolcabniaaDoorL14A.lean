/- The laws of rows: Same (fascicleref04), num, Two. -/
import Derived.Test.YtbagfdolcabniaaDoorRlH
-- @DEFS Y
set_option linter.unusedSimpArgs false
set_option linter.unusedVariables false
set_option maxRecDepth 100000
namespace Go.Proofs.YtbagfdolcabniaaDoor
open Go Go.Fx Go.Proofs Go.Pl

instance : DecidableEq (List Vl) := inferInstance
set_option maxHeartbeats 1000000 in
theorem same04_spec (a c : List Vl) (u w : Value) (A B : HProp) (hA : Vw A 4 u (a.map valV)) (hB : Vw B 4 w (c.map valV)) (hz : a.length ≤ 1000000) :
    FSpec Tryd.prog 17 [u, w] [A, B] Unit (fun _ => True) (fun _ => .bool (decide (a = c))) (fun _ => [A, B]) := by
  have la : (a.map valV).length = a.length := by simp
  have lc : (c.map valV).length = c.length := by simp
  refine spec_intro [] _ Tryd.func17 rfl Tryd.ntmps17 (by rfl) (fun w0 R => ?_)
  refine ok_learn (VwIn.slice (VwIn.here hA)) ?_
  rintro ⟨pu, cu, rfl⟩
  refine ok_learn (VwIn.slice (VwIn.there (VwIn.here hB))) ?_
  rintro ⟨pw, cw, rfl⟩
  cases t0 : (!decide (((a.map valV).length : Int) = ((c.map valV).length : Int))) with
  | true =>
    have hne : decide (a = c) = false := by simp; intro e; subst e; simp at t0
    rw [hne]
    repeat' (first | (refine go_Y ?_; intros) | (refine gs_Y ?_ ?_ <;> (intro hgd; try (simp only [Bool.not_true, Bool.not_false] at hgd))) | (refine gc_Y ?_ ?_ <;> intro _) | fail)
    (refine rt_Y (y := ()) (hrs := Tryd.results17) (hv := ?_) (hφ := ?_))
    · rfl
    · trivial
  | false =>
    have hlen : a.length = c.length := by simp at t0; omega
    repeat' (first | (refine go_Y ?_; intros) | (refine gs_Y ?_ ?_ <;> (intro hgd; try (simp only [Bool.not_true, Bool.not_false] at hgd))) | (refine gc_Y ?_ ?_ <;> intro _) | fail)
    refine ok_loop' (γ := Nat) (fun i ρ L => i ≤ a.length ∧ a.take i = c.take i ∧ Knows ρ [(0, .slice pu (a.map valV).length cu), (1, .slice pw (c.map valV).length cw), (5, .int .i64 i)] ∧ L = [A, B] ++ R) (fun i => a.length - i) 0 ⟨by omega, by simp, ⟨rfl, rfl, rfl, trivial⟩, rfl⟩ ?_
    rintro i ρ L ⟨hi, he, hk, rfl⟩
    refine ok_regs hk ?_
    cases t1 : decide ((i : Int) < ((a.map valV).length : Int)) with
    | false =>
      have hie : i = a.length := by have := of_decide_eq_false t1; omega
      have hac : decide (a = c) = true := by
        rw [hie, List.take_length] at he
        rw [hlen, List.take_length] at he
        simp [he]
      rw [hac]
      repeat' (first | (refine go_Y ?_; intros) | (refine gs_Y ?_ ?_ <;> (intro hgd; try (simp only [Bool.not_true, Bool.not_false] at hgd))) | (refine gc_Y ?_ ?_ <;> intro _) | fail)
      (refine rt_Y (y := ()) (hrs := Tryd.results17) (hv := ?_) (hφ := ?_))
      · rfl
      · trivial
    | true =>
      have h : i < a.length := by have := of_decide_eq_true t1; omega
      have hc' : i < c.length := by omega
      have hx : (a.map valV)[i]? = some (valV a[i]) := by rw [List.getElem?_map, List.getElem?_eq_getElem h]; rfl
      have hy : (c.map valV)[i]? = some (valV c[i]) := by rw [List.getElem?_map, List.getElem?_eq_getElem hc']; rfl
      have hn1 : i < (a.map valV).length := by omega
      have hn2 : i < (c.map valV).length := by omega
      have t1a : a.take (i + 1) = a.take i ++ [a[i]] := List.take_succ_eq_append_getElem h
      have t1c : c.take (i + 1) = c.take i ++ [c[i]] := List.take_succ_eq_append_getElem hc'
      have hq := eqL_valV a[i] c[i]
      have hdiff : a[i] ≠ c[i] → decide (a = c) = false := fun hn => by
        simp only [decide_eq_false_iff_not]
        intro e; subst e; exact hn rfl
      refine ok_learn (VwIn.base (VwIn.here hA) (by intro e; rw [e] at hn1; simp at hn1)) ?_
      rintro ⟨bu, ou, rfl⟩
      refine ok_learn (VwIn.base (VwIn.there (VwIn.here hB)) (by intro e; rw [e] at hn2; simp at hn2)) ?_
      rintro ⟨bw, ow, rfl⟩
      generalize a[i] = x at hx hq hdiff t1a
      generalize c[i] = y at hy hq hdiff t1c
      obtain ⟨xk, xi, xr, xs⟩ := x
      obtain ⟨yk, yi, yr, ys⟩ := y
      dsimp only [valV] at hx hy hq
      cases hn : nilB BinOp.neq (eqL [TypeDesc.int .u8, TypeDesc.int .i64, TypeDesc.int .u64, TypeDesc.string] [Value.int .u8 xk, Value.int .i64 xi, Value.int .u64 xr, Value.string xs] [Value.int .u8 yk, Value.int .i64 yi, Value.int .u64 yr, Value.string ys]) with
      | true =>
        have hd : (⟨xk, xi, xr, xs⟩ : Vl) ≠ ⟨yk, yi, yr, ys⟩ := by
          rw [hq] at hn
          have : decide ((⟨xk, xi, xr, xs⟩ : Vl) = ⟨yk, yi, yr, ys⟩) = false := by simpa only [nilB, Bool.not_eq_true'] using hn
          exact of_decide_eq_false this
        rw [hdiff hd]
        repeat' (first | (refine go_Y ?_; intros) | (refine gs_Y ?_ ?_ <;> (intro hgd; try (simp only [Bool.not_true, Bool.not_false] at hgd))) | (refine gc_Y ?_ ?_ <;> intro _) | fail)
        (refine rt_Y (y := ()) (hrs := Tryd.results17) (hv := ?_) (hφ := ?_))
        · rfl
        · trivial
      | false =>
        have hd : (⟨xk, xi, xr, xs⟩ : Vl) = ⟨yk, yi, yr, ys⟩ := by
          rw [hq] at hn
          have : decide ((⟨xk, xi, xr, xs⟩ : Vl) = ⟨yk, yi, yr, ys⟩) = true := by simpa only [nilB, Bool.not_eq_false'] using hn
          exact of_decide_eq_true this
        repeat' (first | (refine go_Y ?_; intros) | (refine gs_Y ?_ ?_ <;> (intro hgd; try (simp only [Bool.not_true, Bool.not_false] at hgd))) | (refine gc_Y ?_ ?_ <;> intro _) | fail)
        refine cont_map (L' := [A, B] ++ R) entD ?_
        refine cont_back (i + 1) ⟨h, by rw [t1a, t1c, he, hd], ⟨rfl, rfl, rfl, trivial⟩, rfl⟩ (by omega)
theorem num14_spec (n : Int) : FSpec Tryd.prog 52 [.int .i64 n] [] Unit (fun _ => True) (fun _ => .agg (valV ⟨2, n, 0, ⟨#[]⟩⟩).toArray) (fun _ => []) := by
  refine spec_intro [] _ Tryd.func52 rfl Tryd.ntmps52 (by rfl) (fun w0 R => ?_)
  repeat' (first | (refine go_Y ?_; intros) | (refine gs_Y ?_ ?_ <;> (intro hgd; try (simp only [Bool.not_true, Bool.not_false] at hgd))) | (refine gc_Y ?_ ?_ <;> intro _) | fail)
  (refine rt_Y (y := ()) (hrs := Tryd.results52) (hv := ?_) (hφ := ?_))
  · rfl
  · trivial
def twoS : Sc := [⟨⟨#[97]⟩, [⟨⟨#[105, 100]⟩, 2, false⟩], 0, -1, -1⟩, ⟨⟨#[98]⟩, [⟨⟨#[105, 100]⟩, 2, false⟩, ⟨⟨#[111, 102]⟩, 2, false⟩], 0, 1, 0⟩]
theorem two_ok : checkS twoS = true := by decide +kernel
end Go.Proofs.YtbagfdolcabniaaDoor
