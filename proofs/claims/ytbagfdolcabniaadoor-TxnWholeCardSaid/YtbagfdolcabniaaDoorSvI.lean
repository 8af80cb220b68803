/- rel.Rows; two rows of rows told apart. -/
import Derived.Test.YtbagfdolcabniaaDoorSvH
import Derived.Test.YtbagfdolcabniaaDoorTxH
-- @DEFS Y
set_option linter.unusedSimpArgs false
set_option linter.unusedVariables false
set_option maxRecDepth 100000
set_option pp.deepTerms true
set_option pp.maxSteps 200000
namespace Go.Proofs.YtbagfdolcabniaaDoor
open Go Go.Fx Go.Proofs Go.Pl

set_option maxHeartbeats 1000000 in
theorem same04Q_spec (a c : List Vl) (u w : Value) (A : HProp) (hA : Vw A 4 u (a.map valV)) (hB : Vw A 4 w (c.map valV)) (hz : a.length ≤ 1000000) :
    FSpec Tryd.prog 17 [u, w] [A] Unit (fun _ => True) (fun _ => .bool (decide (a = c))) (fun _ => [A]) := by
  have la : (a.map valV).length = a.length := by simp
  have lc : (c.map valV).length = c.length := by simp
  refine spec_intro [] _ Tryd.func17 rfl Tryd.ntmps17 (by rfl) (fun w0 R => ?_)
  refine ok_learn (VwIn.slice (VwIn.here hA)) ?_
  rintro ⟨pu, cu, rfl⟩
  refine ok_learn (VwIn.slice (VwIn.here hB)) ?_
  rintro ⟨pw, cw, rfl⟩
  cases t0 : (!decide (((a.map valV).length : Int) = ((c.map valV).length : Int))) with
  | true =>
    have hne : decide (a = c) = false := by simp; intro e; subst e; simp at t0
    rw [hne]
    repeat' (first | (refine go_Y ?_; intros) | (refine gs_Y ?_ ?_ <;> (intro hgd; try (simp only [Bool.not_true, Bool.not_false] at hgd))) | (refine gc_Y ?_ ?_ <;> intro _) | fail)
    (refine rt_Y (y := ()) (hrs := Tryd.results17) (hv := ?_) (hφ := ?_))
    · rfl
    · trivial
  | false =>
    have hlen : a.length = c.length := by simp at t0; omega
    repeat' (first | (refine go_Y ?_; intros) | (refine gs_Y ?_ ?_ <;> (intro hgd; try (simp only [Bool.not_true, Bool.not_false] at hgd))) | (refine gc_Y ?_ ?_ <;> intro _) | fail)
    refine ok_loop' (γ := Nat) (fun i ρ L => i ≤ a.length ∧ a.take i = c.take i ∧ Knows ρ [(0, .slice pu (a.map valV).length cu), (1, .slice pw (c.map valV).length cw), (5, .int .i64 i)] ∧ L = [A] ++ R) (fun i => a.length - i) 0 ⟨by omega, by simp, ⟨rfl, rfl, rfl, trivial⟩, rfl⟩ ?_
    rintro i ρ L ⟨hi, he, hk, rfl⟩
    refine ok_regs hk ?_
    cases t1 : decide ((i : Int) < ((a.map valV).length : Int)) with
    | false =>
      have hie : i = a.length := by have := of_decide_eq_false t1; omega
      have hac : decide (a = c) = true := by
        rw [hie, List.take_length] at he
        rw [hlen, List.take_length] at he
        simp [he]
      rw [hac]
      repeat' (first | (refine go_Y ?_; intros) | (refine gs_Y ?_ ?_ <;> (intro hgd; try (simp only [Bool.not_true, Bool.not_false] at hgd))) | (refine gc_Y ?_ ?_ <;> intro _) | fail)
      (refine rt_Y (y := ()) (hrs := Tryd.results17) (hv := ?_) (hφ := ?_))
      · rfl
      · trivial
    | true =>
      have h : i < a.length := by have := of_decide_eq_true t1; omega
      have hc' : i < c.length := by omega
      have hx : (a.map valV)[i]? = some (valV a[i]) := by rw [List.getElem?_map, List.getElem?_eq_getElem h]; rfl
      have hy : (c.map valV)[i]? = some (valV c[i]) := by rw [List.getElem?_map, List.getElem?_eq_getElem hc']; rfl
      have hn1 : i < (a.map valV).length := by omega
      have hn2 : i < (c.map valV).length := by omega
      have t1a : a.take (i + 1) = a.take i ++ [a[i]] := List.take_succ_eq_append_getElem h
      have t1c : c.take (i + 1) = c.take i ++ [c[i]] := List.take_succ_eq_append_getElem hc'
      have hq := eqL_valV a[i] c[i]
      have hdiff : a[i] ≠ c[i] → decide (a = c) = false := fun hn => by
        simp only [decide_eq_false_iff_not]
        intro e; subst e; exact hn rfl
      refine ok_learn (VwIn.base (VwIn.here hA) (by intro e; rw [e] at hn1; simp at hn1)) ?_
      rintro ⟨bu, ou, rfl⟩
      refine ok_learn (VwIn.base (VwIn.here hB) (by intro e; rw [e] at hn2; simp at hn2)) ?_
      rintro ⟨bw, ow, rfl⟩
      generalize a[i] = x at hx hq hdiff t1a
      generalize c[i] = y at hy hq hdiff t1c
      obtain ⟨xk, xi, xr, xs⟩ := x
      obtain ⟨yk, yi, yr, ys⟩ := y
      dsimp only [valV] at hx hy hq
      cases hn : nilB BinOp.neq (eqL [TypeDesc.int .u8, TypeDesc.int .i64, TypeDesc.int .u64, TypeDesc.string] [Value.int .u8 xk, Value.int .i64 xi, Value.int .u64 xr, Value.string xs] [Value.int .u8 yk, Value.int .i64 yi, Value.int .u64 yr, Value.string ys]) with
      | true =>
        have hd : (⟨xk, xi, xr, xs⟩ : Vl) ≠ ⟨yk, yi, yr, ys⟩ := by
          rw [hq] at hn
          have : decide ((⟨xk, xi, xr, xs⟩ : Vl) = ⟨yk, yi, yr, ys⟩) = false := by simpa only [nilB, Bool.not_eq_true'] using hn
          exact of_decide_eq_false this
        rw [hdiff hd]
        repeat' (first | (refine go_Y ?_; intros) | (refine gs_Y ?_ ?_ <;> (intro hgd; try (simp only [Bool.not_true, Bool.not_false] at hgd))) | (refine gc_Y ?_ ?_ <;> intro _) | fail)
        (refine rt_Y (y := ()) (hrs := Tryd.results17) (hv := ?_) (hφ := ?_))
        · rfl
        · trivial
      | false =>
        have hd : (⟨xk, xi, xr, xs⟩ : Vl) = ⟨yk, yi, yr, ys⟩ := by
          rw [hq] at hn
          have : decide ((⟨xk, xi, xr, xs⟩ : Vl) = ⟨yk, yi, yr, ys⟩) = true := by simpa only [nilB, Bool.not_eq_false'] using hn
          exact of_decide_eq_true this
        repeat' (first | (refine go_Y ?_; intros) | (refine gs_Y ?_ ?_ <;> (intro hgd; try (simp only [Bool.not_true, Bool.not_false] at hgd))) | (refine gc_Y ?_ ?_ <;> intro _) | fail)
        refine cont_map (L' := [A] ++ R) entD ?_
        refine cont_back (i + 1) ⟨h, by rw [t1a, t1c, he, hd], ⟨rfl, rfl, rfl, trivial⟩, rfl⟩ (by omega)
set_option maxHeartbeats 1000000 in
theorem same14_spec (a c : List Rw) (u w : Value) (A B Q : HProp) (hA : Vw A 1 u (a.map rwV)) (hB : Vw B 1 w (c.map rwV)) (qa : ∀ x ∈ a, Vw Q 4 x.1.1 (x.2.map valV)) (qc : ∀ x ∈ c, Vw Q 4 x.1.1 (x.2.map valV)) (hz : a.length ≤ 1000000) (hza : ∀ x ∈ a, x.2.length ≤ 1000000) :
    FSpec Tryd.prog 48 [u, w] [A, B, Q] Unit (fun _ => True) (fun _ => .bool (decide (a.map (·.2) = c.map (·.2)))) (fun _ => [A, B, Q]) := by
  have la : (a.map rwV).length = a.length := by simp
  have lc : (c.map rwV).length = c.length := by simp
  refine spec_intro [] _ Tryd.func48 rfl Tryd.ntmps48 (by rfl) (fun w0 R => ?_)
  refine ok_learn (VwIn.slice (VwIn.here hA)) ?_
  rintro ⟨pu, cu, rfl⟩
  refine ok_learn (VwIn.slice (VwIn.there (VwIn.here hB))) ?_
  rintro ⟨pw, cw, rfl⟩
  cases t0 : (!decide (((a.map rwV).length : Int) = ((c.map rwV).length : Int))) with
  | true =>
    have hne : decide (a.map (·.2) = c.map (·.2)) = false := by
      simp only [decide_eq_false_iff_not]
      intro e
      have := congrArg List.length e
      simp only [List.length_map] at this
      simp [this] at t0
    rw [hne]
    repeat' (first | (refine go_Y ?_; intros) | (refine gs_Y ?_ ?_ <;> (intro hgd; try (simp only [Bool.not_true, Bool.not_false] at hgd))) | (refine gc_Y ?_ ?_ <;> intro _) | fail)
    (refine rt_Y (y := ()) (hrs := Tryd.results48) (hv := ?_) (hφ := ?_))
    · rfl
    · trivial
  | false =>
    have hlen : a.length = c.length := by simp at t0; omega
    repeat' (first | (refine go_Y ?_; intros) | (refine gs_Y ?_ ?_ <;> (intro hgd; try (simp only [Bool.not_true, Bool.not_false] at hgd))) | (refine gc_Y ?_ ?_ <;> intro _) | fail)
    refine ok_loop' (γ := Nat) (fun i ρ L => i ≤ a.length ∧ (a.map (·.2)).take i = (c.map (·.2)).take i ∧ Knows ρ [(0, .slice pu (a.map rwV).length cu), (1, .slice pw (c.map rwV).length cw), (5, .int .i64 i)] ∧ L = [A, B, Q] ++ R) (fun i => a.length - i) 0 ⟨by omega, by simp, ⟨rfl, rfl, rfl, trivial⟩, rfl⟩ ?_
    rintro i ρ L ⟨hi, he, hk, rfl⟩
    refine ok_regs hk ?_
    cases t1 : decide ((i : Int) < ((a.map rwV).length : Int)) with
    | false =>
      have hie : i = a.length := by have := of_decide_eq_false t1; omega
      have hac : decide (a.map (·.2) = c.map (·.2)) = true := by
        rw [List.take_of_length_le (by simp; omega), List.take_of_length_le (by simp; omega)] at he
        exact decide_eq_true he
      rw [hac]
      repeat' (first | (refine go_Y ?_; intros) | (refine gs_Y ?_ ?_ <;> (intro hgd; try (simp only [Bool.not_true, Bool.not_false] at hgd))) | (refine gc_Y ?_ ?_ <;> intro _) | fail)
      (refine rt_Y (y := ()) (hrs := Tryd.results48) (hv := ?_) (hφ := ?_))
      · rfl
      · trivial
    | true =>
      have h : i < a.length := by have := of_decide_eq_true t1; omega
      have hc' : i < c.length := by omega
      have hx : (a.map rwV)[i]? = some (rwV a[i]) := by rw [List.getElem?_map, List.getElem?_eq_getElem h]; rfl
      have hy : (c.map rwV)[i]? = some (rwV c[i]) := by rw [List.getElem?_map, List.getElem?_eq_getElem hc']; rfl
      have hn1 : i < (a.map rwV).length := by omega
      have hn2 : i < (c.map rwV).length := by omega
      have t1a : (a.map (·.2)).take (i + 1) = (a.map (·.2)).take i ++ [a[i].2] := by rw [List.take_succ_eq_append_getElem (by simpa using h)]; simp
      have t1c : (c.map (·.2)).take (i + 1) = (c.map (·.2)).take i ++ [c[i].2] := by rw [List.take_succ_eq_append_getElem (by simpa using hc')]; simp
      have hdiff : a[i].2 ≠ c[i].2 → decide (a.map (·.2) = c.map (·.2)) = false := fun hn => by
        simp only [decide_eq_false_iff_not]
        intro e
        apply hn
        have e2 := congrArg (fun l => l[i]?) e
        simp only [List.getElem?_map, List.getElem?_eq_getElem h, List.getElem?_eq_getElem hc', Option.map_some, Option.some.injEq] at e2
        exact e2
      have hs := same04Q_spec a[i].2 c[i].2 a[i].1.1 c[i].1.1 Q (qa _ (List.getElem_mem h)) (qc _ (List.getElem_mem hc')) (hza _ (List.getElem_mem h))
      refine ok_learn (VwIn.base (VwIn.here hA) (by intro e; rw [e] at hn1; simp at hn1)) ?_
      rintro ⟨bu, ou, rfl⟩
      refine ok_learn (VwIn.base (VwIn.there (VwIn.here hB)) (by intro e; rw [e] at hn2; simp at hn2)) ?_
      rintro ⟨bw, ow, rfl⟩
      generalize a[i] = x at hx hdiff t1a hs
      generalize c[i] = y at hy hdiff t1c hs
      obtain ⟨⟨xv, hxv⟩, xl⟩ := x
      obtain ⟨⟨yv, hyv⟩, yl⟩ := y
      dsimp only [rwV] at hx hy hdiff t1a t1c hs
      cases t2 : decide (xl = yl) with
      | true =>
        rw [t2] at hs
        repeat' (first | (refine go_Y ?_; intros) | (refine gs_Y ?_ ?_ <;> (intro hgd; try (simp only [Bool.not_true, Bool.not_false] at hgd))) | (refine gc_Y ?_ ?_ <;> intro _) | fail)
        refine cl_Y (hs) ?_
        intro _ _
        repeat' (first | (refine go_Y ?_; intros) | (refine gs_Y ?_ ?_ <;> (intro hgd; try (simp only [Bool.not_true, Bool.not_false] at hgd))) | (refine gc_Y ?_ ?_ <;> intro _) | fail)
        refine cont_map (L' := [A, B, Q] ++ R) entD ?_
        refine cont_back (i + 1) ⟨h, by rw [t1a, t1c, he, of_decide_eq_true t2], ⟨rfl, rfl, rfl, trivial⟩, rfl⟩ (by omega)
      | false =>
        rw [t2] at hs
        rw [hdiff (of_decide_eq_false t2)]
        repeat' (first | (refine go_Y ?_; intros) | (refine gs_Y ?_ ?_ <;> (intro hgd; try (simp only [Bool.not_true, Bool.not_false] at hgd))) | (refine gc_Y ?_ ?_ <;> intro _) | fail)
        refine cl_Y (hs) ?_
        intro _ _
        repeat' (first | (refine go_Y ?_; intros) | (refine gs_Y ?_ ?_ <;> (intro hgd; try (simp only [Bool.not_true, Bool.not_false] at hgd))) | (refine gc_Y ?_ ?_ <;> intro _) | fail)
        (refine rt_Y (y := ()) (hrs := Tryd.results48) (hv := ?_) (hφ := ?_))
        · rfl
        · trivial
theorem rows1_spec (w : Value) (l : List Vl) (A : HProp) (hA : Vw A 4 w (l.map valV)) : FSpec Tryd.prog 91 [w] [A] Unit (fun _ => True) (fun _ => .bool true) (fun _ => [A]) := by
  refine spec_intro [] _ Tryd.func91 rfl Tryd.ntmps91 (by rfl) (fun w0 R => ?_)
  repeat' (first | (refine go_Y ?_; intros) | (refine gs_Y ?_ ?_ <;> (intro hgd; try (simp only [Bool.not_true, Bool.not_false] at hgd))) | (refine gc_Y ?_ ?_ <;> intro _) | fail)
  (refine rt_Y (y := ()) (hrs := Tryd.results91) (hv := ?_) (hφ := ?_))
  · rfl
  · trivial
/-- Rows. -/
theorem relRows_spec (b : Nat) (r : Rl) (t : Int) (P : HProp) (hok : r.Ok) (hwf : Rl.Wf r) :
    FSpec Tryd.prog 44 [.pointer (some ⟨b, 0, none⟩), .int .i64 t] [relP P b r, P] (V1s × List Rw × HProp) (fun y => Ext P y.2.2 ∧ (∀ x ∈ y.2.1, Vw y.2.2 4 x.1.1 (x.2.map valV)) ∧ InOrder r t (fun _ => true) (y.2.1.map (·.2)))
      (fun y => y.1.1) (fun y => [row 26 1 y.1.1 (y.2.1.map rwV), relP y.2.2 b r, y.2.2]) := by
  by_cases hh : hasS r.s t = true
  · have hs := some_spec b r t (.func (.func 91) #[] #[]) rfl (fun _ => true) P hok hwf hh (fun w l A hA => vspec_fn (rows1_spec w l A hA))
    refine spec_intro [] _ Tryd.func44 rfl Tryd.ntmps44 (by rfl) (fun w0 R => ?_)
    repeat' (first | (refine go_Y ?_; intros) | (refine gs_Y ?_ ?_ <;> (intro hgd; try (simp only [Bool.not_true, Bool.not_false] at hgd))) | (refine gc_Y ?_ ?_ <;> intro _) | fail)
    refine cl_Y (hs) ?_
    rintro ⟨⟨v, hv⟩, l, Q⟩ ⟨h1, h2, h3⟩
    dsimp only at h1 h2 h3 ⊢
    repeat' (first | (refine go_Y ?_; intros) | (refine gs_Y ?_ ?_ <;> (intro hgd; try (simp only [Bool.not_true, Bool.not_false] at hgd))) | (refine gc_Y ?_ ?_ <;> intro _) | fail)
    (refine rt_Y (y := (⟨v, hv⟩, l, Q)) (hrs := Tryd.results44) (hv := ?_) (hφ := ?_))
    · rfl
    · exact ⟨h1, h2, h3⟩
  · have ht : t < 0 ∨ (r.s.length : Int) ≤ t := by
      simp only [hasS, hok.sch, Bool.true_and, Bool.and_eq_true, decide_eq_true_eq] at hh
      omega
    have hs := some_none b r t (.func (.func 91) #[] #[]) rfl P hok ht
    have hr := rows_none hok (ask := fun _ => true) ht
    refine spec_intro [] _ Tryd.func44 rfl Tryd.ntmps44 (by rfl) (fun w0 R => ?_)
    repeat' (first | (refine go_Y ?_; intros) | (refine gs_Y ?_ ?_ <;> (intro hgd; try (simp only [Bool.not_true, Bool.not_false] at hgd))) | (refine gc_Y ?_ ?_ <;> intro _) | fail)
    refine cl_Y (hs) ?_
    intro _ _
    repeat' (first | (refine go_Y ?_; intros) | (refine gs_Y ?_ ?_ <;> (intro hgd; try (simp only [Bool.not_true, Bool.not_false] at hgd))) | (refine gc_Y ?_ ?_ <;> intro _) | fail)
    refine cont_map (fun _ h => nilRow (e := 26) (n := 1) h) ?_
    (refine rt_Y (y := (⟨.slice none 0 0, rfl⟩, [], P)) (hrs := Tryd.results44) (hv := ?_) (hφ := ?_))
    · rfl
    · exact ⟨Ext.refl P, fun _ h => by simp at h, ⟨by rw [hr]; exact .refl _, .nil⟩⟩
end Go.Proofs.YtbagfdolcabniaaDoor
