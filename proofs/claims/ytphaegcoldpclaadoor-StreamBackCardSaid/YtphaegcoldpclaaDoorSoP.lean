import Derived.Test.YtphaegcoldpclaaDoorSrA
import Derived.Test.YtphaegcoldpclaaDoorStA
import Derived.Test.YtphaegcoldpclaaDoorStB
import Derived.Test.YtphaegcoldpclaaDoorG5
import Derived.Test.YtphaegcoldpclaaDoorTxB
set_option linter.unusedSimpArgs false
set_option linter.unusedVariables false
set_option maxRecDepth 100000
namespace Go.Proofs.YtphaegcoldpclaaDoor
open Go Go.Fx Go.Proofs Go.Pl

instance otEq : SEq Tryd.prog 57 [.string, .int .u64, .string] := ⟨by kernel_rfl⟩
set_option maxHeartbeats 4000000 in
theorem sameOut_spec (l : List (BA × Int × BA)) (u w : Value) (A B : HProp) (hA : Vw A 3 u (l.map outV)) (hB : Vw B 3 w (l.map outV)) (hl : l.length ≤ 1000000) :
    FSpec Tryd.prog 19 [u, w] [A, B] Unit (fun _ => True) (fun _ => .bool true) (fun _ => [A, B]) := by
  have ll : (l.map outV).length = l.length := by simp
  have e0 : (!decide (((l.map outV).length : Int) = ((l.map outV).length : Int))) = false := by simp
  refine spec_intro [] _ Tryd.func19 rfl Tryd.ntmps19 (by rfl) (fun w0 R => ?_)
  refine ok_learn (VwIn.slice (VwIn.here hA)) ?_
  rintro ⟨pu, cu, rfl⟩
  refine ok_learn (VwIn.slice (VwIn.there (VwIn.here hB))) ?_
  rintro ⟨pw, cw, rfl⟩
  repeat' (first | (refine go_Y ?_; intros) | (refine gs_Y ?_ ?_ <;> (intro hgd; try (simp only [Bool.not_true, Bool.not_false] at hgd))) | (refine gc_Y ?_ ?_ <;> intro _) | fail)
  refine ok_loop' (γ := Nat) (fun j ρ L => j ≤ l.length ∧ Knows ρ [(0, .slice pu (l.map outV).length cu), (1, .slice pw (l.map outV).length cw), (5, .int .i64 (j : Int))] ∧ L = [A, B] ++ R) (fun j => l.length - j) 0 ⟨by omega, ⟨rfl, rfl, rfl, trivial⟩, rfl⟩ ?_
  rintro j ρ L ⟨hj, hk, rfl⟩
  refine ok_regs hk ?_
  cases t1 : decide ((j : Int) < ((l.map outV).length : Int)) with
  | false =>
    repeat' (first | (refine go_Y ?_; intros) | (refine gs_Y ?_ ?_ <;> (intro hgd; try (simp only [Bool.not_true, Bool.not_false] at hgd))) | (refine gc_Y ?_ ?_ <;> intro _) | fail)
    (refine rt_Y (y := ()) (hrs := Tryd.results19) (hv := ?_) (hφ := ?_))
    · rfl
    · trivial
  | true =>
    have hj0 : j < l.length := by rw [decide_eq_true_eq] at t1; omega
    have hx : (l.map outV)[j]? = some (outV l[j]) := by rw [List.getElem?_map, List.getElem?_eq_getElem hj0]; rfl
    have hjn : j < (l.map outV).length := by omega
    refine ok_learn (VwIn.base (n := 3) (p := pu) (len := (l.map outV).length) (cap := cu) (xs := l.map outV) (VwIn.here hA) (by intro e; rw [e] at hjn; simp at hjn)) ?_
    rintro ⟨bl, ol, rfl⟩
    refine ok_learn (VwIn.base (n := 3) (p := pw) (len := (l.map outV).length) (cap := cw) (xs := l.map outV) (VwIn.there (VwIn.here hB)) (by intro e; rw [e] at hjn; simp at hjn)) ?_
    rintro ⟨bw, ow, rfl⟩
    generalize l[j] = x at hx
    obtain ⟨x1, x2, x3⟩ := x
    dsimp only [outV] at hx
    have hq : nilB BinOp.neq (eqL [TypeDesc.string, TypeDesc.int .u64, TypeDesc.string] [Value.string x1, Value.int .u64 x2, Value.string x3] [Value.string x1, Value.int .u64 x2, Value.string x3]) = false := by simp [nilB, eqL, eqD]
    repeat' (first | (refine go_Y ?_; intros) | (refine gs_Y ?_ ?_ <;> (intro hgd; try (simp only [Bool.not_true, Bool.not_false] at hgd))) | (refine gc_Y ?_ ?_ <;> intro _) | fail)
    refine cont_back (j + 1) ⟨hj0, ⟨rfl, rfl, rfl, trivial⟩, rfl⟩ (by omega)
set_option maxHeartbeats 2000000 in
theorem same04R_spec (a c : List Vl) (u w : Value) (P : HProp) (hA : Vw P 4 u (a.map valV)) (hB : Vw P 4 w (c.map valV)) (hz : a.length ≤ 140737488355328) :
    FSpec Tryd.prog 37 [u, w] [P] Unit (fun _ => True) (fun _ => .bool (decide (a = c))) (fun _ => [P]) := by
  have la : (a.map valV).length = a.length := by simp
  have lc : (c.map valV).length = c.length := by simp
  refine spec_intro [] _ Tryd.func37 rfl Tryd.ntmps37 (by rfl) (fun w0 R => ?_)
  refine ok_learn (VwIn.slice (VwIn.here hA)) ?_
  rintro ⟨pu, cu, rfl⟩
  refine ok_learn (VwIn.slice (VwIn.here hB)) ?_
  rintro ⟨pw, cw, rfl⟩
  cases t0 : (!decide (((a.map valV).length : Int) = ((c.map valV).length : Int))) with
  | true =>
    have hne : decide (a = c) = false := by simp; intro e; subst e; simp at t0
    rw [hne]
    repeat' (first | (refine go_Y ?_; intros) | (refine gs_Y ?_ ?_ <;> (intro hgd; try (simp only [Bool.not_true, Bool.not_false] at hgd))) | (refine gc_Y ?_ ?_ <;> intro _) | fail)
    (refine rt_Y (y := ()) (hrs := Tryd.results37) (hv := ?_) (hφ := ?_))
    · rfl
    · trivial
  | false =>
    have hlen : a.length = c.length := by simp at t0; omega
    repeat' (first | (refine go_Y ?_; intros) | (refine gs_Y ?_ ?_ <;> (intro hgd; try (simp only [Bool.not_true, Bool.not_false] at hgd))) | (refine gc_Y ?_ ?_ <;> intro _) | fail)
    refine ok_loop' (γ := Nat) (fun i ρ L => i ≤ a.length ∧ a.take i = c.take i ∧ Knows ρ [(0, .slice pu (a.map valV).length cu), (1, .slice pw (c.map valV).length cw), (5, .int .i64 i)] ∧ L = [P] ++ R) (fun i => a.length - i) 0 ⟨by omega, by simp, ⟨rfl, rfl, rfl, trivial⟩, rfl⟩ ?_
    rintro i ρ L ⟨hi, he, hk, rfl⟩
    refine ok_regs hk ?_
    cases t1 : decide ((i : Int) < ((a.map valV).length : Int)) with
    | false =>
      have hie : i = a.length := by have := of_decide_eq_false t1; omega
      have hac : decide (a = c) = true := by
        rw [hie, List.take_length] at he
        rw [hlen, List.take_length] at he
        simp [he]
      rw [hac]
      repeat' (first | (refine go_Y ?_; intros) | (refine gs_Y ?_ ?_ <;> (intro hgd; try (simp only [Bool.not_true, Bool.not_false] at hgd))) | (refine gc_Y ?_ ?_ <;> intro _) | fail)
      (refine rt_Y (y := ()) (hrs := Tryd.results37) (hv := ?_) (hφ := ?_))
      · rfl
      · trivial
    | true =>
      have h : i < a.length := by have := of_decide_eq_true t1; omega
      have hc' : i < c.length := by omega
      have hx : (a.map valV)[i]? = some (valV a[i]) := by rw [List.getElem?_map, List.getElem?_eq_getElem h]; rfl
      have hy : (c.map valV)[i]? = some (valV c[i]) := by rw [List.getElem?_map, List.getElem?_eq_getElem hc']; rfl
      have hn1 : i < (a.map valV).length := by omega
      have hn2 : i < (c.map valV).length := by omega
      have t1a : a.take (i + 1) = a.take i ++ [a[i]] := List.take_succ_eq_append_getElem h
      have t1c : c.take (i + 1) = c.take i ++ [c[i]] := List.take_succ_eq_append_getElem hc'
      have hq := eqL_valV a[i] c[i]
      have hdiff : a[i] ≠ c[i] → decide (a = c) = false := fun hn => by
        simp only [decide_eq_false_iff_not]
        intro e; subst e; exact hn rfl
      refine ok_learn (VwIn.base (n := 4) (p := pu) (len := (a.map valV).length) (cap := cu) (xs := a.map valV) (VwIn.here hA) (by intro e; rw [e] at hn1; simp at hn1)) ?_
      rintro ⟨bu, ou, rfl⟩
      refine ok_learn (VwIn.base (n := 4) (p := pw) (len := (c.map valV).length) (cap := cw) (xs := c.map valV) (VwIn.here hB) (by intro e; rw [e] at hn2; simp at hn2)) ?_
      rintro ⟨bw, ow, rfl⟩
      generalize a[i] = x at hx hq hdiff t1a
      generalize c[i] = y at hy hq hdiff t1c
      obtain ⟨xk, xi, xr, xs⟩ := x
      obtain ⟨yk, yi, yr, ys⟩ := y
      dsimp only [valV] at hx hy hq
      cases hn : nilB BinOp.neq (eqL [TypeDesc.int .u8, TypeDesc.int .i64, TypeDesc.int .u64, TypeDesc.string] [Value.int .u8 xk, Value.int .i64 xi, Value.int .u64 xr, Value.string xs] [Value.int .u8 yk, Value.int .i64 yi, Value.int .u64 yr, Value.string ys]) with
      | true =>
        have hd : (⟨xk, xi, xr, xs⟩ : Vl) ≠ ⟨yk, yi, yr, ys⟩ := by
          rw [hq] at hn
          have : decide ((⟨xk, xi, xr, xs⟩ : Vl) = ⟨yk, yi, yr, ys⟩) = false := by simpa only [nilB, Bool.not_eq_true'] using hn
          exact of_decide_eq_false this
        rw [hdiff hd]
        repeat' (first | (refine go_Y ?_; intros) | (refine gs_Y ?_ ?_ <;> (intro hgd; try (simp only [Bool.not_true, Bool.not_false] at hgd))) | (refine gc_Y ?_ ?_ <;> intro _) | fail)
        (refine rt_Y (y := ()) (hrs := Tryd.results37) (hv := ?_) (hφ := ?_))
        · rfl
        · trivial
      | false =>
        have hd : (⟨xk, xi, xr, xs⟩ : Vl) = ⟨yk, yi, yr, ys⟩ := by
          rw [hq] at hn
          have : decide ((⟨xk, xi, xr, xs⟩ : Vl) = ⟨yk, yi, yr, ys⟩) = true := by simpa only [nilB, Bool.not_eq_false'] using hn
          exact of_decide_eq_true this
        repeat' (first | (refine go_Y ?_; intros) | (refine gs_Y ?_ ?_ <;> (intro hgd; try (simp only [Bool.not_true, Bool.not_false] at hgd))) | (refine gc_Y ?_ ?_ <;> intro _) | fail)
        refine cont_map (L' := [P] ++ R) entD ?_
        refine cont_back (i + 1) ⟨h, by rw [t1a, t1c, he, hd], ⟨rfl, rfl, rfl, trivial⟩, rfl⟩ (by omega)

set_option maxHeartbeats 4000000 in
theorem same15P_spec (a c : List Cm) (u w : Value) (A : HProp) (hA : Vw A 4 u (a.map cmV)) (hB : Vw A 4 w (c.map cmV)) (hz : a.length ≤ 1000000) (ha : ∀ x ∈ a, CmR A x ∧ x.bef.length ≤ 1000000 ∧ x.aft.length ≤ 1000000) (hc : ∀ x ∈ c, CmR A x) :
    FSpec Tryd.prog 11 [u, w] [A] Bool (fun y => y = true ↔ a.map Cm.c = c.map Cm.c) (fun y => .bool y) (fun _ => [A]) := by
  have la : (a.map cmV).length = a.length := by simp
  have lc : (c.map cmV).length = c.length := by simp
  refine spec_intro [] _ Tryd.func11 rfl Tryd.ntmps11 (by rfl) (fun w0 R => ?_)
  refine ok_learn (VwIn.slice (VwIn.here hA)) ?_
  rintro ⟨pu, cu, rfl⟩
  refine ok_learn (VwIn.slice (VwIn.here hB)) ?_
  rintro ⟨pw, cw, rfl⟩
  cases t0 : (!decide (((a.map cmV).length : Int) = ((c.map cmV).length : Int))) with
  | true =>
    have hne : a.map Cm.c ≠ c.map Cm.c := by
      intro e
      have := congrArg List.length e
      simp at this t0; omega
    repeat' (first | (refine go_Y ?_; intros) | (refine gs_Y ?_ ?_ <;> (intro hgd; try (simp only [Bool.not_true, Bool.not_false] at hgd))) | (refine gc_Y ?_ ?_ <;> intro _) | fail)
    (refine rt_Y (y := false) (hrs := Tryd.results11) (hv := ?_) (hφ := ?_))
    · rfl
    · exact ⟨fun e => (by cases e), fun e => absurd e hne⟩
  | false =>
    have hlen : a.length = c.length := by simp at t0; omega
    repeat' (first | (refine go_Y ?_; intros) | (refine gs_Y ?_ ?_ <;> (intro hgd; try (simp only [Bool.not_true, Bool.not_false] at hgd))) | (refine gc_Y ?_ ?_ <;> intro _) | fail)
    refine ok_loop' (γ := Nat) (fun i ρ L => i ≤ a.length ∧ (a.take i).map Cm.c = (c.take i).map Cm.c ∧ Knows ρ [(0, .slice pu (a.map cmV).length cu), (1, .slice pw (c.map cmV).length cw), (5, .int .i64 i)] ∧ L = [A] ++ R) (fun i => a.length - i) 0 ⟨by omega, by simp, ⟨rfl, rfl, rfl, trivial⟩, rfl⟩ ?_
    rintro i ρ L ⟨hi, he, hk, rfl⟩
    refine ok_regs hk ?_
    cases t1 : decide ((i : Int) < ((a.map cmV).length : Int)) with
    | false =>
      have hie : i = a.length := by have := of_decide_eq_false t1; omega
      have hac : a.map Cm.c = c.map Cm.c := by
        rw [hie, List.take_length] at he
        rw [hlen, List.take_length] at he
        exact he
      repeat' (first | (refine go_Y ?_; intros) | (refine gs_Y ?_ ?_ <;> (intro hgd; try (simp only [Bool.not_true, Bool.not_false] at hgd))) | (refine gc_Y ?_ ?_ <;> intro _) | fail)
      (refine rt_Y (y := true) (hrs := Tryd.results11) (hv := ?_) (hφ := ?_))
      · rfl
      · exact ⟨fun _ => hac, fun _ => rfl⟩
    | true =>
      have h : i < a.length := by have := of_decide_eq_true t1; omega
      have hc' : i < c.length := by omega
      have hx : (a.map cmV)[i]? = some (cmV a[i]) := by rw [List.getElem?_map, List.getElem?_eq_getElem h]; rfl
      have hy : (c.map cmV)[i]? = some (cmV c[i]) := by rw [List.getElem?_map, List.getElem?_eq_getElem hc']; rfl
      have hn1 : i < (a.map cmV).length := by omega
      have hn2 : i < (c.map cmV).length := by omega
      have t1a : a.take (i + 1) = a.take i ++ [a[i]] := List.take_succ_eq_append_getElem h
      have t1c : c.take (i + 1) = c.take i ++ [c[i]] := List.take_succ_eq_append_getElem hc'
      obtain ⟨hax, hz1, hz2⟩ := ha _ (List.getElem_mem h)
      have hcx := hc _ (List.getElem_mem hc')
      have hdiff : a[i].c ≠ c[i].c → a.map Cm.c ≠ c.map Cm.c := fun hn e => by
        have := congrArg (fun l => l[i]?) e
        simp only [List.getElem?_map, List.getElem?_eq_getElem h, List.getElem?_eq_getElem hc', Option.map_some, Option.some.injEq] at this
        exact hn this
      have s1 := same04R_spec a[i].bef c[i].bef a[i].bv.1 c[i].bv.1 A hax.bv hcx.bv (by omega)
      have s2 := same04R_spec a[i].aft c[i].aft a[i].av.1 c[i].av.1 A hax.av hcx.av (by omega)
      refine ok_learn (VwIn.base (VwIn.here hA) (by intro e; rw [e] at hn1; simp at hn1)) ?_
      rintro ⟨bu, ou, rfl⟩
      refine ok_learn (VwIn.base (VwIn.here hB) (by intro e; rw [e] at hn2; simp at hn2)) ?_
      rintro ⟨bw, ow, rfl⟩
      generalize a[i] = x at hx hdiff t1a s1 s2
      generalize c[i] = y at hy hdiff t1c s1 s2
      obtain ⟨xk, xt, ⟨xb, hxb⟩, xbl, ⟨xa, hxa⟩, xal⟩ := x
      obtain ⟨yk, yt, ⟨yb, hyb⟩, ybl, ⟨ya, hya⟩, yal⟩ := y
      dsimp only [cmV, Cm.c] at hx hy hdiff s1 s2
      cases v1 : (!decide (xk = yk)) <;> cases v2 : (!decide (xt = yt)) <;> cases v3 : decide (xbl = ybl) <;> cases v4 : decide (xal = yal) <;> rw [v3] at s1 <;> rw [v4] at s2
      all_goals have w1 := congrArg Bool.not v1
      all_goals have w2 := congrArg Bool.not v2
      case false.false.true.true =>
        have hxy : xk = yk ∧ xt = yt ∧ xbl = ybl ∧ xal = yal := ⟨by simpa using v1, by simpa using v2, of_decide_eq_true v3, of_decide_eq_true v4⟩
        obtain ⟨rfl, rfl, rfl, rfl⟩ := hxy
        clear w1 w2 v3 v4
        repeat' (first | (refine go_Y ?_; intros) | (refine gs_Y ?_ ?_ <;> (intro hgd; try (simp only [Bool.not_true, Bool.not_false] at hgd))) | (refine gc_Y ?_ ?_ <;> intro _) | fail)
        refine cl_Y (s1) ?_
        intro _ _
        repeat' (first | (refine go_Y ?_; intros) | (refine gs_Y ?_ ?_ <;> (intro hgd; try (simp only [Bool.not_true, Bool.not_false] at hgd))) | (refine gc_Y ?_ ?_ <;> intro _) | fail)
        refine cl_Y (s2) ?_
        intro _ _
        repeat' (first | (refine go_Y ?_; intros) | (refine gs_Y ?_ ?_ <;> (intro hgd; try (simp only [Bool.not_true, Bool.not_false] at hgd))) | (refine gc_Y ?_ ?_ <;> intro _) | fail)
        refine cont_map (L' := [A] ++ R) entD ?_
        refine cont_back (i + 1) ⟨h, by rw [t1a, t1c, List.map_append, List.map_append, he]; rfl, ⟨rfl, rfl, rfl, trivial⟩, rfl⟩ (by omega)
      all_goals
        have hn := hdiff (by
          intro e
          simp only [Chg.mk.injEq] at e
          obtain ⟨e1, e2, e3, e4⟩ := e
          subst e1 e2 e3 e4
          simp at v1 v2 v3 v4)
        clear w1 w2
      case false.false.true.false =>
        repeat' (first | (refine go_Y ?_; intros) | (refine gs_Y ?_ ?_ <;> (intro hgd; try (simp only [Bool.not_true, Bool.not_false] at hgd))) | (refine gc_Y ?_ ?_ <;> intro _) | fail)
        refine cl_Y (s1) ?_
        intro _ _
        repeat' (first | (refine go_Y ?_; intros) | (refine gs_Y ?_ ?_ <;> (intro hgd; try (simp only [Bool.not_true, Bool.not_false] at hgd))) | (refine gc_Y ?_ ?_ <;> intro _) | fail)
        refine cl_Y (s2) ?_
        intro _ _
        repeat' (first | (refine go_Y ?_; intros) | (refine gs_Y ?_ ?_ <;> (intro hgd; try (simp only [Bool.not_true, Bool.not_false] at hgd))) | (refine gc_Y ?_ ?_ <;> intro _) | fail)
        (refine rt_Y (y := false) (hrs := Tryd.results11) (hv := ?_) (hφ := ?_))
        · rfl
        · exact ⟨fun e => (by cases e), fun e => absurd e hn⟩
      case false.false.false.true =>
        repeat' (first | (refine go_Y ?_; intros) | (refine gs_Y ?_ ?_ <;> (intro hgd; try (simp only [Bool.not_true, Bool.not_false] at hgd))) | (refine gc_Y ?_ ?_ <;> intro _) | fail)
        refine cl_Y (s1) ?_
        intro _ _
        repeat' (first | (refine go_Y ?_; intros) | (refine gs_Y ?_ ?_ <;> (intro hgd; try (simp only [Bool.not_true, Bool.not_false] at hgd))) | (refine gc_Y ?_ ?_ <;> intro _) | fail)
        (refine rt_Y (y := false) (hrs := Tryd.results11) (hv := ?_) (hφ := ?_))
        · rfl
        · exact ⟨fun e => (by cases e), fun e => absurd e hn⟩
      case false.false.false.false =>
        repeat' (first | (refine go_Y ?_; intros) | (refine gs_Y ?_ ?_ <;> (intro hgd; try (simp only [Bool.not_true, Bool.not_false] at hgd))) | (refine gc_Y ?_ ?_ <;> intro _) | fail)
        refine cl_Y (s1) ?_
        intro _ _
        repeat' (first | (refine go_Y ?_; intros) | (refine gs_Y ?_ ?_ <;> (intro hgd; try (simp only [Bool.not_true, Bool.not_false] at hgd))) | (refine gc_Y ?_ ?_ <;> intro _) | fail)
        (refine rt_Y (y := false) (hrs := Tryd.results11) (hv := ?_) (hφ := ?_))
        · rfl
        · exact ⟨fun e => (by cases e), fun e => absurd e hn⟩
      all_goals repeat' (first | (refine go_Y ?_; intros) | (refine gs_Y ?_ ?_ <;> (intro hgd; try (simp only [Bool.not_true, Bool.not_false] at hgd))) | (refine gc_Y ?_ ?_ <;> intro _) | fail)
      all_goals
        (refine rt_Y (y := false) (hrs := Tryd.results11) (hv := ?_) (hφ := ?_))
        · rfl
        · exact ⟨fun e => (by cases e), fun e => absurd e hn⟩
end Go.Proofs.YtphaegcoldpclaaDoor
