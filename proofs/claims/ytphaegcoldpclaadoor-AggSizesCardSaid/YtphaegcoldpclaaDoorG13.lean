/- Texts merged: PgG PgH. -/
import Derived.Test.YtphaegcoldpclaaDoorG11
/- Whether two documents are the same: fascicleref24.same, Same. -/
-- @DEFS Y
set_option linter.unusedSimpArgs false
set_option linter.unusedVariables false
set_option maxRecDepth 100000
namespace Go.Proofs.YtphaegcoldpclaaDoor
open Go Go.Fx Go.Proofs Go.Pl

set_option maxHeartbeats 2000000 in
theorem same04P_spec (a c : List Vl) (u w : Value) (P : HProp) (hA : Vw P 4 u (a.map valV)) (hB : Vw P 4 w (c.map valV)) (hz : a.length ≤ 140737488355328) :
    FSpec Tryd.prog 37 [u, w] [P] Unit (fun _ => True) (fun _ => .bool (decide (a = c))) (fun _ => [P]) := by
  have la : (a.map valV).length = a.length := by simp
  have lc : (c.map valV).length = c.length := by simp
  refine spec_intro [] _ Tryd.func37 rfl Tryd.ntmps37 (by rfl) (fun w0 R => ?_)
  refine ok_learn (VwIn.slice (VwIn.here hA)) ?_
  rintro ⟨pu, cu, rfl⟩
  refine ok_learn (VwIn.slice (VwIn.here hB)) ?_
  rintro ⟨pw, cw, rfl⟩
  cases t0 : (!decide (((a.map valV).length : Int) = ((c.map valV).length : Int))) with
  | true =>
    have hne : decide (a = c) = false := by simp; intro e; subst e; simp at t0
    rw [hne]
    repeat' (first | (refine go_Y ?_; intros) | (refine gs_Y ?_ ?_ <;> (intro hgd; try (simp only [Bool.not_true, Bool.not_false] at hgd))) | (refine gc_Y ?_ ?_ <;> intro _) | fail)
    (refine rt_Y (y := ()) (hrs := Tryd.results37) (hv := ?_) (hφ := ?_))
    · rfl
    · trivial
  | false =>
    have hlen : a.length = c.length := by simp at t0; omega
    repeat' (first | (refine go_Y ?_; intros) | (refine gs_Y ?_ ?_ <;> (intro hgd; try (simp only [Bool.not_true, Bool.not_false] at hgd))) | (refine gc_Y ?_ ?_ <;> intro _) | fail)
    refine ok_loop' (γ := Nat) (fun i ρ L => i ≤ a.length ∧ a.take i = c.take i ∧ Knows ρ [(0, .slice pu (a.map valV).length cu), (1, .slice pw (c.map valV).length cw), (5, .int .i64 i)] ∧ L = [P] ++ R) (fun i => a.length - i) 0 ⟨by omega, by simp, ⟨rfl, rfl, rfl, trivial⟩, rfl⟩ ?_
    rintro i ρ L ⟨hi, he, hk, rfl⟩
    refine ok_regs hk ?_
    cases t1 : decide ((i : Int) < ((a.map valV).length : Int)) with
    | false =>
      have hie : i = a.length := by have := of_decide_eq_false t1; omega
      have hac : decide (a = c) = true := by
        rw [hie, List.take_length] at he
        rw [hlen, List.take_length] at he
        simp [he]
      rw [hac]
      repeat' (first | (refine go_Y ?_; intros) | (refine gs_Y ?_ ?_ <;> (intro hgd; try (simp only [Bool.not_true, Bool.not_false] at hgd))) | (refine gc_Y ?_ ?_ <;> intro _) | fail)
      (refine rt_Y (y := ()) (hrs := Tryd.results37) (hv := ?_) (hφ := ?_))
      · rfl
      · trivial
    | true =>
      have h : i < a.length := by have := of_decide_eq_true t1; omega
      have hc' : i < c.length := by omega
      have hx : (a.map valV)[i]? = some (valV a[i]) := by rw [List.getElem?_map, List.getElem?_eq_getElem h]; rfl
      have hy : (c.map valV)[i]? = some (valV c[i]) := by rw [List.getElem?_map, List.getElem?_eq_getElem hc']; rfl
      have hn1 : i < (a.map valV).length := by omega
      have hn2 : i < (c.map valV).length := by omega
      have t1a : a.take (i + 1) = a.take i ++ [a[i]] := List.take_succ_eq_append_getElem h
      have t1c : c.take (i + 1) = c.take i ++ [c[i]] := List.take_succ_eq_append_getElem hc'
      have hq := eqL_valV a[i] c[i]
      have hdiff : a[i] ≠ c[i] → decide (a = c) = false := fun hn => by
        simp only [decide_eq_false_iff_not]
        intro e; subst e; exact hn rfl
      refine ok_learn (VwIn.base (n := 4) (p := pu) (len := (a.map valV).length) (cap := cu) (xs := a.map valV) (VwIn.here hA) (by intro e; rw [e] at hn1; simp at hn1)) ?_
      rintro ⟨bu, ou, rfl⟩
      refine ok_learn (VwIn.base (n := 4) (p := pw) (len := (c.map valV).length) (cap := cw) (xs := c.map valV) (VwIn.here hB) (by intro e; rw [e] at hn2; simp at hn2)) ?_
      rintro ⟨bw, ow, rfl⟩
      generalize a[i] = x at hx hq hdiff t1a
      generalize c[i] = y at hy hq hdiff t1c
      obtain ⟨xk, xi, xr, xs⟩ := x
      obtain ⟨yk, yi, yr, ys⟩ := y
      dsimp only [valV] at hx hy hq
      cases hn : nilB BinOp.neq (eqL [TypeDesc.int .u8, TypeDesc.int .i64, TypeDesc.int .u64, TypeDesc.string] [Value.int .u8 xk, Value.int .i64 xi, Value.int .u64 xr, Value.string xs] [Value.int .u8 yk, Value.int .i64 yi, Value.int .u64 yr, Value.string ys]) with
      | true =>
        have hd : (⟨xk, xi, xr, xs⟩ : Vl) ≠ ⟨yk, yi, yr, ys⟩ := by
          rw [hq] at hn
          have : decide ((⟨xk, xi, xr, xs⟩ : Vl) = ⟨yk, yi, yr, ys⟩) = false := by simpa only [nilB, Bool.not_eq_true'] using hn
          exact of_decide_eq_false this
        rw [hdiff hd]
        repeat' (first | (refine go_Y ?_; intros) | (refine gs_Y ?_ ?_ <;> (intro hgd; try (simp only [Bool.not_true, Bool.not_false] at hgd))) | (refine gc_Y ?_ ?_ <;> intro _) | fail)
        (refine rt_Y (y := ()) (hrs := Tryd.results37) (hv := ?_) (hφ := ?_))
        · rfl
        · trivial
      | false =>
        have hd : (⟨xk, xi, xr, xs⟩ : Vl) = ⟨yk, yi, yr, ys⟩ := by
          rw [hq] at hn
          have : decide ((⟨xk, xi, xr, xs⟩ : Vl) = ⟨yk, yi, yr, ys⟩) = true := by simpa only [nilB, Bool.not_eq_false'] using hn
          exact of_decide_eq_true this
        repeat' (first | (refine go_Y ?_; intros) | (refine gs_Y ?_ ?_ <;> (intro hgd; try (simp only [Bool.not_true, Bool.not_false] at hgd))) | (refine gc_Y ?_ ?_ <;> intro _) | fail)
        refine cont_map (L' := [P] ++ R) entD ?_
        refine cont_back (i + 1) ⟨h, by rw [t1a, t1c, he, hd], ⟨rfl, rfl, rfl, trivial⟩, rfl⟩ (by omega)

set_option maxHeartbeats 4000000 in
theorem same24_spec {P : HProp} {a : Dm} (ha : DocR P a) : ∀ {b : Dm}, DocR P b → FSpec Tryd.prog 64 [.agg (docV a).toArray, .agg (docV b).toArray] [P] Unit (fun _ => True) (fun _ => .bool (sameD a.c b.c)) (fun _ => [P]) := by
  induction ha with
  | @mk t lv kv row kids h1 h2 h3 h4 h5 h6 ih =>
  intro b hb
  cases hb with
  | @mk t' lv' kv' row' kids' g1 g2 g3 g4 g5 g6 =>
  have heq := same04P_spec row row' lv.1 lv'.1 P h1 g1 h4
  obtain ⟨lv, hlv⟩ := lv
  obtain ⟨kv, hkv⟩ := kv
  obtain ⟨lv', hlv'⟩ := lv'
  obtain ⟨kv', hkv'⟩ := kv'
  dsimp only [docV, Dm.c] at heq h2 g2 ⊢
  have la : (kids.map docV).length = kids.length := by simp
  have lb : (kids'.map docV).length = kids'.length := by simp
  simp only [sameD]
  cases e1 : decide (t = t') with
  | false =>
    have f1 : (!decide (t = t')) = true := by rw [e1]; rfl
    rw [Bool.false_and]
    refine spec_intro [] _ Tryd.func64 rfl Tryd.ntmps64 (by rfl) (fun w0 R => ?_)
    repeat' (first | (refine go_Y ?_; intros) | (refine gs_Y ?_ ?_ <;> (intro hgd; try (simp only [Bool.not_true, Bool.not_false] at hgd))) | (refine gc_Y ?_ ?_ <;> intro _) | fail)
    (refine rt_Y (y := ()) (hrs := Tryd.results64) (hv := ?_) (hφ := ?_))
    · rfl
    · trivial
  | true =>
    have f1 : (!decide (t = t')) = false := by rw [e1]; rfl
    rw [Bool.true_and]
    cases e2 : decide (row = row') with
    | false =>
      rw [e2] at heq
      rw [Bool.false_and]
      refine spec_intro [] _ Tryd.func64 rfl Tryd.ntmps64 (by rfl) (fun w0 R => ?_)
      repeat' (first | (refine go_Y ?_; intros) | (refine gs_Y ?_ ?_ <;> (intro hgd; try (simp only [Bool.not_true, Bool.not_false] at hgd))) | (refine gc_Y ?_ ?_ <;> intro _) | fail)
      refine cl_Y (heq) ?_
      intro _ _
      repeat' (first | (refine go_Y ?_; intros) | (refine gs_Y ?_ ?_ <;> (intro hgd; try (simp only [Bool.not_true, Bool.not_false] at hgd))) | (refine gc_Y ?_ ?_ <;> intro _) | fail)
      (refine rt_Y (y := ()) (hrs := Tryd.results64) (hv := ?_) (hφ := ?_))
      · rfl
      · trivial
    | true =>
      rw [e2] at heq
      rw [Bool.true_and]
      cases e3 : (!decide (((kids.map docV).length : Int) = ((kids'.map docV).length : Int))) with
      | true =>
        have hf : sameK (Dm.cK kids) (Dm.cK kids') = false := by
          cases hs : sameK (Dm.cK kids) (Dm.cK kids') with
          | false => rfl
          | true =>
            have := sameK_len hs
            rw [cK_map, cK_map, List.length_map, List.length_map] at this
            rw [la, lb, this] at e3
            simp at e3
        rw [hf]
        refine spec_intro [] _ Tryd.func64 rfl Tryd.ntmps64 (by rfl) (fun w0 R => ?_)
        refine ok_learn (VwIn.slice (VwIn.here h2)) ?_
        rintro ⟨pk, ck, rfl⟩
        refine ok_learn (VwIn.slice (VwIn.here g2)) ?_
        rintro ⟨pm, cm, rfl⟩
        repeat' (first | (refine go_Y ?_; intros) | (refine gs_Y ?_ ?_ <;> (intro hgd; try (simp only [Bool.not_true, Bool.not_false] at hgd))) | (refine gc_Y ?_ ?_ <;> intro _) | fail)
        refine cl_Y (heq) ?_
        intro _ _
        repeat' (first | (refine go_Y ?_; intros) | (refine gs_Y ?_ ?_ <;> (intro hgd; try (simp only [Bool.not_true, Bool.not_false] at hgd))) | (refine gc_Y ?_ ?_ <;> intro _) | fail)
        (refine rt_Y (y := ()) (hrs := Tryd.results64) (hv := ?_) (hφ := ?_))
        · rfl
        · trivial
      | false =>
        have hlen : kids.length = kids'.length := by simp at e3; omega
        refine spec_intro [] _ Tryd.func64 rfl Tryd.ntmps64 (by rfl) (fun w0 R => ?_)
        refine ok_learn (VwIn.slice (VwIn.here h2)) ?_
        rintro ⟨pk, ck, rfl⟩
        refine ok_learn (VwIn.slice (VwIn.here g2)) ?_
        rintro ⟨pm, cm, rfl⟩
        repeat' (first | (refine go_Y ?_; intros) | (refine gs_Y ?_ ?_ <;> (intro hgd; try (simp only [Bool.not_true, Bool.not_false] at hgd))) | (refine gc_Y ?_ ?_ <;> intro _) | fail)
        rename_i b2 b3
        refine cl_Y (heq) ?_
        intro _ _
        repeat' (first | (refine go_Y ?_; intros) | (refine gs_Y ?_ ?_ <;> (intro hgd; try (simp only [Bool.not_true, Bool.not_false] at hgd))) | (refine gc_Y ?_ ?_ <;> intro _) | fail)
        refine ok_map (L' := [P, pts b2 (.cells [.int .i64 t, lv, .slice pk (kids.map docV).length ck].toArray 64), pts b3 (.cells [.int .i64 t', lv', .slice pm (kids'.map docV).length cm].toArray 64)] ++ R) entD ?_
        refine ok_loop' (γ := Nat) (fun i ρ L => i ≤ kids.length ∧ sameK (Dm.cK (kids.drop i)) (Dm.cK (kids'.drop i)) = sameK (Dm.cK kids) (Dm.cK kids') ∧ Knows ρ [(2, .pointer (some ⟨b2, 0, none⟩)), (3, .pointer (some ⟨b3, 0, none⟩)), (5, .int .i64 i)] ∧ L = [P, pts b2 (.cells [.int .i64 t, lv, .slice pk (kids.map docV).length ck].toArray 64), pts b3 (.cells [.int .i64 t', lv', .slice pm (kids'.map docV).length cm].toArray 64)] ++ R) (fun i => kids.length - i)
          0 ⟨by omega, rfl, ⟨rfl, rfl, rfl, trivial⟩, rfl⟩ ?_
        rintro i ρ L ⟨hi, hinv, hk, rfl⟩
        refine ok_regs hk ?_
        cases t1 : decide ((i : Int) < ((kids.map docV).length : Int)) with
        | false =>
          have hie : i = kids.length := by have := of_decide_eq_false t1; omega
          have q1 : kids.drop i = [] := List.drop_of_length_le (by omega)
          have q2 : kids'.drop i = [] := List.drop_of_length_le (by omega)
          rw [q1, q2] at hinv
          simp only [Dm.cK, sameK] at hinv
          repeat' (first | (refine go_Y ?_; intros) | (refine gs_Y ?_ ?_ <;> (intro hgd; try (simp only [Bool.not_true, Bool.not_false] at hgd))) | (refine gc_Y ?_ ?_ <;> intro _) | fail)
          (refine rt_Y (y := ()) (hrs := Tryd.results64) (hv := ?_) (hφ := ?_))
          · rw [← hinv]; rfl
          · trivial
        | true =>
          have ha0 : i < kids.length := by have := of_decide_eq_true t1; omega
          have hb0 : i < kids'.length := by omega
          have hx : (kids.map docV)[i]? = some (docV kids[i]) := by rw [List.getElem?_map, List.getElem?_eq_getElem ha0]; rfl
          have hy : (kids'.map docV)[i]? = some (docV kids'[i]) := by rw [List.getElem?_map, List.getElem?_eq_getElem hb0]; rfl
          have hn1 : i < (kids.map docV).length := by omega
          have hn2 : i < (kids'.map docV).length := by omega
          have hs := ih _ (List.getElem_mem ha0) (g3 _ (List.getElem_mem hb0))
          rw [List.drop_eq_getElem_cons ha0, List.drop_eq_getElem_cons hb0] at hinv
          simp only [Dm.cK, sameK] at hinv
          refine ok_learn (VwIn.base (n := 3) (p := pk) (len := (kids.map docV).length) (cap := ck) (xs := kids.map docV) (VwIn.here h2) (by intro e; rw [e] at hn1; simp at hn1)) ?_
          rintro ⟨bu, ou, rfl⟩
          refine ok_learn (VwIn.base (n := 3) (p := pm) (len := (kids'.map docV).length) (cap := cm) (xs := kids'.map docV) (VwIn.here g2) (by intro e; rw [e] at hn2; simp at hn2)) ?_
          rintro ⟨bw, ow, rfl⟩
          generalize kids[i] = x at hx hs hinv
          generalize kids'[i] = y at hy hs hinv
          generalize sameD x.c y.c = sb at hs hinv
          obtain ⟨xt, ⟨xl, hxl⟩, xr, ⟨xk, hxk⟩, xs⟩ := x
          obtain ⟨yt, ⟨yl, hyl⟩, yr, ⟨yk, hyk⟩, ys⟩ := y
          dsimp only [docV] at hx hy hs
          cases sb with
          | true =>
            rw [Bool.true_and] at hinv
            repeat' (first | (refine go_Y ?_; intros) | (refine gs_Y ?_ ?_ <;> (intro hgd; try (simp only [Bool.not_true, Bool.not_false] at hgd))) | (refine gc_Y ?_ ?_ <;> intro _) | fail)
            refine cl_Y (hs) ?_
            intro _ _
            repeat' (first | (refine go_Y ?_; intros) | (refine gs_Y ?_ ?_ <;> (intro hgd; try (simp only [Bool.not_true, Bool.not_false] at hgd))) | (refine gc_Y ?_ ?_ <;> intro _) | fail)
            refine cont_map (L' := [P, pts b2 (.cells [.int .i64 t, lv, .slice (some ⟨bu, ou, none⟩) (kids.map docV).length ck].toArray 64), pts b3 (.cells [.int .i64 t', lv', .slice (some ⟨bw, ow, none⟩) (kids'.map docV).length cm].toArray 64)] ++ R) entD ?_
            refine cont_back (i + 1) ⟨ha0, hinv, ⟨rfl, rfl, rfl, trivial⟩, rfl⟩ (by omega)
          | false =>
            rw [Bool.false_and] at hinv
            repeat' (first | (refine go_Y ?_; intros) | (refine gs_Y ?_ ?_ <;> (intro hgd; try (simp only [Bool.not_true, Bool.not_false] at hgd))) | (refine gc_Y ?_ ?_ <;> intro _) | fail)
            refine cl_Y (hs) ?_
            intro _ _
            repeat' (first | (refine go_Y ?_; intros) | (refine gs_Y ?_ ?_ <;> (intro hgd; try (simp only [Bool.not_true, Bool.not_false] at hgd))) | (refine gc_Y ?_ ?_ <;> intro _) | fail)
            (refine rt_Y (y := ()) (hrs := Tryd.results64) (hv := ?_) (hφ := ?_))
            · rw [← hinv]; rfl
            · trivial
set_option maxHeartbeats 2000000 in
theorem Same24_spec {P : HProp} {a b : Dm} (ha : DocR P a) (hb : DocR P b) : FSpec Tryd.prog 27 [.agg (docV a).toArray, .agg (docV b).toArray] [P] Unit (fun _ => True) (fun _ => .bool (decide (0 < sizeS a.c) && (decide (0 < sizeS b.c) && sameD a.c b.c))) (fun _ => [P]) := by
  have s1 := Size24_spec ha
  have s2 := Size24_spec hb
  have s3 := same24_spec ha hb
  generalize sizeS a.c = x at s1
  generalize sizeS b.c = y at s2
  generalize sameD a.c b.c = z at s3
  obtain ⟨t, ⟨lv, hlv⟩, row, ⟨kv, hkv⟩, kids⟩ := a
  obtain ⟨t', ⟨lv', hlv'⟩, row', ⟨kv', hkv'⟩, kids'⟩ := b
  dsimp only [docV] at s1 s2 s3 ⊢
  cases e1 : decide (0 < x) with
  | false =>
    rw [Bool.false_and]
    refine spec_intro [] _ Tryd.func27 rfl Tryd.ntmps27 (by rfl) (fun w0 R => ?_)
    repeat' (first | (refine go_Y ?_; intros) | (refine gs_Y ?_ ?_ <;> (intro hgd; try (simp only [Bool.not_true, Bool.not_false] at hgd))) | (refine gc_Y ?_ ?_ <;> intro _) | fail)
    refine cl_Y (s1) ?_
    intro _ _
    repeat' (first | (refine go_Y ?_; intros) | (refine gs_Y ?_ ?_ <;> (intro hgd; try (simp only [Bool.not_true, Bool.not_false] at hgd))) | (refine gc_Y ?_ ?_ <;> intro _) | fail)
    (refine rt_Y (y := ()) (hrs := Tryd.results27) (hv := ?_) (hφ := ?_))
    · rfl
    · trivial
  | true =>
    rw [Bool.true_and]
    cases e2 : decide (0 < y) with
    | false =>
      rw [Bool.false_and]
      refine spec_intro [] _ Tryd.func27 rfl Tryd.ntmps27 (by rfl) (fun w0 R => ?_)
      repeat' (first | (refine go_Y ?_; intros) | (refine gs_Y ?_ ?_ <;> (intro hgd; try (simp only [Bool.not_true, Bool.not_false] at hgd))) | (refine gc_Y ?_ ?_ <;> intro _) | fail)
      refine cl_Y (s1) ?_
      intro _ _
      repeat' (first | (refine go_Y ?_; intros) | (refine gs_Y ?_ ?_ <;> (intro hgd; try (simp only [Bool.not_true, Bool.not_false] at hgd))) | (refine gc_Y ?_ ?_ <;> intro _) | fail)
      refine cl_Y (s2) ?_
      intro _ _
      repeat' (first | (refine go_Y ?_; intros) | (refine gs_Y ?_ ?_ <;> (intro hgd; try (simp only [Bool.not_true, Bool.not_false] at hgd))) | (refine gc_Y ?_ ?_ <;> intro _) | fail)
      (refine rt_Y (y := ()) (hrs := Tryd.results27) (hv := ?_) (hφ := ?_))
      · rfl
      · trivial
    | true =>
      rw [Bool.true_and]
      refine spec_intro [] _ Tryd.func27 rfl Tryd.ntmps27 (by rfl) (fun w0 R => ?_)
      repeat' (first | (refine go_Y ?_; intros) | (refine gs_Y ?_ ?_ <;> (intro hgd; try (simp only [Bool.not_true, Bool.not_false] at hgd))) | (refine gc_Y ?_ ?_ <;> intro _) | fail)
      refine cl_Y (s1) ?_
      intro _ _
      repeat' (first | (refine go_Y ?_; intros) | (refine gs_Y ?_ ?_ <;> (intro hgd; try (simp only [Bool.not_true, Bool.not_false] at hgd))) | (refine gc_Y ?_ ?_ <;> intro _) | fail)
      refine cl_Y (s2) ?_
      intro _ _
      repeat' (first | (refine go_Y ?_; intros) | (refine gs_Y ?_ ?_ <;> (intro hgd; try (simp only [Bool.not_true, Bool.not_false] at hgd))) | (refine gc_Y ?_ ?_ <;> intro _) | fail)
      refine cl_Y (s3) ?_
      intro _ _
      repeat' (first | (refine go_Y ?_; intros) | (refine gs_Y ?_ ?_ <;> (intro hgd; try (simp only [Bool.not_true, Bool.not_false] at hgd))) | (refine gc_Y ?_ ?_ <;> intro _) | fail)
      (refine rt_Y (y := ()) (hrs := Tryd.results27) (hv := ?_) (hφ := ?_))
      · rfl
      · trivial
end Go.Proofs.YtphaegcoldpclaaDoor
/- A table's children (schema.Kids); documents, one by one (fascicleref24.SameAll). -/
-- @DEFS Y
set_option linter.unusedSimpArgs false
set_option linter.unusedVariables false
set_option maxRecDepth 100000
namespace Go.Proofs.YtphaegcoldpclaaDoor
open Go Go.Fx Go.Proofs Go.Pl

def cnV (n : Int) : List Value := [.int .i64 n]
def kidsUp (s : Sc) (t : Int) (n : Nat) : List Int := ((List.range n).map fun n : Nat => (n : Int)).filter fun c => decide ((tabAt s c).par = t)
theorem kidsUp_step (s : Sc) (t : Int) (n : Nat) : kidsUp s t (n + 1) = if (tabAt s (n : Int)).par = t then kidsUp s t n ++ [(n : Int)] else kidsUp s t n := by
  unfold kidsUp
  rw [List.range_succ, List.map_append, List.filter_append]
  simp only [List.map_cons, List.map_nil, List.filter_cons, List.filter_nil, decide_eq_true_eq]
  split <;> simp
theorem kidsUp_all (s : Sc) (t : Int) : kidsUp s t s.length = kidsS s t := rfl
theorem kidsUp_len (s : Sc) (t : Int) (n : Nat) : (kidsUp s t n).length ≤ n := by
  unfold kidsUp
  refine Nat.le_trans (List.length_filter_le _ _) ?_
  simp
set_option maxHeartbeats 4000000 in
theorem kids_spec (vs : Value) (ts : List Tb) (t : Int) (A : HProp) (h : SV A vs ts) (hh : hasS (ts.map Tb.c) t = true) :
    FSpec Tryd.prog 110 [.agg #[vs], .int .i64 t] [A] V1s (fun _ => True) (fun y => y.1) (fun y => [row 3 1 y.1 ((kidsS (ts.map Tb.c) t).map cnV), A]) := by
  have hhs := has_spec t vs ts A h
  rw [hh] at hhs
  have hvw := h.vw
  have htl : ts.length ≤ 12 := by
    simp only [hasS, Bool.and_eq_true] at hh
    obtain ⟨_, _, _, _, h12⟩ := checkS_ok hh.1
    rwa [List.length_map] at h12
  have lt : (ts.map tbV).length = ts.length := by simp
  have lc : (ts.map Tb.c).length = ts.length := by simp
  refine spec_intro [] _ Tryd.func110 rfl Tryd.ntmps110 (by rfl) (fun w0 R => ?_)
  refine ok_learn (VwIn.slice (VwIn.here hvw)) ?_
  rintro ⟨pv, cv, rfl⟩
  repeat' (first | (refine go_Y ?_; intros) | (refine gs_Y ?_ ?_ <;> (intro hgd; try (simp only [Bool.not_true, Bool.not_false] at hgd))) | (refine gc_Y ?_ ?_ <;> intro _) | fail)
  rename_i b2
  refine cl_Y (hhs) ?_
  intro _ _
  repeat' (first | (refine go_Y ?_; intros) | (refine gs_Y ?_ ?_ <;> (intro hgd; try (simp only [Bool.not_true, Bool.not_false] at hgd))) | (refine gc_Y ?_ ?_ <;> intro _) | fail)
  refine ok_map (fun _ h => nilRow (e := 3) (n := 1) h) ?_
  refine ok_map (L' := [A, row 3 1 (.slice none 0 0) ((kidsUp (ts.map Tb.c) t 0).map cnV), pts b2 (.cells [.slice pv (ts.map tbV).length cv].toArray 24)] ++ R) entD ?_
  refine ok_loop' (γ := Nat × V1s) (fun g ρ L => g.1 ≤ ts.length ∧ Knows ρ [(1, .int .i64 t), (4, g.2.1), (12, .slice pv (ts.map tbV).length cv), (13, .int .i64 ((ts.map tbV).length : Int)), (14, .int .i64 g.1)] ∧
      L = [A, row 3 1 g.2.1 ((kidsUp (ts.map Tb.c) t g.1).map cnV), pts b2 (.cells [.slice pv (ts.map tbV).length cv].toArray 24)] ++ R) (fun g => ts.length - g.1)
    (0, ⟨.slice none 0 0, rfl⟩) ⟨by simp, ⟨rfl, rfl, rfl, rfl, rfl, trivial⟩, rfl⟩ ?_
  rintro ⟨i, ⟨v, hv⟩⟩ ρ L ⟨hi, hk, rfl⟩
  dsimp only at hi hk ⊢
  refine ok_regs hk ?_
  have hul := kidsUp_len (ts.map Tb.c) t i
  have hum : ((kidsUp (ts.map Tb.c) t i).map cnV).length ≤ i := by rw [List.length_map]; exact hul
  refine ok_learn (rowShapeS (e := 3) (n := 1) (v := v) (xs := (kidsUp (ts.map Tb.c) t i).map cnV) (by decide) takeD) ?_
  rintro ⟨pr, cr, rfl, hcr, hsr⟩
  cases t1 : decide ((i : Int) < ((ts.map tbV).length : Int)) with
  | false =>
    have hie : i = (ts.map Tb.c).length := by have := of_decide_eq_false t1; omega
    subst hie
    rw [kidsUp_all]
    repeat' (first | (refine go_Y ?_; intros) | (refine gs_Y ?_ ?_ <;> (intro hgd; try (simp only [Bool.not_true, Bool.not_false] at hgd))) | (refine gc_Y ?_ ?_ <;> intro _) | fail)
    (refine rt_Y (y := ⟨.slice pr ((kidsUp (ts.map Tb.c) t (ts.map Tb.c).length).map cnV).length cr, rfl⟩) (hrs := Tryd.results110) (hv := ?_) (hφ := ?_))
    · rfl
    · trivial
  | true =>
    have h0 : i < ts.length := by have := of_decide_eq_true t1; omega
    have hx : (ts.map tbV)[i]? = some (tbV ts[i]) := by rw [List.getElem?_map, List.getElem?_eq_getElem h0]; rfl
    have hn1 : i < (ts.map tbV).length := by omega
    have hst := kidsUp_step (ts.map Tb.c) t i
    have hta : tabAt (ts.map Tb.c) (i : Int) = ts[i].c := by
      unfold tabAt
      rw [Int.toNat_natCast, List.getElem?_map, List.getElem?_eq_getElem h0]; rfl
    rw [hta] at hst
    refine ok_learn (VwIn.base (n := 5) (xs := ts.map tbV) (VwIn.here hvw) (by intro e; rw [e] at hn1; simp at hn1)) ?_
    rintro ⟨bu, ou, rfl⟩
    generalize ts[i] = x at hx hst
    obtain ⟨xn, xc, ⟨xv, hxv⟩, xk, xr, xp⟩ := x
    dsimp only [tbV, Tb.c] at hx hst
    have hone : oneCells [Value.string xn, xv, Value.int .i64 xk, Value.int .i64 xr, Value.int .i64 xp] = true := by
      simp only [oneCells, List.all_cons, List.all_nil, hxv, Bool.and_true]; rfl
    cases t2 : decide (xp = t) with
    | false =>
      have hst := hst.trans (if_neg (of_decide_eq_false t2))
      repeat' (first | (refine go_Y ?_; intros) | (refine gs_Y ?_ ?_ <;> (intro hgd; try (simp only [Bool.not_true, Bool.not_false] at hgd))) | (refine gc_Y ?_ ?_ <;> intro _) | fail)
      refine cont_map (L' := [A, row 3 1 (.slice pr ((kidsUp (ts.map Tb.c) t i).map cnV).length cr) ((kidsUp (ts.map Tb.c) t (i + 1)).map cnV), pts b2 (.cells [.slice (some ⟨bu, ou, none⟩) (ts.map tbV).length cv].toArray 24)] ++ R) (by rw [hst]; exact entD) ?_
      refine cont_back (i + 1, ⟨.slice pr ((kidsUp (ts.map Tb.c) t i).map cnV).length cr, rfl⟩) ⟨h0, ⟨rfl, rfl, rfl, rfl, rfl, trivial⟩, rfl⟩ (by show ts.length - (i + 1) < ts.length - i; omega)
    | true =>
      have hst := hst.trans (if_pos (of_decide_eq_true t2))
      generalize kidsUp (ts.map Tb.c) t i = acc at hst hum hcr hul ⊢
      repeat' (first | (refine go_Y ?_; intros) | (refine gs_Y ?_ ?_ <;> (intro hgd; try (simp only [Bool.not_true, Bool.not_false] at hgd))) | (refine gc_Y ?_ ?_ <;> intro _) | fail)
      rename_i b6 v1 hv1 v2 hv2
      refine cont_map (L' := [A, row 3 1 v2 ((kidsUp (ts.map Tb.c) t (i + 1)).map cnV), pts b2 (.cells [.slice (some ⟨bu, ou, none⟩) (ts.map tbV).length cv].toArray 24)] ++ R) (by rw [hst, List.map_append]; exact entD) ?_
      refine cont_back (i + 1, ⟨v2, hv2⟩) ⟨h0, ⟨rfl, rfl, rfl, rfl, rfl, trivial⟩, rfl⟩ (by show ts.length - (i + 1) < ts.length - i; omega)
end Go.Proofs.YtphaegcoldpclaaDoor
