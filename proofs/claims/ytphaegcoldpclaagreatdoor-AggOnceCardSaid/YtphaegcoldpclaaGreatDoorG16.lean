/- Texts merged: PgG PgH PgS. -/
import Derived.Test.YtphaegcoldpclaaGreatDoorG14
/- Whether two documents are the same: fascicleref24.same, Same. -/
-- @DEFS Y
set_option linter.unusedSimpArgs false
set_option linter.unusedVariables false
set_option maxRecDepth 100000
namespace Go.Proofs.YtphaegcoldpclaaGreatDoor
open Go Go.Fx Go.Proofs Go.Pl

end Go.Proofs.YtphaegcoldpclaaGreatDoor
/- A table's children (schema.Kids); documents, one by one (fascicleref24.SameAll). -/
-- @DEFS Y
set_option linter.unusedSimpArgs false
set_option linter.unusedVariables false
set_option maxRecDepth 100000
namespace Go.Proofs.YtphaegcoldpclaaGreatDoor
open Go Go.Fx Go.Proofs Go.Pl

def cnV (n : Int) : List Value := [.int .i64 n]
def kidsUp (s : Sc) (t : Int) (n : Nat) : List Int := ((List.range n).map fun n : Nat => (n : Int)).filter fun c => decide ((tabAt s c).par = t)
theorem kidsUp_step (s : Sc) (t : Int) (n : Nat) : kidsUp s t (n + 1) = if (tabAt s (n : Int)).par = t then kidsUp s t n ++ [(n : Int)] else kidsUp s t n := by
  unfold kidsUp
  rw [List.range_succ, List.map_append, List.filter_append]
  simp only [List.map_cons, List.map_nil, List.filter_cons, List.filter_nil, decide_eq_true_eq]
  split <;> simp
theorem kidsUp_all (s : Sc) (t : Int) : kidsUp s t s.length = kidsS s t := rfl
theorem kidsUp_len (s : Sc) (t : Int) (n : Nat) : (kidsUp s t n).length ≤ n := by
  unfold kidsUp
  refine Nat.le_trans (List.length_filter_le _ _) ?_
  simp
set_option maxHeartbeats 4000000 in
theorem kids_spec (vs : Value) (ts : List Tb) (t : Int) (A : HProp) (h : SV A vs ts) (hh : hasS (ts.map Tb.c) t = true) :
    FSpec Tryz.prog 77 [.agg #[vs], .int .i64 t] [A] V1s (fun _ => True) (fun y => y.1) (fun y => [row 3 1 y.1 ((kidsS (ts.map Tb.c) t).map cnV), A]) := by
  have hhs := has_spec t vs ts A h
  rw [hh] at hhs
  have hvw := h.vw
  have htl : ts.length ≤ 12 := by
    simp only [hasS, Bool.and_eq_true] at hh
    obtain ⟨_, _, _, _, h12⟩ := checkS_ok hh.1
    rwa [List.length_map] at h12
  have lt : (ts.map tbV).length = ts.length := by simp
  have lc : (ts.map Tb.c).length = ts.length := by simp
  refine spec_intro [] _ Tryz.func77 rfl Tryz.ntmps77 (by rfl) (fun w0 R => ?_)
  refine ok_learn (VwIn.slice (VwIn.here hvw)) ?_
  rintro ⟨pv, cv, rfl⟩
  repeat' (first | (refine go_Y ?_; intros) | (refine gs_Y ?_ ?_ <;> (intro hgd; try (simp only [Bool.not_true, Bool.not_false] at hgd))) | (refine gc_Y ?_ ?_ <;> intro _) | fail)
  rename_i b2
  refine cl_Y (hhs) ?_
  intro _ _
  repeat' (first | (refine go_Y ?_; intros) | (refine gs_Y ?_ ?_ <;> (intro hgd; try (simp only [Bool.not_true, Bool.not_false] at hgd))) | (refine gc_Y ?_ ?_ <;> intro _) | fail)
  refine ok_map (fun _ h => nilRow (e := 3) (n := 1) h) ?_
  refine ok_map (L' := [A, row 3 1 (.slice none 0 0) ((kidsUp (ts.map Tb.c) t 0).map cnV), pts b2 (.cells [.slice pv (ts.map tbV).length cv].toArray 24)] ++ R) entD ?_
  refine ok_loop' (γ := Nat × V1s) (fun g ρ L => g.1 ≤ ts.length ∧ Knows ρ [(1, .int .i64 t), (4, g.2.1), (12, .slice pv (ts.map tbV).length cv), (13, .int .i64 ((ts.map tbV).length : Int)), (14, .int .i64 g.1)] ∧
      L = [A, row 3 1 g.2.1 ((kidsUp (ts.map Tb.c) t g.1).map cnV), pts b2 (.cells [.slice pv (ts.map tbV).length cv].toArray 24)] ++ R) (fun g => ts.length - g.1)
    (0, ⟨.slice none 0 0, rfl⟩) ⟨by simp, ⟨rfl, rfl, rfl, rfl, rfl, trivial⟩, rfl⟩ ?_
  rintro ⟨i, ⟨v, hv⟩⟩ ρ L ⟨hi, hk, rfl⟩
  dsimp only at hi hk ⊢
  refine ok_regs hk ?_
  have hul := kidsUp_len (ts.map Tb.c) t i
  have hum : ((kidsUp (ts.map Tb.c) t i).map cnV).length ≤ i := by rw [List.length_map]; exact hul
  refine ok_learn (rowShapeS (e := 3) (n := 1) (v := v) (xs := (kidsUp (ts.map Tb.c) t i).map cnV) (by decide) takeD) ?_
  rintro ⟨pr, cr, rfl, hcr, hsr⟩
  cases t1 : decide ((i : Int) < ((ts.map tbV).length : Int)) with
  | false =>
    have hie : i = (ts.map Tb.c).length := by have := of_decide_eq_false t1; omega
    subst hie
    rw [kidsUp_all]
    repeat' (first | (refine go_Y ?_; intros) | (refine gs_Y ?_ ?_ <;> (intro hgd; try (simp only [Bool.not_true, Bool.not_false] at hgd))) | (refine gc_Y ?_ ?_ <;> intro _) | fail)
    (refine rt_Y (y := ⟨.slice pr ((kidsUp (ts.map Tb.c) t (ts.map Tb.c).length).map cnV).length cr, rfl⟩) (hrs := Tryz.results77) (hv := ?_) (hφ := ?_))
    · rfl
    · trivial
  | true =>
    have h0 : i < ts.length := by have := of_decide_eq_true t1; omega
    have hx : (ts.map tbV)[i]? = some (tbV ts[i]) := by rw [List.getElem?_map, List.getElem?_eq_getElem h0]; rfl
    have hn1 : i < (ts.map tbV).length := by omega
    have hst := kidsUp_step (ts.map Tb.c) t i
    have hta : tabAt (ts.map Tb.c) (i : Int) = ts[i].c := by
      unfold tabAt
      rw [Int.toNat_natCast, List.getElem?_map, List.getElem?_eq_getElem h0]; rfl
    rw [hta] at hst
    refine ok_learn (VwIn.base (n := 5) (xs := ts.map tbV) (VwIn.here hvw) (by intro e; rw [e] at hn1; simp at hn1)) ?_
    rintro ⟨bu, ou, rfl⟩
    generalize ts[i] = x at hx hst
    obtain ⟨xn, xc, ⟨xv, hxv⟩, xk, xr, xp⟩ := x
    dsimp only [tbV, Tb.c] at hx hst
    have hone : oneCells [Value.string xn, xv, Value.int .i64 xk, Value.int .i64 xr, Value.int .i64 xp] = true := by
      simp only [oneCells, List.all_cons, List.all_nil, hxv, Bool.and_true]; rfl
    cases t2 : decide (xp = t) with
    | false =>
      have hst := hst.trans (if_neg (of_decide_eq_false t2))
      repeat' (first | (refine go_Y ?_; intros) | (refine gs_Y ?_ ?_ <;> (intro hgd; try (simp only [Bool.not_true, Bool.not_false] at hgd))) | (refine gc_Y ?_ ?_ <;> intro _) | fail)
      refine cont_map (L' := [A, row 3 1 (.slice pr ((kidsUp (ts.map Tb.c) t i).map cnV).length cr) ((kidsUp (ts.map Tb.c) t (i + 1)).map cnV), pts b2 (.cells [.slice (some ⟨bu, ou, none⟩) (ts.map tbV).length cv].toArray 24)] ++ R) (by rw [hst]; exact entD) ?_
      refine cont_back (i + 1, ⟨.slice pr ((kidsUp (ts.map Tb.c) t i).map cnV).length cr, rfl⟩) ⟨h0, ⟨rfl, rfl, rfl, rfl, rfl, trivial⟩, rfl⟩ (by show ts.length - (i + 1) < ts.length - i; omega)
    | true =>
      have hst := hst.trans (if_pos (of_decide_eq_true t2))
      generalize kidsUp (ts.map Tb.c) t i = acc at hst hum hcr hul ⊢
      repeat' (first | (refine go_Y ?_; intros) | (refine gs_Y ?_ ?_ <;> (intro hgd; try (simp only [Bool.not_true, Bool.not_false] at hgd))) | (refine gc_Y ?_ ?_ <;> intro _) | fail)
      rename_i b6 v1 hv1 v2 hv2
      refine cont_map (L' := [A, row 3 1 v2 ((kidsUp (ts.map Tb.c) t (i + 1)).map cnV), pts b2 (.cells [.slice (some ⟨bu, ou, none⟩) (ts.map tbV).length cv].toArray 24)] ++ R) (by rw [hst, List.map_append]; exact entD) ?_
      refine cont_back (i + 1, ⟨v2, hv2⟩) ⟨h0, ⟨rfl, rfl, rfl, rfl, rfl, trivial⟩, rfl⟩ (by show ts.length - (i + 1) < ts.length - i; omega)
end Go.Proofs.YtphaegcoldpclaaGreatDoor
/- An op changes no documents but those of the roots that its row has ahead of it, and behind it (layer 24), in plain Lean. -/
set_option linter.unusedSimpArgs false
set_option linter.unusedVariables false
namespace Go.Proofs.YtphaegcoldpclaaGreatDoor
open Go Go.Fx Go.Proofs Go.Pl

/-- Two states that differ at one place alone. -/
structure Near (r r' : Rl) (p : Pc) : Prop where
  s : r'.s = r.s
  get : ∀ x, x ≠ p → aget x r'.rows = aget x r.rows
theorem Near.symm {r r' : Rl} {p : Pc} (h : Near r r' p) : Near r' r p := ⟨h.s.symm, fun x hn => (h.get x hn).symm⟩
/-- The root of what stands at a place, if any. -/
def rootAt (r : Rl) (p : Pc) : Option Pr2 := match aget p r.rows with
  | none => none
  | some l => rootR r (p.1, l)
section
variable {r r' : Rl} {R R' : List Pr2} {p : Pc}
theorem Near.mem (hn : Near r r' p) (h : RowsQ r R) (h' : RowsQ r' R') {x : Pr2} (hx : x ∈ R) (hp : pcOf r.s x ≠ p) : x ∈ R' := by
  have h1 := (h.mem x).1 hx
  rw [h'.mem, hn.s, hn.get _ hp]
  exact h1
theorem filter_same {s : Sc} {R R' : List Pr2} (h1 : R.Pairwise fun x y => pltB (pcOf s x) (pcOf s y) = true) (h2 : R'.Pairwise fun x y => pltB (pcOf s x) (pcOf s y) = true) {f : Pr2 → Bool} (hf : ∀ x, f x = true → (x ∈ R ↔ x ∈ R')) : R.filter f = R'.filter f := by
  have ir : ∀ x y : Pr2, pltB (pcOf s x) (pcOf s y) = true → ¬ pltB (pcOf s y) (pcOf s x) = true := fun x y a b => by
    have := plt_tr a b
    rw [plt_irr] at this; cases this
  have n1 : ∀ {R : List Pr2}, R.Pairwise (fun x y => pltB (pcOf s x) (pcOf s y) = true) → R.Nodup := fun h => h.imp fun h e => by
    rw [e, plt_irr] at h; cases h
  refine perm_sorted (lt := fun x y => pltB (pcOf s x) (pcOf s y) = true) ir ?_ (h1.filter f) (h2.filter f)
  rw [List.perm_ext_iff_of_nodup (n1 (h1.filter f)) (n1 (h2.filter f))]
  intro x
  rw [List.mem_filter, List.mem_filter]
  constructor
  · rintro ⟨a, b⟩; exact ⟨(hf x b).1 a, b⟩
  · rintro ⟨a, b⟩; exact ⟨(hf x b).2 a, b⟩
end
end Go.Proofs.YtphaegcoldpclaaGreatDoor
