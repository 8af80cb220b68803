/- Texts merged: PgG PgH PgS. -/
import Derived.Test.YtphaegcoldpclaaGreatDoorG16
set_option linter.unusedSimpArgs false
set_option linter.unusedVariables false
set_option maxRecDepth 100000
namespace Go.Proofs.YtphaegcoldpclaaGreatDoor
open Go Go.Fx Go.Proofs Go.Pl

end Go.Proofs.YtphaegcoldpclaaGreatDoor
set_option linter.unusedSimpArgs false
set_option linter.unusedVariables false
set_option maxRecDepth 100000
namespace Go.Proofs.YtphaegcoldpclaaGreatDoor
open Go Go.Fx Go.Proofs Go.Pl

def cnV (n : Int) : List Value := [.int .i64 n]
def kidsUp (s : Sc) (t : Int) (n : Nat) : List Int := ((List.range n).map fun n : Nat => (n : Int)).filter fun c => decide ((tabAt s c).par = t)
theorem kidsUp_step (s : Sc) (t : Int) (n : Nat) : kidsUp s t (n + 1) = if (tabAt s (n : Int)).par = t then kidsUp s t n ++ [(n : Int)] else kidsUp s t n := by
  unfold kidsUp
  rw [List.range_succ, List.map_append, List.filter_append]
  simp only [List.map_cons, List.map_nil, List.filter_cons, List.filter_nil, decide_eq_true_eq]
  split <;> simp
theorem kidsUp_all (s : Sc) (t : Int) : kidsUp s t s.length = kidsS s t := rfl
theorem kidsUp_len (s : Sc) (t : Int) (n : Nat) : (kidsUp s t n).length ≤ n := by
  unfold kidsUp
  refine Nat.le_trans (List.length_filter_le _ _) ?_
  simp
set_option maxHeartbeats 4000000 in
theorem kids_spec (vs : Value) (ts : List Tb) (t : Int) (A : HProp) (h : SV A vs ts) (hh : hasS (ts.map Tb.c) t = true) :
    FSpec Tryz.prog 77 [.agg #[vs], .int .i64 t] [A] V1s (fun _ => True) (fun y => y.1) (fun y => [row 3 1 y.1 ((kidsS (ts.map Tb.c) t).map cnV), A]) := by
  have hhs := has_spec t vs ts A h
  rw [hh] at hhs
  have hvw := h.vw
  have htl : ts.length ≤ 12 := by
    simp only [hasS, Bool.and_eq_true] at hh
    obtain ⟨_, _, _, _, h12⟩ := checkS_ok hh.1
    rwa [List.length_map] at h12
  have lt : (ts.map tbV).length = ts.length := by simp
  have lc : (ts.map Tb.c).length = ts.length := by simp
  refine spec_intro [] _ Tryz.func77 rfl Tryz.ntmps77 (by rfl) (fun w0 R => ?_)
  refine ok_learn (VwIn.slice (VwIn.here hvw)) ?_
  rintro ⟨pv, cv, rfl⟩
  repeat' (first | (refine go_Y ?_; intros) | (refine gs_Y ?_ ?_ <;> (intro hgd; try (simp only [Bool.not_true, Bool.not_false] at hgd))) | (refine gc_Y ?_ ?_ <;> intro _) | fail)
  rename_i b2
  refine cl_Y (hhs) ?_
  intro _ _
  repeat' (first | (refine go_Y ?_; intros) | (refine gs_Y ?_ ?_ <;> (intro hgd; try (simp only [Bool.not_true, Bool.not_false] at hgd))) | (refine gc_Y ?_ ?_ <;> intro _) | fail)
  refine ok_map (fun _ h => nilRow (e := 3) (n := 1) h) ?_
  refine ok_map (L' := [A, row 3 1 (.slice none 0 0) ((kidsUp (ts.map Tb.c) t 0).map cnV), pts b2 (.cells [.slice pv (ts.map tbV).length cv].toArray 24)] ++ R) entD ?_
  refine ok_loop' (γ := Nat × V1s) (fun g ρ L => g.1 ≤ ts.length ∧ Knows ρ [(1, .int .i64 t), (4, g.2.1), (12, .slice pv (ts.map tbV).length cv), (13, .int .i64 ((ts.map tbV).length : Int)), (14, .int .i64 g.1)] ∧
      L = [A, row 3 1 g.2.1 ((kidsUp (ts.map Tb.c) t g.1).map cnV), pts b2 (.cells [.slice pv (ts.map tbV).length cv].toArray 24)] ++ R) (fun g => ts.length - g.1)
    (0, ⟨.slice none 0 0, rfl⟩) ⟨by simp, ⟨rfl, rfl, rfl, rfl, rfl, trivial⟩, rfl⟩ ?_
  rintro ⟨i, ⟨v, hv⟩⟩ ρ L ⟨hi, hk, rfl⟩
  dsimp only at hi hk ⊢
  refine ok_regs hk ?_
  have hul := kidsUp_len (ts.map Tb.c) t i
  have hum : ((kidsUp (ts.map Tb.c) t i).map cnV).length ≤ i := by rw [List.length_map]; exact hul
  refine ok_learn (rowShapeS (e := 3) (n := 1) (v := v) (xs := (kidsUp (ts.map Tb.c) t i).map cnV) (by decide) takeD) ?_
  rintro ⟨pr, cr, rfl, hcr, hsr⟩
  cases t1 : decide ((i : Int) < ((ts.map tbV).length : Int)) with
  | false =>
    have hie : i = (ts.map Tb.c).length := by have := of_decide_eq_false t1; omega
    subst hie
    rw [kidsUp_all]
    repeat' (first | (refine go_Y ?_; intros) | (refine gs_Y ?_ ?_ <;> (intro hgd; try (simp only [Bool.not_true, Bool.not_false] at hgd))) | (refine gc_Y ?_ ?_ <;> intro _) | fail)
    (refine rt_Y (y := ⟨.slice pr ((kidsUp (ts.map Tb.c) t (ts.map Tb.c).length).map cnV).length cr, rfl⟩) (hrs := Tryz.results77) (hv := ?_) (hφ := ?_))
    · rfl
    · trivial
  | true =>
    have h0 : i < ts.length := by have := of_decide_eq_true t1; omega
    have hx : (ts.map tbV)[i]? = some (tbV ts[i]) := by rw [List.getElem?_map, List.getElem?_eq_getElem h0]; rfl
    have hn1 : i < (ts.map tbV).length := by omega
    have hst := kidsUp_step (ts.map Tb.c) t i
    have hta : tabAt (ts.map Tb.c) (i : Int) = ts[i].c := by
      unfold tabAt
      rw [Int.toNat_natCast, List.getElem?_map, List.getElem?_eq_getElem h0]; rfl
    rw [hta] at hst
    refine ok_learn (VwIn.base (n := 5) (xs := ts.map tbV) (VwIn.here hvw) (by intro e; rw [e] at hn1; simp at hn1)) ?_
    rintro ⟨bu, ou, rfl⟩
    generalize ts[i] = x at hx hst
    obtain ⟨xn, xc, ⟨xv, hxv⟩, xk, xr, xp⟩ := x
    dsimp only [tbV, Tb.c] at hx hst
    have hone : oneCells [Value.string xn, xv, Value.int .i64 xk, Value.int .i64 xr, Value.int .i64 xp] = true := by
      simp only [oneCells, List.all_cons, List.all_nil, hxv, Bool.and_true]; rfl
    cases t2 : decide (xp = t) with
    | false =>
      have hst := hst.trans (if_neg (of_decide_eq_false t2))
      repeat' (first | (refine go_Y ?_; intros) | (refine gs_Y ?_ ?_ <;> (intro hgd; try (simp only [Bool.not_true, Bool.not_false] at hgd))) | (refine gc_Y ?_ ?_ <;> intro _) | fail)
      refine cont_map (L' := [A, row 3 1 (.slice pr ((kidsUp (ts.map Tb.c) t i).map cnV).length cr) ((kidsUp (ts.map Tb.c) t (i + 1)).map cnV), pts b2 (.cells [.slice (some ⟨bu, ou, none⟩) (ts.map tbV).length cv].toArray 24)] ++ R) (by rw [hst]; exact entD) ?_
      refine cont_back (i + 1, ⟨.slice pr ((kidsUp (ts.map Tb.c) t i).map cnV).length cr, rfl⟩) ⟨h0, ⟨rfl, rfl, rfl, rfl, rfl, trivial⟩, rfl⟩ (by show ts.length - (i + 1) < ts.length - i; omega)
    | true =>
      have hst := hst.trans (if_pos (of_decide_eq_true t2))
      generalize kidsUp (ts.map Tb.c) t i = acc at hst hum hcr hul ⊢
      repeat' (first | (refine go_Y ?_; intros) | (refine gs_Y ?_ ?_ <;> (intro hgd; try (simp only [Bool.not_true, Bool.not_false] at hgd))) | (refine gc_Y ?_ ?_ <;> intro _) | fail)
      rename_i b6 v1 hv1 v2 hv2
      refine cont_map (L' := [A, row 3 1 v2 ((kidsUp (ts.map Tb.c) t (i + 1)).map cnV), pts b2 (.cells [.slice (some ⟨bu, ou, none⟩) (ts.map tbV).length cv].toArray 24)] ++ R) (by rw [hst, List.map_append]; exact entD) ?_
      refine cont_back (i + 1, ⟨v2, hv2⟩) ⟨h0, ⟨rfl, rfl, rfl, rfl, rfl, trivial⟩, rfl⟩ (by show ts.length - (i + 1) < ts.length - i; omega)
end Go.Proofs.YtphaegcoldpclaaGreatDoor
set_option linter.unusedSimpArgs false
set_option linter.unusedVariables false
namespace Go.Proofs.YtphaegcoldpclaaGreatDoor
open Go Go.Fx Go.Proofs Go.Pl

structure Near (r r' : Rl) (p : Pc) : Prop where
  s : r'.s = r.s
  get : ∀ x, x ≠ p → aget x r'.rows = aget x r.rows
theorem Did.near {r r' : Rl} {o : Opr} {p : Pc} {was now : List Vl} (hr : r.Ok) (d : Did r o p r' was now) : Near r r' p :=
  ⟨d.s, fun x hn => by
    rcases d.kind with ⟨_, _, e, _⟩ | ⟨_, _, e, _⟩ | ⟨_, _, e, _⟩
    · rw [e, aget_put, if_neg hn]
    · rw [e, aget_put, if_neg hn]
    · rw [e, aget_del _ _ hr.nd, if_neg hn]⟩
theorem Near.symm {r r' : Rl} {p : Pc} (h : Near r r' p) : Near r' r p := ⟨h.s.symm, fun x hn => (h.get x hn).symm⟩
def rootAt (r : Rl) (p : Pc) : Option Pr2 := match aget p r.rows with
  | none => none
  | some l => rootR r (p.1, l)
section
variable {r r' : Rl} {R R' : List Pr2} {p : Pc}
theorem Near.mem (hn : Near r r' p) (h : RowsQ r R) (h' : RowsQ r' R') {x : Pr2} (hx : x ∈ R) (hp : pcOf r.s x ≠ p) : x ∈ R' := by
  have h1 := (h.mem x).1 hx
  rw [h'.mem, hn.s, hn.get _ hp]
  exact h1
theorem Near.far (h : RowsQ r R) {p0 m : Pr2} (hp0 : p0 ∈ R) (hr : (tabAt r.s p0.1).par < 0) (hno : rootAt r p ≠ some p0) (hm : m ∈ R) (k : Reach r.s R p0 m) : pcOf r.s m ≠ p := by
  intro e
  apply hno
  unfold rootAt
  have h1 := (h.mem m).1 hm
  rw [e] at h1
  rw [h1]
  have h2 : p.1 = m.1 := by rw [← e]; rfl
  show rootR r (p.1, m.2) = some p0
  rw [h2]
  exact (rootR_iff h hm).2 ⟨hp0, hr, k⟩
theorem filter_same {s : Sc} {R R' : List Pr2} (h1 : R.Pairwise fun x y => pltB (pcOf s x) (pcOf s y) = true) (h2 : R'.Pairwise fun x y => pltB (pcOf s x) (pcOf s y) = true) {f : Pr2 → Bool} (hf : ∀ x, f x = true → (x ∈ R ↔ x ∈ R')) : R.filter f = R'.filter f := by
  have ir : ∀ x y : Pr2, pltB (pcOf s x) (pcOf s y) = true → ¬ pltB (pcOf s y) (pcOf s x) = true := fun x y a b => by
    have := plt_tr a b
    rw [plt_irr] at this; cases this
  have n1 : ∀ {R : List Pr2}, R.Pairwise (fun x y => pltB (pcOf s x) (pcOf s y) = true) → R.Nodup := fun h => h.imp fun h e => by
    rw [e, plt_irr] at h; cases h
  refine perm_sorted (lt := fun x y => pltB (pcOf s x) (pcOf s y) = true) ir ?_ (h1.filter f) (h2.filter f)
  rw [List.perm_ext_iff_of_nodup (n1 (h1.filter f)) (n1 (h2.filter f))]
  intro x
  rw [List.mem_filter, List.mem_filter]
  constructor
  · rintro ⟨a, b⟩; exact ⟨(hf x b).1 a, b⟩
  · rintro ⟨a, b⟩; exact ⟨(hf x b).2 a, b⟩
theorem docS_near (hn : Near r r' p) (h : RowsQ r R) (h' : RowsQ r' R') {p0 : Pr2} (hp0 : p0 ∈ R) (hp0' : p0 ∈ R') (hr : (tabAt r.s p0.1).par < 0) (hno : rootAt r p ≠ some p0) (hno' : rootAt r' p ≠ some p0) :
    ∀ (n : Nat) {m : Pr2}, m ∈ R → m ∈ R' → Reach r.s R p0 m → Reach r'.s R' p0 m → docS r.s R n m.1 m.2 = docS r'.s R' n m.1 m.2
  | 0, m, _, _, _, _ => by simp only [docS]
  | n + 1, m, hm, hm', k, k' => by
    rw [docS_succ, docS_succ]
    have hs := hn.s
    have hkids : kidsR r'.s R' m = kidsR r.s R m := by
      unfold kidsR
      rw [hs]
      refine fm_congr fun c hc => ?_
      have hpar := (mem_kidsS.1 hc).2
      have e : ofR R' c (askOf r.s c (Pl.keyOf r.s m.1 m.2)) = ofR R c (askOf r.s c (Pl.keyOf r.s m.1 m.2)) := by
        unfold ofR
        have h2 := h'.srt
        rw [hs] at h2
        rw [filter_same (s := r.s) h2 h.srt fun x hx => ?_]
        simp only [Bool.and_eq_true, decide_eq_true_eq] at hx
        obtain ⟨hx1, hx2⟩ := hx
        subst hx1
        have hc1 : ChildOf r.s m x := ⟨hpar, hx2⟩
        constructor
        · intro hxm
          have hx' : Reach r'.s R' p0 x := .step k' hm' hxm (by rw [hs]; exact hc1)
          have := Near.far h' hp0' (by rw [hs]; exact hr) hno' hxm hx'
          exact hn.symm.mem h' h hxm this
        · intro hxm
          have hx' : Reach r.s R p0 x := .step k hm hxm hc1
          exact hn.mem h h' hxm (Near.far h hp0 hr hno hxm hx')
      rw [e]
    rw [hkids]
    congr 1
    refine List.map_congr_left fun x hx => ?_
    obtain ⟨_, hx1, hx2⟩ := mem_kidsR.1 hx
    have hx' : Reach r.s R p0 x := .step k hm hx1 hx2
    have hfar := Near.far h hp0 hr hno hx1 hx'
    have hx1' := hn.mem h h' hx1 hfar
    exact docS_near hn h h' hp0 hp0' hr hno hno' n hx1 hx1' hx' (.step k' hm' hx1' (by rw [hs]; exact hx2))
theorem doc_local (hn : Near r r' p) (h : RowsQ r R) (h' : RowsQ r' R') {p0 : Pr2} (hp0' : p0 ∈ R') (hr : (tabAt r.s p0.1).par < 0) (hno : rootAt r p ≠ some p0) (hno' : rootAt r' p ≠ some p0) (n : Nat) :
    p0 ∈ R ∧ docS r.s R n p0.1 p0.2 = docS r'.s R' n p0.1 p0.2 := by
  have hf := Near.far h' hp0' (by rw [hn.s]; exact hr) hno' hp0' .refl
  have hp0 := hn.symm.mem h' h hp0' hf
  exact ⟨hp0, docS_near hn h h' hp0 hp0' hr hno hno' n hp0 hp0' .refl .refl⟩
end
end Go.Proofs.YtphaegcoldpclaaGreatDoor
