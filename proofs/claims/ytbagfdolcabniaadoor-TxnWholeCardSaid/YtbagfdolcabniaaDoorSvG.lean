/- The walk of rel.some. -/
import Derived.Test.YtbagfdolcabniaaDoorSvF
-- @DEFS Y
set_option linter.unusedSimpArgs false
set_option linter.unusedVariables false
set_option maxRecDepth 100000
set_option pp.deepTerms true
set_option pp.maxSteps 200000
namespace Go.Proofs.YtbagfdolcabniaaDoor
open Go Go.Fx Go.Proofs Go.Pl

abbrev Rw := V1s × List Vl
def rwV (x : Rw) : List Value := [x.1.1]
theorem pool_out {A P : HProp} {L : List HProp} {h : Frag} (s : SatL (pool A P :: L) h) : SatL (A :: P :: L) h := SatL.flat (M := [A, P]) s
def keyAt (k : Nat) (x : Rw) : Vl := (x.2[k]?).getD default
theorem sortRw_spec (v : Value) (acc : List Rw) (kn bk : Nat) (Q : HProp) (hall : ∀ x ∈ acc, Vw Q 4 x.1.1 (x.2.map valV) ∧ kn < x.2.length) (hl : acc.length ≤ 1000000) :
    FSpec Tryd.prog 118 [v, .func (.func 119) #[] #[.pointer (some ⟨bk, 0, none⟩)]] [row 26 1 v (acc.map rwV), pts bk (.cells [.int .i64 (kn : Int)].toArray 3), Q] (List Rw)
      (fun l' => l'.Perm acc ∧ l'.Pairwise (fun x y => lessV (keyAt kn y) (keyAt kn x) = false)) (fun _ => .tuple #[]) (fun l' => [row 26 1 v (l'.map rwV), pts bk (.cells [.int .i64 (kn : Int)].toArray 3), Q]) := by
  generalize hB : pts bk (.cells [Value.int .i64 (kn : Int)].toArray 3) = B
  have hin : ∀ (A : HProp) (R : List HProp) (h : Frag), SatL ([A, B, Q] ++ R) h → SatL ([A, pool B Q] ++ R) h :=
    fun A R h s => by
      have s1 : SatL (A :: (B :: Q :: R)) h := s
      exact s1.consMono fun _ k => pool_in k
  have hout : ∀ (A : HProp) (R : List HProp) (h : Frag), SatL ([A, pool B Q] ++ R) h → SatL ([A, B, Q] ++ R) h :=
    fun A R h s => by
      have s1 : SatL (A :: (pool B Q :: R)) h := s
      exact s1.consMono fun _ k => pool_out k
  cases acc with
  | nil => exact FSpec.conseq (sort_none (m := false) 26 (.func (.func 119) #[] #[.pointer (some ⟨bk, 0, none⟩)]) v (pool B Q)) (fun R h s => hin _ R h s) (fun _ _ => ⟨[], ⟨.refl _, .nil⟩, rfl, fun R h s => hout _ R h s⟩)
  | cons a acc =>
    generalize hA : a :: acc = ac at hall hl ⊢
    have ha : a ∈ ac := by rw [← hA]; exact List.mem_cons_self ..
    haveI : Inhabited { x : Rw // Vw Q 4 x.1.1 (x.2.map valV) ∧ kn < x.2.length } := ⟨⟨a, hall a ha⟩⟩
    have hv1 : ((ac.pmap (fun x h => (⟨x, h⟩ : { x : Rw // Vw Q 4 x.1.1 (x.2.map valV) ∧ kn < x.2.length })) hall).map fun y => y.1) = ac := by
      rw [List.map_pmap]; simp
    have hrow : ∀ l : List { x : Rw // Vw Q 4 x.1.1 (x.2.map valV) ∧ kn < x.2.length }, (l.map fun y => [y.1.1.1]) = (l.map fun y => y.1).map rwV := fun l => by rw [List.map_map]; rfl
    have hkey : ∀ y : { x : Rw // Vw Q 4 x.1.1 (x.2.map valV) ∧ kn < x.2.length }, y.1.2[kn]'y.2.2 = keyAt kn y.1 := fun y => by unfold keyAt; rw [List.getElem?_eq_getElem y.2.2]; rfl
    have hlt : Go.Sort.SWO (Go.Proofs.ltOf fun x y : { x : Rw // Vw Q 4 x.1.1 (x.2.map valV) ∧ kn < x.2.length } => if lessV (keyAt kn x.1) (keyAt kn y.1) then (-1 : Int) else 1) := by
      have e : (Go.Proofs.ltOf fun x y : { x : Rw // Vw Q 4 x.1.1 (x.2.map valV) ∧ kn < x.2.length } => if lessV (keyAt kn x.1) (keyAt kn y.1) then (-1 : Int) else 1) = fun x y => lessV (keyAt kn x.1) (keyAt kn y.1) := by
        funext x y
        unfold Go.Proofs.ltOf
        cases hl : lessV (keyAt kn x.1) (keyAt kn y.1) <;> simp [hl]
      rw [e]; exact less_swo _
    have hs := sort_spec (m := false) (fun y : { x : Rw // Vw Q 4 x.1.1 (x.2.map valV) ∧ kn < x.2.length } => y.1.1.1) (fun y => y.1.1.2) (fun x y => if lessV (keyAt kn x.1) (keyAt kn y.1) then -1 else 1) hlt 119 [.pointer (some ⟨bk, 0, none⟩)]
      (pool B Q) 26 v (ac.pmap (fun x h => ⟨x, h⟩) hall) (by rw [List.length_pmap]; exact hl) (fun x y A hE => by
        have ho := order_spec (m := true) x.1.1.1 y.1.1.1 x.1.2 y.1.2 kn bk A (((Ext.pool _ _).trans hE).vw x.2.1) (((Ext.pool _ _).trans hE).vw y.2.1) (Ext.rd ((Ext.poolL _ _).trans hE) (by rw [← hB]; exact Rd.pts _ _)) x.2.2 y.2.2
        rw [hkey x, hkey y] at ho
        exact ho)
    rw [hrow, hv1] at hs
    refine FSpec.conseq hs (fun R h s => hin _ R h s) (fun l' ⟨hp, hsr⟩ => ⟨l'.map (fun y => y.1), ⟨?_, ?_⟩, rfl, fun R h s => hout _ R h (by rw [← hrow]; exact s)⟩)
    · have := hp.map (fun y => y.1)
      rw [hv1] at this
      exact this
    · rw [List.pairwise_map]
      refine hsr.imp fun {x y} h => ?_
      unfold Go.Proofs.ltOf at h
      cases hl' : lessV (keyAt kn y.1) (keyAt kn x.1) with
      | false => rfl
      | true => simp [hl'] at h
theorem rows_none {r : Rl} (hok : r.Ok) {t : Int} {ask : List Vl → Bool} (h : t < 0 ∨ (r.s.length : Int) ≤ t) : rowsAt r t ask = [] := by
  cases hr : rowsAt r t ask with
  | nil => rfl
  | cons l ls =>
    exfalso
    obtain ⟨p, hm, ht⟩ := rowsAt_mem hok (t := t) (ask := ask) (l := l) (by rw [hr]; exact List.mem_cons_self ..)
    have hro := (hok.rows _ hm).row
    simp only [rowS, Bool.and_eq_true] at hro
    obtain ⟨h0, h1, _⟩ := hasS_tab hro.1
    omega
set_option maxHeartbeats 4000000 in
theorem some_none (b : Nat) (r : Rl) (t : Int) (fv : Value) (hfv : fv.oneCell' = true) (P : HProp) (hok : r.Ok) (h : t < 0 ∨ (r.s.length : Int) ≤ t) :
    FSpec Tryd.prog 90 [.pointer (some ⟨b, 0, none⟩), .int .i64 t, fv] [relP P b r, P] Unit (fun _ => True) (fun _ => .slice none 0 0) (fun _ => [relP P b r, P]) := by
  refine fspec_ex ?_
  rintro ⟨⟨vs, ts, m, es⟩, hy⟩
  have hy' := hy
  obtain ⟨hvc, hsv, hss, hes⟩ := hy
  dsimp only at hvc hsv hss hes
  unfold relL
  dsimp only
  have hv := hsv.vw
  have htl : (ts.map tbV).length = r.s.length := by rw [← hss]; simp
  cases t1 : decide (t < 0) with
  | true =>
    refine spec_intro [] _ Tryd.func90 rfl Tryd.ntmps90 (by rfl) (fun w0 R => ?_)
    repeat' (first | (refine go_Y ?_; intros) | (refine gs_Y ?_ ?_ <;> (intro hgd; try (simp only [Bool.not_true, Bool.not_false] at hgd))) | (refine gc_Y ?_ ?_ <;> intro _) | fail)
    refine cont_map (fun _ h => rel_in (b := b) (r := r) hy' (Take.out takeD h)) ?_
    (refine rt_Y (y := ()) (hrs := Tryd.results90) (hv := ?_) (hφ := ?_))
    · rfl
    · trivial
  | false =>
    have t2 : decide (((ts.map tbV).length : Int) ≤ t) = true := by have := of_decide_eq_false t1; rw [htl]; simp only [decide_eq_true_eq]; omega
    refine spec_intro [] _ Tryd.func90 rfl Tryd.ntmps90 (by rfl) (fun w0 R => ?_)
    refine ok_learn (VwIn.slice (VwIn.there (VwIn.there (VwIn.here hv)))) ?_
    rintro ⟨pv, cv, rfl⟩
    repeat' (first | (refine go_Y ?_; intros) | (refine gs_Y ?_ ?_ <;> (intro hgd; try (simp only [Bool.not_true, Bool.not_false] at hgd))) | (refine gc_Y ?_ ?_ <;> intro _) | fail)
    refine cont_map (fun _ h => rel_in (b := b) (r := r) hy' (Take.out takeD h)) ?_
    (refine rt_Y (y := ()) (hrs := Tryd.results90) (hv := ?_) (hφ := ?_))
    · rfl
    · trivial
end Go.Proofs.YtbagfdolcabniaaDoor
