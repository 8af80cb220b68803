/- The reference's state (fascicleref14): Get, All, Of. -/
import Derived.Test.YtbagfdolcabniaaGreatDoorQcG
import Derived.Test.YtbagfdolcabniaaGreatDoorG12
-- @DEFS Y
set_option linter.unusedSimpArgs false
set_option linter.unusedVariables false
set_option maxRecDepth 100000
namespace Go.Proofs.YtbagfdolcabniaaGreatDoor
open Go Go.Fx Go.Proofs Go.Pl

set_option maxHeartbeats 4000000 in
theorem get14_spec (b : Nat) (r : Rl) (t : Int) (k : Vl) (P : HProp) (hok : r.Ok) (hwf : Rl.Wf r) (hU : UT P) (hkw : k.wf) :
    FSpec Tryz.prog 61 [.pointer (some ⟨b, 0, none⟩), .int .i64 t, .agg (valV k).toArray] [rfP P b r, P] V1s (fun y => Vw P 4 y.1 ((r.getOp t k).1.map valV)) (fun y => .tuple #[y.1, .int .i64 (r.getOp t k).2]) (fun _ => [rfP P b r, P]) := by
  refine fspec_ex ?_
  rintro ⟨⟨vs, ts, vr, q⟩, hy⟩
  have hy' := hy
  obtain ⟨hvc, hvrc, hsv, hss, hrq, hrv⟩ := hy
  dsimp only at hvc hvrc hsv hss hrq hrv
  unfold rfL
  dsimp only
  have hkey := key13_spec t k vs ts P hvc hsv hU hkw
  rw [hss] at hkey
  have hat := at14_spec b r vs vr ts q P t k hok hwf hy' hkw
  rw [hrq.is] at hat
  have hvw := hsv.vw
  have hqm : (q.map rrV).length = q.length := by simp
  have hfound := fun l (hl : aget (t, k) r.rows = some l) => hrq.found hl
  generalize atN r.s q (t, k) = N at *
  unfold Rl.getOp
  cases hks : keyS r.s t k with
  | false =>
    rw [hks] at hkey
    rw [if_neg (by decide)]
    obtain ⟨kk, ki, kr, ks⟩ := k
    dsimp only [valV] at hkey ⊢
    refine spec_intro [] _ Tryz.func61 rfl Tryz.ntmps61 (by rfl) (fun w0 R => ?_)
    refine ok_learn (VwIn.slice (VwIn.there (VwIn.there (VwIn.here hvw)))) ?_
    rintro ⟨pv, cv, rfl⟩
    repeat' (first | (refine go_Y ?_; intros) | (refine gs_Y ?_ ?_ <;> (intro hgd; try (simp only [Bool.not_true, Bool.not_false] at hgd))) | (refine gc_Y ?_ ?_ <;> intro _) | fail)
    refine cl_Y (hkey) ?_
    intro _ _
    repeat' (first | (refine go_Y ?_; intros) | (refine gs_Y ?_ ?_ <;> (intro hgd; try (simp only [Bool.not_true, Bool.not_false] at hgd))) | (refine gc_Y ?_ ?_ <;> intro _) | fail)
    refine cont_map (fun _ h => rf_in (b := b) (r := r) (P := P) hy' (Take.out takeD h)) ?_
    (refine rt_Y (y := ⟨.slice none 0 0, rfl⟩) (hrs := Tryz.results61) (hv := ?_) (hφ := ?_))
    · rfl
    · exact vw_nil4
  | true =>
    rw [hks] at hkey
    rw [if_pos rfl]
    cases hg : aget (t, k) r.rows with
    | none =>
      rw [hg, Option.isSome_none] at hat
      obtain ⟨kk, ki, kr, ks⟩ := k
      dsimp only [valV] at hkey hat ⊢
      refine spec_intro [] _ Tryz.func61 rfl Tryz.ntmps61 (by rfl) (fun w0 R => ?_)
      refine ok_learn (VwIn.slice (VwIn.there (VwIn.there (VwIn.here hvw)))) ?_
      rintro ⟨pv, cv, rfl⟩
      repeat' (first | (refine go_Y ?_; intros) | (refine gs_Y ?_ ?_ <;> (intro hgd; try (simp only [Bool.not_true, Bool.not_false] at hgd))) | (refine gc_Y ?_ ?_ <;> intro _) | fail)
      refine cl_Y (hkey) ?_
      intro _ _
      repeat' (first | (refine go_Y ?_; intros) | (refine gs_Y ?_ ?_ <;> (intro hgd; try (simp only [Bool.not_true, Bool.not_false] at hgd))) | (refine gc_Y ?_ ?_ <;> intro _) | fail)
      refine cl_Y (hat) ?_
      intro _ _
      repeat' (first | (refine go_Y ?_; intros) | (refine gs_Y ?_ ?_ <;> (intro hgd; try (simp only [Bool.not_true, Bool.not_false] at hgd))) | (refine gc_Y ?_ ?_ <;> intro _) | fail)
      refine cont_map (fun _ h => rf_in (b := b) (r := r) (P := P) hy' (Take.out takeD h)) ?_
      (refine rt_Y (y := ⟨.slice none 0 0, rfl⟩) (hrs := Tryz.results61) (hv := ?_) (hφ := ?_))
      · rfl
      · exact vw_nil4
    | some l =>
      rw [hg, Option.isSome_some] at hat
      obtain ⟨x, hqx, hxp⟩ := hfound l hg
      have hN : N < q.length := (List.getElem?_eq_some_iff.1 hqx).1
      have hxx : (q.map rrV)[N]? = some (rrV x) := by rw [List.getElem?_map, hqx]; rfl
      have hxv := hrv x (List.mem_of_getElem? hqx)
      have hxl : x.l = l := congrArg Prod.snd hxp
      clear hxp hfound
      obtain ⟨xt, ⟨xv, hxv1⟩, xl⟩ := x
      dsimp only at hxl
      subst hxl
      have hn1 : N < (q.map rrV).length := by omega
      obtain ⟨kk, ki, kr, ks⟩ := k
      dsimp only [valV, rrV] at hkey hat hxx hxv ⊢
      refine spec_intro [] _ Tryz.func61 rfl Tryz.ntmps61 (by rfl) (fun w0 R => ?_)
      refine ok_learn (VwIn.slice (VwIn.there (VwIn.there (VwIn.here hvw)))) ?_
      rintro ⟨pv, cv, rfl⟩
      refine ok_learn (rowShapeS (e := 114) (n := 2) (v := vr) (xs := q.map rrV) (by decide) takeD) ?_
      rintro ⟨pr, cr, rfl, hcr, hsp⟩
      refine ok_learn (VwIn.base (n := 2) (xs := q.map rrV) (VwIn.there (VwIn.here Vw.row)) (by intro e; rw [e] at hn1; simp at hn1)) ?_
      rintro ⟨br, or', rfl⟩
      repeat' (first | (refine go_Y ?_; intros) | (refine gs_Y ?_ ?_ <;> (intro hgd; try (simp only [Bool.not_true, Bool.not_false] at hgd))) | (refine gc_Y ?_ ?_ <;> intro _) | fail)
      refine cl_Y (hkey) ?_
      intro _ _
      repeat' (first | (refine go_Y ?_; intros) | (refine gs_Y ?_ ?_ <;> (intro hgd; try (simp only [Bool.not_true, Bool.not_false] at hgd))) | (refine gc_Y ?_ ?_ <;> intro _) | fail)
      refine cl_Y (hat) ?_
      intro _ _
      repeat' (first | (refine go_Y ?_; intros) | (refine gs_Y ?_ ?_ <;> (intro hgd; try (simp only [Bool.not_true, Bool.not_false] at hgd))) | (refine gc_Y ?_ ?_ <;> intro _) | fail)
      refine cont_map (fun _ h => rf_in (b := b) (r := r) (P := P) hy' (Take.out takeD h)) ?_
      (refine rt_Y (y := ⟨xv, hxv1⟩) (hrs := Tryz.results61) (hv := ?_) (hφ := ?_))
      · rfl
      · exact hxv
/-- What is collected of the first rows. -/
def upQ (q : List Rr) (t : Int) (ask : List Vl → Bool) (n : Nat) : List Rw := ((q.take n).filter fun x => decide (x.t = t) && ask x.l).map fun x => (x.lv, x.l)
theorem upQ_step {q : List Rr} {t : Int} {ask : List Vl → Bool} {n : Nat} {x : Rr} (h : q[n]? = some x) : upQ q t ask (n + 1) = if decide (x.t = t) && ask x.l then upQ q t ask n ++ [(x.lv, x.l)] else upQ q t ask n := by
  obtain ⟨hn, rfl⟩ := List.getElem?_eq_some_iff.1 h
  unfold upQ
  rw [List.take_succ_eq_append_getElem hn, List.filter_append, List.map_append]
  cases hc : (decide (q[n].t = t) && ask q[n].l) with
  | true => simp [hc]
  | false => simp [hc]
theorem upQ_all {q : List Rr} {t : Int} {ask : List Vl → Bool} : (upQ q t ask q.length).map (·.2) = (q.filter fun x => decide (x.t = t) && ask x.l).map (·.l) := by
  unfold upQ
  rw [List.take_length, List.map_map]; rfl
theorem upQ_mem {q : List Rr} {t : Int} {ask : List Vl → Bool} {n : Nat} {y : Rw} (h : y ∈ upQ q t ask n) : ∃ x ∈ q, y = (x.lv, x.l) := by
  unfold upQ at h
  obtain ⟨x, hx, rfl⟩ := List.mem_map.1 h
  exact ⟨x, List.mem_of_mem_take (List.mem_filter.1 hx).1, rfl⟩
theorem upQ_len {q : List Rr} {t : Int} {ask : List Vl → Bool} {n : Nat} : (upQ q t ask n).length ≤ q.length := by
  unfold upQ
  rw [List.length_map]
  refine Nat.le_trans (List.length_filter_le ..) ?_
  rw [List.length_take]; omega
abbrev RwY := V1s × List Rw
set_option maxHeartbeats 4000000 in
theorem all14o_spec (b : Nat) (r : Rl) (t : Int) (P : HProp) (vs vr : Value) (ts : List Tb) (q : List Rr) (hok : r.Ok) (hy : RfOK P r ⟨vs, ts, vr, q⟩) :
    FSpec Tryz.prog 59 [.pointer (some ⟨b, 0, none⟩), .int .i64 t] [pts b (.cells [vs, vr, .int .u64 r.turns].toArray 47), row 114 2 vr (q.map rrV), P] RwY (fun y => (∀ x ∈ y.2, Vw P 4 x.1.1 (x.2.map valV)) ∧ InOrder r t (fun _ => true) (y.2.map (·.2))) (fun y => y.1.1)
      (fun y => [row 35 1 y.1.1 (y.2.map rwV), pts b (.cells [vs, vr, .int .u64 r.turns].toArray 47), row 114 2 vr (q.map rrV), P]) := by
  have hy' := hy
  obtain ⟨hvc, hvrc, hsv, hss, hrq, hrv⟩ := hy
  dsimp only at hvc hvrc hsv hss hrq hrv
  have hqm : (q.map rrV).length = q.length := by simp
  have hql := hrq.len
  have hrl := hok.len
  refine spec_intro [] _ Tryz.func59 rfl Tryz.ntmps59 (by rfl) (fun w0 R => ?_)
  refine ok_learn (rowShapeS (e := 114) (n := 2) (v := vr) (xs := q.map rrV) (by decide) takeD) ?_
  rintro ⟨pr, cr, rfl, hcr, hsp⟩
  repeat' (first | (refine go_Y ?_; intros) | (refine gs_Y ?_ ?_ <;> (intro hgd; try (simp only [Bool.not_true, Bool.not_false] at hgd))) | (refine gc_Y ?_ ?_ <;> intro _) | fail)
  refine ok_map (fun _ h => nilRow (e := 35) (n := 1) h) ?_
  refine ok_map (L' := [row 35 1 (.slice none 0 0) [], pts b (.cells [vs, .slice pr (q.map rrV).length cr, .int .u64 r.turns].toArray 47), row 114 2 (.slice pr (q.map rrV).length cr) (q.map rrV), P] ++ R) entD ?_
  refine ok_loop' (γ := Nat × V1s) (fun g ρ L => g.1 ≤ q.length ∧ Knows ρ [(0, .pointer (some ⟨b, 0, none⟩)), (1, .int .i64 t), (5, g.2.1), (6, .int .i64 g.1)] ∧
      L = [row 35 1 g.2.1 ((upQ q t (fun _ => true) g.1).map rwV), pts b (.cells [vs, .slice pr (q.map rrV).length cr, .int .u64 r.turns].toArray 47), row 114 2 (.slice pr (q.map rrV).length cr) (q.map rrV), P] ++ R) (fun g => q.length - g.1)
    (0, ⟨.slice none 0 0, rfl⟩) ⟨by simp, ⟨rfl, rfl, rfl, rfl, trivial⟩, rfl⟩ ?_
  rintro ⟨n, ⟨v, hvo⟩⟩ ρ L ⟨hn, hk, rfl⟩
  dsimp only at hn hk ⊢
  refine ok_regs hk ?_
  have hul := upQ_len (q := q) (t := t) (ask := fun _ => true) (n := n)
  have hum : ((upQ q t (fun _ => true) n).map rwV).length ≤ 200 := by rw [List.length_map]; omega
  cases t1 : decide ((n : Int) < ((q.map rrV).length : Int)) with
  | false =>
    have hne : n = q.length := by have := of_decide_eq_false t1; omega
    subst hne
    repeat' (first | (refine go_Y ?_; intros) | (refine gs_Y ?_ ?_ <;> (intro hgd; try (simp only [Bool.not_true, Bool.not_false] at hgd))) | (refine gc_Y ?_ ?_ <;> intro _) | fail)
    (refine rt_Y (y := (⟨v, hvo⟩, upQ q t (fun _ => true) q.length)) (hrs := Tryz.results59) (hv := ?_) (hφ := ?_))
    · rfl
    · refine ⟨fun x hx => ?_, ?_⟩
      · obtain ⟨y, hy, rfl⟩ := upQ_mem (show x ∈ upQ q t (fun _ => true) q.length from hx)
        exact hrv y hy
      · rw [upQ_all]; exact hrq.inOrder hok t _
  | true =>
    have h0 : n < q.length := by have := of_decide_eq_true t1; omega
    have hqn : q[n]? = some q[n] := List.getElem?_eq_getElem h0
    have hx : (q.map rrV)[n]? = some (rrV q[n]) := by rw [List.getElem?_map, hqn]; rfl
    have hn1 : n < (q.map rrV).length := by omega
    have hst := upQ_step (t := t) (ask := fun _ => true) hqn
    have hrx := hrv _ (List.getElem_mem h0)
    refine ok_learn (VwIn.base (n := 2) (xs := q.map rrV) (VwIn.there (VwIn.there (VwIn.here Vw.row))) (by intro e; rw [e] at hn1; simp at hn1)) ?_
    rintro ⟨br, or', rfl⟩
    generalize q[n] = x at hqn hx hst hrx
    obtain ⟨xt, ⟨xv, hxv⟩, xl⟩ := x
    dsimp only [rrV] at hx hst hrx
    rw [Bool.and_true] at hst
    refine ok_learn (VwIn.slice (VwIn.there (VwIn.there (VwIn.there (VwIn.here hrx))))) ?_
    rintro ⟨px, cx, rfl⟩
    cases t2 : decide (xt = t) with
    | false =>
      rw [t2, if_neg (by decide)] at hst
      repeat' (first | (refine go_Y ?_; intros) | (refine gs_Y ?_ ?_ <;> (intro hgd; try (simp only [Bool.not_true, Bool.not_false] at hgd))) | (refine gc_Y ?_ ?_ <;> intro _) | fail)
      refine cont_back (n + 1, ⟨v, hvo⟩) ⟨h0, ⟨rfl, rfl, rfl, rfl, trivial⟩, by rw [hst]⟩ (by show q.length - (n + 1) < q.length - n; omega)
    | true =>
      rw [t2, if_pos rfl] at hst
      generalize upQ q t (fun _ => true) n = acc at hst hum hul ⊢
      repeat' (first | (refine go_Y ?_; intros) | (refine gs_Y ?_ ?_ <;> (intro hgd; try (simp only [Bool.not_true, Bool.not_false] at hgd))) | (refine gc_Y ?_ ?_ <;> intro _) | fail)
      rename_i v1 hv1 v2 hv2
      refine cont_map (L' := [row 35 1 v2 ((upQ q t (fun _ => true) (n + 1)).map rwV), pts b (.cells [vs, .slice (some ⟨br, or', none⟩) (q.map rrV).length cr, .int .u64 r.turns].toArray 47), row 114 2 (.slice (some ⟨br, or', none⟩) (q.map rrV).length cr) (q.map rrV), P] ++ R) (by rw [hst, List.map_append]; exact entD) ?_
      refine cont_back (n + 1, ⟨v2, hv2⟩) ⟨h0, ⟨rfl, rfl, rfl, rfl, trivial⟩, rfl⟩ (by show q.length - (n + 1) < q.length - n; omega)
theorem all14_spec (b : Nat) (r : Rl) (t : Int) (P : HProp) (hok : r.Ok) :
    FSpec Tryz.prog 59 [.pointer (some ⟨b, 0, none⟩), .int .i64 t] [rfP P b r, P] RwY (fun y => (∀ x ∈ y.2, Vw P 4 x.1.1 (x.2.map valV)) ∧ InOrder r t (fun _ => true) (y.2.map (·.2))) (fun y => y.1.1)
      (fun y => [row 35 1 y.1.1 (y.2.map rwV), rfP P b r, P]) := by
  refine fspec_ex ?_
  rintro ⟨⟨vs, ts, vr, q⟩, hy⟩
  intro w0 w R hs
  refine (all14o_spec b r t P vs vr ts q hok hy w0 w R hs).mono ?_
  rintro e w' ⟨y, hφ, he, hs'⟩
  exact ⟨y, hφ, he, hs'.map fun _ h => h.consMono fun _ h => rf_in hy h⟩
end Go.Proofs.YtbagfdolcabniaaGreatDoor
