/- Texts merged: QcH QcI QcJ QcK. -/
import Derived.Test.YtbagfdolcabniaaGreatDoorQcG
import Derived.Test.YtbagfdolcabniaaGreatDoorG12
/- The reference's state (fascicleref14): Get, All, Of. -/
-- @DEFS Y
set_option linter.unusedSimpArgs false
set_option linter.unusedVariables false
set_option maxRecDepth 100000
namespace Go.Proofs.YtbagfdolcabniaaGreatDoor
open Go Go.Fx Go.Proofs Go.Pl

set_option maxHeartbeats 4000000 in
theorem get14_spec (b : Nat) (r : Rl) (t : Int) (k : Vl) (P : HProp) (hok : r.Ok) (hwf : Rl.Wf r) (hU : UT P) (hkw : k.wf) :
    FSpec Tryz.prog 61 [.pointer (some ⟨b, 0, none⟩), .int .i64 t, .agg (valV k).toArray] [rfP P b r, P] V1s (fun y => Vw P 4 y.1 ((r.getOp t k).1.map valV)) (fun y => .tuple #[y.1, .int .i64 (r.getOp t k).2]) (fun _ => [rfP P b r, P]) := by
  refine fspec_ex ?_
  rintro ⟨⟨vs, ts, vr, q⟩, hy⟩
  have hy' := hy
  obtain ⟨hvc, hvrc, hsv, hss, hrq, hrv⟩ := hy
  dsimp only at hvc hvrc hsv hss hrq hrv
  unfold rfL
  dsimp only
  have hkey := key13_spec t k vs ts P hvc hsv hU hkw
  rw [hss] at hkey
  have hat := at14_spec b r vs vr ts q P t k hok hwf hy' hkw
  rw [hrq.is] at hat
  have hvw := hsv.vw
  have hqm : (q.map rrV).length = q.length := by simp
  have hfound := fun l (hl : aget (t, k) r.rows = some l) => hrq.found hl
  generalize atN r.s q (t, k) = N at *
  unfold Rl.getOp
  cases hks : keyS r.s t k with
  | false =>
    rw [hks] at hkey
    rw [if_neg (by decide)]
    obtain ⟨kk, ki, kr, ks⟩ := k
    dsimp only [valV] at hkey ⊢
    refine spec_intro [] _ Tryz.func61 rfl Tryz.ntmps61 (by rfl) (fun w0 R => ?_)
    refine ok_learn (VwIn.slice (VwIn.there (VwIn.there (VwIn.here hvw)))) ?_
    rintro ⟨pv, cv, rfl⟩
    repeat' (first | (refine go_Y ?_; intros) | (refine gs_Y ?_ ?_ <;> (intro hgd; try (simp only [Bool.not_true, Bool.not_false] at hgd))) | (refine gc_Y ?_ ?_ <;> intro _) | fail)
    refine cl_Y (hkey) ?_
    intro _ _
    repeat' (first | (refine go_Y ?_; intros) | (refine gs_Y ?_ ?_ <;> (intro hgd; try (simp only [Bool.not_true, Bool.not_false] at hgd))) | (refine gc_Y ?_ ?_ <;> intro _) | fail)
    refine cont_map (fun _ h => rf_in (b := b) (r := r) (P := P) hy' (Take.out takeD h)) ?_
    (refine rt_Y (y := ⟨.slice none 0 0, rfl⟩) (hrs := Tryz.results61) (hv := ?_) (hφ := ?_))
    · rfl
    · exact vw_nil4
  | true =>
    rw [hks] at hkey
    rw [if_pos rfl]
    cases hg : aget (t, k) r.rows with
    | none =>
      rw [hg, Option.isSome_none] at hat
      obtain ⟨kk, ki, kr, ks⟩ := k
      dsimp only [valV] at hkey hat ⊢
      refine spec_intro [] _ Tryz.func61 rfl Tryz.ntmps61 (by rfl) (fun w0 R => ?_)
      refine ok_learn (VwIn.slice (VwIn.there (VwIn.there (VwIn.here hvw)))) ?_
      rintro ⟨pv, cv, rfl⟩
      repeat' (first | (refine go_Y ?_; intros) | (refine gs_Y ?_ ?_ <;> (intro hgd; try (simp only [Bool.not_true, Bool.not_false] at hgd))) | (refine gc_Y ?_ ?_ <;> intro _) | fail)
      refine cl_Y (hkey) ?_
      intro _ _
      repeat' (first | (refine go_Y ?_; intros) | (refine gs_Y ?_ ?_ <;> (intro hgd; try (simp only [Bool.not_true, Bool.not_false] at hgd))) | (refine gc_Y ?_ ?_ <;> intro _) | fail)
      refine cl_Y (hat) ?_
      intro _ _
      repeat' (first | (refine go_Y ?_; intros) | (refine gs_Y ?_ ?_ <;> (intro hgd; try (simp only [Bool.not_true, Bool.not_false] at hgd))) | (refine gc_Y ?_ ?_ <;> intro _) | fail)
      refine cont_map (fun _ h => rf_in (b := b) (r := r) (P := P) hy' (Take.out takeD h)) ?_
      (refine rt_Y (y := ⟨.slice none 0 0, rfl⟩) (hrs := Tryz.results61) (hv := ?_) (hφ := ?_))
      · rfl
      · exact vw_nil4
    | some l =>
      rw [hg, Option.isSome_some] at hat
      obtain ⟨x, hqx, hxp⟩ := hfound l hg
      have hN : N < q.length := (List.getElem?_eq_some_iff.1 hqx).1
      have hxx : (q.map rrV)[N]? = some (rrV x) := by rw [List.getElem?_map, hqx]; rfl
      have hxv := hrv x (List.mem_of_getElem? hqx)
      have hxl : x.l = l := congrArg Prod.snd hxp
      clear hxp hfound
      obtain ⟨xt, ⟨xv, hxv1⟩, xl⟩ := x
      dsimp only at hxl
      subst hxl
      have hn1 : N < (q.map rrV).length := by omega
      obtain ⟨kk, ki, kr, ks⟩ := k
      dsimp only [valV, rrV] at hkey hat hxx hxv ⊢
      refine spec_intro [] _ Tryz.func61 rfl Tryz.ntmps61 (by rfl) (fun w0 R => ?_)
      refine ok_learn (VwIn.slice (VwIn.there (VwIn.there (VwIn.here hvw)))) ?_
      rintro ⟨pv, cv, rfl⟩
      refine ok_learn (rowShapeS (e := 114) (n := 2) (v := vr) (xs := q.map rrV) (by decide) takeD) ?_
      rintro ⟨pr, cr, rfl, hcr, hsp⟩
      refine ok_learn (VwIn.base (n := 2) (xs := q.map rrV) (VwIn.there (VwIn.here Vw.row)) (by intro e; rw [e] at hn1; simp at hn1)) ?_
      rintro ⟨br, or', rfl⟩
      repeat' (first | (refine go_Y ?_; intros) | (refine gs_Y ?_ ?_ <;> (intro hgd; try (simp only [Bool.not_true, Bool.not_false] at hgd))) | (refine gc_Y ?_ ?_ <;> intro _) | fail)
      refine cl_Y (hkey) ?_
      intro _ _
      repeat' (first | (refine go_Y ?_; intros) | (refine gs_Y ?_ ?_ <;> (intro hgd; try (simp only [Bool.not_true, Bool.not_false] at hgd))) | (refine gc_Y ?_ ?_ <;> intro _) | fail)
      refine cl_Y (hat) ?_
      intro _ _
      repeat' (first | (refine go_Y ?_; intros) | (refine gs_Y ?_ ?_ <;> (intro hgd; try (simp only [Bool.not_true, Bool.not_false] at hgd))) | (refine gc_Y ?_ ?_ <;> intro _) | fail)
      refine cont_map (fun _ h => rf_in (b := b) (r := r) (P := P) hy' (Take.out takeD h)) ?_
      (refine rt_Y (y := ⟨xv, hxv1⟩) (hrs := Tryz.results61) (hv := ?_) (hφ := ?_))
      · rfl
      · exact hxv
/-- What is collected of the first rows. -/
def upQ (q : List Rr) (t : Int) (ask : List Vl → Bool) (n : Nat) : List Rw := ((q.take n).filter fun x => decide (x.t = t) && ask x.l).map fun x => (x.lv, x.l)
theorem upQ_step {q : List Rr} {t : Int} {ask : List Vl → Bool} {n : Nat} {x : Rr} (h : q[n]? = some x) : upQ q t ask (n + 1) = if decide (x.t = t) && ask x.l then upQ q t ask n ++ [(x.lv, x.l)] else upQ q t ask n := by
  obtain ⟨hn, rfl⟩ := List.getElem?_eq_some_iff.1 h
  unfold upQ
  rw [List.take_succ_eq_append_getElem hn, List.filter_append, List.map_append]
  cases hc : (decide (q[n].t = t) && ask q[n].l) with
  | true => simp [hc]
  | false => simp [hc]
theorem upQ_all {q : List Rr} {t : Int} {ask : List Vl → Bool} : (upQ q t ask q.length).map (·.2) = (q.filter fun x => decide (x.t = t) && ask x.l).map (·.l) := by
  unfold upQ
  rw [List.take_length, List.map_map]; rfl
theorem upQ_mem {q : List Rr} {t : Int} {ask : List Vl → Bool} {n : Nat} {y : Rw} (h : y ∈ upQ q t ask n) : ∃ x ∈ q, y = (x.lv, x.l) := by
  unfold upQ at h
  obtain ⟨x, hx, rfl⟩ := List.mem_map.1 h
  exact ⟨x, List.mem_of_mem_take (List.mem_filter.1 hx).1, rfl⟩
theorem upQ_len {q : List Rr} {t : Int} {ask : List Vl → Bool} {n : Nat} : (upQ q t ask n).length ≤ q.length := by
  unfold upQ
  rw [List.length_map]
  refine Nat.le_trans (List.length_filter_le ..) ?_
  rw [List.length_take]; omega
abbrev RwY := V1s × List Rw
set_option maxHeartbeats 4000000 in
theorem all14o_spec (b : Nat) (r : Rl) (t : Int) (P : HProp) (vs vr : Value) (ts : List Tb) (q : List Rr) (hok : r.Ok) (hy : RfOK P r ⟨vs, ts, vr, q⟩) :
    FSpec Tryz.prog 59 [.pointer (some ⟨b, 0, none⟩), .int .i64 t] [pts b (.cells [vs, vr, .int .u64 r.turns].toArray 47), row 114 2 vr (q.map rrV), P] RwY (fun y => (∀ x ∈ y.2, Vw P 4 x.1.1 (x.2.map valV)) ∧ InOrder r t (fun _ => true) (y.2.map (·.2))) (fun y => y.1.1)
      (fun y => [row 35 1 y.1.1 (y.2.map rwV), pts b (.cells [vs, vr, .int .u64 r.turns].toArray 47), row 114 2 vr (q.map rrV), P]) := by
  have hy' := hy
  obtain ⟨hvc, hvrc, hsv, hss, hrq, hrv⟩ := hy
  dsimp only at hvc hvrc hsv hss hrq hrv
  have hqm : (q.map rrV).length = q.length := by simp
  have hql := hrq.len
  have hrl := hok.len
  refine spec_intro [] _ Tryz.func59 rfl Tryz.ntmps59 (by rfl) (fun w0 R => ?_)
  refine ok_learn (rowShapeS (e := 114) (n := 2) (v := vr) (xs := q.map rrV) (by decide) takeD) ?_
  rintro ⟨pr, cr, rfl, hcr, hsp⟩
  repeat' (first | (refine go_Y ?_; intros) | (refine gs_Y ?_ ?_ <;> (intro hgd; try (simp only [Bool.not_true, Bool.not_false] at hgd))) | (refine gc_Y ?_ ?_ <;> intro _) | fail)
  refine ok_map (fun _ h => nilRow (e := 35) (n := 1) h) ?_
  refine ok_map (L' := [row 35 1 (.slice none 0 0) [], pts b (.cells [vs, .slice pr (q.map rrV).length cr, .int .u64 r.turns].toArray 47), row 114 2 (.slice pr (q.map rrV).length cr) (q.map rrV), P] ++ R) entD ?_
  refine ok_loop' (γ := Nat × V1s) (fun g ρ L => g.1 ≤ q.length ∧ Knows ρ [(0, .pointer (some ⟨b, 0, none⟩)), (1, .int .i64 t), (5, g.2.1), (6, .int .i64 g.1)] ∧
      L = [row 35 1 g.2.1 ((upQ q t (fun _ => true) g.1).map rwV), pts b (.cells [vs, .slice pr (q.map rrV).length cr, .int .u64 r.turns].toArray 47), row 114 2 (.slice pr (q.map rrV).length cr) (q.map rrV), P] ++ R) (fun g => q.length - g.1)
    (0, ⟨.slice none 0 0, rfl⟩) ⟨by simp, ⟨rfl, rfl, rfl, rfl, trivial⟩, rfl⟩ ?_
  rintro ⟨n, ⟨v, hvo⟩⟩ ρ L ⟨hn, hk, rfl⟩
  dsimp only at hn hk ⊢
  refine ok_regs hk ?_
  have hul := upQ_len (q := q) (t := t) (ask := fun _ => true) (n := n)
  have hum : ((upQ q t (fun _ => true) n).map rwV).length ≤ 200 := by rw [List.length_map]; omega
  cases t1 : decide ((n : Int) < ((q.map rrV).length : Int)) with
  | false =>
    have hne : n = q.length := by have := of_decide_eq_false t1; omega
    subst hne
    repeat' (first | (refine go_Y ?_; intros) | (refine gs_Y ?_ ?_ <;> (intro hgd; try (simp only [Bool.not_true, Bool.not_false] at hgd))) | (refine gc_Y ?_ ?_ <;> intro _) | fail)
    (refine rt_Y (y := (⟨v, hvo⟩, upQ q t (fun _ => true) q.length)) (hrs := Tryz.results59) (hv := ?_) (hφ := ?_))
    · rfl
    · refine ⟨fun x hx => ?_, ?_⟩
      · obtain ⟨y, hy, rfl⟩ := upQ_mem (show x ∈ upQ q t (fun _ => true) q.length from hx)
        exact hrv y hy
      · rw [upQ_all]; exact hrq.inOrder hok t _
  | true =>
    have h0 : n < q.length := by have := of_decide_eq_true t1; omega
    have hqn : q[n]? = some q[n] := List.getElem?_eq_getElem h0
    have hx : (q.map rrV)[n]? = some (rrV q[n]) := by rw [List.getElem?_map, hqn]; rfl
    have hn1 : n < (q.map rrV).length := by omega
    have hst := upQ_step (t := t) (ask := fun _ => true) hqn
    have hrx := hrv _ (List.getElem_mem h0)
    refine ok_learn (VwIn.base (n := 2) (xs := q.map rrV) (VwIn.there (VwIn.there (VwIn.here Vw.row))) (by intro e; rw [e] at hn1; simp at hn1)) ?_
    rintro ⟨br, or', rfl⟩
    generalize q[n] = x at hqn hx hst hrx
    obtain ⟨xt, ⟨xv, hxv⟩, xl⟩ := x
    dsimp only [rrV] at hx hst hrx
    rw [Bool.and_true] at hst
    refine ok_learn (VwIn.slice (VwIn.there (VwIn.there (VwIn.there (VwIn.here hrx))))) ?_
    rintro ⟨px, cx, rfl⟩
    cases t2 : decide (xt = t) with
    | false =>
      rw [t2, if_neg (by decide)] at hst
      repeat' (first | (refine go_Y ?_; intros) | (refine gs_Y ?_ ?_ <;> (intro hgd; try (simp only [Bool.not_true, Bool.not_false] at hgd))) | (refine gc_Y ?_ ?_ <;> intro _) | fail)
      refine cont_back (n + 1, ⟨v, hvo⟩) ⟨h0, ⟨rfl, rfl, rfl, rfl, trivial⟩, by rw [hst]⟩ (by show q.length - (n + 1) < q.length - n; omega)
    | true =>
      rw [t2, if_pos rfl] at hst
      generalize upQ q t (fun _ => true) n = acc at hst hum hul ⊢
      repeat' (first | (refine go_Y ?_; intros) | (refine gs_Y ?_ ?_ <;> (intro hgd; try (simp only [Bool.not_true, Bool.not_false] at hgd))) | (refine gc_Y ?_ ?_ <;> intro _) | fail)
      rename_i v1 hv1 v2 hv2
      refine cont_map (L' := [row 35 1 v2 ((upQ q t (fun _ => true) (n + 1)).map rwV), pts b (.cells [vs, .slice (some ⟨br, or', none⟩) (q.map rrV).length cr, .int .u64 r.turns].toArray 47), row 114 2 (.slice (some ⟨br, or', none⟩) (q.map rrV).length cr) (q.map rrV), P] ++ R) (by rw [hst, List.map_append]; exact entD) ?_
      refine cont_back (n + 1, ⟨v2, hv2⟩) ⟨h0, ⟨rfl, rfl, rfl, rfl, trivial⟩, rfl⟩ (by show q.length - (n + 1) < q.length - n; omega)
theorem all14_spec (b : Nat) (r : Rl) (t : Int) (P : HProp) (hok : r.Ok) :
    FSpec Tryz.prog 59 [.pointer (some ⟨b, 0, none⟩), .int .i64 t] [rfP P b r, P] RwY (fun y => (∀ x ∈ y.2, Vw P 4 x.1.1 (x.2.map valV)) ∧ InOrder r t (fun _ => true) (y.2.map (·.2))) (fun y => y.1.1)
      (fun y => [row 35 1 y.1.1 (y.2.map rwV), rfP P b r, P]) := by
  refine fspec_ex ?_
  rintro ⟨⟨vs, ts, vr, q⟩, hy⟩
  intro w0 w R hs
  refine (all14o_spec b r t P vs vr ts q hok hy w0 w R hs).mono ?_
  rintro e w' ⟨y, hφ, he, hs'⟩
  exact ⟨y, hφ, he, hs'.map fun _ h => h.consMono fun _ h => rf_in hy h⟩
end Go.Proofs.YtbagfdolcabniaaGreatDoor
/- The reference's state (fascicleref14): Of, Whole. -/
-- @DEFS Y
set_option linter.unusedSimpArgs false
set_option linter.unusedVariables false
set_option maxRecDepth 100000
namespace Go.Proofs.YtbagfdolcabniaaGreatDoor
open Go Go.Fx Go.Proofs Go.Pl

/-- Does a row refer by a value? -/
def askOf (s : Sc) (t : Int) (key : Vl) (l : List Vl) : Bool := decide (0 ≤ (tabAt s t).ref) && decide ((l[(tabAt s t).ref.toNat]?).getD default = key)
set_option maxHeartbeats 8000000 in
theorem of14o_spec (b : Nat) (r : Rl) (t : Int) (k : Vl) (P : HProp) (vs vr : Value) (ts : List Tb) (q : List Rr) (hok : r.Ok) (hy : RfOK P r ⟨vs, ts, vr, q⟩) :
    FSpec Tryz.prog 64 [.pointer (some ⟨b, 0, none⟩), .int .i64 t, .agg (valV k).toArray] [pts b (.cells [vs, vr, .int .u64 r.turns].toArray 47), row 114 2 vr (q.map rrV), P] RwY
      (fun y => (∀ x ∈ y.2, Vw P 4 x.1.1 (x.2.map valV)) ∧ InOrder r t (askOf r.s t k) (y.2.map (·.2))) (fun y => y.1.1)
      (fun y => [row 35 1 y.1.1 (y.2.map rwV), pts b (.cells [vs, vr, .int .u64 r.turns].toArray 47), row 114 2 vr (q.map rrV), P]) := by
  have hy' := hy
  obtain ⟨hvc, hvrc, hsv, hss, hrq, hrv⟩ := hy
  dsimp only at hvc hvrc hsv hss hrq hrv
  have hvw := hsv.vw
  have hqm : (q.map rrV).length = q.length := by simp
  have hql := hrq.len
  have hrl := hok.len
  have hfin := hrq.inOrder hok t (askOf r.s t k)
  have hkq : ∀ l, askOf r.s t k l = (decide (0 ≤ (tabAt r.s t).ref) && decide ((l[(tabAt r.s t).ref.toNat]?).getD default = k)) := fun _ => rfl
  generalize askOf r.s t k = ask at hfin hkq ⊢
  obtain ⟨kk, ki, kr, ks⟩ := k
  dsimp only [valV]
  refine spec_intro [] _ Tryz.func64 rfl Tryz.ntmps64 (by rfl) (fun w0 R => ?_)
  refine ok_learn (VwIn.slice (VwIn.there (VwIn.there (VwIn.here hvw)))) ?_
  rintro ⟨pv, cv, rfl⟩
  refine ok_learn (rowShapeS (e := 114) (n := 2) (v := vr) (xs := q.map rrV) (by decide) takeD) ?_
  rintro ⟨pr, cr, rfl, hcr, hsp⟩
  repeat' (first | (refine go_Y ?_; intros) | (refine gs_Y ?_ ?_ <;> (intro hgd; try (simp only [Bool.not_true, Bool.not_false] at hgd))) | (refine gc_Y ?_ ?_ <;> intro _) | fail)
  rename_i bk
  refine ok_map (fun _ h => nilRow (e := 35) (n := 1) h) ?_
  refine ok_map (L' := [row 35 1 (.slice none 0 0) [], pts b (.cells [.slice pv (ts.map tbV).length cv, .slice pr (q.map rrV).length cr, .int .u64 r.turns].toArray 47), row 114 2 (.slice pr (q.map rrV).length cr) (q.map rrV), P, pts bk (.cells [.int .u8 kk, .int .i64 ki, .int .u64 kr, .string ks].toArray 50)] ++ R) entD ?_
  refine ok_loop' (γ := Nat × V1s) (fun g ρ L => g.1 ≤ q.length ∧ Knows ρ [(0, .pointer (some ⟨b, 0, none⟩)), (1, .int .i64 t), (5, .pointer (some ⟨bk, 0, none⟩)), (7, g.2.1), (8, .int .i64 g.1)] ∧
      L = [row 35 1 g.2.1 ((upQ q t ask g.1).map rwV), pts b (.cells [.slice pv (ts.map tbV).length cv, .slice pr (q.map rrV).length cr, .int .u64 r.turns].toArray 47), row 114 2 (.slice pr (q.map rrV).length cr) (q.map rrV), P, pts bk (.cells [.int .u8 kk, .int .i64 ki, .int .u64 kr, .string ks].toArray 50)] ++ R) (fun g => q.length - g.1)
    (0, ⟨.slice none 0 0, rfl⟩) ⟨by simp, ⟨rfl, rfl, rfl, rfl, rfl, trivial⟩, rfl⟩ ?_
  rintro ⟨n, ⟨v, hvo⟩⟩ ρ L ⟨hn, hk, rfl⟩
  dsimp only at hn hk ⊢
  refine ok_regs hk ?_
  have hul := upQ_len (q := q) (t := t) (ask := ask) (n := n)
  have hum : ((upQ q t ask n).map rwV).length ≤ 200 := by rw [List.length_map]; omega
  cases t1 : decide ((n : Int) < ((q.map rrV).length : Int)) with
  | false =>
    have hne : n = q.length := by have := of_decide_eq_false t1; omega
    subst hne
    repeat' (first | (refine go_Y ?_; intros) | (refine gs_Y ?_ ?_ <;> (intro hgd; try (simp only [Bool.not_true, Bool.not_false] at hgd))) | (refine gc_Y ?_ ?_ <;> intro _) | fail)
    (refine rt_Y (y := (⟨v, hvo⟩, upQ q t ask q.length)) (hrs := Tryz.results64) (hv := ?_) (hφ := ?_))
    · rfl
    · refine ⟨fun x hx => ?_, ?_⟩
      · obtain ⟨y, hy, rfl⟩ := upQ_mem (show x ∈ upQ q t ask q.length from hx)
        exact hrv y hy
      · rw [upQ_all]; exact hfin
  | true =>
    have h0 : n < q.length := by have := of_decide_eq_true t1; omega
    have hqn : q[n]? = some q[n] := List.getElem?_eq_getElem h0
    have hx : (q.map rrV)[n]? = some (rrV q[n]) := by rw [List.getElem?_map, hqn]; rfl
    have hn1 : n < (q.map rrV).length := by omega
    have hst := upQ_step (t := t) (ask := ask) hqn
    have hrx := hrv _ (List.getElem_mem h0)
    have hro := hrq.rowOk hok (List.getElem_mem h0)
    refine ok_learn (VwIn.base (n := 2) (xs := q.map rrV) (VwIn.there (VwIn.there (VwIn.here Vw.row))) (by intro e; rw [e] at hn1; simp at hn1)) ?_
    rintro ⟨br, or', rfl⟩
    generalize q[n] = x at hqn hx hst hrx hro
    obtain ⟨xt, ⟨xv, hxv⟩, xl⟩ := x
    dsimp only [rrV] at hx hst hrx hro
    refine ok_learn (VwIn.slice (VwIn.there (VwIn.there (VwIn.there (VwIn.here hrx))))) ?_
    rintro ⟨px, cx, rfl⟩
    generalize upQ q t ask n = acc at hst hum hul ⊢
    cases t2 : decide (xt = t) with
    | false =>
      rw [t2, Bool.false_and, if_neg (by decide)] at hst
      repeat' (first | (refine go_Y ?_; intros) | (refine gs_Y ?_ ?_ <;> (intro hgd; try (simp only [Bool.not_true, Bool.not_false] at hgd))) | (refine gc_Y ?_ ?_ <;> intro _) | fail)
      refine cont_back (n + 1, ⟨v, hvo⟩) ⟨h0, ⟨rfl, rfl, rfl, rfl, rfl, trivial⟩, by rw [hst]⟩ (by show q.length - (n + 1) < q.length - n; omega)
    | true =>
      obtain rfl := of_decide_eq_true t2
      rw [t2, Bool.true_and] at hst
      have hax := hkq xl
      have hh : hasS (ts.map Tb.c) xt = true := by rw [hss]; simp only [rowS, Bool.and_eq_true] at hro; exact hro.1
      obtain ⟨_, _, hlen⟩ := rowS_key hro
      obtain ⟨tm, tb, rfl, htt, hxt, htl, hta, htok, htmem⟩ := hasS_tb hh
      have hrL := htok.refL
      rw [hss] at hta
      rw [hta] at hax hlen
      clear hkq
      obtain ⟨tn, cols, ⟨tcv, htcv⟩, key, ref, par⟩ := tb
      dsimp only [tbV, Tb.c] at hxt hrL hlen
      have hax : ask xl = (decide (0 ≤ ref) && decide ((xl[ref.toNat]?).getD default = (⟨kk, ki, kr, ks⟩ : Vl))) := hax
      refine ok_learn (VwIn.base (n := 5) (p := pv) (len := (ts.map tbV).length) (cap := cv) (xs := ts.map tbV) (VwIn.there (VwIn.there (VwIn.there (VwIn.here hvw)))) (by intro e; rw [e] at htl; simp at htl)) ?_
      rintro ⟨bv, ov, rfl⟩
      cases t3 : decide (0 ≤ ref) with
      | false =>
        rw [t3, Bool.false_and] at hax
        rw [hax, if_neg (by decide)] at hst
        repeat' (first | (refine go_Y ?_; intros) | (refine gs_Y ?_ ?_ <;> (intro hgd; try (simp only [Bool.not_true, Bool.not_false] at hgd))) | (refine gc_Y ?_ ?_ <;> intro _) | fail)
        refine cont_back (n + 1, ⟨v, hvo⟩) ⟨h0, ⟨rfl, rfl, rfl, rfl, rfl, trivial⟩, by rw [hst]⟩ (by show q.length - (n + 1) < q.length - n; omega)
      | true =>
        have hr0 := of_decide_eq_true t3
        obtain ⟨rm, rfl⟩ : ∃ rm : Nat, ref = rm := ⟨ref.toNat, by omega⟩
        have hrm : rm < xl.length := by omega
        have hli : xl[rm]? = some xl[rm] := List.getElem?_eq_getElem hrm
        have hxr : (xl.map valV)[rm]? = some (valV xl[rm]) := by rw [List.getElem?_map, hli]; rfl
        have hnr : rm < (xl.map valV).length := by rw [List.length_map]; exact hrm
        rw [t3, Bool.true_and, Int.toNat_natCast, hli, Option.getD_some] at hax
        generalize xl[rm] = u at hxr hax
        rw [← eqL_valV] at hax
        obtain ⟨uk, ui, ur, us⟩ := u
        dsimp only [valV] at hxr hax
        refine ok_learn (VwIn.base (n := 4) (p := px) (len := (xl.map valV).length) (cap := cx) (xs := xl.map valV) (VwIn.there (VwIn.there (VwIn.there (VwIn.here hrx)))) (by intro e; rw [e] at hnr; simp at hnr)) ?_
        rintro ⟨bx, ox, rfl⟩
        cases t4 : nilB BinOp.eql (eqL [TypeDesc.int .u8, TypeDesc.int .i64, TypeDesc.int .u64, TypeDesc.string] [Value.int .u8 uk, Value.int .i64 ui, Value.int .u64 ur, Value.string us] [Value.int .u8 kk, Value.int .i64 ki, Value.int .u64 kr, Value.string ks]) with
        | false =>
          have t4' := t4
          simp only [nilB] at t4'
          rw [hax, t4', if_neg (by decide)] at hst
          repeat' (first | (refine go_Y ?_; intros) | (refine gs_Y ?_ ?_ <;> (intro hgd; try (simp only [Bool.not_true, Bool.not_false] at hgd))) | (refine gc_Y ?_ ?_ <;> intro _) | fail)
          refine cont_back (n + 1, ⟨v, hvo⟩) ⟨h0, ⟨rfl, rfl, rfl, rfl, rfl, trivial⟩, by rw [hst]⟩ (by show q.length - (n + 1) < q.length - n; omega)
        | true =>
          have t4' := t4
          simp only [nilB] at t4'
          rw [hax, t4', if_pos rfl] at hst
          repeat' (first | (refine go_Y ?_; intros) | (refine gs_Y ?_ ?_ <;> (intro hgd; try (simp only [Bool.not_true, Bool.not_false] at hgd))) | (refine gc_Y ?_ ?_ <;> intro _) | fail)
          rename_i v1 hv1 v2 hv2
          refine cont_map (L' := [row 35 1 v2 ((upQ q (tm : Int) ask (n + 1)).map rwV), pts b (.cells [.slice (some ⟨bv, ov, none⟩) (ts.map tbV).length cv, .slice (some ⟨br, or', none⟩) (q.map rrV).length cr, .int .u64 r.turns].toArray 47), row 114 2 (.slice (some ⟨br, or', none⟩) (q.map rrV).length cr) (q.map rrV), P, pts bk (.cells [.int .u8 kk, .int .i64 ki, .int .u64 kr, .string ks].toArray 50)] ++ R) (by rw [hst, List.map_append]; exact entD) ?_
          refine cont_back (n + 1, ⟨v2, hv2⟩) ⟨h0, ⟨rfl, rfl, rfl, rfl, rfl, trivial⟩, rfl⟩ (by show q.length - (n + 1) < q.length - n; omega)
theorem of14_spec (b : Nat) (r : Rl) (t : Int) (k : Vl) (P : HProp) (hok : r.Ok) :
    FSpec Tryz.prog 64 [.pointer (some ⟨b, 0, none⟩), .int .i64 t, .agg (valV k).toArray] [rfP P b r, P] RwY (fun y => (∀ x ∈ y.2, Vw P 4 x.1.1 (x.2.map valV)) ∧ InOrder r t (askOf r.s t k) (y.2.map (·.2))) (fun y => y.1.1)
      (fun y => [row 35 1 y.1.1 (y.2.map rwV), rfP P b r, P]) := by
  refine fspec_ex ?_
  rintro ⟨⟨vs, ts, vr, q⟩, hy⟩
  intro w0 w R hs
  refine (of14o_spec b r t k P vs vr ts q hok hy w0 w R hs).mono ?_
  rintro e w' ⟨y, hφ, he, hs'⟩
  exact ⟨y, hφ, he, hs'.map fun _ h => h.consMono fun _ h => rf_in hy h⟩
end Go.Proofs.YtbagfdolcabniaaGreatDoor
/- The reference's state (fascicleref14): Whole. -/
-- @DEFS Y
set_option linter.unusedSimpArgs false
set_option linter.unusedVariables false
set_option maxRecDepth 100000
namespace Go.Proofs.YtbagfdolcabniaaGreatDoor
open Go Go.Fx Go.Proofs Go.Pl

set_option maxHeartbeats 8000000 in
theorem whole14o_spec (b : Nat) (r : Rl) (P : HProp) (vs vr : Value) (ts : List Tb) (q : List Rr) (hok : r.Ok) (hwf : Rl.Wf r) (hy : RfOK P r ⟨vs, ts, vr, q⟩) :
    FSpec Tryz.prog 62 [.pointer (some ⟨b, 0, none⟩)] [pts b (.cells [vs, vr, .int .u64 r.turns].toArray 47), row 114 2 vr (q.map rrV), P] Unit (fun _ => True) (fun _ => .bool r.whole)
      (fun _ => [pts b (.cells [vs, vr, .int .u64 r.turns].toArray 47), row 114 2 vr (q.map rrV), P]) := by
  have hy' := hy
  have hat := fun t k hk => at14_spec b r vs vr ts q P t k hok hwf hy' hk
  obtain ⟨hvc, hvrc, hsv, hss, hrq, hrv⟩ := hy
  dsimp only at hvc hvrc hsv hss hrq hrv
  have hvw := hsv.vw
  have hqm : (q.map rrV).length = q.length := by simp
  have hql := hrq.len
  have hrl := hok.len
  have his := hrq.is
  have hwh := hrq.whole
  refine spec_intro [] _ Tryz.func62 rfl Tryz.ntmps62 (by rfl) (fun w0 R => ?_)
  refine ok_learn (VwIn.slice (VwIn.there (VwIn.there (VwIn.here hvw)))) ?_
  rintro ⟨pv, cv, rfl⟩
  refine ok_learn (rowShapeS (e := 114) (n := 2) (v := vr) (xs := q.map rrV) (by decide) takeD) ?_
  rintro ⟨pr, cr, rfl, hcr, hsp⟩
  repeat' (first | (refine go_Y ?_; intros) | (refine gs_Y ?_ ?_ <;> (intro hgd; try (simp only [Bool.not_true, Bool.not_false] at hgd))) | (refine gc_Y ?_ ?_ <;> intro _) | fail)
  refine ok_map (L' := [pts b (.cells [.slice pv (ts.map tbV).length cv, .slice pr (q.map rrV).length cr, .int .u64 r.turns].toArray 47), row 114 2 (.slice pr (q.map rrV).length cr) (q.map rrV), P] ++ R) entD ?_
  refine ok_loop' (γ := Nat) (fun n ρ L => n ≤ q.length ∧ (q.take n).all (fun x => refOk r.s r.rows (x.pl r.s)) = true ∧ Knows ρ [(0, .pointer (some ⟨b, 0, none⟩)), (3, .int .i64 n)] ∧
      L = [pts b (.cells [.slice pv (ts.map tbV).length cv, .slice pr (q.map rrV).length cr, .int .u64 r.turns].toArray 47), row 114 2 (.slice pr (q.map rrV).length cr) (q.map rrV), P] ++ R) (fun n => q.length - n)
    0 ⟨by omega, rfl, ⟨rfl, rfl, trivial⟩, rfl⟩ ?_
  rintro n ρ L ⟨hn, hall, hk, rfl⟩
  refine ok_regs hk ?_
  cases t1 : decide ((n : Int) < ((q.map rrV).length : Int)) with
  | false =>
    have hne : n = q.length := by have := of_decide_eq_false t1; omega
    rw [hne, List.take_length] at hall
    rw [hall] at hwh
    rw [hwh]
    repeat' (first | (refine go_Y ?_; intros) | (refine gs_Y ?_ ?_ <;> (intro hgd; try (simp only [Bool.not_true, Bool.not_false] at hgd))) | (refine gc_Y ?_ ?_ <;> intro _) | fail)
    (refine rt_Y (y := ()) (hrs := Tryz.results62) (hv := ?_) (hφ := ?_))
    · rfl
    · trivial
  | true =>
    have h0 : n < q.length := by have := of_decide_eq_true t1; omega
    have hqn : q[n]? = some q[n] := List.getElem?_eq_getElem h0
    have hx : (q.map rrV)[n]? = some (rrV q[n]) := by rw [List.getElem?_map, hqn]; rfl
    have hn1 : n < (q.map rrV).length := by omega
    have htk : q.take (n + 1) = q.take n ++ [q[n]] := List.take_succ_eq_append_getElem h0
    have hgo : refOk r.s r.rows (q[n].pl r.s) = true → (q.take (n + 1)).all (fun x => refOk r.s r.rows (x.pl r.s)) = true := fun h => by rw [htk, List.all_append, hall]; simp [h]
    have hno : refOk r.s r.rows (q[n].pl r.s) = false → r.whole = false := fun h => by rw [hwh]; exact List.all_eq_false.2 ⟨_, List.getElem_mem h0, by simp [h]⟩
    have hrx := hrv _ (List.getElem_mem h0)
    have hro := hrq.rowOk hok (List.getElem_mem h0)
    have hwx := hwf _ (hrq.mem (List.getElem_mem h0))
    clear htk hwh
    refine ok_learn (VwIn.base (n := 2) (xs := q.map rrV) (VwIn.there (VwIn.here Vw.row)) (by intro e; rw [e] at hn1; simp at hn1)) ?_
    rintro ⟨br, or', rfl⟩
    generalize q[n] = x at hqn hx hrx hro hgo hno hwx
    obtain ⟨xt, ⟨xv, hxv⟩, xl⟩ := x
    dsimp only [rrV, Rr.pl] at hx hrx hro hgo hno hwx
    refine ok_learn (VwIn.slice (VwIn.there (VwIn.there (VwIn.here hrx)))) ?_
    rintro ⟨px, cx, rfl⟩
    have hh : hasS (ts.map Tb.c) xt = true := by rw [hss]; simp only [rowS, Bool.and_eq_true] at hro; exact hro.1
    obtain ⟨_, _, hlen⟩ := rowS_key hro
    obtain ⟨tm, tb, rfl, htt, hxt, htl, hta, htok, htmem⟩ := hasS_tb hh
    have hrL := htok.refL
    rw [hss] at hta
    rw [hta] at hlen
    have hrd : refOk r.s r.rows (((tm : Int), Pl.keyOf r.s (tm : Int) xl), xl) = (if tb.c.ref < 0 then true else if ((xl[tb.c.ref.toNat]?).getD default).kind = 0 then true else (aget (tb.c.par, (xl[tb.c.ref.toNat]?).getD default) r.rows).isSome) := by
      unfold refOk
      dsimp only
      rw [hta]
    have hg1 := fun (h : tb.c.ref < 0) => hrd.trans (if_pos h)
    have hg2 := fun (h : ¬ tb.c.ref < 0) (h' : ((xl[tb.c.ref.toNat]?).getD default).kind = 0) => hrd.trans ((if_neg h).trans (if_pos h'))
    have hg3 := fun (h : ¬ tb.c.ref < 0) (h' : ¬ ((xl[tb.c.ref.toNat]?).getD default).kind = 0) => hrd.trans ((if_neg h).trans (if_neg h'))
    clear hrd
    generalize refOk r.s r.rows (((tm : Int), Pl.keyOf r.s (tm : Int) xl), xl) = ro at hgo hno hg1 hg2 hg3
    obtain ⟨tn, cols, ⟨tcv, htcv⟩, key, ref, par⟩ := tb
    dsimp only [tbV, Tb.c] at hxt hrL hlen hg1 hg2 hg3
    refine ok_learn (VwIn.base (n := 5) (p := pv) (len := (ts.map tbV).length) (cap := cv) (xs := ts.map tbV) (VwIn.there (VwIn.there (VwIn.here hvw))) (by intro e; rw [e] at htl; simp at htl)) ?_
    rintro ⟨bv, ov, rfl⟩
    have htbv := (hsv.tab _ htmem).vw
    dsimp only at htbv
    refine ok_learn (VwIn.slice (VwIn.there (VwIn.there (VwIn.here htbv)))) ?_
    rintro ⟨pc, cc, rfl⟩
    cases n1 : decide (ref < 0) with
    | true =>
      have hg := hgo (hg1 (of_decide_eq_true n1))
      repeat' (first | (refine go_Y ?_; intros) | (refine gs_Y ?_ ?_ <;> (intro hgd; try (simp only [Bool.not_true, Bool.not_false] at hgd))) | (refine gc_Y ?_ ?_ <;> intro _) | fail)
      (apply ok_draw [15]; (focus (kernel_rfl)); (focus ((conv => lhs; whnf); first | done | rfl)); (focus (decide +kernel)); (focus (exact (fun _ h => h))))
      repeat' (first | (refine go_Y ?_; intros) | (refine gs_Y ?_ ?_ <;> (intro hgd; try (simp only [Bool.not_true, Bool.not_false] at hgd))) | (refine gc_Y ?_ ?_ <;> intro _) | fail)
      refine cont_map (L' := [pts b (.cells [.slice (some ⟨bv, ov, none⟩) (ts.map tbV).length cv, .slice (some ⟨br, or', none⟩) (q.map rrV).length cr, .int .u64 r.turns].toArray 47), row 114 2 (.slice (some ⟨br, or', none⟩) (q.map rrV).length cr) (q.map rrV), P] ++ R) entD ?_
      refine cont_back (n + 1) ⟨h0, hg, ⟨rfl, rfl, trivial⟩, rfl⟩ (by omega)
    | false =>
      have hr0 := of_decide_eq_false n1
      obtain ⟨rm, rfl⟩ : ∃ rm : Nat, ref = rm := ⟨ref.toNat, by omega⟩
      have hrm : rm < xl.length := by omega
      have hli : xl[rm]? = some xl[rm] := List.getElem?_eq_getElem hrm
      have hgd : (xl[((rm : Nat) : Int).toNat]?).getD default = xl[rm] := by rw [Int.toNat_natCast, hli]; rfl
      have hxr : (xl.map valV)[rm]? = some (valV xl[rm]) := by rw [List.getElem?_map, hli]; rfl
      have hnr : rm < (xl.map valV).length := by rw [List.length_map]; exact hrm
      have huw := hwx _ (List.getElem_mem hrm)
      have hat := hat par xl[rm] huw
      rw [his] at hat
      rw [hgd] at hg2 hg3
      generalize xl[rm] = u at hxr hg2 hg3 hat
      obtain ⟨uk, ui, ur, us⟩ := u
      dsimp only [valV] at hxr hg2 hg3 hat
      refine ok_learn (VwIn.base (n := 4) (p := px) (len := (xl.map valV).length) (cap := cx) (xs := xl.map valV) (VwIn.there (VwIn.there (VwIn.here hrx))) (by intro e; rw [e] at hnr; simp at hnr)) ?_
      rintro ⟨bl, ol, rfl⟩
      cases n2 : decide (uk = 0) with
      | true =>
        have hg := hgo (hg2 hr0 (of_decide_eq_true n2))
        repeat' (first | (refine go_Y ?_; intros) | (refine gs_Y ?_ ?_ <;> (intro hgd; try (simp only [Bool.not_true, Bool.not_false] at hgd))) | (refine gc_Y ?_ ?_ <;> intro _) | fail)
        (apply ok_draw [15]; (focus (kernel_rfl)); (focus ((conv => lhs; whnf); first | done | rfl)); (focus (decide +kernel)); (focus (exact (fun _ h => h))))
        repeat' (first | (refine go_Y ?_; intros) | (refine gs_Y ?_ ?_ <;> (intro hgd; try (simp only [Bool.not_true, Bool.not_false] at hgd))) | (refine gc_Y ?_ ?_ <;> intro _) | fail)
        refine cont_map (L' := [pts b (.cells [.slice (some ⟨bv, ov, none⟩) (ts.map tbV).length cv, .slice (some ⟨br, or', none⟩) (q.map rrV).length cr, .int .u64 r.turns].toArray 47), row 114 2 (.slice (some ⟨br, or', none⟩) (q.map rrV).length cr) (q.map rrV), P] ++ R) entD ?_
        refine cont_back (n + 1) ⟨h0, hg, ⟨rfl, rfl, trivial⟩, rfl⟩ (by omega)
      | false =>
        have hro3 := hg3 hr0 (of_decide_eq_false n2)
        rw [← hro3] at hat
        cases ro with
        | false =>
          rw [hno rfl]
          repeat' (first | (refine go_Y ?_; intros) | (refine gs_Y ?_ ?_ <;> (intro hgd; try (simp only [Bool.not_true, Bool.not_false] at hgd))) | (refine gc_Y ?_ ?_ <;> intro _) | fail)
          (apply ok_draw [15]; (focus (kernel_rfl)); (focus ((conv => lhs; whnf); first | done | rfl)); (focus (decide +kernel)); (focus (exact (fun _ h => h))))
          repeat' (first | (refine go_Y ?_; intros) | (refine gs_Y ?_ ?_ <;> (intro hgd; try (simp only [Bool.not_true, Bool.not_false] at hgd))) | (refine gc_Y ?_ ?_ <;> intro _) | fail)
          refine cl_Y (hat) ?_
          intro _ _
          repeat' (first | (refine go_Y ?_; intros) | (refine gs_Y ?_ ?_ <;> (intro hgd; try (simp only [Bool.not_true, Bool.not_false] at hgd))) | (refine gc_Y ?_ ?_ <;> intro _) | fail)
          (refine rt_Y (y := ()) (hrs := Tryz.results62) (hv := ?_) (hφ := ?_))
          · rfl
          · trivial
        | true =>
          have hg := hgo rfl
          repeat' (first | (refine go_Y ?_; intros) | (refine gs_Y ?_ ?_ <;> (intro hgd; try (simp only [Bool.not_true, Bool.not_false] at hgd))) | (refine gc_Y ?_ ?_ <;> intro _) | fail)
          (apply ok_draw [15]; (focus (kernel_rfl)); (focus ((conv => lhs; whnf); first | done | rfl)); (focus (decide +kernel)); (focus (exact (fun _ h => h))))
          repeat' (first | (refine go_Y ?_; intros) | (refine gs_Y ?_ ?_ <;> (intro hgd; try (simp only [Bool.not_true, Bool.not_false] at hgd))) | (refine gc_Y ?_ ?_ <;> intro _) | fail)
          refine cl_Y (hat) ?_
          intro _ _
          repeat' (first | (refine go_Y ?_; intros) | (refine gs_Y ?_ ?_ <;> (intro hgd; try (simp only [Bool.not_true, Bool.not_false] at hgd))) | (refine gc_Y ?_ ?_ <;> intro _) | fail)
          refine cont_map (L' := [pts b (.cells [.slice (some ⟨bv, ov, none⟩) (ts.map tbV).length cv, .slice (some ⟨br, or', none⟩) (q.map rrV).length cr, .int .u64 r.turns].toArray 47), row 114 2 (.slice (some ⟨br, or', none⟩) (q.map rrV).length cr) (q.map rrV), P] ++ R) entD ?_
          refine cont_back (n + 1) ⟨h0, hg, ⟨rfl, rfl, trivial⟩, rfl⟩ (by omega)
theorem whole14_spec (b : Nat) (r : Rl) (P : HProp) (hok : r.Ok) (hwf : Rl.Wf r) :
    FSpec Tryz.prog 62 [.pointer (some ⟨b, 0, none⟩)] [rfP P b r, P] Unit (fun _ => True) (fun _ => .bool r.whole) (fun _ => [rfP P b r, P]) := by
  refine fspec_ex ?_
  rintro ⟨⟨vs, ts, vr, q⟩, hy⟩
  intro w0 w R hs
  refine (whole14o_spec b r P vs vr ts q hok hwf hy w0 w R hs).mono ?_
  rintro e w' ⟨y, hφ, he, hs'⟩
  exact ⟨y, hφ, he, hs'.map fun _ h => rf_in hy h⟩
end Go.Proofs.YtbagfdolcabniaaGreatDoor
/- The reference's state (fascicleref14): Copy, CopyOps. -/
-- @DEFS Y
set_option linter.unusedSimpArgs false
set_option linter.unusedVariables false
set_option maxRecDepth 100000
namespace Go.Proofs.YtbagfdolcabniaaGreatDoor
open Go Go.Fx Go.Proofs Go.Pl

def Rr.tl (x : Rr) : Int × List Vl := (x.t, x.l)
theorem RefQ.congr {r : Rl} {q q' : List Rr} (h : RefQ r q) (e : q'.map Rr.tl = q.map Rr.tl) : RefQ r q' := by
  have e1 : ∀ l : List Rr, l.map (Rr.pl r.s) = (l.map Rr.tl).map (fun x => ((x.1, Pl.keyOf r.s x.1 x.2), x.2)) := fun l => by rw [List.map_map]; rfl
  refine ⟨by rw [e1, e, ← e1]; exact h.perm, ?_⟩
  have h2 := h.srt
  have e2 : ∀ l : List Rr, (l.Pairwise fun x y => pltB (x.pl r.s).1 (y.pl r.s).1 = true) ↔ ((l.map (Rr.pl r.s)).Pairwise fun x y => pltB x.1 y.1 = true) := fun l => by rw [List.pairwise_map]
  rw [e2, e1] at h2
  rw [e2, e1, e]
  exact h2
abbrev G14 (A : HProp) := { g : V1s × List Rr × HProp // Ext A g.2.2 ∧ (∀ x ∈ g.2.1, Vw g.2.2 4 x.lv.1 (x.l.map valV)) }
set_option maxHeartbeats 8000000 in
theorem copy14_spec (b : Nat) (r : Rl) (P : HProp) (hok : r.Ok) :
    FSpec Tryz.prog 16 [.pointer (some ⟨b, 0, none⟩)] [rfP P b r, P] (Nat × HProp) (fun y => Ext P y.2) (fun y => .pointer (some ⟨y.1, 0, none⟩)) (fun y => [rfP y.2 y.1 r, rfP y.2 b r, y.2]) := by
  refine fspec_ex ?_
  rintro ⟨⟨vs, ts, vr, q⟩, hy⟩
  have hy' := hy
  obtain ⟨hvc, hvrc, hsv, hss, hrq, hrv⟩ := hy
  dsimp only at hvc hvrc hsv hss hrq hrv
  unfold rfL
  dsimp only
  obtain ⟨ds, _, hah, h1, h12⟩ := checkS_ok hok.sch
  have h12' : ts.length ≤ 1000 := by rw [← hss, List.length_map] at h12; omega
  have h8 : ∀ t ∈ ts, t.cols.length ≤ 1000 := fun t ht => by
    have := (hah.tab t.c (by rw [← hss]; exact List.mem_map_of_mem ht)).len
    have e : t.c.cols = t.cols := rfl
    rw [e] at this; omega
  have hcp := copy13_spec vs ts P hsv h12' h8
  have hvw := hsv.vw
  have hqm : (q.map rrV).length = q.length := by simp
  have hql := hrq.len
  have hrl := hok.len
  have hlen : ∀ x ∈ q, x.l.length ≤ 8 := fun x hx => row_len hok (aget_of_mem hok (p := (x.pl r.s).1) (l := x.l) (hrq.mem hx))
  refine spec_intro [] _ Tryz.func16 rfl Tryz.ntmps16 (by rfl) (fun w0 R => ?_)
  refine ok_learn (VwIn.slice (VwIn.there (VwIn.there (VwIn.here hvw)))) ?_
  rintro ⟨pv, cv, rfl⟩
  refine ok_learn (rowShapeS (e := 114) (n := 2) (v := vr) (xs := q.map rrV) (by decide) takeD) ?_
  rintro ⟨pr, cr, rfl, hcr, hsp⟩
  repeat' (first | (refine go_Y ?_; intros) | (refine gs_Y ?_ ?_ <;> (intro hgd; try (simp only [Bool.not_true, Bool.not_false] at hgd))) | (refine gc_Y ?_ ?_ <;> intro _) | fail)
  refine ok_drawL (cv := []) [4] ([pts b (.cells [.slice pv (ts.map tbV).length cv, .slice pr (q.map rrV).length cr, .int .u64 r.turns].toArray 47)]) (takeD) (by kernel_rfl) rfl (by decide +kernel) ?_
  repeat' (first | (refine go_Y ?_; intros) | (refine gs_Y ?_ ?_ <;> (intro hgd; try (simp only [Bool.not_true, Bool.not_false] at hgd))) | (refine gc_Y ?_ ?_ <;> intro _) | fail)
  refine clN_Y (hcp) ?_
  rintro ⟨⟨v', hv'⟩, ts', P1⟩ ⟨hsv', hmap', hE1⟩
  dsimp only at hsv' hmap' hE1 ⊢
  refine ops_learn (VwIn.slice (n := 5) (v := v') (xs := ts'.map tbV) (VwIn.here hsv'.vw)) ?_
  rintro ⟨pv', cv', rfl⟩
  repeat' (first | (refine go_Y ?_; intros) | (refine gs_Y ?_ ?_ <;> (intro hgd; try (simp only [Bool.not_true, Bool.not_false] at hgd))) | (refine gc_Y ?_ ?_ <;> intro _) | fail)
  rename_i bc
  refine ok_map (fun _ h => nilRow (e := 114) (n := 2) h) ?_
  refine ok_map (L' := [P1, pts bc (.cells [.slice pv' (ts'.map tbV).length cv', .slice none 0 0, .int .u64 r.turns].toArray 47), row 114 2 (.slice none 0 0) [], pts b (.cells [.slice pv (ts.map tbV).length cv, .slice pr (q.map rrV).length cr, .int .u64 r.turns].toArray 47), row 114 2 (.slice pr (q.map rrV).length cr) (q.map rrV)] ++ R) entD ?_
  refine ok_loop' (γ := Nat × G14 P1) (fun g ρ L => g.1 ≤ q.length ∧ g.2.1.2.1.map Rr.tl = (q.take g.1).map Rr.tl ∧ Knows ρ [(0, .pointer (some ⟨b, 0, none⟩)), (3, .pointer (some ⟨bc, 0, none⟩)), (4, .int .i64 g.1)] ∧
      L = [g.2.1.2.2, pts bc (.cells [.slice pv' (ts'.map tbV).length cv', g.2.1.1.1, .int .u64 r.turns].toArray 47), row 114 2 g.2.1.1.1 (g.2.1.2.1.map rrV), pts b (.cells [.slice pv (ts.map tbV).length cv, .slice pr (q.map rrV).length cr, .int .u64 r.turns].toArray 47), row 114 2 (.slice pr (q.map rrV).length cr) (q.map rrV)] ++ R) (fun g => q.length - g.1)
    (0, ⟨(⟨.slice none 0 0, rfl⟩, [], P1), Ext.refl P1, fun _ h => by simp at h⟩) ⟨by simp, rfl, ⟨rfl, rfl, rfl, trivial⟩, rfl⟩ ?_
  rintro ⟨n, ⟨⟨v, hvo⟩, acc, Q⟩, hE, hcr2⟩ ρ L ⟨hn, he, hk, rfl⟩
  dsimp only at hE hcr2 hn he hk ⊢
  refine ok_regs hk ?_
  have hal : acc.length = n := by have := congrArg List.length he; simp at this; omega
  have ham : (acc.map rrV).length = n := by rw [List.length_map, hal]
  refine ok_learn (rowShapeS (e := 114) (n := 2) (v := v) (xs := acc.map rrV) (by decide) takeD) ?_
  rintro ⟨pa, ca, rfl, hca, hsa⟩
  cases t1 : decide ((n : Int) < ((q.map rrV).length : Int)) with
  | false =>
    have hne : n = q.length := by have := of_decide_eq_false t1; omega
    rw [hne, List.take_length] at he
    repeat' (first | (refine go_Y ?_; intros) | (refine gs_Y ?_ ?_ <;> (intro hgd; try (simp only [Bool.not_true, Bool.not_false] at hgd))) | (refine gc_Y ?_ ?_ <;> intro _) | fail)
    refine cont_map (fun _ h => rf_in (b := b) (r := r) (P := Q) (hy'.ext (hE1.trans hE)) (Take.out takeD h)) ?_
    refine cont_map (fun _ h => rf_in (b := bc) (r := r) (P := Q) (vs := .slice pv' (ts'.map tbV).length cv') (ts := ts') (vr := .slice pa (acc.map rrV).length ca) (q := acc) ⟨rfl, rfl, hsv'.ext hE, hmap'.trans hss, hrq.congr he, hcr2⟩ (Take.out takeD h)) ?_
    (refine rt_Y (y := (bc, Q)) (hrs := Tryz.results16) (hv := ?_) (hφ := ?_))
    · rfl
    · exact hE1.trans hE
  | true =>
    have h0 : n < q.length := by have := of_decide_eq_true t1; omega
    have hqn : q[n]? = some q[n] := List.getElem?_eq_getElem h0
    have hx : (q.map rrV)[n]? = some (rrV q[n]) := by rw [List.getElem?_map, hqn]; rfl
    have hn1 : n < (q.map rrV).length := by omega
    have htk : q.take (n + 1) = q.take n ++ [q[n]] := List.take_succ_eq_append_getElem h0
    have hrx := (hE1.trans hE).vw (hrv _ (List.getElem_mem h0))
    have hlx := hlen _ (List.getElem_mem h0)
    refine ok_learn (VwIn.base (n := 2) (xs := q.map rrV) (VwIn.there (VwIn.there (VwIn.there (VwIn.there (VwIn.here Vw.row))))) (by intro e; rw [e] at hn1; simp at hn1)) ?_
    rintro ⟨br, or', rfl⟩
    generalize q[n] = x at hqn hx hrx htk hlx
    obtain ⟨xt, ⟨xv, hxv⟩, xl⟩ := x
    dsimp only [rrV] at hx hrx hlx
    refine ok_learn (VwIn.slice (VwIn.here hrx)) ?_
    rintro ⟨px, cx, rfl⟩
    have hcl := copy04_spec xl (.slice px (xl.map valV).length cx) Q hrx (by omega)
    repeat' (first | (refine go_Y ?_; intros) | (refine gs_Y ?_ ?_ <;> (intro hgd; try (simp only [Bool.not_true, Bool.not_false] at hgd))) | (refine gc_Y ?_ ?_ <;> intro _) | fail)
    (apply ok_draw [21, 23]; (focus (kernel_rfl)); (focus ((conv => lhs; whnf); first | done | rfl)); (focus (decide +kernel)); (focus (exact (fun _ h => h))))
    repeat' (first | (refine go_Y ?_; intros) | (refine gs_Y ?_ ?_ <;> (intro hgd; try (simp only [Bool.not_true, Bool.not_false] at hgd))) | (refine gc_Y ?_ ?_ <;> intro _) | fail)
    refine clN_Y (hcl) ?_
    rintro ⟨vn, hvn⟩ _
    refine ops_learn (rowShapeS (e := 50) (n := 4) (v := vn) (xs := xl.map valV) (by decide) takeD) ?_
    rintro ⟨pn, cn, rfl, hcn, hsn⟩
    repeat' (first | (refine go_Y ?_; intros) | (refine gs_Y ?_ ?_ <;> (intro hgd; try (simp only [Bool.not_true, Bool.not_false] at hgd))) | (refine gc_Y ?_ ?_ <;> intro _) | fail)
    rename_i v1 hv1 v2 hv2
    refine cont_map (fun _ h => pool_in (A := row 50 4 (.slice pn (xl.map valV).length cn) (xl.map valV)) (P := Q) (Take.out2 takeD h)) ?_
    refine cont_map (L' := [pool (row 50 4 (.slice pn (xl.map valV).length cn) (xl.map valV)) Q, pts bc (.cells [.slice pv' (ts'.map tbV).length cv', v2, .int .u64 r.turns].toArray 47), row 114 2 v2 ((acc ++ ([⟨xt, ⟨.slice pn (xl.map valV).length cn, rfl⟩, xl⟩] : List Rr)).map rrV), pts b (.cells [.slice pv (ts.map tbV).length cv, .slice (some ⟨br, or', none⟩) (q.map rrV).length cr, .int .u64 r.turns].toArray 47), row 114 2 (.slice (some ⟨br, or', none⟩) (q.map rrV).length cr) (q.map rrV)] ++ R) (by rw [List.map_append]; exact entD) ?_
    refine cont_back (n + 1, ⟨(⟨v2, hv2⟩, acc ++ ([⟨xt, ⟨.slice pn (xl.map valV).length cn, rfl⟩, xl⟩] : List Rr), pool (row 50 4 (.slice pn (xl.map valV).length cn) (xl.map valV)) Q), hE.trans (Ext.pool _ _), fun x hx => ?_⟩) ⟨h0, ?_, ⟨rfl, rfl, rfl, trivial⟩, rfl⟩ (by dsimp only; omega)
    · rcases List.mem_append.1 hx with hx | hx
      · exact (Ext.pool _ _).vw (hcr2 x hx)
      · rw [List.mem_singleton] at hx; subst hx; exact pool_row
    · dsimp only
      rw [List.map_append, he, htk, List.map_append]; rfl
abbrev GOp (A : HProp) := { g : V1s × List Om × HProp // Ext A g.2.2 ∧ (∀ x ∈ g.2.1, OmR g.2.2 x) }
set_option maxHeartbeats 4000000 in
theorem copyOps_spec (vo : Value) (ops : List Om) (A : HProp) (h : OsR A vo ops) (hs : smallO ops) :
    FSpec Tryz.prog 19 [vo] [A] (V1s × List Om × HProp) (fun y => Ext A y.2.2 ∧ (∀ x ∈ y.2.1, OmR y.2.2 x) ∧ y.2.1.map Om.c = ops.map Om.c) (fun y => y.1.1) (fun y => [row 39 3 y.1.1 (y.2.1.map opV), y.2.2]) := by
  obtain ⟨hvo, hop, _⟩ := h
  obtain ⟨h300, hrow⟩ := hs
  have la : (ops.map opV).length = ops.length := by simp
  refine spec_intro [] _ Tryz.func19 rfl Tryz.ntmps19 (by rfl) (fun w0 R => ?_)
  refine ok_learn (VwIn.slice (VwIn.here hvo)) ?_
  rintro ⟨pu, cu, rfl⟩
  repeat' (first | (refine go_Y ?_; intros) | (refine gs_Y ?_ ?_ <;> (intro hgd; try (simp only [Bool.not_true, Bool.not_false] at hgd))) | (refine gc_Y ?_ ?_ <;> intro _) | fail)
  refine ok_map (fun _ h => nilRow (e := 39) (n := 3) h) ?_
  refine ok_map (L' := [A, row 39 3 (.slice none 0 0) []] ++ R) entD ?_
  refine ok_loop' (γ := Nat × GOp A) (fun g ρ L => g.1 ≤ ops.length ∧ g.2.1.2.1.map Om.c = (ops.take g.1).map Om.c ∧ Knows ρ [(0, .slice pu (ops.map opV).length cu), (3, g.2.1.1.1), (4, .int .i64 g.1)] ∧ L = [g.2.1.2.2, row 39 3 g.2.1.1.1 (g.2.1.2.1.map opV)] ++ R) (fun g => ops.length - g.1)
    (0, ⟨(⟨.slice none 0 0, rfl⟩, [], A), Ext.refl A, fun _ h => by simp at h⟩) ⟨by simp, rfl, ⟨rfl, rfl, rfl, trivial⟩, rfl⟩ ?_
  rintro ⟨i, ⟨⟨v, hv⟩, l', P⟩, hE, hcr⟩ ρ L ⟨hi, he, hk, rfl⟩
  dsimp only at hE hcr hi he hk ⊢
  refine ok_regs hk ?_
  have hP := hE.vw hvo
  have hl' : l'.length = i := by have := congrArg List.length he; simp at this; omega
  have hl'' : (l'.map opV).length = i := by rw [List.length_map, hl']
  refine ok_learn (rowShapeS (e := 39) (n := 3) (v := v) (xs := l'.map opV) (by decide) takeD) ?_
  rintro ⟨pv, cv, rfl, hcv, hsv⟩
  cases t1 : decide ((i : Int) < ((ops.map opV).length : Int)) with
  | false =>
    have hie : i = ops.length := by have := of_decide_eq_false t1; omega
    rw [hie, List.take_length] at he
    repeat' (first | (refine go_Y ?_; intros) | (refine gs_Y ?_ ?_ <;> (intro hgd; try (simp only [Bool.not_true, Bool.not_false] at hgd))) | (refine gc_Y ?_ ?_ <;> intro _) | fail)
    (refine rt_Y (y := (⟨.slice pv (l'.map opV).length cv, rfl⟩, l', P)) (hrs := Tryz.results19) (hv := ?_) (hφ := ?_))
    · rfl
    · exact ⟨hE, hcr, he⟩
  | true =>
    have h0 : i < ops.length := by have := of_decide_eq_true t1; omega
    have hx : (ops.map opV)[i]? = some (opV ops[i]) := by rw [List.getElem?_map, List.getElem?_eq_getElem h0]; rfl
    have hn1 : i < (ops.map opV).length := by omega
    have t1a : ops.take (i + 1) = ops.take i ++ [ops[i]] := List.take_succ_eq_append_getElem h0
    have hom := hop _ (List.getElem_mem h0)
    have hrl := hrow _ (List.getElem_mem h0)
    refine ok_learn (VwIn.base (VwIn.here hP) (by intro e; rw [e] at hn1; simp at hn1)) ?_
    rintro ⟨bu, ou, rfl⟩
    generalize ops[i] = o at hx t1a hom hrl
    obtain ⟨ok, ot, ⟨ov, hov⟩, ol⟩ := o
    have how := hE.vw hom.vw
    obtain ⟨_, hol, hot⟩ := hom
    dsimp only [opV] at hx hrl how hol hot
    refine ok_learn (VwIn.slice (VwIn.here how)) ?_
    rintro ⟨po, co, rfl⟩
    have s1 := copy04_spec ol (.slice po (ol.map valV).length co) P how (by omega)
    repeat' (first | (refine go_Y ?_; intros) | (refine gs_Y ?_ ?_ <;> (intro hgd; try (simp only [Bool.not_true, Bool.not_false] at hgd))) | (refine gc_Y ?_ ?_ <;> intro _) | fail)
    refine cl_Y (s1) ?_
    rintro ⟨vb, hvb⟩ _
    refine ops_learn (rowShapeS (e := 50) (n := 4) (v := vb) (xs := ol.map valV) (by decide) takeD) ?_
    rintro ⟨pb, cb, rfl, hcb, hsb⟩
    repeat' (first | (refine go_Y ?_; intros) | (refine gs_Y ?_ ?_ <;> (intro hgd; try (simp only [Bool.not_true, Bool.not_false] at hgd))) | (refine gc_Y ?_ ?_ <;> intro _) | fail)
    rename_i v1 hv1 v2 hv2
    refine cont_map (fun _ h => pool_in (A := row 50 4 (.slice pb (ol.map valV).length cb) (ol.map valV)) (P := P) (Take.out2 takeD h)) ?_
    refine cont_map (L' := [pool (row 50 4 (.slice pb (ol.map valV).length cb) (ol.map valV)) P, row 39 3 v2 ((l' ++ ([⟨ok, ot, ⟨.slice pb (ol.map valV).length cb, rfl⟩, ol⟩] : List Om)).map opV)] ++ R) (by rw [List.map_append]; exact entD) ?_
    refine cont_back (i + 1, ⟨(⟨v2, hv2⟩, l' ++ ([⟨ok, ot, ⟨.slice pb (ol.map valV).length cb, rfl⟩, ol⟩] : List Om), pool (row 50 4 (.slice pb (ol.map valV).length cb) (ol.map valV)) P), hE.trans (Ext.pool _ _), fun x hx => ?_⟩) ⟨h0, ?_, ⟨rfl, rfl, rfl, trivial⟩, rfl⟩ (by dsimp only; omega)
    · rcases List.mem_append.1 hx with hx | hx
      · exact ⟨(Ext.pool _ _).vw (hcr x hx).vw, (hcr x hx).len, (hcr x hx).txt⟩
      · rw [List.mem_singleton] at hx; subst hx
        exact ⟨pool_row, hol, hot⟩
    · dsimp only
      rw [List.map_append, he, t1a, List.map_append]; rfl
end Go.Proofs.YtbagfdolcabniaaGreatDoor
