/- Texts merged: QcH QcI QcK QcL. -/
import Derived.Test.YtphaegcoldpclaaGreatDoorQcG
import Derived.Test.YtphaegcoldpclaaGreatDoorG12
/- The reference's state (fascicleref14): Get, All, Of. -/
-- @DEFS Y
set_option linter.unusedSimpArgs false
set_option linter.unusedVariables false
set_option maxRecDepth 100000
namespace Go.Proofs.YtphaegcoldpclaaGreatDoor
open Go Go.Fx Go.Proofs Go.Pl

set_option maxHeartbeats 4000000 in
theorem get14_spec (b : Nat) (r : Rl) (t : Int) (k : Vl) (P : HProp) (hok : r.Ok) (hwf : Rl.Wf r) (hU : UT P) (hkw : k.wf) :
    FSpec Tryz.prog 16 [.pointer (some ⟨b, 0, none⟩), .int .i64 t, .agg (valV k).toArray] [rfP P b r, P] V1s (fun y => Vw P 4 y.1 ((r.getOp t k).1.map valV)) (fun y => .tuple #[y.1, .int .i64 (r.getOp t k).2]) (fun _ => [rfP P b r, P]) := by
  refine fspec_ex ?_
  rintro ⟨⟨vs, ts, vr, q⟩, hy⟩
  have hy' := hy
  obtain ⟨hvc, hvrc, hsv, hss, hrq, hrv⟩ := hy
  dsimp only at hvc hvrc hsv hss hrq hrv
  unfold rfL
  dsimp only
  have hkey := key13_spec t k vs ts P hvc hsv hU hkw
  rw [hss] at hkey
  have hat := at14_spec b r vs vr ts q P t k hok hwf hy' hkw
  rw [hrq.is] at hat
  have hvw := hsv.vw
  have hqm : (q.map rrV).length = q.length := by simp
  have hfound := fun l (hl : aget (t, k) r.rows = some l) => hrq.found hl
  generalize atN r.s q (t, k) = N at *
  unfold Rl.getOp
  cases hks : keyS r.s t k with
  | false =>
    rw [hks] at hkey
    rw [if_neg (by decide)]
    obtain ⟨kk, ki, kr, ks⟩ := k
    dsimp only [valV] at hkey ⊢
    refine spec_intro [] _ Tryz.func16 rfl Tryz.ntmps16 (by rfl) (fun w0 R => ?_)
    refine ok_learn (VwIn.slice (VwIn.there (VwIn.there (VwIn.here hvw)))) ?_
    rintro ⟨pv, cv, rfl⟩
    repeat' (first | (refine go_Y ?_; intros) | (refine gs_Y ?_ ?_ <;> (intro hgd; try (simp only [Bool.not_true, Bool.not_false] at hgd))) | (refine gc_Y ?_ ?_ <;> intro _) | fail)
    refine cl_Y (hkey) ?_
    intro _ _
    repeat' (first | (refine go_Y ?_; intros) | (refine gs_Y ?_ ?_ <;> (intro hgd; try (simp only [Bool.not_true, Bool.not_false] at hgd))) | (refine gc_Y ?_ ?_ <;> intro _) | fail)
    refine cont_map (fun _ h => rf_in (b := b) (r := r) (P := P) hy' (Take.out takeD h)) ?_
    (refine rt_Y (y := ⟨.slice none 0 0, rfl⟩) (hrs := Tryz.results16) (hv := ?_) (hφ := ?_))
    · rfl
    · exact vw_nil4
  | true =>
    rw [hks] at hkey
    rw [if_pos rfl]
    cases hg : aget (t, k) r.rows with
    | none =>
      rw [hg, Option.isSome_none] at hat
      obtain ⟨kk, ki, kr, ks⟩ := k
      dsimp only [valV] at hkey hat ⊢
      refine spec_intro [] _ Tryz.func16 rfl Tryz.ntmps16 (by rfl) (fun w0 R => ?_)
      refine ok_learn (VwIn.slice (VwIn.there (VwIn.there (VwIn.here hvw)))) ?_
      rintro ⟨pv, cv, rfl⟩
      repeat' (first | (refine go_Y ?_; intros) | (refine gs_Y ?_ ?_ <;> (intro hgd; try (simp only [Bool.not_true, Bool.not_false] at hgd))) | (refine gc_Y ?_ ?_ <;> intro _) | fail)
      refine cl_Y (hkey) ?_
      intro _ _
      repeat' (first | (refine go_Y ?_; intros) | (refine gs_Y ?_ ?_ <;> (intro hgd; try (simp only [Bool.not_true, Bool.not_false] at hgd))) | (refine gc_Y ?_ ?_ <;> intro _) | fail)
      refine cl_Y (hat) ?_
      intro _ _
      repeat' (first | (refine go_Y ?_; intros) | (refine gs_Y ?_ ?_ <;> (intro hgd; try (simp only [Bool.not_true, Bool.not_false] at hgd))) | (refine gc_Y ?_ ?_ <;> intro _) | fail)
      refine cont_map (fun _ h => rf_in (b := b) (r := r) (P := P) hy' (Take.out takeD h)) ?_
      (refine rt_Y (y := ⟨.slice none 0 0, rfl⟩) (hrs := Tryz.results16) (hv := ?_) (hφ := ?_))
      · rfl
      · exact vw_nil4
    | some l =>
      rw [hg, Option.isSome_some] at hat
      obtain ⟨x, hqx, hxp⟩ := hfound l hg
      have hN : N < q.length := (List.getElem?_eq_some_iff.1 hqx).1
      have hxx : (q.map rrV)[N]? = some (rrV x) := by rw [List.getElem?_map, hqx]; rfl
      have hxv := hrv x (List.mem_of_getElem? hqx)
      have hxl : x.l = l := congrArg Prod.snd hxp
      clear hxp hfound
      obtain ⟨xt, ⟨xv, hxv1⟩, xl⟩ := x
      dsimp only at hxl
      subst hxl
      have hn1 : N < (q.map rrV).length := by omega
      obtain ⟨kk, ki, kr, ks⟩ := k
      dsimp only [valV, rrV] at hkey hat hxx hxv ⊢
      refine spec_intro [] _ Tryz.func16 rfl Tryz.ntmps16 (by rfl) (fun w0 R => ?_)
      refine ok_learn (VwIn.slice (VwIn.there (VwIn.there (VwIn.here hvw)))) ?_
      rintro ⟨pv, cv, rfl⟩
      refine ok_learn (rowShapeS (e := 102) (n := 2) (v := vr) (xs := q.map rrV) (by decide) takeD) ?_
      rintro ⟨pr, cr, rfl, hcr, hsp⟩
      refine ok_learn (VwIn.base (n := 2) (xs := q.map rrV) (VwIn.there (VwIn.here Vw.row)) (by intro e; rw [e] at hn1; simp at hn1)) ?_
      rintro ⟨br, or', rfl⟩
      repeat' (first | (refine go_Y ?_; intros) | (refine gs_Y ?_ ?_ <;> (intro hgd; try (simp only [Bool.not_true, Bool.not_false] at hgd))) | (refine gc_Y ?_ ?_ <;> intro _) | fail)
      refine cl_Y (hkey) ?_
      intro _ _
      repeat' (first | (refine go_Y ?_; intros) | (refine gs_Y ?_ ?_ <;> (intro hgd; try (simp only [Bool.not_true, Bool.not_false] at hgd))) | (refine gc_Y ?_ ?_ <;> intro _) | fail)
      refine cl_Y (hat) ?_
      intro _ _
      repeat' (first | (refine go_Y ?_; intros) | (refine gs_Y ?_ ?_ <;> (intro hgd; try (simp only [Bool.not_true, Bool.not_false] at hgd))) | (refine gc_Y ?_ ?_ <;> intro _) | fail)
      refine cont_map (fun _ h => rf_in (b := b) (r := r) (P := P) hy' (Take.out takeD h)) ?_
      (refine rt_Y (y := ⟨xv, hxv1⟩) (hrs := Tryz.results16) (hv := ?_) (hφ := ?_))
      · rfl
      · exact hxv
/-- What is collected of the first rows. -/
def upQ (q : List Rr) (t : Int) (ask : List Vl → Bool) (n : Nat) : List Rw := ((q.take n).filter fun x => decide (x.t = t) && ask x.l).map fun x => (x.lv, x.l)
theorem upQ_step {q : List Rr} {t : Int} {ask : List Vl → Bool} {n : Nat} {x : Rr} (h : q[n]? = some x) : upQ q t ask (n + 1) = if decide (x.t = t) && ask x.l then upQ q t ask n ++ [(x.lv, x.l)] else upQ q t ask n := by
  obtain ⟨hn, rfl⟩ := List.getElem?_eq_some_iff.1 h
  unfold upQ
  rw [List.take_succ_eq_append_getElem hn, List.filter_append, List.map_append]
  cases hc : (decide (q[n].t = t) && ask q[n].l) with
  | true => simp [hc]
  | false => simp [hc]
theorem upQ_all {q : List Rr} {t : Int} {ask : List Vl → Bool} : (upQ q t ask q.length).map (·.2) = (q.filter fun x => decide (x.t = t) && ask x.l).map (·.l) := by
  unfold upQ
  rw [List.take_length, List.map_map]; rfl
theorem upQ_mem {q : List Rr} {t : Int} {ask : List Vl → Bool} {n : Nat} {y : Rw} (h : y ∈ upQ q t ask n) : ∃ x ∈ q, y = (x.lv, x.l) := by
  unfold upQ at h
  obtain ⟨x, hx, rfl⟩ := List.mem_map.1 h
  exact ⟨x, List.mem_of_mem_take (List.mem_filter.1 hx).1, rfl⟩
theorem upQ_len {q : List Rr} {t : Int} {ask : List Vl → Bool} {n : Nat} : (upQ q t ask n).length ≤ q.length := by
  unfold upQ
  rw [List.length_map]
  refine Nat.le_trans (List.length_filter_le ..) ?_
  rw [List.length_take]; omega
abbrev RwY := V1s × List Rw
end Go.Proofs.YtphaegcoldpclaaGreatDoor
/- The reference's state (fascicleref14): Of, Whole. -/
-- @DEFS Y
set_option linter.unusedSimpArgs false
set_option linter.unusedVariables false
set_option maxRecDepth 100000
namespace Go.Proofs.YtphaegcoldpclaaGreatDoor
open Go Go.Fx Go.Proofs Go.Pl

/-- Does a row refer by a value? -/
def askOf (s : Sc) (t : Int) (key : Vl) (l : List Vl) : Bool := decide (0 ≤ (tabAt s t).ref) && decide ((l[(tabAt s t).ref.toNat]?).getD default = key)
set_option maxHeartbeats 8000000 in
theorem of14o_spec (b : Nat) (r : Rl) (t : Int) (k : Vl) (P : HProp) (vs vr : Value) (ts : List Tb) (q : List Rr) (hok : r.Ok) (hy : RfOK P r ⟨vs, ts, vr, q⟩) :
    FSpec Tryz.prog 55 [.pointer (some ⟨b, 0, none⟩), .int .i64 t, .agg (valV k).toArray] [pts b (.cells [vs, vr, .int .u64 r.turns].toArray 100), row 102 2 vr (q.map rrV), P] RwY
      (fun y => (∀ x ∈ y.2, Vw P 4 x.1.1 (x.2.map valV)) ∧ InOrder r t (askOf r.s t k) (y.2.map (·.2))) (fun y => y.1.1)
      (fun y => [row 42 1 y.1.1 (y.2.map rwV), pts b (.cells [vs, vr, .int .u64 r.turns].toArray 100), row 102 2 vr (q.map rrV), P]) := by
  have hy' := hy
  obtain ⟨hvc, hvrc, hsv, hss, hrq, hrv⟩ := hy
  dsimp only at hvc hvrc hsv hss hrq hrv
  have hvw := hsv.vw
  have hqm : (q.map rrV).length = q.length := by simp
  have hql := hrq.len
  have hrl := hok.len
  have hfin := hrq.inOrder hok t (askOf r.s t k)
  have hkq : ∀ l, askOf r.s t k l = (decide (0 ≤ (tabAt r.s t).ref) && decide ((l[(tabAt r.s t).ref.toNat]?).getD default = k)) := fun _ => rfl
  generalize askOf r.s t k = ask at hfin hkq ⊢
  obtain ⟨kk, ki, kr, ks⟩ := k
  dsimp only [valV]
  refine spec_intro [] _ Tryz.func55 rfl Tryz.ntmps55 (by rfl) (fun w0 R => ?_)
  refine ok_learn (VwIn.slice (VwIn.there (VwIn.there (VwIn.here hvw)))) ?_
  rintro ⟨pv, cv, rfl⟩
  refine ok_learn (rowShapeS (e := 102) (n := 2) (v := vr) (xs := q.map rrV) (by decide) takeD) ?_
  rintro ⟨pr, cr, rfl, hcr, hsp⟩
  repeat' (first | (refine go_Y ?_; intros) | (refine gs_Y ?_ ?_ <;> (intro hgd; try (simp only [Bool.not_true, Bool.not_false] at hgd))) | (refine gc_Y ?_ ?_ <;> intro _) | fail)
  rename_i bk
  refine ok_map (fun _ h => nilRow (e := 42) (n := 1) h) ?_
  refine ok_map (L' := [row 42 1 (.slice none 0 0) [], pts b (.cells [.slice pv (ts.map tbV).length cv, .slice pr (q.map rrV).length cr, .int .u64 r.turns].toArray 100), row 102 2 (.slice pr (q.map rrV).length cr) (q.map rrV), P, pts bk (.cells [.int .u8 kk, .int .i64 ki, .int .u64 kr, .string ks].toArray 28)] ++ R) entD ?_
  refine ok_loop' (γ := Nat × V1s) (fun g ρ L => g.1 ≤ q.length ∧ Knows ρ [(0, .pointer (some ⟨b, 0, none⟩)), (1, .int .i64 t), (5, .pointer (some ⟨bk, 0, none⟩)), (7, g.2.1), (8, .int .i64 g.1)] ∧
      L = [row 42 1 g.2.1 ((upQ q t ask g.1).map rwV), pts b (.cells [.slice pv (ts.map tbV).length cv, .slice pr (q.map rrV).length cr, .int .u64 r.turns].toArray 100), row 102 2 (.slice pr (q.map rrV).length cr) (q.map rrV), P, pts bk (.cells [.int .u8 kk, .int .i64 ki, .int .u64 kr, .string ks].toArray 28)] ++ R) (fun g => q.length - g.1)
    (0, ⟨.slice none 0 0, rfl⟩) ⟨by simp, ⟨rfl, rfl, rfl, rfl, rfl, trivial⟩, rfl⟩ ?_
  rintro ⟨n, ⟨v, hvo⟩⟩ ρ L ⟨hn, hk, rfl⟩
  dsimp only at hn hk ⊢
  refine ok_regs hk ?_
  have hul := upQ_len (q := q) (t := t) (ask := ask) (n := n)
  have hum : ((upQ q t ask n).map rwV).length ≤ 200 := by rw [List.length_map]; omega
  cases t1 : decide ((n : Int) < ((q.map rrV).length : Int)) with
  | false =>
    have hne : n = q.length := by have := of_decide_eq_false t1; omega
    subst hne
    repeat' (first | (refine go_Y ?_; intros) | (refine gs_Y ?_ ?_ <;> (intro hgd; try (simp only [Bool.not_true, Bool.not_false] at hgd))) | (refine gc_Y ?_ ?_ <;> intro _) | fail)
    (refine rt_Y (y := (⟨v, hvo⟩, upQ q t ask q.length)) (hrs := Tryz.results55) (hv := ?_) (hφ := ?_))
    · rfl
    · refine ⟨fun x hx => ?_, ?_⟩
      · obtain ⟨y, hy, rfl⟩ := upQ_mem (show x ∈ upQ q t ask q.length from hx)
        exact hrv y hy
      · rw [upQ_all]; exact hfin
  | true =>
    have h0 : n < q.length := by have := of_decide_eq_true t1; omega
    have hqn : q[n]? = some q[n] := List.getElem?_eq_getElem h0
    have hx : (q.map rrV)[n]? = some (rrV q[n]) := by rw [List.getElem?_map, hqn]; rfl
    have hn1 : n < (q.map rrV).length := by omega
    have hst := upQ_step (t := t) (ask := ask) hqn
    have hrx := hrv _ (List.getElem_mem h0)
    have hro := hrq.rowOk hok (List.getElem_mem h0)
    refine ok_learn (VwIn.base (n := 2) (xs := q.map rrV) (VwIn.there (VwIn.there (VwIn.here Vw.row))) (by intro e; rw [e] at hn1; simp at hn1)) ?_
    rintro ⟨br, or', rfl⟩
    generalize q[n] = x at hqn hx hst hrx hro
    obtain ⟨xt, ⟨xv, hxv⟩, xl⟩ := x
    dsimp only [rrV] at hx hst hrx hro
    refine ok_learn (VwIn.slice (VwIn.there (VwIn.there (VwIn.there (VwIn.here hrx))))) ?_
    rintro ⟨px, cx, rfl⟩
    generalize upQ q t ask n = acc at hst hum hul ⊢
    cases t2 : decide (xt = t) with
    | false =>
      rw [t2, Bool.false_and, if_neg (by decide)] at hst
      repeat' (first | (refine go_Y ?_; intros) | (refine gs_Y ?_ ?_ <;> (intro hgd; try (simp only [Bool.not_true, Bool.not_false] at hgd))) | (refine gc_Y ?_ ?_ <;> intro _) | fail)
      refine cont_back (n + 1, ⟨v, hvo⟩) ⟨h0, ⟨rfl, rfl, rfl, rfl, rfl, trivial⟩, by rw [hst]⟩ (by show q.length - (n + 1) < q.length - n; omega)
    | true =>
      obtain rfl := of_decide_eq_true t2
      rw [t2, Bool.true_and] at hst
      have hax := hkq xl
      have hh : hasS (ts.map Tb.c) xt = true := by rw [hss]; simp only [rowS, Bool.and_eq_true] at hro; exact hro.1
      obtain ⟨_, _, hlen⟩ := rowS_key hro
      obtain ⟨tm, tb, rfl, htt, hxt, htl, hta, htok, htmem⟩ := hasS_tb hh
      have hrL := htok.refL
      rw [hss] at hta
      rw [hta] at hax hlen
      clear hkq
      obtain ⟨tn, cols, ⟨tcv, htcv⟩, key, ref, par⟩ := tb
      dsimp only [tbV, Tb.c] at hxt hrL hlen
      have hax : ask xl = (decide (0 ≤ ref) && decide ((xl[ref.toNat]?).getD default = (⟨kk, ki, kr, ks⟩ : Vl))) := hax
      refine ok_learn (VwIn.base (n := 5) (p := pv) (len := (ts.map tbV).length) (cap := cv) (xs := ts.map tbV) (VwIn.there (VwIn.there (VwIn.there (VwIn.here hvw)))) (by intro e; rw [e] at htl; simp at htl)) ?_
      rintro ⟨bv, ov, rfl⟩
      cases t3 : decide (0 ≤ ref) with
      | false =>
        rw [t3, Bool.false_and] at hax
        rw [hax, if_neg (by decide)] at hst
        repeat' (first | (refine go_Y ?_; intros) | (refine gs_Y ?_ ?_ <;> (intro hgd; try (simp only [Bool.not_true, Bool.not_false] at hgd))) | (refine gc_Y ?_ ?_ <;> intro _) | fail)
        refine cont_back (n + 1, ⟨v, hvo⟩) ⟨h0, ⟨rfl, rfl, rfl, rfl, rfl, trivial⟩, by rw [hst]⟩ (by show q.length - (n + 1) < q.length - n; omega)
      | true =>
        have hr0 := of_decide_eq_true t3
        obtain ⟨rm, rfl⟩ : ∃ rm : Nat, ref = rm := ⟨ref.toNat, by omega⟩
        have hrm : rm < xl.length := by omega
        have hli : xl[rm]? = some xl[rm] := List.getElem?_eq_getElem hrm
        have hxr : (xl.map valV)[rm]? = some (valV xl[rm]) := by rw [List.getElem?_map, hli]; rfl
        have hnr : rm < (xl.map valV).length := by rw [List.length_map]; exact hrm
        rw [t3, Bool.true_and, Int.toNat_natCast, hli, Option.getD_some] at hax
        generalize xl[rm] = u at hxr hax
        rw [← eqL_valV] at hax
        obtain ⟨uk, ui, ur, us⟩ := u
        dsimp only [valV] at hxr hax
        refine ok_learn (VwIn.base (n := 4) (p := px) (len := (xl.map valV).length) (cap := cx) (xs := xl.map valV) (VwIn.there (VwIn.there (VwIn.there (VwIn.here hrx)))) (by intro e; rw [e] at hnr; simp at hnr)) ?_
        rintro ⟨bx, ox, rfl⟩
        cases t4 : nilB BinOp.eql (eqL [TypeDesc.int .u8, TypeDesc.int .i64, TypeDesc.int .u64, TypeDesc.string] [Value.int .u8 uk, Value.int .i64 ui, Value.int .u64 ur, Value.string us] [Value.int .u8 kk, Value.int .i64 ki, Value.int .u64 kr, Value.string ks]) with
        | false =>
          have t4' := t4
          simp only [nilB] at t4'
          rw [hax, t4', if_neg (by decide)] at hst
          repeat' (first | (refine go_Y ?_; intros) | (refine gs_Y ?_ ?_ <;> (intro hgd; try (simp only [Bool.not_true, Bool.not_false] at hgd))) | (refine gc_Y ?_ ?_ <;> intro _) | fail)
          refine cont_back (n + 1, ⟨v, hvo⟩) ⟨h0, ⟨rfl, rfl, rfl, rfl, rfl, trivial⟩, by rw [hst]⟩ (by show q.length - (n + 1) < q.length - n; omega)
        | true =>
          have t4' := t4
          simp only [nilB] at t4'
          rw [hax, t4', if_pos rfl] at hst
          repeat' (first | (refine go_Y ?_; intros) | (refine gs_Y ?_ ?_ <;> (intro hgd; try (simp only [Bool.not_true, Bool.not_false] at hgd))) | (refine gc_Y ?_ ?_ <;> intro _) | fail)
          rename_i v1 hv1 v2 hv2
          refine cont_map (L' := [row 42 1 v2 ((upQ q (tm : Int) ask (n + 1)).map rwV), pts b (.cells [.slice (some ⟨bv, ov, none⟩) (ts.map tbV).length cv, .slice (some ⟨br, or', none⟩) (q.map rrV).length cr, .int .u64 r.turns].toArray 100), row 102 2 (.slice (some ⟨br, or', none⟩) (q.map rrV).length cr) (q.map rrV), P, pts bk (.cells [.int .u8 kk, .int .i64 ki, .int .u64 kr, .string ks].toArray 28)] ++ R) (by rw [hst, List.map_append]; exact entD) ?_
          refine cont_back (n + 1, ⟨v2, hv2⟩) ⟨h0, ⟨rfl, rfl, rfl, rfl, rfl, trivial⟩, rfl⟩ (by show q.length - (n + 1) < q.length - n; omega)
end Go.Proofs.YtphaegcoldpclaaGreatDoor
/- The reference's state (fascicleref14): Copy, CopyOps. -/
-- @DEFS Y
set_option linter.unusedSimpArgs false
set_option linter.unusedVariables false
set_option maxRecDepth 100000
namespace Go.Proofs.YtphaegcoldpclaaGreatDoor
open Go Go.Fx Go.Proofs Go.Pl

def Rr.tl (x : Rr) : Int × List Vl := (x.t, x.l)
theorem RefQ.congr {r : Rl} {q q' : List Rr} (h : RefQ r q) (e : q'.map Rr.tl = q.map Rr.tl) : RefQ r q' := by
  have e1 : ∀ l : List Rr, l.map (Rr.pl r.s) = (l.map Rr.tl).map (fun x => ((x.1, Pl.keyOf r.s x.1 x.2), x.2)) := fun l => by rw [List.map_map]; rfl
  refine ⟨by rw [e1, e, ← e1]; exact h.perm, ?_⟩
  have h2 := h.srt
  have e2 : ∀ l : List Rr, (l.Pairwise fun x y => pltB (x.pl r.s).1 (y.pl r.s).1 = true) ↔ ((l.map (Rr.pl r.s)).Pairwise fun x y => pltB x.1 y.1 = true) := fun l => by rw [List.pairwise_map]
  rw [e2, e1] at h2
  rw [e2, e1, e]
  exact h2
abbrev G14 (A : HProp) := { g : V1s × List Rr × HProp // Ext A g.2.2 ∧ (∀ x ∈ g.2.1, Vw g.2.2 4 x.lv.1 (x.l.map valV)) }
abbrev GOp (A : HProp) := { g : V1s × List Om × HProp // Ext A g.2.2 ∧ (∀ x ∈ g.2.1, OmR g.2.2 x) }
end Go.Proofs.YtphaegcoldpclaaGreatDoor
/- rel.Of, rel.Schema; two schemas told apart (fascicleref13.Same). -/
-- @DEFS Y
set_option linter.unusedSimpArgs false
set_option linter.unusedVariables false
set_option maxRecDepth 100000
namespace Go.Proofs.YtphaegcoldpclaaGreatDoor
open Go Go.Fx Go.Proofs Go.Pl

/-- What the question of Of reads. -/
def ofF (b bx bt bk : Nat) (t : Int) (k : Vl) : List HProp := [pts bx (.cells [.pointer (some ⟨b, 0, none⟩)].toArray 31), pts bt (.cells [.int .i64 t].toArray 3), pts bk (.cells (valV k).toArray 28)]
set_option maxHeartbeats 2000000 in
theorem of1_spec (b bx bt bk : Nat) (vs vm : Value) (turns : Int) (ts : List Tb) (t : Int) (k : Vl) (w : Value) (l : List Vl) (A : HProp) (hsv : SV A vs ts) (hw : Vw A 4 w (l.map valV)) (hr : rowS (ts.map Tb.c) t l = true) :
    FSpec Tryz.prog 111 [w, .pointer (some ⟨bx, 0, none⟩), .pointer (some ⟨bt, 0, none⟩), .pointer (some ⟨bk, 0, none⟩)] ([pts b (.cells [vs, vm, .int .u64 turns].toArray 112), A] ++ ofF b bx bt bk t k) Unit (fun _ => True)
      (fun _ => .bool (askOf (ts.map Tb.c) t k l)) (fun _ => [pts b (.cells [vs, vm, .int .u64 turns].toArray 112), A] ++ ofF b bx bt bk t k) := by
  have hvw := hsv.vw
  have hh : hasS (ts.map Tb.c) t = true := by simp only [rowS, Bool.and_eq_true] at hr; exact hr.1
  obtain ⟨_, _, hlen⟩ := rowS_key hr
  unfold ofF
  have hax : askOf (ts.map Tb.c) t k l = (decide (0 ≤ (tabAt (ts.map Tb.c) t).ref) && decide ((l[(tabAt (ts.map Tb.c) t).ref.toNat]?).getD default = k)) := rfl
  generalize askOf (ts.map Tb.c) t k l = a at hax ⊢
  obtain ⟨tm, tb, rfl, htt, hxt, htl, hta, htok, htmem⟩ := hasS_tb hh
  have hrL := htok.refL
  rw [hta] at hax hlen
  obtain ⟨tn, cols, ⟨tcv, htcv⟩, key, ref, par⟩ := tb
  dsimp only [tbV, Tb.c] at hxt hrL hlen
  have hax : a = (decide (0 ≤ ref) && decide ((l[ref.toNat]?).getD default = k)) := hax
  cases t3 : decide (0 ≤ ref) with
  | false =>
    rw [t3, Bool.false_and] at hax
    subst hax
    obtain ⟨kk, ki, kr, ks⟩ := k
    dsimp only [valV]
    refine spec_intro [] _ Tryz.func111 rfl Tryz.ntmps111 (by rfl) (fun w0 R => ?_)
    refine ok_learn (VwIn.slice (VwIn.there (VwIn.here hvw))) ?_
    rintro ⟨pv, cv, rfl⟩
    refine ok_learn (VwIn.base (n := 5) (p := pv) (len := (ts.map tbV).length) (cap := cv) (xs := ts.map tbV) (VwIn.there (VwIn.here hvw)) (by intro e; rw [e] at htl; simp at htl)) ?_
    rintro ⟨bv, ov, rfl⟩
    repeat' (first | (refine go_Y ?_; intros) | (refine gs_Y ?_ ?_ <;> (intro hgd; try (simp only [Bool.not_true, Bool.not_false] at hgd))) | (refine gc_Y ?_ ?_ <;> intro _) | fail)
    (refine rt_Y (y := ()) (hrs := Tryz.results111) (hv := ?_) (hφ := ?_))
    · rfl
    · trivial
  | true =>
    have hr0 := of_decide_eq_true t3
    obtain ⟨rm, rfl⟩ : ∃ rm : Nat, ref = rm := ⟨ref.toNat, by omega⟩
    have hrm : rm < l.length := by omega
    have hli : l[rm]? = some l[rm] := List.getElem?_eq_getElem hrm
    have hxr : (l.map valV)[rm]? = some (valV l[rm]) := by rw [List.getElem?_map, hli]; rfl
    have hnr : rm < (l.map valV).length := by rw [List.length_map]; exact hrm
    rw [t3, Bool.true_and, Int.toNat_natCast, hli, Option.getD_some] at hax
    generalize l[rm] = u at hxr hax
    rw [← eqL_valV] at hax
    obtain ⟨uk, ui, ur, us⟩ := u
    obtain ⟨kk, ki, kr, ks⟩ := k
    dsimp only [valV] at hxr hax ⊢
    rw [hax]
    refine spec_intro [] _ Tryz.func111 rfl Tryz.ntmps111 (by rfl) (fun w0 R => ?_)
    refine ok_learn (VwIn.slice (VwIn.there (VwIn.here hvw))) ?_
    rintro ⟨pv, cv, rfl⟩
    refine ok_learn (VwIn.base (n := 5) (p := pv) (len := (ts.map tbV).length) (cap := cv) (xs := ts.map tbV) (VwIn.there (VwIn.here hvw)) (by intro e; rw [e] at htl; simp at htl)) ?_
    rintro ⟨bv, ov, rfl⟩
    refine ok_learn (VwIn.slice (VwIn.there (VwIn.here hw))) ?_
    rintro ⟨pw, cw, rfl⟩
    refine ok_learn (VwIn.base (VwIn.there (VwIn.here hw)) (by intro e; rw [e] at hnr; simp at hnr)) ?_
    rintro ⟨bw, ow, rfl⟩
    repeat' (first | (refine go_Y ?_; intros) | (refine gs_Y ?_ ?_ <;> (intro hgd; try (simp only [Bool.not_true, Bool.not_false] at hgd))) | (refine gc_Y ?_ ?_ <;> intro _) | fail)
    (refine rt_Y (y := ()) (hrs := Tryz.results111) (hv := ?_) (hφ := ?_))
    · rfl
    · trivial
theorem relSchema_spec (b : Nat) (r : Rl) (P : HProp) (hok : r.Ok) :
    FSpec Tryz.prog 47 [.pointer (some ⟨b, 0, none⟩)] [relP P b r, P] (V1s × List Tb × HProp) (fun y => SV y.2.2 y.1.1 y.2.1 ∧ y.2.1.map Tb.c = r.s ∧ Ext P y.2.2) (fun y => .agg #[y.1.1]) (fun y => [relP y.2.2 b r, y.2.2]) := by
  refine fspec_ex ?_
  rintro ⟨⟨vs, ts, m, es⟩, hy⟩
  have hy' := hy
  obtain ⟨hvc, hsv, hss, hes⟩ := hy
  dsimp only at hvc hsv hss hes
  unfold relL
  dsimp only
  have hvw := hsv.vw
  obtain ⟨ds, _, hah, h1, h12⟩ := checkS_ok hok.sch
  have hcl := relClone_spec vs ts P hsv (by rw [← hss, List.length_map] at h1; exact h1) (by rw [← hss, List.length_map] at h12; omega) (fun t ht => by have := (hah.tab t (by rw [← hss]; exact ht)).len; omega)
  refine spec_intro [] _ Tryz.func47 rfl Tryz.ntmps47 (by rfl) (fun w0 R => ?_)
  refine ok_learn (VwIn.slice (VwIn.there (VwIn.there (VwIn.here hvw)))) ?_
  rintro ⟨pv, cv, rfl⟩
  repeat' (first | (refine go_Y ?_; intros) | (refine gs_Y ?_ ?_ <;> (intro hgd; try (simp only [Bool.not_true, Bool.not_false] at hgd))) | (refine gc_Y ?_ ?_ <;> intro _) | fail)
  refine cl_Y (hcl) ?_
  rintro ⟨⟨v, hv⟩, ts', P1⟩ ⟨hsv', hmap', hE⟩
  dsimp only at hsv' hmap' hE ⊢
  refine ops_learn (VwIn.slice (n := 5) (v := v) (xs := ts'.map tbV) (VwIn.here hsv'.vw)) ?_
  rintro ⟨pv', cv', rfl⟩
  repeat' (first | (refine go_Y ?_; intros) | (refine gs_Y ?_ ?_ <;> (intro hgd; try (simp only [Bool.not_true, Bool.not_false] at hgd))) | (refine gc_Y ?_ ?_ <;> intro _) | fail)
  refine cont_map (fun _ h => rel_in (b := b) (r := r) (P := P1) (RlOK.ext hE hy') (Take.out takeD h)) ?_
  (refine rt_Y (y := (⟨.slice pv' (ts'.map tbV).length cv', rfl⟩, ts', P1)) (hrs := Tryz.results47) (hv := ?_) (hφ := ?_))
  · rfl
  · exact ⟨hsv', hmap'.trans hss, hE⟩
end Go.Proofs.YtphaegcoldpclaaGreatDoor
