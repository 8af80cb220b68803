/- Texts merged: PhE PhI PhH PhF. -/
import Derived.Test.YtphaegcoldpclaaGreatDoorG18
import Derived.Test.YtphaegcoldpclaaGreatDoorL14E
import Derived.Test.YtphaegcoldpclaaGreatDoorG17
import Derived.Test.YtphaegcoldpclaaGreatDoorG10
import Derived.Test.YtphaegcoldpclaaGreatDoorG14
import Derived.Test.YtphaegcoldpclaaGreatDoorQcG
import Derived.Test.YtphaegcoldpclaaGreatDoorG8
/- Documents of a state: agg.All, fascicleref24.All, fasciclelaw24.both. -/
-- @DEFS Y
set_option linter.unusedSimpArgs false
set_option linter.unusedVariables false
set_option maxRecDepth 100000
namespace Go.Proofs.YtphaegcoldpclaaGreatDoor
open Go Go.Fx Go.Proofs Go.Pl

def docsUp (r : Rl) (R0 : List Pr2) (n : Nat) : List Dc := (List.range n).flatMap fun k : Nat => if (tabAt r.s (k : Int)).par < 0 then (ofR R0 (k : Int) fun _ => true).map (docS r.s R0 r.s.length (k : Int)) else []
/-- The documents of all roots. -/
def docsR (r : Rl) (R0 : List Pr2) : List Dc := (rootsR r R0).map fun p => docS r.s R0 r.s.length p.1 p.2
theorem docsUp_all {r : Rl} {R0 : List Pr2} (h : RowsQ r R0) : docsUp r R0 r.s.length = docsR r R0 := by
  unfold docsR docsUp
  rw [h.roots, List.map_flatMap]
  refine fm_congr fun k _ => ?_
  split
  · rw [List.map_map]; rfl
  · rfl
theorem docsUp_step (r : Rl) (R0 : List Pr2) (n : Nat) : docsUp r R0 (n + 1) = docsUp r R0 n ++ (if (tabAt r.s (n : Int)).par < 0 then (ofR R0 (n : Int) fun _ => true).map (docS r.s R0 r.s.length (n : Int)) else []) := by
  unfold docsUp
  rw [List.range_succ, List.flatMap_append]
  simp
theorem docsUp_root {r : Rl} {R0 : List Pr2} {n : Nat} (h : (tabAt r.s (n : Int)).par < 0) : docsUp r R0 (n + 1) = docsUp r R0 n ++ (ofR R0 (n : Int) fun _ => true).map (docS r.s R0 r.s.length (n : Int)) := by
  rw [docsUp_step, if_pos h]
theorem docsUp_kid {r : Rl} {R0 : List Pr2} {n : Nat} (h : ¬ (tabAt r.s (n : Int)).par < 0) : docsUp r R0 (n + 1) = docsUp r R0 n := by
  rw [docsUp_step, if_neg h, List.append_nil]
set_option maxHeartbeats 8000000 in
theorem aAll_spec {r : Rl} {R0 : List Pr2} (hR : RowsQ r R0) (hok : r.Ok) (hwf : Rl.Wf r) (b : Nat) (P : HProp) :
    FSpec Tryz.prog 11 [.pointer (some ⟨b, 0, none⟩)] [relP P b r, P] (V1s × List Dm × HProp) (fun y => Ext P y.2.2 ∧ (∀ x ∈ y.2.1, DocR y.2.2 x) ∧ y.2.1.map Dm.c = docsR r R0)
      (fun y => .tuple #[y.1.1, .int .i64 0]) (fun y => [row 44 3 y.1.1 (y.2.1.map docV), relP y.2.2 b r, y.2.2]) := by
  have hrows := fun (t : Int) (Q : HProp) => relRows_spec b r t Q hok hwf
  have hslen : r.s.length ≤ 12 := by obtain ⟨_, _, _, _, h12⟩ := checkS_ok hok.sch; exact h12
  rw [← docsUp_all hR]
  refine spec_intro [] _ Tryz.func11 rfl Tryz.ntmps11 (by rfl) (fun w0 R => ?_)
  repeat' (first | (refine go_Y ?_; intros) | (refine gs_Y ?_ ?_ <;> (intro hgd; try (simp only [Bool.not_true, Bool.not_false] at hgd))) | (refine gc_Y ?_ ?_ <;> intro _) | fail)
  refine cl_Y (doer_spec hR hok hwf b P) ?_
  rintro ⟨fv, F, P1⟩ ⟨hE1, hdc⟩
  dsimp only at hE1 hdc ⊢
  repeat' (first | (refine go_Y ?_; intros) | (refine gs_Y ?_ ?_ <;> (intro hgd; try (simp only [Bool.not_true, Bool.not_false] at hgd))) | (refine gc_Y ?_ ?_ <;> intro _) | fail)
  refine cl_Y (relSchema_spec b r P1 hok) ?_
  rintro ⟨⟨vs, hvs⟩, ts, P2⟩ ⟨hsv, hss, hE2⟩
  dsimp only at hsv hss hE2 ⊢
  have htsl : ts.length = r.s.length := by rw [← hss, List.length_map]
  have ltm : (ts.map tbV).length = ts.length := by simp
  have hvw := hsv.vw
  refine ops_learn (VwIn.slice (n := 5) (v := vs) (xs := ts.map tbV) (VwIn.there (VwIn.here hvw))) ?_
  rintro ⟨pv, cv, rfl⟩
  repeat' (first | (refine go_Y ?_; intros) | (refine gs_Y ?_ ?_ <;> (intro hgd; try (simp only [Bool.not_true, Bool.not_false] at hgd))) | (refine gc_Y ?_ ?_ <;> intro _) | fail)
  have hE02 := hE1.trans hE2
  refine ok_map (fun _ h => nilRow (e := 44) (n := 3) h) ?_
  refine ok_map (L' := [relP P2 b r, P2, F, row 44 3 (.slice none 0 0) []] ++ R) entD ?_
  refine ok_loop' (γ := Nat × GD P2) (fun g ρ L => g.1 ≤ ts.length ∧ g.2.1.2.1.map Dm.c = docsUp r R0 g.1 ∧ g.2.1.2.1.length ≤ 200 * g.1 ∧
      Knows ρ [(0, .pointer (some ⟨b, 0, none⟩)), (2, g.2.1.1.1), (3, .int .i64 0), (4, fv), (15, .slice pv (ts.map tbV).length cv), (16, .int .i64 ((ts.map tbV).length : Int)), (17, .int .i64 g.1)] ∧
      L = [relP g.2.1.2.2 b r, g.2.1.2.2, F, row 44 3 g.2.1.1.1 (g.2.1.2.1.map docV)] ++ R) (fun g => ts.length - g.1)
    (0, ⟨(⟨.slice none 0 0, rfl⟩, [], P2), Ext.refl P2, fun _ h => by simp at h⟩) ⟨by simp, rfl, by simp, ⟨rfl, rfl, rfl, rfl, rfl, rfl, rfl, trivial⟩, rfl⟩ ?_
  rintro ⟨i, ⟨⟨v, hv⟩, acc, Q⟩, hE, hacc⟩ ρ L ⟨hi, he, hal, hk, rfl⟩
  dsimp only at hE hacc hi he hal hk ⊢
  refine ok_regs hk ?_
  have hvwQ := hE.vw hvw
  cases t1 : decide ((i : Int) < ((ts.map tbV).length : Int)) with
  | false =>
    have hie : i = r.s.length := by have := of_decide_eq_false t1; omega
    rw [hie] at he
    repeat' (first | (refine go_Y ?_; intros) | (refine gs_Y ?_ ?_ <;> (intro hgd; try (simp only [Bool.not_true, Bool.not_false] at hgd))) | (refine gc_Y ?_ ?_ <;> intro _) | fail)
    (refine rt_Y (y := (⟨v, hv⟩, acc, Q)) (hrs := Tryz.results11) (hv := ?_) (hφ := ?_))
    · rfl
    · exact ⟨hE02.trans hE, hacc, he⟩
  | true =>
    have h0 : i < ts.length := by have := of_decide_eq_true t1; omega
    have hxi : (ts.map tbV)[i]? = some (tbV ts[i]) := by rw [List.getElem?_map, List.getElem?_eq_getElem h0]; rfl
    have hni : i < (ts.map tbV).length := by omega
    have htai : tabAt r.s (i : Int) = ts[i].c := by
      rw [← hss]
      unfold tabAt
      rw [Int.toNat_natCast, List.getElem?_map, List.getElem?_eq_getElem h0]; rfl
    have hpi : (tabAt r.s (i : Int)).par = ts[i].par := by rw [htai]; rfl
    refine ok_learn (VwIn.base (n := 5) (xs := ts.map tbV) (VwIn.there (VwIn.here hvwQ)) (by intro e; rw [e] at hni; simp at hni)) ?_
    rintro ⟨bv, ov, rfl⟩
    clear htai
    generalize ts[i] = x at hxi hpi
    obtain ⟨xn, xc, ⟨xv, hxv⟩, xk, xr, xp⟩ := x
    dsimp only [tbV] at hxi hpi
    have hone : oneCells [Value.string xn, xv, Value.int .i64 xk, Value.int .i64 xr, Value.int .i64 xp] = true := by
      simp only [oneCells, List.all_cons, List.all_nil, hxv, Bool.and_true]; rfl
    cases t2 : decide (0 ≤ xp) with
    | true =>
      have hstp := docsUp_kid (r := r) (R0 := R0) (n := i) (by rw [hpi]; have := of_decide_eq_true t2; omega)
      repeat' (first | (refine go_Y ?_; intros) | (refine gs_Y ?_ ?_ <;> (intro hgd; try (simp only [Bool.not_true, Bool.not_false] at hgd))) | (refine gc_Y ?_ ?_ <;> intro _) | fail)
      refine cont_map (L' := [relP Q b r, Q, F, row 44 3 v (acc.map docV)] ++ R) entD ?_
      refine cont_back (i + 1, ⟨(⟨v, hv⟩, acc, Q), hE, hacc⟩) ⟨h0, he.trans hstp.symm, by dsimp only; omega, ⟨rfl, rfl, rfl, rfl, rfl, rfl, rfl, trivial⟩, rfl⟩ (by show ts.length - (i + 1) < ts.length - i; omega)
    | false =>
      have hstp := docsUp_root (r := r) (R0 := R0) (n := i) (by rw [hpi]; have := of_decide_eq_false t2; omega)
      repeat' (first | (refine go_Y ?_; intros) | (refine gs_Y ?_ ?_ <;> (intro hgd; try (simp only [Bool.not_true, Bool.not_false] at hgd))) | (refine gc_Y ?_ ?_ <;> intro _) | fail)
      refine cl_Y (hrows (i : Int) Q) ?_
      rintro ⟨⟨vl, hvl⟩, l, Q1⟩ ⟨hQ1, hlw, hlo⟩
      dsimp only at hQ1 hlw hlo ⊢
      have hll := rowsAt_len hok (i : Int) (fun _ => true)
      have hll2 := hlo.perm.length_eq
      rw [List.length_map] at hll2
      have hlo := hlo.uniq (hR.ord (i : Int) _) rfl (.refl _)
      have llm : (l.map rwV).length = l.length := by simp
      refine ops_learn (rowShapeS (e := 42) (n := 1) (v := vl) (xs := l.map rwV) (by decide) takeD) ?_
      rintro ⟨pl, cl, rfl, hcl, hsl⟩
      repeat' (first | (refine go_Y ?_; intros) | (refine gs_Y ?_ ?_ <;> (intro hgd; try (simp only [Bool.not_true, Bool.not_false] at hgd))) | (refine gc_Y ?_ ?_ <;> intro _) | fail)
      have hE1' := hE.trans hQ1
      refine ok_map (L' := [relP Q1 b r, Q1, F, row 44 3 v (acc.map docV), row 42 1 (.slice pl (l.map rwV).length cl) (l.map rwV)] ++ R) entD ?_
      refine ok_loop' (γ := Nat × GD Q1) (fun g ρ L => g.1 ≤ l.length ∧ g.2.1.2.1.map Dm.c = acc.map Dm.c ++ ((l.take g.1).map (·.2)).map (docS r.s R0 r.s.length (i : Int)) ∧ g.2.1.2.1.length ≤ 200 * i + g.1 ∧
          Knows ρ [(0, .pointer (some ⟨b, 0, none⟩)), (2, g.2.1.1.1), (3, .int .i64 0), (4, fv), (5, .int .i64 i), (15, .slice (some ⟨bv, ov, none⟩) (ts.map tbV).length cv), (16, .int .i64 ((ts.map tbV).length : Int)), (17, .int .i64 i), (27, .slice pl (l.map rwV).length cl), (28, .int .i64 ((l.map rwV).length : Int)), (29, .int .i64 g.1)] ∧
          L = [relP g.2.1.2.2 b r, g.2.1.2.2, F, row 44 3 g.2.1.1.1 (g.2.1.2.1.map docV), row 42 1 (.slice pl (l.map rwV).length cl) (l.map rwV)] ++ R) (fun g => l.length - g.1)
        (0, ⟨(⟨v, hv⟩, acc, Q1), Ext.refl Q1, docs_mono hQ1 hacc⟩) ⟨by simp, by simp, by dsimp only; omega, ⟨rfl, rfl, rfl, rfl, rfl, rfl, rfl, rfl, rfl, rfl, rfl, trivial⟩, rfl⟩ ?_
      rintro ⟨j, ⟨⟨v2, hv2⟩, acc2, Q2⟩, hE2', hacc2⟩ ρ L ⟨hj, he2, hal2, hk, rfl⟩
      dsimp only at hE2' hacc2 hj he2 hal2 hk ⊢
      refine ok_regs hk ?_
      cases t3 : decide ((j : Int) < ((l.map rwV).length : Int)) with
      | false =>
        have hje : j = l.length := by have := of_decide_eq_false t3; omega
        rw [hje, List.take_length, hlo, he, ← hstp] at he2
        repeat' (first | (refine go_Y ?_; intros) | (refine gs_Y ?_ ?_ <;> (intro hgd; try (simp only [Bool.not_true, Bool.not_false] at hgd))) | (refine gc_Y ?_ ?_ <;> intro _) | fail)
        refine cont_map (L' := [relP Q2 b r, Q2, F, row 44 3 v2 (acc2.map docV)] ++ R) entD ?_
        refine cont_back (i + 1, ⟨(⟨v2, hv2⟩, acc2, Q2), hE1'.trans hE2', hacc2⟩) ⟨h0, he2, by dsimp only; omega, ⟨rfl, rfl, rfl, rfl, rfl, rfl, rfl, trivial⟩, rfl⟩ (by show ts.length - (i + 1) < ts.length - i; omega)
      | true =>
        have hj0 : j < l.length := by have := of_decide_eq_true t3; omega
        have hlj : l[j]? = some l[j] := List.getElem?_eq_getElem hj0
        have hjx : (l.map rwV)[j]? = some (rwV l[j]) := by rw [List.getElem?_map, hlj]; rfl
        have hjn : j < (l.map rwV).length := by omega
        have hst2 : (l.take (j + 1)).map (·.2) = (l.take j).map (·.2) ++ [l[j].2] := by rw [List.take_succ_eq_append_getElem hj0, List.map_append]; rfl
        have hmR : ((i : Int), l[j].2) ∈ R0 := (mem_ofR.1 (by rw [← hlo]; exact List.mem_map_of_mem (List.getElem_mem hj0))).1
        have hlv := hE2'.vw (hlw _ (List.getElem_mem hj0))
        have hdo := hdc Q2 (i : Int) l[j].1 l[j].2 (hE2.trans (hE1'.trans hE2')) hmR hlv
        refine ok_learn (VwIn.base (n := 1) (p := pl) (len := (l.map rwV).length) (cap := cl) (xs := l.map rwV) (VwIn.there (VwIn.there (VwIn.there (VwIn.there (VwIn.here Vw.row))))) (by intro e; rw [e] at hjn; simp at hjn)) ?_
        rintro ⟨bl, ol, rfl⟩
        generalize l[j] = x at hlj hjx hst2 hmR hlv hdo
        obtain ⟨⟨xv', hxv'⟩, xl⟩ := x
        dsimp only [rwV] at hjx hst2 hlv hdo
        have lac : (acc2.map docV).length = acc2.length := by simp
        repeat' (first | (refine go_Y ?_; intros) | (refine gs_Y ?_ ?_ <;> (intro hgd; try (simp only [Bool.not_true, Bool.not_false] at hgd))) | (refine gc_Y ?_ ?_ <;> intro _) | fail)
        refine clV_Y (hdo) ?_
        rintro ⟨d, Q3⟩ ⟨hQ3, hdR, hdc'⟩
        dsimp only at hQ3 hdR hdc' ⊢
        obtain ⟨dt, ⟨dlv, hdlv⟩, drow, ⟨dkv, hdkv⟩, dk⟩ := d
        dsimp only [docV] at hdR hdc' ⊢
        have hone : oneCells [Value.int .i64 dt, dlv, dkv] = true := by
          simp only [oneCells, List.all_cons, List.all_nil, hdlv, hdkv, Bool.and_true]; rfl
        have hgb := good3 hone
        repeat' (first | (refine go_Y ?_; intros) | (refine gs_Y ?_ ?_ <;> (intro hgd; try (simp only [Bool.not_true, Bool.not_false] at hgd))) | (refine gc_Y ?_ ?_ <;> intro _) | fail)
        rename_i v4 hv4 v5 hv5
        refine cont_map (L' := [relP Q3 b r, Q3, F, row 44 3 v5 ((acc2 ++ ([.mk dt ⟨dlv, hdlv⟩ drow ⟨dkv, hdkv⟩ dk] : List Dm)).map docV), row 42 1 (.slice (some ⟨bl, ol, none⟩) (l.map rwV).length cl) (l.map rwV)] ++ R) (by rw [List.map_append]; exact entD) ?_
        refine cont_back (j + 1, ⟨(⟨v5, hv5⟩, acc2 ++ ([.mk dt ⟨dlv, hdlv⟩ drow ⟨dkv, hdkv⟩ dk] : List Dm), Q3), hE2'.trans hQ3, fun x hx => ?_⟩) ⟨hj0, ?_, by dsimp only; rw [List.length_append, List.length_singleton]; omega, ⟨rfl, rfl, rfl, rfl, rfl, rfl, rfl, rfl, rfl, rfl, rfl, trivial⟩, rfl⟩ (by show l.length - (j + 1) < l.length - j; omega)
        · rcases List.mem_append.1 hx with hx | hx
          · exact (hacc2 x hx).ext hQ3
          · rw [List.mem_singleton] at hx; subst hx; exact hdR
        · dsimp only
          rw [List.map_append, he2, hst2, List.map_append, ← List.append_assoc, List.map_cons, List.map_nil, hdc']
          rfl
theorem aAll_nil : FSpec Tryz.prog 11 [.pointer none] [] Unit (fun _ => True) (fun _ => .tuple #[.slice none 0 0, .int .i64 1]) (fun _ => []) := by
  refine spec_intro [] _ Tryz.func11 rfl Tryz.ntmps11 (by rfl) (fun w0 R => ?_)
  repeat' (first | (refine go_Y ?_; intros) | (refine gs_Y ?_ ?_ <;> (intro hgd; try (simp only [Bool.not_true, Bool.not_false] at hgd))) | (refine gc_Y ?_ ?_ <;> intro _) | fail)
  (refine rt_Y (y := ()) (hrs := Tryz.results11) (hv := ?_) (hφ := ?_))
  · rfl
  · trivial
end Go.Proofs.YtphaegcoldpclaaGreatDoor
/- The chapter's example (fasciclelaw24.alive). -/
-- @DEFS Y
set_option linter.unusedSimpArgs false
set_option linter.unusedVariables false
set_option maxRecDepth 100000
namespace Go.Proofs.YtphaegcoldpclaaGreatDoor
open Go Go.Fx Go.Proofs Go.Pl

theorem num24_spec (n : Int) : FSpec Tryz.prog 41 [.int .i64 n] [] Unit (fun _ => True) (fun _ => .agg (valV ⟨2, n, 0, ⟨#[]⟩⟩).toArray) (fun _ => []) := by
  refine spec_intro [] _ Tryz.func41 rfl Tryz.ntmps41 (by rfl) (fun w0 R => ?_)
  repeat' (first | (refine go_Y ?_; intros) | (refine gs_Y ?_ ?_ <;> (intro hgd; try (simp only [Bool.not_true, Bool.not_false] at hgd))) | (refine gc_Y ?_ ?_ <;> intro _) | fail)
  (refine rt_Y (y := ()) (hrs := Tryz.results41) (hv := ?_) (hφ := ?_))
  · rfl
  · trivial
def agO2 : Opr := ⟨1, 1, [nV 3, nV 1]⟩
def agO3 : Opr := ⟨1, 1, [nV 2, nV 1]⟩
def ag2 : Rl := (al1.doOp agO2).1
def ag3 : Rl := (ag2.doOp agO3).1
theorem ag2_ok : ag2.Ok := al1_ok.doOp _
theorem ag3_ok : ag3.Ok := ag2_ok.doOp _
theorem ag_wf1 : ∀ v ∈ alO1.row, v.wf := fun v hv => by rw [List.mem_singleton.1 hv]; exact nV_wf (by decide) (by decide)
theorem ag_wf2 : ∀ v ∈ agO2.row, v.wf := fun v hv => by
    simp only [agO2, List.mem_cons, List.not_mem_nil, or_false] at hv
    rcases hv with rfl | rfl <;> exact nV_wf (by decide) (by decide)
theorem ag_wf3 : ∀ v ∈ agO3.row, v.wf := fun v hv => by
    simp only [agO3, List.mem_cons, List.not_mem_nil, or_false] at hv
    rcases hv with rfl | rfl <;> exact nV_wf (by decide) (by decide)
theorem ag3_wf : Rl.Wf ag3 := doOp_wf' (doOp_wf' (doOp_wf' (r := al0) (new_wf' (s := twoS)) ag_wf1) ag_wf2) ag_wf3
theorem ag_e2 : (al1.doOp agO2).2.2.2 = 0 := by decide +kernel
theorem ag_e3 : (ag2.doOp agO3).2.2.2 = 0 := by decide +kernel
def agq : List Rr := [⟨0, ⟨.slice none 0 0, rfl⟩, [nV 1]⟩, ⟨1, ⟨.slice none 0 0, rfl⟩, [nV 2, nV 1]⟩, ⟨1, ⟨.slice none 0 0, rfl⟩, [nV 3, nV 1]⟩]
theorem ag_perm : (agq.map (Rr.pl ag3.s)).isPerm ag3.rows = true := by decide +kernel
theorem ag_srt : ((agq.map (Rr.pl ag3.s)).map (·.1)).Pairwise fun x y => pltB x y = true := by decide +kernel
theorem ag_ref : RefQ ag3 agq := ⟨List.isPerm_iff.1 ag_perm, by have := ag_srt; rw [List.map_map, List.pairwise_map] at this; exact this⟩
def agR : List Pr2 := [(0, [nV 1]), (1, [nV 2, nV 1]), (1, [nV 3, nV 1])]
theorem ag_R : RowsQ ag3 agR := ag_ref.rowsQ ag3_ok
theorem ag_g0 : aget (0, nV 1) ag3.rows = some [nV 1] := by decide +kernel
theorem ag_g1 : aget (1, nV 3) ag3.rows = some [nV 3, nV 1] := by decide +kernel
theorem ag_g9 : aget (0, nV 9) ag3.rows = none := by decide +kernel
theorem ag_c9 : (ag3.getOp 0 (nV 9)).2 = 3 := by decide +kernel
theorem ag_len : ag3.s.length = 2 := by decide +kernel
def agD : Dc := .mk 0 [nV 1] [.mk 1 [nV 2, nV 1] [], .mk 1 [nV 3, nV 1] []]
theorem ag_kids0 : kidsR ag3.s agR (0, [nV 1]) = [(1, [nV 2, nV 1]), (1, [nV 3, nV 1])] := by decide +kernel
theorem ag_kids1 : kidsR ag3.s agR (1, [nV 2, nV 1]) = [] := by decide +kernel
theorem ag_kids2 : kidsR ag3.s agR (1, [nV 3, nV 1]) = [] := by decide +kernel
theorem ag_doc : docS ag3.s agR ag3.s.length 0 [nV 1] = agD := by
  rw [ag_len]
  have h1 := docS_succ (s := ag3.s) (R := agR) 0 (1, [nV 2, nV 1])
  have h2 := docS_succ (s := ag3.s) (R := agR) 0 (1, [nV 3, nV 1])
  have h0 := docS_succ (s := ag3.s) (R := agR) 1 (0, [nV 1])
  rw [ag_kids1] at h1
  rw [ag_kids2] at h2
  rw [ag_kids0] at h0
  simp only [List.map_cons, List.map_nil] at h0 h1 h2
  rw [h0, h1, h2]; rfl
theorem ag_size : sizeS agD = 3 := by decide +kernel
theorem ag_root : rootAns ag3 (1, [nV 3, nV 1]) = (0, nV 1, true) := by decide +kernel
theorem ag_same : (decide (0 < sizeS agD) && (decide (0 < sizeS agD) && sameD agD agD)) = true := by
  rw [ag_size, (sameD_iff _ _).2 rfl]; decide
theorem nV_eq (n : Int) : nilB BinOp.eql (eqL [TypeDesc.int .u8, TypeDesc.int .i64, TypeDesc.int .u64, TypeDesc.string] [Value.int .u8 2, Value.int .i64 n, Value.int .u64 0, Value.string ⟨#[]⟩] [Value.int .u8 2, Value.int .i64 n, Value.int .u64 0, Value.string ⟨#[]⟩]) = true := by
  have := eqL_valV (nV n) (nV n)
  simp only [nilB]
  rw [show eqL [TypeDesc.int .u8, TypeDesc.int .i64, TypeDesc.int .u64, TypeDesc.string] [Value.int .u8 2, Value.int .i64 n, Value.int .u64 0, Value.string ⟨#[]⟩] [Value.int .u8 2, Value.int .i64 n, Value.int .u64 0, Value.string ⟨#[]⟩] = _ from this]
  simp
set_option maxHeartbeats 8000000 in
theorem alive24_spec (A : HProp) (hA : UT A) : FSpec Tryz.prog 8 [] [A] Unit (fun _ => True) (fun _ => .bool true) (fun _ => [A]) := by
  have f0 : (!decide ((0 : Int) = (0 : Int))) = false := by decide
  refine spec_intro [] _ Tryz.func8 rfl Tryz.ntmps8 (by rfl) (fun w0 R => ?_)
  repeat' (first | (refine go_Y ?_; intros) | (refine gs_Y ?_ ?_ <;> (intro hgd; try (simp only [Bool.not_true, Bool.not_false] at hgd))) | (refine gc_Y ?_ ?_ <;> intro _) | fail)
  refine cl_Y (two_spec) ?_
  rintro ⟨⟨v, hv⟩, tk, P0⟩ ⟨hsv0, hmc⟩
  dsimp only at hsv0 hmc ⊢
  refine opsL_map (fun _ h => pool_in (A := P0) (P := A) (Take.out2 takeD h)) ?_
  have hsv : SV (pool P0 A) v tk := hsv0.ext (Ext.poolL _ _)
  have hU : UT (pool P0 A) := hA.ext (Ext.pool _ _)
  have hEA : Ext A (pool P0 A) := Ext.pool _ _
  generalize pool P0 A = P at hsv hU hEA
  have hnew := new_spec v tk P hsv (by rw [hmc]; exact two_ok)
  rw [hmc] at hnew
  repeat' (first | (refine go_Y ?_; intros) | (refine gs_Y ?_ ?_ <;> (intro hgd; try (simp only [Bool.not_true, Bool.not_false] at hgd))) | (refine gc_Y ?_ ?_ <;> intro _) | fail)
  refine cl_Y (hnew) ?_
  rintro ⟨b, P1⟩ hE1
  dsimp only at hE1 ⊢
  have hU1 := hU.ext hE1
  have hEA1 := hEA.trans hE1
  repeat' (first | (refine go_Y ?_; intros) | (refine gs_Y ?_ ?_ <;> (intro hgd; try (simp only [Bool.not_true, Bool.not_false] at hgd))) | (refine gc_Y ?_ ?_ <;> intro _) | fail)
  refine cl_Y (num24_spec 1) ?_
  intro _ _
  repeat' (first | (refine go_Y ?_; intros) | (refine gs_Y ?_ ?_ <;> (intro hgd; try (simp only [Bool.not_true, Bool.not_false] at hgd))) | (refine gc_Y ?_ ?_ <;> intro _) | fail)
  rename_i w1 hw1
  refine ops_learn (rowShape (e := 28) (n := 4) (v := w1) (xs := [nV 1].map valV) (by decide) takeD) ?_
  rintro (⟨rfl, hn⟩ | ⟨g1, c1, rfl, _⟩)
  · cases hn
  refine opsL_map (fun _ h => pool_in (A := row 28 4 (.slice (some ⟨g1, 0, none⟩) 1 c1) ([nV 1].map valV)) (P := P1) (Take.out2 takeD h)) ?_
  have hx1 := Ext.pool (row 28 4 (.slice (some ⟨g1, 0, none⟩) 1 c1) ([nV 1].map valV)) P1
  have hwv1 : Vw (pool (row 28 4 (.slice (some ⟨g1, 0, none⟩) 1 c1) ([nV 1].map valV)) P1) 4 (.slice (some ⟨g1, 0, none⟩) 1 c1) (alO1.row.map valV) := pool_row
  refine opsL_map (fun _ h => relP_ext (b := b) (r := al0) hx1 (Take.out1 takeD h)) ?_
  have hUq1 := hU1.ext hx1
  have hEq1 := hEA1.trans hx1
  generalize pool (row 28 4 (.slice (some ⟨g1, 0, none⟩) 1 c1) ([nV 1].map valV)) P1 = Q1 at hx1 hwv1 hUq1 hEq1
  have hdo1 := relDo_spec b al0 alO1 (.slice (some ⟨g1, 0, none⟩) 1 c1) Q1 al0_ok hUq1 hwv1 rfl ag_wf1 (by decide)
  rw [al_e1] at hdo1
  repeat' (first | (refine go_Y ?_; intros) | (refine gs_Y ?_ ?_ <;> (intro hgd; try (simp only [Bool.not_true, Bool.not_false] at hgd))) | (refine gc_Y ?_ ?_ <;> intro _) | fail)
  refine cl_Y (hdo1) ?_
  rintro ⟨⟨b1, hb1⟩, ⟨a1, ha1⟩, P2⟩ ⟨hE2, hbv1⟩
  dsimp only at hE2 hbv1 ⊢
  have hU2 := hUq1.ext hE2
  have hEA2 := hEq1.trans hE2
  refine opsL_map (L' := [relP P2 b al1, P2] ++ R) entD ?_
  repeat' (first | (refine go_Y ?_; intros) | (refine gs_Y ?_ ?_ <;> (intro hgd; try (simp only [Bool.not_true, Bool.not_false] at hgd))) | (refine gc_Y ?_ ?_ <;> intro _) | fail)
  refine cl_Y (num24_spec 3) ?_
  intro _ _
  repeat' (first | (refine go_Y ?_; intros) | (refine gs_Y ?_ ?_ <;> (intro hgd; try (simp only [Bool.not_true, Bool.not_false] at hgd))) | (refine gc_Y ?_ ?_ <;> intro _) | fail)
  refine cl_Y (num24_spec 1) ?_
  intro _ _
  repeat' (first | (refine go_Y ?_; intros) | (refine gs_Y ?_ ?_ <;> (intro hgd; try (simp only [Bool.not_true, Bool.not_false] at hgd))) | (refine gc_Y ?_ ?_ <;> intro _) | fail)
  rename_i w2 hw2
  refine ops_learn (rowShape (e := 28) (n := 4) (v := w2) (xs := [nV 3, nV 1].map valV) (by decide) takeD) ?_
  rintro (⟨rfl, hn⟩ | ⟨g2, c2, rfl, _⟩)
  · cases hn
  refine opsL_map (fun _ h => pool_in (A := row 28 4 (.slice (some ⟨g2, 0, none⟩) 2 c2) ([nV 3, nV 1].map valV)) (P := P2) (Take.out2 takeD h)) ?_
  have hx2 := Ext.pool (row 28 4 (.slice (some ⟨g2, 0, none⟩) 2 c2) ([nV 3, nV 1].map valV)) P2
  have hwv2 : Vw (pool (row 28 4 (.slice (some ⟨g2, 0, none⟩) 2 c2) ([nV 3, nV 1].map valV)) P2) 4 (.slice (some ⟨g2, 0, none⟩) 2 c2) (agO2.row.map valV) := pool_row
  refine opsL_map (fun _ h => relP_ext (b := b) (r := al1) hx2 (Take.out1 takeD h)) ?_
  have hUq2 := hU2.ext hx2
  have hEq2 := hEA2.trans hx2
  generalize pool (row 28 4 (.slice (some ⟨g2, 0, none⟩) 2 c2) ([nV 3, nV 1].map valV)) P2 = Q2 at hx2 hwv2 hUq2 hEq2
  have hdo2 := relDo_spec b al1 agO2 (.slice (some ⟨g2, 0, none⟩) 2 c2) Q2 al1_ok hUq2 hwv2 rfl ag_wf2 (by decide)
  rw [ag_e2] at hdo2
  repeat' (first | (refine go_Y ?_; intros) | (refine gs_Y ?_ ?_ <;> (intro hgd; try (simp only [Bool.not_true, Bool.not_false] at hgd))) | (refine gc_Y ?_ ?_ <;> intro _) | fail)
  refine cl_Y (hdo2) ?_
  rintro ⟨⟨b2, hb2⟩, ⟨a2, ha2⟩, P3⟩ ⟨hE3, hbv2⟩
  dsimp only at hE3 hbv2 ⊢
  have hU3 := hUq2.ext hE3
  have hEA3 := hEq2.trans hE3
  refine opsL_map (L' := [relP P3 b ag2, P3] ++ R) entD ?_
  repeat' (first | (refine go_Y ?_; intros) | (refine gs_Y ?_ ?_ <;> (intro hgd; try (simp only [Bool.not_true, Bool.not_false] at hgd))) | (refine gc_Y ?_ ?_ <;> intro _) | fail)
  refine cl_Y (num24_spec 2) ?_
  intro _ _
  repeat' (first | (refine go_Y ?_; intros) | (refine gs_Y ?_ ?_ <;> (intro hgd; try (simp only [Bool.not_true, Bool.not_false] at hgd))) | (refine gc_Y ?_ ?_ <;> intro _) | fail)
  refine cl_Y (num24_spec 1) ?_
  intro _ _
  repeat' (first | (refine go_Y ?_; intros) | (refine gs_Y ?_ ?_ <;> (intro hgd; try (simp only [Bool.not_true, Bool.not_false] at hgd))) | (refine gc_Y ?_ ?_ <;> intro _) | fail)
  rename_i w3 hw3
  refine ops_learn (rowShape (e := 28) (n := 4) (v := w3) (xs := [nV 2, nV 1].map valV) (by decide) takeD) ?_
  rintro (⟨rfl, hn⟩ | ⟨g3, c3, rfl, _⟩)
  · cases hn
  refine opsL_map (fun _ h => pool_in (A := row 28 4 (.slice (some ⟨g3, 0, none⟩) 2 c3) ([nV 2, nV 1].map valV)) (P := P3) (Take.out2 takeD h)) ?_
  have hx3 := Ext.pool (row 28 4 (.slice (some ⟨g3, 0, none⟩) 2 c3) ([nV 2, nV 1].map valV)) P3
  have hwv3 : Vw (pool (row 28 4 (.slice (some ⟨g3, 0, none⟩) 2 c3) ([nV 2, nV 1].map valV)) P3) 4 (.slice (some ⟨g3, 0, none⟩) 2 c3) (agO3.row.map valV) := pool_row
  refine opsL_map (fun _ h => relP_ext (b := b) (r := ag2) hx3 (Take.out1 takeD h)) ?_
  have hUq3 := hU3.ext hx3
  have hEq3 := hEA3.trans hx3
  generalize pool (row 28 4 (.slice (some ⟨g3, 0, none⟩) 2 c3) ([nV 2, nV 1].map valV)) P3 = Q3 at hx3 hwv3 hUq3 hEq3
  have hdo3 := relDo_spec b ag2 agO3 (.slice (some ⟨g3, 0, none⟩) 2 c3) Q3 ag2_ok hUq3 hwv3 rfl ag_wf3 (by decide)
  rw [ag_e3] at hdo3
  repeat' (first | (refine go_Y ?_; intros) | (refine gs_Y ?_ ?_ <;> (intro hgd; try (simp only [Bool.not_true, Bool.not_false] at hgd))) | (refine gc_Y ?_ ?_ <;> intro _) | fail)
  refine cl_Y (hdo3) ?_
  rintro ⟨⟨b3, hb3⟩, ⟨a3, ha3⟩, P4⟩ ⟨hE4, hbv3⟩
  dsimp only at hE4 hbv3 ⊢
  have hU4 := hUq3.ext hE4
  have hEA4 := hEq3.trans hE4
  refine opsL_map (L' := [relP P4 b ag3, P4] ++ R) entD ?_
  repeat' (first | (refine go_Y ?_; intros) | (refine gs_Y ?_ ?_ <;> (intro hgd; try (simp only [Bool.not_true, Bool.not_false] at hgd))) | (refine gc_Y ?_ ?_ <;> intro _) | fail)
  refine cl_Y (num24_spec 1) ?_
  intro _ _
  repeat' (first | (refine go_Y ?_; intros) | (refine gs_Y ?_ ?_ <;> (intro hgd; try (simp only [Bool.not_true, Bool.not_false] at hgd))) | (refine gc_Y ?_ ?_ <;> intro _) | fail)
  have hof := aOf_some ag_R ag3_ok ag3_wf b 0 (nV 1) [nV 1] P4 hU4 (nV_wf (by decide) (by decide)) ag_g0
  rw [ag_doc] at hof
  refine cl_Y (hof) ?_
  rintro ⟨d, P5⟩ ⟨hE5, hdR, hdc⟩
  dsimp only at hE5 hdR hdc ⊢
  have hU5 := hU4.ext hE5
  have hEA5 := hEA4.trans hE5
  obtain ⟨dt, ⟨lv, hlv⟩, drow, ⟨kv, hkv⟩, kids⟩ := d
  have hone : oneCells [Value.int .i64 dt, lv, kv] = true := by
    simp only [oneCells, List.all_cons, List.all_nil, hlv, hkv, Bool.and_true]; rfl
  dsimp only [docV] at hdR ⊢
  repeat' (first | (refine go_Y ?_; intros) | (refine gs_Y ?_ ?_ <;> (intro hgd; try (simp only [Bool.not_true, Bool.not_false] at hgd))) | (refine gc_Y ?_ ?_ <;> intro _) | fail)
  rename_i b3
  refine cl_Y (num24_spec 3) ?_
  intro _ _
  repeat' (first | (refine go_Y ?_; intros) | (refine gs_Y ?_ ?_ <;> (intro hgd; try (simp only [Bool.not_true, Bool.not_false] at hgd))) | (refine gc_Y ?_ ?_ <;> intro _) | fail)
  have hrt := aRoot_some ag_R ag3_ok ag3_wf b 1 (nV 3) [nV 3, nV 1] P5 hU5 (nV_wf (by decide) (by decide)) ag_g1
  rw [ag_root] at hrt
  dsimp only at hrt
  refine cl_Y (hrt) ?_
  intro P6 hE6
  have hU6 := hU5.ext hE6
  have hEA6 := hEA5.trans hE6
  dsimp only [nV, valV]
  repeat' (first | (refine go_Y ?_; intros) | (refine gs_Y ?_ ?_ <;> (intro hgd; try (simp only [Bool.not_true, Bool.not_false] at hgd))) | (refine gc_Y ?_ ?_ <;> intro _) | fail)
  refine cl_Y (aAll_nil) ?_
  intro _ _
  repeat' (first | (refine go_Y ?_; intros) | (refine gs_Y ?_ ?_ <;> (intro hgd; try (simp only [Bool.not_true, Bool.not_false] at hgd))) | (refine gc_Y ?_ ?_ <;> intro _) | fail)
  refine cl_Y (num24_spec 9) ?_
  intro _ _
  repeat' (first | (refine go_Y ?_; intros) | (refine gs_Y ?_ ?_ <;> (intro hgd; try (simp only [Bool.not_true, Bool.not_false] at hgd))) | (refine gc_Y ?_ ?_ <;> intro _) | fail)
  have hof9 := aOf_none ag3_ok b 0 (nV 9) P6 hU6 (nV_wf (by decide) (by decide)) ag_g9
  rw [ag_c9] at hof9
  refine cl_Y (hof9) ?_
  intro _ _
  dsimp only [docE]
  repeat' (first | (refine go_Y ?_; intros) | (refine gs_Y ?_ ?_ <;> (intro hgd; try (simp only [Bool.not_true, Bool.not_false] at hgd))) | (refine gc_Y ?_ ?_ <;> intro _) | fail)
  have hdR6 := hdR.ext hE6
  have hsz := aSize_spec hdR6
  have hsm := aSame_spec hdR6 hdR6
  rw [hdc, ag_size] at hsz
  rw [hdc, ag_same] at hsm
  dsimp only [docV] at hsz hsm
  cases hdR6 with
  | mk h1 h2 h3 h4 h5 h6 =>
  simp only [Dm.c, agD, Dc.mk.injEq, cK_map] at hdc
  obtain ⟨rfl, rfl, hkc⟩ := hdc
  obtain ⟨k1, k2, rfl⟩ : ∃ k1 k2, kids = [k1, k2] := by
    match kids, hkc with
    | [k1, k2], _ => exact ⟨k1, k2, rfl⟩
    | [], h => simp at h
    | [_], h => simp at h
    | _ :: _ :: _ :: _, h => simp at h
  simp only [List.map_cons, List.map_nil, List.cons.injEq, and_true] at hkc
  have hk1 := h3 k1 (by simp)
  obtain ⟨t1, ⟨lv1, hlv1⟩, row1, ⟨kv1, hkv1⟩, kids1⟩ := k1
  obtain ⟨t2, ⟨lv2, hlv2⟩, row2, ⟨kv2, hkv2⟩, kids2⟩ := k2
  simp only [Dm.c, Dc.mk.injEq] at hkc
  obtain ⟨⟨rfl, rfl, _⟩, ⟨rfl, rfl, _⟩⟩ := hkc
  cases hk1 with
  | mk g1 g2 g3 g4 g5 g6 =>
  dsimp only at h1 h2 g1
  have hx0 : (([.mk 1 ⟨lv1, hlv1⟩ [nV 2, nV 1] ⟨kv1, hkv1⟩ kids1, .mk 1 ⟨lv2, hlv2⟩ [nV 3, nV 1] ⟨kv2, hkv2⟩ kids2] : List Dm).map docV)[0]? = some [.int .i64 1, lv1, kv1] := rfl
  have hx1 : (([nV 2, nV 1] : List Vl).map valV)[0]? = some [.int .u8 2, .int .i64 2, .int .u64 0, .string ⟨#[]⟩] := rfl
  have hl0 : 0 < (([.mk 1 ⟨lv1, hlv1⟩ [nV 2, nV 1] ⟨kv1, hkv1⟩ kids1, .mk 1 ⟨lv2, hlv2⟩ [nV 3, nV 1] ⟨kv2, hkv2⟩ kids2] : List Dm).map docV).length := by show (0 : Nat) < 2; decide
  have hl2 : decide (((([.mk 1 ⟨lv1, hlv1⟩ [nV 2, nV 1] ⟨kv1, hkv1⟩ kids1, .mk 1 ⟨lv2, hlv2⟩ [nV 3, nV 1] ⟨kv2, hkv2⟩ kids2] : List Dm).map docV).length : Int) = 2) = true := by show decide (((2 : Nat) : Int) = 2) = true; decide
  have hl3 : decide (((([nV 2, nV 1] : List Vl).map valV).length : Int) = 2) = true := by show decide (((2 : Nat) : Int) = 2) = true; decide
  have hl1 : 0 < (([nV 2, nV 1] : List Vl).map valV).length := by show (0 : Nat) < 2; decide
  refine ok_learn (VwIn.slice (VwIn.there (VwIn.there (VwIn.here h2)))) ?_
  rintro ⟨pk, ck, rfl⟩
  refine ok_learn (VwIn.base (n := 3) (VwIn.there (VwIn.there (VwIn.here h2))) (by simp)) ?_
  rintro ⟨bk, ok', rfl⟩
  refine ok_learn (VwIn.slice (VwIn.there (VwIn.there (VwIn.here g1)))) ?_
  rintro ⟨pl, cl, rfl⟩
  refine ok_learn (VwIn.base (n := 4) (VwIn.there (VwIn.there (VwIn.here g1))) (by simp)) ?_
  rintro ⟨bl, ol, rfl⟩
  have q1 := nV_eq 1
  have q2 := nV_eq 2
  (apply ok_draw [25, 39]; (focus (kernel_rfl)); (focus ((conv => lhs; whnf); first | done | rfl)); (focus (decide +kernel)); (focus (exact (fun _ h => h))))
  repeat' (first | (refine go_Y ?_; intros) | (refine gs_Y ?_ ?_ <;> (intro hgd; try (simp only [Bool.not_true, Bool.not_false] at hgd))) | (refine gc_Y ?_ ?_ <;> intro _) | fail)
  refine clN_Y (num24_spec 2) ?_
  intro _ _
  dsimp only [valV]
  repeat' (first | (refine go_Y ?_; intros) | (refine gs_Y ?_ ?_ <;> (intro hgd; try (simp only [Bool.not_true, Bool.not_false] at hgd))) | (refine gc_Y ?_ ?_ <;> intro _) | fail)
  refine cl_Y (hsz) ?_
  intro _ _
  repeat' (first | (refine go_Y ?_; intros) | (refine gs_Y ?_ ?_ <;> (intro hgd; try (simp only [Bool.not_true, Bool.not_false] at hgd))) | (refine gc_Y ?_ ?_ <;> intro _) | fail)
  refine clN_Y (num24_spec 1) ?_
  intro _ _
  dsimp only [valV]
  repeat' (first | (refine go_Y ?_; intros) | (refine gs_Y ?_ ?_ <;> (intro hgd; try (simp only [Bool.not_true, Bool.not_false] at hgd))) | (refine gc_Y ?_ ?_ <;> intro _) | fail)
  refine cl_Y (hsm) ?_
  intro _ _
  repeat' (first | (refine go_Y ?_; intros) | (refine gs_Y ?_ ?_ <;> (intro hgd; try (simp only [Bool.not_true, Bool.not_false] at hgd))) | (refine gc_Y ?_ ?_ <;> intro _) | fail)
  refine cont_map (fun _ h => ext_in hEA6 (Take.out1 takeD h)) ?_
  (refine rt_Y (y := ()) (hrs := Tryz.results8) (hv := ?_) (hφ := ?_))
  · rfl
  · trivial
end Go.Proofs.YtphaegcoldpclaaGreatDoor
/- A state, and the document's, behind ops (fasciclelaw24.both). -/
-- @DEFS Y
set_option linter.unusedSimpArgs false
set_option linter.unusedVariables false
set_option maxRecDepth 100000
namespace Go.Proofs.YtphaegcoldpclaaGreatDoor
open Go Go.Fx Go.Proofs Go.Pl

structure BtY where
  b : Nat
  bx : Nat
  r : Rl
  P : HProp
theorem both24_bad (vs vo : Value) (ts : List Tb) (ops : List Om) (A : HProp) (hsv : SV A vs ts) (ho : OsR A vo ops) (hc : checkS (ts.map Tb.c) = false) :
    FSpec Tryz.prog 9 [.agg #[vs], vo] [A] Unit (fun _ => True) (fun _ => .tuple #[.pointer none, .pointer none, .bool false]) (fun _ => [A]) := by
  have hnb := new_bad vs ts A hsv hc
  have hvs := hsv.vw
  have f1 : (!decide ((2 : Int) = (0 : Int))) = true := by decide
  refine spec_intro [] _ Tryz.func9 rfl Tryz.ntmps9 (by rfl) (fun w0 R => ?_)
  refine ok_learn (VwIn.slice (VwIn.here hvs)) ?_
  rintro ⟨ps, cs, rfl⟩
  repeat' (first | (refine go_Y ?_; intros) | (refine gs_Y ?_ ?_ <;> (intro hgd; try (simp only [Bool.not_true, Bool.not_false] at hgd))) | (refine gc_Y ?_ ?_ <;> intro _) | fail)
  refine cl_Y (hnb) ?_
  intro _ _
  repeat' (first | (refine go_Y ?_; intros) | (refine gs_Y ?_ ?_ <;> (intro hgd; try (simp only [Bool.not_true, Bool.not_false] at hgd))) | (refine gc_Y ?_ ?_ <;> intro _) | fail)
  (refine rt_Y (y := ()) (hrs := Tryz.results9) (hv := ?_) (hφ := ?_))
  · rfl
  · trivial
set_option maxHeartbeats 8000000 in
theorem both24_ok (vs vo : Value) (ts : List Tb) (ops : List Om) (A : HProp) (hU : UT A) (hsv : SV A vs ts) (ho : OsR A vo ops) (hwops : ∀ q ∈ ops, ∀ v ∈ q.row, v.wf) (hsm : smallS ts ∧ smallO ops) (hc : checkS (ts.map Tb.c) = true) :
    FSpec Tryz.prog 9 [.agg #[vs], vo] [A] BtY (fun y => y.r.Ok ∧ Rl.Wf y.r ∧ y.r.s = ts.map Tb.c ∧ Ext A y.P) (fun y => .tuple #[.pointer (some ⟨y.b, 0, none⟩), .pointer (some ⟨y.bx, 0, none⟩), .bool true])
      (fun y => [relP y.P y.b y.r, rfP y.P y.bx y.r, y.P]) := by
  have hzo := ho.len
  have hvops := ho.vw
  have hopops := fun q (hq : q ∈ ops) => (ho.op q hq).vw
  have lmo : (ops.map opV).length = ops.length := by simp
  have hlops := fun q (hq : q ∈ ops) => hsm.2.2 q hq
  have hnew := new_spec vs ts A hsv hc
  have hvs := hsv.vw
  have f1 : (!decide ((0 : Int) = (0 : Int))) = false := by decide
  refine spec_intro [] _ Tryz.func9 rfl Tryz.ntmps9 (by rfl) (fun w0 R => ?_)
  refine ok_learn (VwIn.slice (VwIn.here hvops)) ?_
  rintro ⟨pv, cv, rfl⟩
  refine ok_learn (VwIn.slice (VwIn.here hvs)) ?_
  rintro ⟨ps, cs, rfl⟩
  repeat' (first | (refine go_Y ?_; intros) | (refine gs_Y ?_ ?_ <;> (intro hgd; try (simp only [Bool.not_true, Bool.not_false] at hgd))) | (refine gc_Y ?_ ?_ <;> intro _) | fail)
  rename_i b2
  refine cl_Y (hnew) ?_
  rintro ⟨b, P1⟩ hE1
  dsimp only at hE1 ⊢
  repeat' (first | (refine go_Y ?_; intros) | (refine gs_Y ?_ ?_ <;> (intro hgd; try (simp only [Bool.not_true, Bool.not_false] at hgd))) | (refine gc_Y ?_ ?_ <;> intro _) | fail)
  have hn14 := new14_spec (.slice ps (ts.map tbV).length cs) ts P1 (hsv.ext hE1) (by have := hsm.1.1; omega) (fun t ht => by have := hsm.1.2 t ht; omega)
  refine cl_Y (hn14) ?_
  rintro ⟨bx, P2⟩ hE2
  dsimp only at hE2 ⊢
  repeat' (first | (refine go_Y ?_; intros) | (refine gs_Y ?_ ?_ <;> (intro hgd; try (simp only [Bool.not_true, Bool.not_false] at hgd))) | (refine gc_Y ?_ ?_ <;> intro _) | fail)
  refine ok_map (fun _ h => relP_ext hE2 (b := b) (r := ⟨ts.map Tb.c, [], 0⟩) (Take.out1 (A := relP P1 b ⟨ts.map Tb.c, [], 0⟩) takeD h)) ?_
  have hA2 := hE1.trans hE2
  refine ok_map (L' := [P2, relP P2 b ⟨ts.map Tb.c, [], 0⟩, rfP P2 bx ⟨ts.map Tb.c, [], 0⟩] ++ R) entD ?_
  refine ok_loop' (γ := Nat × GP ts A) (fun g ρ L => g.1 ≤ ops.length ∧ Knows ρ [(1, .slice pv (ops.map opV).length cv), (7, .pointer (some ⟨b, 0, none⟩)), (9, .pointer (some ⟨bx, 0, none⟩)), (10, .int .i64 g.1)] ∧
      L = [g.2.1.2, relP g.2.1.2 b g.2.1.1, rfP g.2.1.2 bx g.2.1.1] ++ R) (fun g => ops.length - g.1)
    (0, ⟨(⟨ts.map Tb.c, [], 0⟩, P2), Rl.Ok.new hc, new_wf', rfl, hA2⟩) ⟨by simp, ⟨rfl, rfl, rfl, rfl, trivial⟩, rfl⟩ ?_
  rintro ⟨i, ⟨r, P⟩, hokr, hwfr, hsr, hE⟩ ρ L ⟨hi, hk, rfl⟩
  dsimp only at hokr hwfr hsr hE hi hk ⊢
  refine ok_regs hk ?_
  have hUP := hU.ext hE
  cases t1 : decide ((i : Int) < ((ops.map opV).length : Int)) with
  | true =>
    have h0 : i < ops.length := by have := of_decide_eq_true t1; omega
    have hti : ops[i]? = some ops[i] := List.getElem?_eq_getElem h0
    have hx : (ops.map opV)[i]? = some (opV ops[i]) := by rw [List.getElem?_map, hti]; rfl
    have hnn : i < (ops.map opV).length := by omega
    have hmm := List.getElem_mem h0
    have hvw := hE.vw (hopops _ hmm)
    have hwfo := hwops _ hmm
    have hln := hlops _ hmm
    have hvP := hE.vw hvops
    refine ok_learn (VwIn.base (n := 3) (xs := ops.map opV) (VwIn.here hvP) (by intro e; rw [e] at hnn; simp at hnn)) ?_
    rintro ⟨bu, ou, rfl⟩
    generalize ops[i] = q at hx hvw hwfo hln
    obtain ⟨qk, qt, ⟨qv, hqv⟩, qrow⟩ := q
    dsimp only [opV] at hx hvw hwfo hln
    have hdo := relDo_spec b r ⟨qk, qt, qrow⟩ qv P hokr hUP hvw hqv hwfo (by show qrow.length ≤ _; omega)
    have hokn := hokr.doOp ⟨qk, qt, qrow⟩
    have hsn' : (r.doOp ⟨qk, qt, qrow⟩).1.s = ts.map Tb.c := (doOp_s' r _).trans hsr
    have hwn := doOp_wf' hwfr (o := ⟨qk, qt, qrow⟩) hwfo
    repeat' (first | (refine go_Y ?_; intros) | (refine gs_Y ?_ ?_ <;> (intro hgd; try (simp only [Bool.not_true, Bool.not_false] at hgd))) | (refine gc_Y ?_ ?_ <;> intro _) | fail)
    refine cl_Y (hdo) ?_
    rintro ⟨⟨b4, hb4⟩, ⟨a4, ha4⟩, P1'⟩ ⟨hE1', _⟩
    dsimp only at hE1' ⊢
    have hvP1 := hE1'.vw hvP
    have hd2 := do14_spec bx r ⟨qk, qt, qrow⟩ qv P1' hokr hwfr (hUP.ext hE1') (hE1'.vw hvw) hqv hwfo
    refine opsL_mapL (fun _ h => rfP_ext hE1' (b := bx) (r := r) (Take.out1 (A := rfP P bx r) takeD h)) ?_
    repeat' (first | (refine go_Y ?_; intros) | (refine gs_Y ?_ ?_ <;> (intro hgd; try (simp only [Bool.not_true, Bool.not_false] at hgd))) | (refine gc_Y ?_ ?_ <;> intro _) | fail)
    refine cl_Y (hd2) ?_
    rintro ⟨⟨b5, hb5⟩, ⟨a5, ha5⟩, P2'⟩ ⟨hE2', _⟩
    dsimp only at hE2' ⊢
    repeat' (first | (refine go_Y ?_; intros) | (refine gs_Y ?_ ?_ <;> (intro hgd; try (simp only [Bool.not_true, Bool.not_false] at hgd))) | (refine gc_Y ?_ ?_ <;> intro _) | fail)
    refine cont_map (fun _ h => relP_ext hE2' (b := b) (r := (r.doOp ⟨qk, qt, qrow⟩).1) (Take.out1 (A := relP P1' b (r.doOp ⟨qk, qt, qrow⟩).1) takeD h)) ?_
    refine cont_map (L' := [P2', relP P2' b (r.doOp ⟨qk, qt, qrow⟩).1, rfP P2' bx (r.doOp ⟨qk, qt, qrow⟩).1] ++ R) entD ?_
    refine cont_back (i + 1, ⟨((r.doOp ⟨qk, qt, qrow⟩).1, P2'), hokn, hwn, hsn', hE.trans (hE1'.trans hE2')⟩) ⟨h0, ⟨rfl, rfl, rfl, rfl, trivial⟩, rfl⟩ (by show ops.length - (i + 1) < ops.length - i; omega)
  | false =>
    repeat' (first | (refine go_Y ?_; intros) | (refine gs_Y ?_ ?_ <;> (intro hgd; try (simp only [Bool.not_true, Bool.not_false] at hgd))) | (refine gc_Y ?_ ?_ <;> intro _) | fail)
    (refine rt_Y (y := ⟨b, bx, r, P⟩) (hrs := Tryz.results9) (hv := ?_) (hφ := ?_))
    · rfl
    · exact ⟨hokr, hwfr, hsr, hE⟩
/-- The reference's rows are those of the state: a row of rows in order is there. -/
theorem rfP_Q {X : Cx} {ops : Array Oper} {nb : NB} {N : Act → World → Prop} {i : Nat} {os : List Oper} {Ls : List HProp} {ds : List Deferred} {ρ : Regs} {L L' : List HProp} {P : HProp} {b : Nat} {r : Rl} (t : Take L [rfP P b r] L') (h : Rl.Q r → OpsL X ops nb N i os Ls ds ρ L) : OpsL X ops nb N i os Ls ds ρ L := by
  refine ops_learn (φ := Rl.Q r) (fun _ s => ?_) h
  obtain ⟨_, _, _, _, _, ⟨y, _⟩, _⟩ := t.out s
  exact ⟨y.1.q, y.2.rq⟩
end Go.Proofs.YtphaegcoldpclaaGreatDoor
/- Documents of the reference's state (fascicleref24): All, Root, Count. -/
-- @DEFS Y
set_option linter.unusedSimpArgs false
set_option linter.unusedVariables false
set_option maxRecDepth 100000
namespace Go.Proofs.YtphaegcoldpclaaGreatDoor
open Go Go.Fx Go.Proofs Go.Pl

def ddR (r : Rl) (q : List Rr) (x : Rr) : Dc := docS r.s (q.map Rr.tl) r.s.length x.t x.l
end Go.Proofs.YtphaegcoldpclaaGreatDoor
