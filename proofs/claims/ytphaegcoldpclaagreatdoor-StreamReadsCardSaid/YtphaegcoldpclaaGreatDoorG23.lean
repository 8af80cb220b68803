/- Texts merged: SrF SrG. -/
import Derived.Test.YtphaegcoldpclaaGreatDoorG17
import Derived.Test.YtphaegcoldpclaaGreatDoorG20
import Derived.Test.YtphaegcoldpclaaGreatDoorG22
import Derived.Test.YtphaegcoldpclaaGreatDoorTxB
import Derived.Test.YtphaegcoldpclaaGreatDoorG8
import Derived.Test.YtphaegcoldpclaaGreatDoorSrE
import Derived.Test.YtphaegcoldpclaaGreatDoorStG
import Derived.Test.YtphaegcoldpclaaGreatDoorQcO
import Derived.Test.YtphaegcoldpclaaGreatDoorQdC
set_option linter.unusedSimpArgs false
set_option linter.unusedVariables false
set_option maxRecDepth 100000
namespace Go.Proofs.YtphaegcoldpclaaGreatDoor
open Go Go.Fx Go.Proofs Go.Pl

def readC (p : Pr2) : Chg := ⟨4, p.1, [], p.2⟩
def readUp (R0 : List Pr2) (n : Nat) : List Chg := (List.range n).flatMap fun k : Nat => (ofR R0 (k : Int) fun _ => true).map fun l => readC ((k : Int), l)
theorem readUp_step (R0 : List Pr2) (n : Nat) : readUp R0 (n + 1) = readUp R0 n ++ (ofR R0 (n : Int) fun _ => true).map fun l => readC ((n : Int), l) := by
  unfold readUp
  rw [List.range_succ, List.flatMap_append]
  simp
theorem readUp_all {r : Rl} {R0 : List Pr2} (h : RowsQ r R0) : readUp R0 r.s.length = R0.map readC := by
  conv => rhs; rw [h.tabs]
  rw [List.map_flatMap]
  unfold readUp
  refine fm_congr fun k _ => ?_
  unfold ofR
  rw [List.map_map]
  have e : (R0.filter fun x => decide (x.1 = (k : Int)) && true) = R0.filter fun x => decide (x.1 = (k : Int)) := List.filter_congr fun x _ => by simp
  rw [e]
  refine List.map_congr_left fun x hx => ?_
  have := (List.mem_filter.1 hx).2
  show readC ((k : Int), x.2) = readC x
  rw [← of_decide_eq_true this]
abbrev GC (P : HProp) := { x : V1s × List Cm × HProp // Ext P x.2.2 ∧ ∀ c ∈ x.2.1, CmR x.2.2 c }
theorem read_nil : FSpec Tryz.prog 33 [.pointer none] [] Unit (fun _ => True) (fun _ => .tuple #[.slice none 0 0, .int .i64 1]) (fun _ => []) := by
  refine spec_intro [] _ Tryz.func33 rfl Tryz.ntmps33 (by rfl) (fun w0 R => ?_)
  repeat' (first | (refine go_Y ?_; intros) | (refine gs_Y ?_ ?_ <;> (intro hgd; try (simp only [bn] at hgd))) | (refine gc_Y ?_ ?_ <;> intro _) | fail)
  (refine rt_Y (y := ()) (hrs := Tryz.results33) (hv := ?_) (hφ := ?_))
  · rfl
  · trivial
set_option maxHeartbeats 8000000 in
theorem read_spec {r : Rl} {R0 : List Pr2} (hR : RowsQ r R0) (hok : r.Ok) (hwf : Rl.Wf r) (b : Nat) (P : HProp) :
    FSpec Tryz.prog 33 [.pointer (some ⟨b, 0, none⟩)] [relP P b r, P] (V1s × List Cm × HProp) (fun y => Ext P y.2.2 ∧ (∀ x ∈ y.2.1, CmR y.2.2 x) ∧ y.2.1.map Cm.c = R0.map readC)
      (fun y => .tuple #[y.1.1, .int .i64 0]) (fun y => [row 129 4 y.1.1 (y.2.1.map cmV), relP y.2.2 b r, y.2.2]) := by
  have hrows := fun (t : Int) (Q : HProp) => relRows_spec b r t Q hok hwf
  have hslen : r.s.length ≤ 12 := by obtain ⟨_, _, _, _, h12⟩ := checkS_ok hok.sch; exact h12
  rw [← readUp_all hR]
  refine spec_intro [] _ Tryz.func33 rfl Tryz.ntmps33 (by rfl) (fun w0 R => ?_)
  repeat' (first | (refine go_Y ?_; intros) | (refine gs_Y ?_ ?_ <;> (intro hgd; try (simp only [bn] at hgd))) | (refine gc_Y ?_ ?_ <;> intro _) | fail)
  refine cl_Y (relSchema_spec b r P hok) ?_
  rintro ⟨⟨vs, hvs⟩, ts, P2⟩ ⟨hsv, hss, hE2⟩
  dsimp only at hsv hss hE2 ⊢
  have htsl : ts.length = r.s.length := by rw [← hss, List.length_map]
  have ltm : (ts.map tbV).length = ts.length := by simp
  have hvw := hsv.vw
  refine ops_learn (VwIn.slice (n := 5) (v := vs) (xs := ts.map tbV) (VwIn.there (VwIn.here hvw))) ?_
  rintro ⟨pv, cv, rfl⟩
  repeat' (first | (refine go_Y ?_; intros) | (refine gs_Y ?_ ?_ <;> (intro hgd; try (simp only [bn] at hgd))) | (refine gc_Y ?_ ?_ <;> intro _) | fail)
  refine ok_map (fun _ h => nilRow (e := 129) (n := 4) h) ?_
  refine ok_map (L' := [relP P2 b r, P2, row 129 4 (.slice none 0 0) []] ++ R) entD ?_
  refine ok_loop' (γ := Nat × GC P2) (fun g ρ L => g.1 ≤ ts.length ∧ g.2.1.2.1.map Cm.c = readUp R0 g.1 ∧ g.2.1.2.1.length ≤ 200 * g.1 ∧
      Knows ρ [(0, .pointer (some ⟨b, 0, none⟩)), (2, g.2.1.1.1), (12, .int .i64 ((ts.map tbV).length : Int)), (13, .int .i64 g.1)] ∧
      L = [relP g.2.1.2.2 b r, g.2.1.2.2, row 129 4 g.2.1.1.1 (g.2.1.2.1.map cmV)] ++ R) (fun g => ts.length - g.1)
    (0, ⟨(⟨.slice none 0 0, rfl⟩, [], P2), Ext.refl P2, fun _ h => by simp at h⟩) ⟨by simp, rfl, by simp, ⟨rfl, rfl, rfl, rfl, trivial⟩, rfl⟩ ?_
  rintro ⟨i, ⟨⟨v, hv⟩, acc, Q⟩, hE, hacc⟩ ρ L ⟨hi, he, hal, hk, rfl⟩
  dsimp only at hE hacc hi he hal hk ⊢
  refine ok_regs hk ?_
  cases t1 : decide ((i : Int) < ((ts.map tbV).length : Int)) with
  | false =>
    have hie : i = r.s.length := by have := of_decide_eq_false t1; omega
    rw [hie] at he
    repeat' (first | (refine go_Y ?_; intros) | (refine gs_Y ?_ ?_ <;> (intro hgd; try (simp only [bn] at hgd))) | (refine gc_Y ?_ ?_ <;> intro _) | fail)
    (refine rt_Y (y := (⟨v, hv⟩, acc, Q)) (hrs := Tryz.results33) (hv := ?_) (hφ := ?_))
    · rfl
    · exact ⟨hE2.trans hE, hacc, he⟩
  | true =>
    have h0 : i < ts.length := by have := of_decide_eq_true t1; omega
    have hstp := readUp_step R0 i
    repeat' (first | (refine go_Y ?_; intros) | (refine gs_Y ?_ ?_ <;> (intro hgd; try (simp only [bn] at hgd))) | (refine gc_Y ?_ ?_ <;> intro _) | fail)
    refine cl_Y (hrows (i : Int) Q) ?_
    rintro ⟨⟨vl, hvl⟩, l, Q1⟩ ⟨hQ1, hlw, hlo⟩
    dsimp only at hQ1 hlw hlo ⊢
    have hll := rowsAt_len hok (i : Int) (fun _ => true)
    have hll2 := hlo.perm.length_eq
    rw [List.length_map] at hll2
    have hlo := hlo.uniq (hR.ord (i : Int) _) rfl (.refl _)
    have llm : (l.map rwV).length = l.length := by simp
    refine ops_learn (rowShapeS (e := 42) (n := 1) (v := vl) (xs := l.map rwV) (by decide) takeD) ?_
    rintro ⟨pl, cl, rfl, hcl, hsl⟩
    repeat' (first | (refine go_Y ?_; intros) | (refine gs_Y ?_ ?_ <;> (intro hgd; try (simp only [bn] at hgd))) | (refine gc_Y ?_ ?_ <;> intro _) | fail)
    have hE1' := hE.trans hQ1
    refine ok_map (L' := [relP Q1 b r, Q1, row 129 4 v (acc.map cmV), row 42 1 (.slice pl (l.map rwV).length cl) (l.map rwV)] ++ R) entD ?_
    refine ok_loop' (γ := Nat × V1s × { a : List Cm // ∀ c ∈ a, CmR Q1 c }) (fun g ρ L => g.1 ≤ l.length ∧ g.2.2.1.map Cm.c = acc.map Cm.c ++ ((l.take g.1).map (·.2)).map (fun x => readC ((i : Int), x)) ∧ g.2.2.1.length ≤ 200 * i + g.1 ∧
        Knows ρ [(0, .pointer (some ⟨b, 0, none⟩)), (2, g.2.1.1), (4, .int .i64 i), (12, .int .i64 ((ts.map tbV).length : Int)), (13, .int .i64 i), (18, .slice pl (l.map rwV).length cl), (19, .int .i64 ((l.map rwV).length : Int)), (20, .int .i64 g.1)] ∧
        L = [relP Q1 b r, Q1, row 129 4 g.2.1.1 (g.2.2.1.map cmV), row 42 1 (.slice pl (l.map rwV).length cl) (l.map rwV)] ++ R) (fun g => l.length - g.1)
      (0, ⟨v, hv⟩, ⟨acc, fun c hc => (hacc c hc).ext hQ1⟩) ⟨by simp, by simp, by dsimp only; omega, ⟨rfl, rfl, rfl, rfl, rfl, rfl, rfl, rfl, trivial⟩, rfl⟩ ?_
    rintro ⟨j, ⟨v2, hv2⟩, acc2, hacc2⟩ ρ L ⟨hj, he2, hal2, hk, rfl⟩
    dsimp only at hacc2 hj he2 hal2 hk ⊢
    refine ok_regs hk ?_
    cases t3 : decide ((j : Int) < ((l.map rwV).length : Int)) with
    | false =>
      have hje : j = l.length := by have := of_decide_eq_false t3; omega
      rw [hje, List.take_length, hlo, he, ← hstp] at he2
      repeat' (first | (refine go_Y ?_; intros) | (refine gs_Y ?_ ?_ <;> (intro hgd; try (simp only [bn] at hgd))) | (refine gc_Y ?_ ?_ <;> intro _) | fail)
      refine cont_map (L' := [relP Q1 b r, Q1, row 129 4 v2 (acc2.map cmV)] ++ R) entD ?_
      refine cont_back (i + 1, ⟨(⟨v2, hv2⟩, acc2, Q1), hE1', hacc2⟩) ⟨h0, he2, by dsimp only; omega, ⟨rfl, rfl, rfl, rfl, trivial⟩, rfl⟩ (by show ts.length - (i + 1) < ts.length - i; omega)
    | true =>
      have hj0 : j < l.length := by have := of_decide_eq_true t3; omega
      have hjx : (l.map rwV)[j]? = some (rwV l[j]) := by rw [List.getElem?_map, List.getElem?_eq_getElem hj0]; rfl
      have hjn : j < (l.map rwV).length := by omega
      have hst2 : (l.take (j + 1)).map (·.2) = (l.take j).map (·.2) ++ [l[j].2] := by rw [List.take_succ_eq_append_getElem hj0, List.map_append]; rfl
      have hlv := hlw _ (List.getElem_mem hj0)
      refine ok_learn (VwIn.base (n := 1) (p := pl) (len := (l.map rwV).length) (cap := cl) (xs := l.map rwV) (VwIn.there (VwIn.there (VwIn.there (VwIn.here Vw.row)))) (by intro e; rw [e] at hjn; simp at hjn)) ?_
      rintro ⟨bl, ol, rfl⟩
      generalize l[j] = x at hjx hst2 hlv
      obtain ⟨⟨xv', hxv'⟩, xl⟩ := x
      dsimp only [rwV] at hjx hst2 hlv
      refine ok_learn (VwIn.slice (VwIn.there (VwIn.here hlv))) ?_
      rintro ⟨px, cx, rfl⟩
      have lac : (acc2.map cmV).length = acc2.length := by simp
      repeat' (first | (refine go_Y ?_; intros) | (refine gs_Y ?_ ?_ <;> (intro hgd; try (simp only [bn] at hgd))) | (refine gc_Y ?_ ?_ <;> intro _) | fail)
      rename_i v4 hv4 v5 hv5
      refine cont_map (L' := [relP Q1 b r, Q1, row 129 4 v5 ((acc2 ++ ([⟨4, i, ⟨.slice none 0 0, rfl⟩, [], ⟨.slice px (xl.map valV).length cx, rfl⟩, xl⟩] : List Cm)).map cmV), row 42 1 (.slice (some ⟨bl, ol, none⟩) (l.map rwV).length cl) (l.map rwV)] ++ R) (by rw [List.map_append]; exact entD) ?_
      refine cont_back (j + 1, ⟨v5, hv5⟩, ⟨acc2 ++ ([⟨4, i, ⟨.slice none 0 0, rfl⟩, [], ⟨.slice px (xl.map valV).length cx, rfl⟩, xl⟩] : List Cm), fun x hx => ?_⟩) ⟨hj0, ?_, by dsimp only; rw [List.length_append, List.length_singleton]; omega, ⟨rfl, rfl, rfl, rfl, rfl, rfl, rfl, rfl, trivial⟩, rfl⟩ (by show l.length - (j + 1) < l.length - j; omega)
      · rcases List.mem_append.1 hx with hx | hx
        · exact hacc2 x hx
        · rw [List.mem_singleton] at hx; subst hx; exact ⟨vw_nil4, hlv⟩
      · dsimp only
        rw [List.map_append, he2, hst2, List.map_append, ← List.append_assoc]
        rfl
set_option maxHeartbeats 8000000 in
theorem read20_spec (bx : Nat) (vs vr : Value) (tn : Int) (q : List Rr) (P : HProp) (hvs : vs.oneCell' = true) (hvr : vr.oneCell' = true) (hq : ∀ x ∈ q, Vw P 4 x.lv.1 (x.l.map valV)) (hl : q.length ≤ 1000) :
    FSpec Tryz.prog 37 [.pointer (some ⟨bx, 0, none⟩)] [pts bx (.cells [vs, vr, .int .u64 tn].toArray 100), row 102 2 vr (q.map rrV), P] (V1s × List Cm)
      (fun y => (∀ x ∈ y.2, CmR P x) ∧ y.2.map Cm.c = (q.map Rr.tl).map readC) (fun y => y.1.1)
      (fun y => [row 129 4 y.1.1 (y.2.map cmV), pts bx (.cells [vs, vr, .int .u64 tn].toArray 100), row 102 2 vr (q.map rrV), P]) := by
  have lq : (q.map rrV).length = q.length := by simp
  refine spec_intro [] _ Tryz.func37 rfl Tryz.ntmps37 (by rfl) (fun w0 R => ?_)
  refine ok_learn (rowShapeS (e := 102) (n := 2) (v := vr) (xs := q.map rrV) (by decide) takeD) ?_
  rintro ⟨pr, cr, rfl, hcr, hsr⟩
  refine ok_map (fun _ h => nilRow (e := 129) (n := 4) h) ?_
  repeat' (first | (refine go_Y ?_; intros) | (refine gs_Y ?_ ?_ <;> (intro hgd; try (simp only [bn] at hgd))) | (refine gc_Y ?_ ?_ <;> intro _) | fail)
  refine ok_map (L' := [row 129 4 (.slice none 0 0) [], pts bx (.cells [vs, .slice pr (q.map rrV).length cr, .int .u64 tn].toArray 100), row 102 2 (.slice pr (q.map rrV).length cr) (q.map rrV), P] ++ R) entD ?_
  refine ok_loop' (γ := Nat × V1s × { a : List Cm // ∀ c ∈ a, CmR P c }) (fun g ρ L => g.1 ≤ q.length ∧ g.2.2.1.map Cm.c = ((q.take g.1).map Rr.tl).map readC ∧ g.2.2.1.length = g.1 ∧
      Knows ρ [(0, .pointer (some ⟨bx, 0, none⟩)), (3, g.2.1.1), (4, .int .i64 g.1)] ∧
      L = [row 129 4 g.2.1.1 (g.2.2.1.map cmV), pts bx (.cells [vs, .slice pr (q.map rrV).length cr, .int .u64 tn].toArray 100), row 102 2 (.slice pr (q.map rrV).length cr) (q.map rrV), P] ++ R) (fun g => q.length - g.1)
    (0, ⟨.slice none 0 0, rfl⟩, ⟨[], fun c hc => by simp at hc⟩) ⟨by simp, by simp, rfl, ⟨rfl, rfl, rfl, trivial⟩, rfl⟩ ?_
  rintro ⟨j, ⟨v, hv⟩, acc, hacc⟩ ρ L ⟨hj, he, hal, hk, rfl⟩
  dsimp only at hacc hj he hal hk ⊢
  refine ok_regs hk ?_
  cases t1 : decide ((j : Int) < ((q.map rrV).length : Int)) with
  | false =>
    have hje : j = q.length := by have := of_decide_eq_false t1; omega
    rw [hje, List.take_length] at he
    repeat' (first | (refine go_Y ?_; intros) | (refine gs_Y ?_ ?_ <;> (intro hgd; try (simp only [bn] at hgd))) | (refine gc_Y ?_ ?_ <;> intro _) | fail)
    (refine rt_Y (y := (⟨v, hv⟩, acc)) (hrs := Tryz.results37) (hv := ?_) (hφ := ?_))
    · rfl
    · exact ⟨hacc, he⟩
  | true =>
    have hj0 : j < q.length := by have := of_decide_eq_true t1; omega
    have hjx : (q.map rrV)[j]? = some (rrV q[j]) := by rw [List.getElem?_map, List.getElem?_eq_getElem hj0]; rfl
    have hjn : j < (q.map rrV).length := by omega
    have hst : ((q.take (j + 1)).map Rr.tl).map readC = ((q.take j).map Rr.tl).map readC ++ [readC q[j].tl] := by rw [List.take_succ_eq_append_getElem hj0, List.map_append, List.map_append]; rfl
    have hqv := hq _ (List.getElem_mem hj0)
    refine ok_learn (VwIn.base (n := 2) (p := pr) (len := (q.map rrV).length) (cap := cr) (xs := q.map rrV) (VwIn.there (VwIn.there (VwIn.here Vw.row))) (by intro e; rw [e] at hjn; simp at hjn)) ?_
    rintro ⟨bl, ol, rfl⟩
    generalize q[j] = x at hjx hst hqv
    obtain ⟨xt, ⟨xv, hxv⟩, xl⟩ := x
    dsimp only [rrV, Rr.tl] at hjx hst hqv
    refine ok_learn (VwIn.slice (VwIn.there (VwIn.there (VwIn.there (VwIn.here hqv))))) ?_
    rintro ⟨px, cx, rfl⟩
    have lac : (acc.map cmV).length = acc.length := by simp
    repeat' (first | (refine go_Y ?_; intros) | (refine gs_Y ?_ ?_ <;> (intro hgd; try (simp only [bn] at hgd))) | (refine gc_Y ?_ ?_ <;> intro _) | fail)
    rename_i v4 hv4 v5 hv5
    refine cont_map (L' := [row 129 4 v5 ((acc ++ ([⟨4, xt, ⟨.slice none 0 0, rfl⟩, [], ⟨.slice px (xl.map valV).length cx, rfl⟩, xl⟩] : List Cm)).map cmV), pts bx (.cells [vs, .slice (some ⟨bl, ol, none⟩) (q.map rrV).length cr, .int .u64 tn].toArray 100), row 102 2 (.slice (some ⟨bl, ol, none⟩) (q.map rrV).length cr) (q.map rrV), P] ++ R) (by rw [List.map_append]; exact entD) ?_
    refine cont_back (j + 1, ⟨v5, hv5⟩, ⟨acc ++ ([⟨4, xt, ⟨.slice none 0 0, rfl⟩, [], ⟨.slice px (xl.map valV).length cx, rfl⟩, xl⟩] : List Cm), fun x hx => ?_⟩) ⟨hj0, ?_, by dsimp only; rw [List.length_append, hal]; rfl, ⟨rfl, rfl, rfl, trivial⟩, rfl⟩ (by show q.length - (j + 1) < q.length - j; omega)
    · rcases List.mem_append.1 hx with hx | hx
      · exact hacc x hx
      · rw [List.mem_singleton] at hx; subst hx; exact ⟨vw_nil4, hqv⟩
    · dsimp only
      rw [List.map_append, he, hst]
      rfl
end Go.Proofs.YtphaegcoldpclaaGreatDoor
set_option linter.unusedSimpArgs false
set_option linter.unusedVariables false
set_option maxRecDepth 100000
namespace Go.Proofs.YtphaegcoldpclaaGreatDoor
open Go Go.Fx Go.Proofs Go.Pl

abbrev GS (P1 : HProp) := { x : Rl × HProp // x.1.Ok ∧ Rl.Wf x.1 ∧ Ext P1 x.2 }
set_option maxHeartbeats 16000000 in
theorem StreamReads_spec (vs vo : Value) (ts : List Tb) (ops : List Om) (seq : Int) (t : BA) (A : HProp) (hU : UT A) (hvc : vs.oneCell' = true) (h : SVr A vs ts) (ho : OsR A vo ops) (hwops : ∀ q ∈ ops, ∀ v ∈ q.row, v.wf) (s0 : 0 ≤ seq) :
    FSpec Tryz.prog 6 [.agg #[vs], vo, .int .u64 seq, .string t] [A] HProp (fun P' => Ext A P') (fun _ => .bool true) (fun P' => [P']) := by
  have hzo := ho.len
  have hvops := ho.vw
  have hopops := fun q (hq : q ∈ ops) => (ho.op q hq).vw
  have lmo : (ops.map opV).length = ops.length := by simp
  have hh1 := heavy14_spec vs vo ts ops A h ho
  have hvw5 := h.vw
  have e0 : (!decide ((0 : Int) = (0 : Int))) = false := by decide
  refine spec_intro [] _ Tryz.func6 rfl Tryz.ntmps6 (by rfl) (fun w0 R => ?_)
  refine ok_learn (VwIn.slice (VwIn.here hvops)) ?_
  rintro ⟨pv, cv, rfl⟩
  refine ok_learn (VwIn.slice (VwIn.here h.vw)) ?_
  rintro ⟨ps, cs, rfl⟩
  repeat' (first | (refine go_Y ?_; intros) | (refine gs_Y ?_ ?_ <;> (intro hgd; try (simp only [bn] at hgd))) | (refine gc_Y ?_ ?_ <;> intro _) | fail)
  rename_i b4
  refine cl_Y (hh1) ?_
  intro y1 hlg
  cases y1 with
  | true =>
    repeat' (first | (refine go_Y ?_; intros) | (refine gs_Y ?_ ?_ <;> (intro hgd; try (simp only [bn] at hgd))) | (refine gc_Y ?_ ?_ <;> intro _) | fail)
    refine cl_Y (alive20_spec A hU) ?_
    intro _ _
    repeat' (first | (refine go_Y ?_; intros) | (refine gs_Y ?_ ?_ <;> (intro hgd; try (simp only [bn] at hgd))) | (refine gc_Y ?_ ?_ <;> intro _) | fail)
    (refine rt_Y (y := A) (hrs := Tryz.results6) (hv := ?_) (hφ := ?_))
    · rfl
    · exact Ext.refl A
  | false =>
  have hsm := hlg rfl
  cases u1 : decide ((16384 : Int) < (t.size : Int)) with
  | true =>
    repeat' (first | (refine go_Y ?_; intros) | (refine gs_Y ?_ ?_ <;> (intro hgd; try (simp only [bn] at hgd))) | (refine gc_Y ?_ ?_ <;> intro _) | fail)
    refine cl_Y (alive20_spec A hU) ?_
    intro _ _
    repeat' (first | (refine go_Y ?_; intros) | (refine gs_Y ?_ ?_ <;> (intro hgd; try (simp only [bn] at hgd))) | (refine gc_Y ?_ ?_ <;> intro _) | fail)
    (refine rt_Y (y := A) (hrs := Tryz.results6) (hv := ?_) (hφ := ?_))
    · rfl
    · exact Ext.refl A
  | false =>
  have hts : t.size ≤ 1000000 := by have := of_decide_eq_false u1; omega
  have hsv := h.sv hsm.1
  have hat := at_spec (.slice ps (ts.map tbV).length cs) ts seq t A hsv hts s0
  have hat2 := at20_spec (.slice ps (ts.map tbV).length cs) ts seq t A hvc hsv hts s0
  have hlq : (atS (ts.map Tb.c) seq t).2.1.seqs.length ≤ 255 ∧ (atS (ts.map Tb.c) seq t).2.1.counts.length ≤ 255 := by
    unfold atS
    cases (checkS (ts.map Tb.c) && (decide (1 ≤ seq) && decide (seq ≤ 4611686018427387904))) with
    | false => rw [cond_false]; exact ⟨by show (0 : Nat) ≤ _; omega, by show (0 : Nat) ≤ _; omega⟩
    | true =>
      rw [cond_true]
      split
      · exact getMK_len t
      · exact ⟨by show (0 : Nat) ≤ _; omega, by show (0 : Nat) ≤ _; omega⟩
  generalize atS (ts.map Tb.c) seq t = g at hat hat2 hlq
  obtain ⟨gm, ⟨gk, gt, gc, gq⟩, ge⟩ := g
  dsimp only at hat hat2 hlq
  have e1 : (!decide (ge = ge)) = false := by simp
  repeat' (first | (refine go_Y ?_; intros) | (refine gs_Y ?_ ?_ <;> (intro hgd; try (simp only [bn] at hgd))) | (refine gc_Y ?_ ?_ <;> intro _) | fail)
  refine cl_Y (hat) ?_
  rintro ⟨⟨v1, hv1⟩, ⟨v2, hv2⟩, ⟨v3, hv3⟩⟩ _
  dsimp only
  refine ops_learn (rowShapeS (e := 26) (n := 1) (v := v1) (xs := gq.map sqV) (by decide) takeD) ?_
  rintro ⟨p1, c1, rfl, _, _⟩
  refine ops_learn (rowShapeS (e := 3) (n := 1) (v := v2) (xs := gc.map dpV) (by decide) takeD) ?_
  rintro ⟨p2, c2, rfl, _, _⟩
  refine ops_learn (rowShapeS (e := 26) (n := 1) (v := v3) (xs := gq.map sqV) (by decide) takeD) ?_
  rintro ⟨p3, c3, rfl, _, _⟩
  repeat' (first | (refine go_Y ?_; intros) | (refine gs_Y ?_ ?_ <;> (intro hgd; try (simp only [bn] at hgd))) | (refine gc_Y ?_ ?_ <;> intro _) | fail)
  refine cl_Y (hat2) ?_
  rintro ⟨⟨v4, hv4⟩, ⟨v5, hv5⟩, ⟨v6, hv6⟩⟩ _
  dsimp only
  refine ops_learn (rowShapeS (e := 26) (n := 1) (v := v4) (xs := gq.map sqV) (by decide) takeD) ?_
  rintro ⟨p4, c4, rfl, _, _⟩
  refine ops_learn (rowShapeS (e := 3) (n := 1) (v := v5) (xs := gc.map dpV) (by decide) takeD) ?_
  rintro ⟨p5, c5, rfl, _, _⟩
  refine ops_learn (rowShapeS (e := 26) (n := 1) (v := v6) (xs := gq.map sqV) (by decide) takeD) ?_
  rintro ⟨p6, c6, rfl, _, _⟩
  have hsp := samePlace_spec gm gm gq gq (.slice p1 (gq.map sqV).length c1) (.slice p4 (gq.map sqV).length c4) (row 26 1 (.slice p1 (gq.map sqV).length c1) (gq.map sqV)) (row 26 1 (.slice p4 (gq.map sqV).length c4) (gq.map sqV)) rfl rfl Vw.row Vw.row (by omega)
  have hsk := sameMark_spec gk gk gt gt gc gc gq gq (.slice p2 (gc.map dpV).length c2) (.slice p3 (gq.map sqV).length c3) (.slice p5 (gc.map dpV).length c5) (.slice p6 (gq.map sqV).length c6) (row 3 1 (.slice p2 (gc.map dpV).length c2) (gc.map dpV)) (row 26 1 (.slice p3 (gq.map sqV).length c3) (gq.map sqV)) (row 3 1 (.slice p5 (gc.map dpV).length c5) (gc.map dpV)) (row 26 1 (.slice p6 (gq.map sqV).length c6) (gq.map sqV)) Vw.row Vw.row Vw.row Vw.row (by omega) (by omega)
  repeat' (first | (refine go_Y ?_; intros) | (refine gs_Y ?_ ?_ <;> (intro hgd; try (simp only [bn] at hgd))) | (refine gc_Y ?_ ?_ <;> intro _) | fail)
  refine cl_Y (hsp) ?_
  intro y hy
  obtain rfl : y = true := hy.2 ⟨rfl, rfl⟩
  repeat' (first | (refine go_Y ?_; intros) | (refine gs_Y ?_ ?_ <;> (intro hgd; try (simp only [bn] at hgd))) | (refine gc_Y ?_ ?_ <;> intro _) | fail)
  refine cl_Y (hsk) ?_
  intro y hy2
  obtain rfl : y = true := hy2.2 ⟨rfl, rfl, rfl, rfl⟩
  clear hy hy2 hsp hsk hat hat2
  cases hck : checkS (ts.map Tb.c) with
  | false =>
    have hnb := new_bad (.slice ps (ts.map tbV).length cs) ts A hsv hck
    repeat' (first | (refine go_Y ?_; intros) | (refine gs_Y ?_ ?_ <;> (intro hgd; try (simp only [bn] at hgd))) | (refine gc_Y ?_ ?_ <;> intro _) | fail)
    refine cl_Y (hnb) ?_
    intro _ _
    repeat' (first | (refine go_Y ?_; intros) | (refine gs_Y ?_ ?_ <;> (intro hgd; try (simp only [bn] at hgd))) | (refine gc_Y ?_ ?_ <;> intro _) | fail)
    refine cl_Y (read_nil) ?_
    intro _ _
    repeat' (first | (refine go_Y ?_; intros) | (refine gs_Y ?_ ?_ <;> (intro hgd; try (simp only [bn] at hgd))) | (refine gc_Y ?_ ?_ <;> intro _) | fail)
    refine cl_Y (alive20_spec A hU) ?_
    intro _ _
    repeat' (first | (refine go_Y ?_; intros) | (refine gs_Y ?_ ?_ <;> (intro hgd; try (simp only [bn] at hgd))) | (refine gc_Y ?_ ?_ <;> intro _) | fail)
    (refine rt_Y (y := A) (hrs := Tryz.results6) (hv := ?_) (hφ := ?_))
    · rfl
    · exact Ext.refl A
  | true =>
  have hnew := new_spec (.slice ps (ts.map tbV).length cs) ts A hsv hck
  repeat' (first | (refine go_Y ?_; intros) | (refine gs_Y ?_ ?_ <;> (intro hgd; try (simp only [bn] at hgd))) | (refine gc_Y ?_ ?_ <;> intro _) | fail)
  refine cl_Y (hnew) ?_
  rintro ⟨b, P1⟩ hE1
  dsimp only at hE1 ⊢
  repeat' (first | (refine go_Y ?_; intros) | (refine gs_Y ?_ ?_ <;> (intro hgd; try (simp only [bn] at hgd))) | (refine gc_Y ?_ ?_ <;> intro _) | fail)
  refine cl_Y (read_nil) ?_
  intro _ _
  repeat' (first | (refine go_Y ?_; intros) | (refine gs_Y ?_ ?_ <;> (intro hgd; try (simp only [bn] at hgd))) | (refine gc_Y ?_ ?_ <;> intro _) | fail)
  have hn14 := new14_spec (.slice ps (ts.map tbV).length cs) ts P1 (hsv.ext hE1) (by have := hsm.1.1; omega) (fun t ht => by have := hsm.1.2 t ht; omega)
  refine cl_Y (hn14) ?_
  rintro ⟨bx, P2⟩ hE2
  dsimp only at hE2 ⊢
  refine opsL_mapL (fun _ h => relP_ext hE2 (b := b) (r := ⟨ts.map Tb.c, [], 0⟩) (Take.out1 (A := relP P1 b ⟨ts.map Tb.c, [], 0⟩) takeD h)) ?_
  have hEA := hE1.trans hE2
  repeat' (first | (refine go_Y ?_; intros) | (refine gs_Y ?_ ?_ <;> (intro hgd; try (simp only [bn] at hgd))) | (refine gc_Y ?_ ?_ <;> intro _) | fail)
  have hr0 : (Rl.mk (ts.map Tb.c) [] 0).Ok := Rl.Ok.new hck
  have hw0 : Rl.Wf ⟨ts.map Tb.c, [], 0⟩ := fun x hx => by simp at hx
  refine ok_map (L' := [P2, relP P2 b ⟨ts.map Tb.c, [], 0⟩, rfP P2 bx ⟨ts.map Tb.c, [], 0⟩] ++ R) entD ?_
  refine ok_loop' (γ := Nat × GS P2) (fun g ρ L => g.1 ≤ ops.length ∧ Knows ρ [(1, .slice pv (ops.map opV).length cv), (15, .pointer (some ⟨b, 0, none⟩)), (18, .int .i64 1), (19, .pointer (some ⟨bx, 0, none⟩)), (20, .int .i64 g.1)] ∧
      L = [g.2.1.2, relP g.2.1.2 b g.2.1.1, rfP g.2.1.2 bx g.2.1.1] ++ R) (fun g => ops.length - g.1)
    (0, ⟨(⟨ts.map Tb.c, [], 0⟩, P2), hr0, hw0, Ext.refl P2⟩) ⟨by simp, ⟨rfl, rfl, rfl, rfl, rfl, trivial⟩, rfl⟩ ?_
  rintro ⟨i, ⟨r, P⟩, hokr, hwfr, hE⟩ ρ L ⟨hi, hk, rfl⟩
  dsimp only at hokr hwfr hE hi hk ⊢
  refine ok_regs hk ?_
  have hEP := hEA.trans hE
  have hUP := hU.ext hEP
  cases t1 : decide ((i : Int) < ((ops.map opV).length : Int)) with
  | true =>
    have h0 : i < ops.length := by have := of_decide_eq_true t1; omega
    have hx : (ops.map opV)[i]? = some (opV ops[i]) := by rw [List.getElem?_map, List.getElem?_eq_getElem h0]; rfl
    have hnn : i < (ops.map opV).length := by omega
    have hmm := List.getElem_mem h0
    have hqv := hEP.vw (hopops _ hmm)
    have hwfo := hwops _ hmm
    have hln := hsm.2.2 _ hmm
    have hvP := hEP.vw hvops
    refine ok_learn (VwIn.base (n := 3) (p := pv) (len := (ops.map opV).length) (cap := cv) (xs := ops.map opV) (VwIn.here hvP) (by intro e; rw [e] at hnn; simp at hnn)) ?_
    rintro ⟨bu, ou, rfl⟩
    generalize ops[i] = q at hx hqv hwfo hln
    obtain ⟨qk, qt, ⟨qv, hqc⟩, ql⟩ := q
    dsimp only [opV] at hx hqv hwfo hln
    have hdo := relDo_spec b r ⟨qk, qt, ql⟩ qv P hokr hUP hqv hqc hwfo (by show ql.length ≤ _; omega)
    have hokn := hokr.doOp ⟨qk, qt, ql⟩
    have hwn := doOp_wf' hwfr (o := ⟨qk, qt, ql⟩) hwfo
    have hd2 := fun Q (e : Ext P Q) => do14_spec bx r ⟨qk, qt, ql⟩ qv Q hokr hwfr (hUP.ext e) (e.vw hqv) hqc hwfo
    generalize r.doOp ⟨qk, qt, ql⟩ = gg at hdo hokn hwn hd2
    obtain ⟨r', bef, aft, code⟩ := gg
    dsimp only at hdo hokn hwn hd2
    repeat' (first | (refine go_Y ?_; intros) | (refine gs_Y ?_ ?_ <;> (intro hgd; try (simp only [bn] at hgd))) | (refine gc_Y ?_ ?_ <;> intro _) | fail)
    refine cl_Y (hdo) ?_
    rintro ⟨⟨va, hva⟩, ⟨vb, hvb⟩, Q1⟩ ⟨hQ1, hvwa⟩
    dsimp only at hQ1 hvwa ⊢
    refine opsL_mapL (fun _ h => rfP_ext hQ1 (b := bx) (r := r) (Take.out1 (A := rfP P bx r) takeD h)) ?_
    have hvQ := hQ1.vw hvP
    repeat' (first | (refine go_Y ?_; intros) | (refine gs_Y ?_ ?_ <;> (intro hgd; try (simp only [bn] at hgd))) | (refine gc_Y ?_ ?_ <;> intro _) | fail)
    refine cl_Y (hd2 Q1 hQ1) ?_
    rintro ⟨⟨vc, hvc2⟩, ⟨vd, hvd⟩, Q2⟩ ⟨hQ2, hvwc⟩
    dsimp only at hQ2 hvwc ⊢
    refine opsL_mapL (fun _ h => relP_ext hQ2 (b := b) (r := r') (Take.out1 (A := relP Q1 b r') takeD h)) ?_
    repeat' (first | (refine go_Y ?_; intros) | (refine gs_Y ?_ ?_ <;> (intro hgd; try (simp only [bn] at hgd))) | (refine gc_Y ?_ ?_ <;> intro _) | fail)
    refine cont_map (L' := [Q2, relP Q2 b r', rfP Q2 bx r'] ++ R) entD ?_
    refine cont_back (i + 1, ⟨(r', Q2), hokn, hwn, hE.trans (hQ1.trans hQ2)⟩) ⟨h0, ⟨rfl, rfl, rfl, rfl, rfl, trivial⟩, rfl⟩ (by show ops.length - (i + 1) < ops.length - i; omega)
  | false =>
    refine ok_map (L' := [rfP P bx r, P, relP P b r] ++ R) entD ?_
    refine ok_ex (M := rfL P bx r) Sel.here ?_
    rintro ⟨⟨vs', ts', vr, q⟩, hy⟩
    unfold rfL
    dsimp only
    have hR := hy.rq.rowsQ hokr
    have hql : q.length ≤ 200 := by have := hy.rq.len; have := hokr.len; dsimp only at *; omega
    have hvr := hy.vrc
    have hvsc := hy.vc
    have hyq := hy.rv
    dsimp only at hR hvr hvsc hyq
    repeat' (first | (refine go_Y ?_; intros) | (refine gs_Y ?_ ?_ <;> (intro hgd; try (simp only [bn] at hgd))) | (refine gc_Y ?_ ?_ <;> intro _) | fail)
    refine cl_Y (read_spec hR hokr hwfr b P) ?_
    rintro ⟨⟨vc, hvc2⟩, cs1, Q⟩ ⟨hQ, hc1, hcc1⟩
    dsimp only at hQ hc1 hcc1 ⊢
    have hcl1 : cs1.length ≤ 200 := by have := congrArg List.length hcc1; simp only [List.length_map] at this; omega
    have hUQ := hUP.ext hQ
    repeat' (first | (refine go_Y ?_; intros) | (refine gs_Y ?_ ?_ <;> (intro hgd; try (simp only [bn] at hgd))) | (refine gc_Y ?_ ?_ <;> intro _) | fail)
    refine cl_Y (read20_spec bx vs' vr r.turns q Q hvsc hvr (fun x hx => hQ.vw (hyq x hx)) (by omega)) ?_
    rintro ⟨⟨vd, hvd⟩, cs2⟩ ⟨hc2, hcc2⟩
    dsimp only at hc2 hcc2 ⊢
    have hsm2 := same15T_spec cs1 cs2 vc vd (row 129 4 vc (cs1.map cmV)) (row 129 4 vd (cs2.map cmV)) Q Vw.row Vw.row hc1 hc2 (by omega) (fun x hx => by
      have hm : x.c ∈ (q.map Rr.tl).map readC := by rw [← hcc1]; exact List.mem_map_of_mem hx
      obtain ⟨p, hp, he⟩ := List.mem_map.1 hm
      have h8 := row_len hokr ((hR.mem p).1 hp)
      simp only [readC, Cm.c, Chg.mk.injEq] at he
      rw [← he.2.2.1, ← he.2.2.2]
      exact ⟨by show (0 : Nat) ≤ _; omega, by omega⟩) (hcc2.trans hcc1.symm)
    repeat' (first | (refine go_Y ?_; intros) | (refine gs_Y ?_ ?_ <;> (intro hgd; try (simp only [bn] at hgd))) | (refine gc_Y ?_ ?_ <;> intro _) | fail)
    refine cl_Y (hsm2) ?_
    intro _ _
    repeat' (first | (refine go_Y ?_; intros) | (refine gs_Y ?_ ?_ <;> (intro hgd; try (simp only [bn] at hgd))) | (refine gc_Y ?_ ?_ <;> intro _) | fail)
    refine cl_Y (alive20_spec Q hUQ) ?_
    intro _ _
    repeat' (first | (refine go_Y ?_; intros) | (refine gs_Y ?_ ?_ <;> (intro hgd; try (simp only [bn] at hgd))) | (refine gc_Y ?_ ?_ <;> intro _) | fail)
    (refine rt_Y (y := Q) (hrs := Tryz.results6) (hv := ?_) (hφ := ?_))
    · rfl
    · exact hEP.trans hQ
end Go.Proofs.YtphaegcoldpclaaGreatDoor
