/- The reference's state (fascicleref14): Copy, CopyOps. -/
import Derived.Test.YtbagfdolcabniaaGreatDoorQcH
-- @DEFS Y
set_option linter.unusedSimpArgs false
set_option linter.unusedVariables false
set_option maxRecDepth 100000
namespace Go.Proofs.YtbagfdolcabniaaGreatDoor
open Go Go.Fx Go.Proofs Go.Pl

def Rr.tl (x : Rr) : Int × List Vl := (x.t, x.l)
theorem RefQ.congr {r : Rl} {q q' : List Rr} (h : RefQ r q) (e : q'.map Rr.tl = q.map Rr.tl) : RefQ r q' := by
  have e1 : ∀ l : List Rr, l.map (Rr.pl r.s) = (l.map Rr.tl).map (fun x => ((x.1, Pl.keyOf r.s x.1 x.2), x.2)) := fun l => by rw [List.map_map]; rfl
  refine ⟨by rw [e1, e, ← e1]; exact h.perm, ?_⟩
  have h2 := h.srt
  have e2 : ∀ l : List Rr, (l.Pairwise fun x y => pltB (x.pl r.s).1 (y.pl r.s).1 = true) ↔ ((l.map (Rr.pl r.s)).Pairwise fun x y => pltB x.1 y.1 = true) := fun l => by rw [List.pairwise_map]
  rw [e2, e1] at h2
  rw [e2, e1, e]
  exact h2
abbrev G14 (A : HProp) := { g : V1s × List Rr × HProp // Ext A g.2.2 ∧ (∀ x ∈ g.2.1, Vw g.2.2 4 x.lv.1 (x.l.map valV)) }
set_option maxHeartbeats 8000000 in
theorem copy14_spec (b : Nat) (r : Rl) (P : HProp) (hok : r.Ok) :
    FSpec Tryz.prog 16 [.pointer (some ⟨b, 0, none⟩)] [rfP P b r, P] (Nat × HProp) (fun y => Ext P y.2) (fun y => .pointer (some ⟨y.1, 0, none⟩)) (fun y => [rfP y.2 y.1 r, rfP y.2 b r, y.2]) := by
  refine fspec_ex ?_
  rintro ⟨⟨vs, ts, vr, q⟩, hy⟩
  have hy' := hy
  obtain ⟨hvc, hvrc, hsv, hss, hrq, hrv⟩ := hy
  dsimp only at hvc hvrc hsv hss hrq hrv
  unfold rfL
  dsimp only
  obtain ⟨ds, _, hah, h1, h12⟩ := checkS_ok hok.sch
  have h12' : ts.length ≤ 1000 := by rw [← hss, List.length_map] at h12; omega
  have h8 : ∀ t ∈ ts, t.cols.length ≤ 1000 := fun t ht => by
    have := (hah.tab t.c (by rw [← hss]; exact List.mem_map_of_mem ht)).len
    have e : t.c.cols = t.cols := rfl
    rw [e] at this; omega
  have hcp := copy13_spec vs ts P hsv h12' h8
  have hvw := hsv.vw
  have hqm : (q.map rrV).length = q.length := by simp
  have hql := hrq.len
  have hrl := hok.len
  have hlen : ∀ x ∈ q, x.l.length ≤ 8 := fun x hx => row_len hok (aget_of_mem hok (p := (x.pl r.s).1) (l := x.l) (hrq.mem hx))
  refine spec_intro [] _ Tryz.func16 rfl Tryz.ntmps16 (by rfl) (fun w0 R => ?_)
  refine ok_learn (VwIn.slice (VwIn.there (VwIn.there (VwIn.here hvw)))) ?_
  rintro ⟨pv, cv, rfl⟩
  refine ok_learn (rowShapeS (e := 114) (n := 2) (v := vr) (xs := q.map rrV) (by decide) takeD) ?_
  rintro ⟨pr, cr, rfl, hcr, hsp⟩
  repeat' (first | (refine go_Y ?_; intros) | (refine gs_Y ?_ ?_ <;> (intro hgd; try (simp only [Bool.not_true, Bool.not_false] at hgd))) | (refine gc_Y ?_ ?_ <;> intro _) | fail)
  refine ok_drawL (cv := []) [4] ([pts b (.cells [.slice pv (ts.map tbV).length cv, .slice pr (q.map rrV).length cr, .int .u64 r.turns].toArray 47)]) (takeD) (by kernel_rfl) rfl (by decide +kernel) ?_
  repeat' (first | (refine go_Y ?_; intros) | (refine gs_Y ?_ ?_ <;> (intro hgd; try (simp only [Bool.not_true, Bool.not_false] at hgd))) | (refine gc_Y ?_ ?_ <;> intro _) | fail)
  refine clN_Y (hcp) ?_
  rintro ⟨⟨v', hv'⟩, ts', P1⟩ ⟨hsv', hmap', hE1⟩
  dsimp only at hsv' hmap' hE1 ⊢
  refine ops_learn (VwIn.slice (n := 5) (v := v') (xs := ts'.map tbV) (VwIn.here hsv'.vw)) ?_
  rintro ⟨pv', cv', rfl⟩
  repeat' (first | (refine go_Y ?_; intros) | (refine gs_Y ?_ ?_ <;> (intro hgd; try (simp only [Bool.not_true, Bool.not_false] at hgd))) | (refine gc_Y ?_ ?_ <;> intro _) | fail)
  rename_i bc
  refine ok_map (fun _ h => nilRow (e := 114) (n := 2) h) ?_
  refine ok_map (L' := [P1, pts bc (.cells [.slice pv' (ts'.map tbV).length cv', .slice none 0 0, .int .u64 r.turns].toArray 47), row 114 2 (.slice none 0 0) [], pts b (.cells [.slice pv (ts.map tbV).length cv, .slice pr (q.map rrV).length cr, .int .u64 r.turns].toArray 47), row 114 2 (.slice pr (q.map rrV).length cr) (q.map rrV)] ++ R) entD ?_
  refine ok_loop' (γ := Nat × G14 P1) (fun g ρ L => g.1 ≤ q.length ∧ g.2.1.2.1.map Rr.tl = (q.take g.1).map Rr.tl ∧ Knows ρ [(0, .pointer (some ⟨b, 0, none⟩)), (3, .pointer (some ⟨bc, 0, none⟩)), (4, .int .i64 g.1)] ∧
      L = [g.2.1.2.2, pts bc (.cells [.slice pv' (ts'.map tbV).length cv', g.2.1.1.1, .int .u64 r.turns].toArray 47), row 114 2 g.2.1.1.1 (g.2.1.2.1.map rrV), pts b (.cells [.slice pv (ts.map tbV).length cv, .slice pr (q.map rrV).length cr, .int .u64 r.turns].toArray 47), row 114 2 (.slice pr (q.map rrV).length cr) (q.map rrV)] ++ R) (fun g => q.length - g.1)
    (0, ⟨(⟨.slice none 0 0, rfl⟩, [], P1), Ext.refl P1, fun _ h => by simp at h⟩) ⟨by simp, rfl, ⟨rfl, rfl, rfl, trivial⟩, rfl⟩ ?_
  rintro ⟨n, ⟨⟨v, hvo⟩, acc, Q⟩, hE, hcr2⟩ ρ L ⟨hn, he, hk, rfl⟩
  dsimp only at hE hcr2 hn he hk ⊢
  refine ok_regs hk ?_
  have hal : acc.length = n := by have := congrArg List.length he; simp at this; omega
  have ham : (acc.map rrV).length = n := by rw [List.length_map, hal]
  refine ok_learn (rowShapeS (e := 114) (n := 2) (v := v) (xs := acc.map rrV) (by decide) takeD) ?_
  rintro ⟨pa, ca, rfl, hca, hsa⟩
  cases t1 : decide ((n : Int) < ((q.map rrV).length : Int)) with
  | false =>
    have hne : n = q.length := by have := of_decide_eq_false t1; omega
    rw [hne, List.take_length] at he
    repeat' (first | (refine go_Y ?_; intros) | (refine gs_Y ?_ ?_ <;> (intro hgd; try (simp only [Bool.not_true, Bool.not_false] at hgd))) | (refine gc_Y ?_ ?_ <;> intro _) | fail)
    refine cont_map (fun _ h => rf_in (b := b) (r := r) (P := Q) (hy'.ext (hE1.trans hE)) (Take.out takeD h)) ?_
    refine cont_map (fun _ h => rf_in (b := bc) (r := r) (P := Q) (vs := .slice pv' (ts'.map tbV).length cv') (ts := ts') (vr := .slice pa (acc.map rrV).length ca) (q := acc) ⟨rfl, rfl, hsv'.ext hE, hmap'.trans hss, hrq.congr he, hcr2⟩ (Take.out takeD h)) ?_
    (refine rt_Y (y := (bc, Q)) (hrs := Tryz.results16) (hv := ?_) (hφ := ?_))
    · rfl
    · exact hE1.trans hE
  | true =>
    have h0 : n < q.length := by have := of_decide_eq_true t1; omega
    have hqn : q[n]? = some q[n] := List.getElem?_eq_getElem h0
    have hx : (q.map rrV)[n]? = some (rrV q[n]) := by rw [List.getElem?_map, hqn]; rfl
    have hn1 : n < (q.map rrV).length := by omega
    have htk : q.take (n + 1) = q.take n ++ [q[n]] := List.take_succ_eq_append_getElem h0
    have hrx := (hE1.trans hE).vw (hrv _ (List.getElem_mem h0))
    have hlx := hlen _ (List.getElem_mem h0)
    refine ok_learn (VwIn.base (n := 2) (xs := q.map rrV) (VwIn.there (VwIn.there (VwIn.there (VwIn.there (VwIn.here Vw.row))))) (by intro e; rw [e] at hn1; simp at hn1)) ?_
    rintro ⟨br, or', rfl⟩
    generalize q[n] = x at hqn hx hrx htk hlx
    obtain ⟨xt, ⟨xv, hxv⟩, xl⟩ := x
    dsimp only [rrV] at hx hrx hlx
    refine ok_learn (VwIn.slice (VwIn.here hrx)) ?_
    rintro ⟨px, cx, rfl⟩
    have hcl := copy04_spec xl (.slice px (xl.map valV).length cx) Q hrx (by omega)
    repeat' (first | (refine go_Y ?_; intros) | (refine gs_Y ?_ ?_ <;> (intro hgd; try (simp only [Bool.not_true, Bool.not_false] at hgd))) | (refine gc_Y ?_ ?_ <;> intro _) | fail)
    (apply ok_draw [21, 23]; (focus (kernel_rfl)); (focus ((conv => lhs; whnf); first | done | rfl)); (focus (decide +kernel)); (focus (exact (fun _ h => h))))
    repeat' (first | (refine go_Y ?_; intros) | (refine gs_Y ?_ ?_ <;> (intro hgd; try (simp only [Bool.not_true, Bool.not_false] at hgd))) | (refine gc_Y ?_ ?_ <;> intro _) | fail)
    refine clN_Y (hcl) ?_
    rintro ⟨vn, hvn⟩ _
    refine ops_learn (rowShapeS (e := 50) (n := 4) (v := vn) (xs := xl.map valV) (by decide) takeD) ?_
    rintro ⟨pn, cn, rfl, hcn, hsn⟩
    repeat' (first | (refine go_Y ?_; intros) | (refine gs_Y ?_ ?_ <;> (intro hgd; try (simp only [Bool.not_true, Bool.not_false] at hgd))) | (refine gc_Y ?_ ?_ <;> intro _) | fail)
    rename_i v1 hv1 v2 hv2
    refine cont_map (fun _ h => pool_in (A := row 50 4 (.slice pn (xl.map valV).length cn) (xl.map valV)) (P := Q) (Take.out2 takeD h)) ?_
    refine cont_map (L' := [pool (row 50 4 (.slice pn (xl.map valV).length cn) (xl.map valV)) Q, pts bc (.cells [.slice pv' (ts'.map tbV).length cv', v2, .int .u64 r.turns].toArray 47), row 114 2 v2 ((acc ++ ([⟨xt, ⟨.slice pn (xl.map valV).length cn, rfl⟩, xl⟩] : List Rr)).map rrV), pts b (.cells [.slice pv (ts.map tbV).length cv, .slice (some ⟨br, or', none⟩) (q.map rrV).length cr, .int .u64 r.turns].toArray 47), row 114 2 (.slice (some ⟨br, or', none⟩) (q.map rrV).length cr) (q.map rrV)] ++ R) (by rw [List.map_append]; exact entD) ?_
    refine cont_back (n + 1, ⟨(⟨v2, hv2⟩, acc ++ ([⟨xt, ⟨.slice pn (xl.map valV).length cn, rfl⟩, xl⟩] : List Rr), pool (row 50 4 (.slice pn (xl.map valV).length cn) (xl.map valV)) Q), hE.trans (Ext.pool _ _), fun x hx => ?_⟩) ⟨h0, ?_, ⟨rfl, rfl, rfl, trivial⟩, rfl⟩ (by dsimp only; omega)
    · rcases List.mem_append.1 hx with hx | hx
      · exact (Ext.pool _ _).vw (hcr2 x hx)
      · rw [List.mem_singleton] at hx; subst hx; exact pool_row
    · dsimp only
      rw [List.map_append, he, htk, List.map_append]; rfl
abbrev GOp (A : HProp) := { g : V1s × List Om × HProp // Ext A g.2.2 ∧ (∀ x ∈ g.2.1, OmR g.2.2 x) }
set_option maxHeartbeats 4000000 in
theorem copyOps_spec (vo : Value) (ops : List Om) (A : HProp) (h : OsR A vo ops) (hs : smallO ops) :
    FSpec Tryz.prog 19 [vo] [A] (V1s × List Om × HProp) (fun y => Ext A y.2.2 ∧ (∀ x ∈ y.2.1, OmR y.2.2 x) ∧ y.2.1.map Om.c = ops.map Om.c) (fun y => y.1.1) (fun y => [row 39 3 y.1.1 (y.2.1.map opV), y.2.2]) := by
  obtain ⟨hvo, hop, _⟩ := h
  obtain ⟨h300, hrow⟩ := hs
  have la : (ops.map opV).length = ops.length := by simp
  refine spec_intro [] _ Tryz.func19 rfl Tryz.ntmps19 (by rfl) (fun w0 R => ?_)
  refine ok_learn (VwIn.slice (VwIn.here hvo)) ?_
  rintro ⟨pu, cu, rfl⟩
  repeat' (first | (refine go_Y ?_; intros) | (refine gs_Y ?_ ?_ <;> (intro hgd; try (simp only [Bool.not_true, Bool.not_false] at hgd))) | (refine gc_Y ?_ ?_ <;> intro _) | fail)
  refine ok_map (fun _ h => nilRow (e := 39) (n := 3) h) ?_
  refine ok_map (L' := [A, row 39 3 (.slice none 0 0) []] ++ R) entD ?_
  refine ok_loop' (γ := Nat × GOp A) (fun g ρ L => g.1 ≤ ops.length ∧ g.2.1.2.1.map Om.c = (ops.take g.1).map Om.c ∧ Knows ρ [(0, .slice pu (ops.map opV).length cu), (3, g.2.1.1.1), (4, .int .i64 g.1)] ∧ L = [g.2.1.2.2, row 39 3 g.2.1.1.1 (g.2.1.2.1.map opV)] ++ R) (fun g => ops.length - g.1)
    (0, ⟨(⟨.slice none 0 0, rfl⟩, [], A), Ext.refl A, fun _ h => by simp at h⟩) ⟨by simp, rfl, ⟨rfl, rfl, rfl, trivial⟩, rfl⟩ ?_
  rintro ⟨i, ⟨⟨v, hv⟩, l', P⟩, hE, hcr⟩ ρ L ⟨hi, he, hk, rfl⟩
  dsimp only at hE hcr hi he hk ⊢
  refine ok_regs hk ?_
  have hP := hE.vw hvo
  have hl' : l'.length = i := by have := congrArg List.length he; simp at this; omega
  have hl'' : (l'.map opV).length = i := by rw [List.length_map, hl']
  refine ok_learn (rowShapeS (e := 39) (n := 3) (v := v) (xs := l'.map opV) (by decide) takeD) ?_
  rintro ⟨pv, cv, rfl, hcv, hsv⟩
  cases t1 : decide ((i : Int) < ((ops.map opV).length : Int)) with
  | false =>
    have hie : i = ops.length := by have := of_decide_eq_false t1; omega
    rw [hie, List.take_length] at he
    repeat' (first | (refine go_Y ?_; intros) | (refine gs_Y ?_ ?_ <;> (intro hgd; try (simp only [Bool.not_true, Bool.not_false] at hgd))) | (refine gc_Y ?_ ?_ <;> intro _) | fail)
    (refine rt_Y (y := (⟨.slice pv (l'.map opV).length cv, rfl⟩, l', P)) (hrs := Tryz.results19) (hv := ?_) (hφ := ?_))
    · rfl
    · exact ⟨hE, hcr, he⟩
  | true =>
    have h0 : i < ops.length := by have := of_decide_eq_true t1; omega
    have hx : (ops.map opV)[i]? = some (opV ops[i]) := by rw [List.getElem?_map, List.getElem?_eq_getElem h0]; rfl
    have hn1 : i < (ops.map opV).length := by omega
    have t1a : ops.take (i + 1) = ops.take i ++ [ops[i]] := List.take_succ_eq_append_getElem h0
    have hom := hop _ (List.getElem_mem h0)
    have hrl := hrow _ (List.getElem_mem h0)
    refine ok_learn (VwIn.base (VwIn.here hP) (by intro e; rw [e] at hn1; simp at hn1)) ?_
    rintro ⟨bu, ou, rfl⟩
    generalize ops[i] = o at hx t1a hom hrl
    obtain ⟨ok, ot, ⟨ov, hov⟩, ol⟩ := o
    have how := hE.vw hom.vw
    obtain ⟨_, hol, hot⟩ := hom
    dsimp only [opV] at hx hrl how hol hot
    refine ok_learn (VwIn.slice (VwIn.here how)) ?_
    rintro ⟨po, co, rfl⟩
    have s1 := copy04_spec ol (.slice po (ol.map valV).length co) P how (by omega)
    repeat' (first | (refine go_Y ?_; intros) | (refine gs_Y ?_ ?_ <;> (intro hgd; try (simp only [Bool.not_true, Bool.not_false] at hgd))) | (refine gc_Y ?_ ?_ <;> intro _) | fail)
    refine cl_Y (s1) ?_
    rintro ⟨vb, hvb⟩ _
    refine ops_learn (rowShapeS (e := 50) (n := 4) (v := vb) (xs := ol.map valV) (by decide) takeD) ?_
    rintro ⟨pb, cb, rfl, hcb, hsb⟩
    repeat' (first | (refine go_Y ?_; intros) | (refine gs_Y ?_ ?_ <;> (intro hgd; try (simp only [Bool.not_true, Bool.not_false] at hgd))) | (refine gc_Y ?_ ?_ <;> intro _) | fail)
    rename_i v1 hv1 v2 hv2
    refine cont_map (fun _ h => pool_in (A := row 50 4 (.slice pb (ol.map valV).length cb) (ol.map valV)) (P := P) (Take.out2 takeD h)) ?_
    refine cont_map (L' := [pool (row 50 4 (.slice pb (ol.map valV).length cb) (ol.map valV)) P, row 39 3 v2 ((l' ++ ([⟨ok, ot, ⟨.slice pb (ol.map valV).length cb, rfl⟩, ol⟩] : List Om)).map opV)] ++ R) (by rw [List.map_append]; exact entD) ?_
    refine cont_back (i + 1, ⟨(⟨v2, hv2⟩, l' ++ ([⟨ok, ot, ⟨.slice pb (ol.map valV).length cb, rfl⟩, ol⟩] : List Om), pool (row 50 4 (.slice pb (ol.map valV).length cb) (ol.map valV)) P), hE.trans (Ext.pool _ _), fun x hx => ?_⟩) ⟨h0, ?_, ⟨rfl, rfl, rfl, trivial⟩, rfl⟩ (by dsimp only; omega)
    · rcases List.mem_append.1 hx with hx | hx
      · exact ⟨(Ext.pool _ _).vw (hcr x hx).vw, (hcr x hx).len, (hcr x hx).txt⟩
      · rw [List.mem_singleton] at hx; subst hx
        exact ⟨pool_row, hol, hot⟩
    · dsimp only
      rw [List.map_append, he, t1a, List.map_append]; rfl
end Go.Proofs.YtbagfdolcabniaaGreatDoor
