/- The walk of txn.Txn.Changes. -/
import Derived.Test.YtbagfdolcabniaaDoorTxE
-- @DEFS Y
set_option linter.unusedSimpArgs false
set_option linter.unusedVariables false
set_option maxRecDepth 100000
set_option pp.deepTerms true
set_option pp.maxSteps 200000
namespace Go.Proofs.YtbagfdolcabniaaDoor
open Go Go.Fx Go.Proofs Go.Pl

theorem cloneCh_spec (u : Value) (A : HProp) (l : List Cm) (hu : Vw A 4 u (l.map cmV)) (hl : l.length ≤ 1000000) :
    FSpec Tryd.prog 80 [u] [A] { v : Value // v.oneCell' = true } (fun _ => True) (fun y => y.1) (fun y => [row 82 4 y.1 (l.map cmV), A]) := by
  have hlm : (l.map cmV).length = l.length := by simp
  refine spec_intro [] _ Tryd.func80 rfl Tryd.ntmps80 (by rfl) (fun w0 R => ?_)
  refine ok_learn (VwIn.slice (VwIn.here hu)) ?_
  rintro ⟨pu, cu, rfl⟩
  cases pu with
  | none =>
    refine ok_learn (vw_none hu) ?_
    intro hn
    repeat' (first | (refine go_Y ?_; intros) | (refine gs_Y ?_ ?_ <;> (intro hgd; try (simp only [Bool.not_true, Bool.not_false] at hgd))) | (refine gc_Y ?_ ?_ <;> intro _) | fail)
    refine cont_map (fun _ h => nilRow (e := 82) (n := 4) h) ?_
    rw [hn]
    (refine rt_Y (y := ⟨.slice none 0 0, rfl⟩) (hrs := Tryd.results80) (hv := ?_) (hφ := ?_))
    · rfl
    · trivial
  | some a =>
    repeat' (first | (refine go_Y ?_; intros) | (refine gs_Y ?_ ?_ <;> (intro hgd; try (simp only [Bool.not_true, Bool.not_false] at hgd))) | (refine gc_Y ?_ ?_ <;> intro _) | fail)
    rename_i v1 _ v2 hv2
    (refine rt_Y (y := ⟨v2, hv2⟩) (hrs := Tryd.results80) (hv := ?_) (hφ := ?_))
    · rfl
    · trivial

set_option maxHeartbeats 4000000 in
theorem txChanges_spec (b bn : Nat) (x : Tx) (P : HProp) (hx : x.Ok) : FSpec Tryd.prog 38 [.pointer (some ⟨b, 0, none⟩)] [txP P b bn x, P] (V1s × List Cm × HProp)
    (fun y => Ext P y.2.2 ∧ (∀ c ∈ y.2.1, CmR y.2.2 c) ∧ y.2.1.map Cm.c = x.l) (fun y => y.1.1) (fun y => [row 82 4 y.1.1 (y.2.1.map cmV), txP y.2.2 b bn x, y.2.2]) := by
  refine fspec_ex ?_
  rintro ⟨⟨bw, vr, rs, vl, cs⟩, hy⟩
  have hin := fun P' (e : Ext P P') L h (s : SatL (txL P' b bn x ⟨⟨bw, vr, rs, vl, cs⟩, hy.ext e⟩ ++ L) h) => tx_in (hy.ext e) s
  unfold txL at hin ⊢
  dsimp only at hin ⊢
  obtain ⟨h1, h2, h3, h4, h5, h6⟩ := hy
  dsimp only at h1 h2 h3 h4 h5 h6
  have hcl : cs.length = x.l.length := by rw [← h6]; simp
  have hcm : (cs.map cmV).length = cs.length := by simp
  have hl60 := hx.len
  have hchg : ∀ c ∈ cs, c.bef.length ≤ 1000000 ∧ c.aft.length ≤ 1000000 := fun c hc => hx.chg c.c (by rw [← h6]; exact List.mem_map_of_mem hc)
  have hchl : ∀ (c : Cm) (ck : List Cm), ck.map Cm.c = x.l → c ∈ ck → c.bef.length ≤ 1000000 ∧ c.aft.length ≤ 1000000 := fun c ck e hc => hx.chg c.c (by rw [← e]; exact List.mem_map_of_mem hc)
  have hclo := cloneCh_spec vl (row 82 4 vl (cs.map cmV)) cs Vw.row (by omega)
  refine spec_intro [] _ Tryd.func38 rfl Tryd.ntmps38 (by rfl) (fun w0 R => ?_)
  repeat' (first | (refine go_Y ?_; intros) | (refine gs_Y ?_ ?_ <;> (intro hgd; try (simp only [Bool.not_true, Bool.not_false] at hgd))) | (refine gc_Y ?_ ?_ <;> intro _) | fail)
  refine cl_Y (hclo) ?_
  rintro ⟨vt, hvt⟩ _
  refine ops_learn (row_shape' (e := 82) (n := 4) (v := vt) (xs := cs.map cmV) (by decide) takeD) ?_
  rintro ⟨pt, ct, rfl, hct⟩
  repeat' (first | (refine go_Y ?_; intros) | (refine gs_Y ?_ ?_ <;> (intro hgd; try (simp only [Bool.not_true, Bool.not_false] at hgd))) | (refine gc_Y ?_ ?_ <;> intro _) | fail)
  refine ok_map (L' := [P, row 82 4 (.slice pt (cs.map cmV).length ct) (cs.map cmV), pts b (.cells [.pointer (some ⟨bn, 0, none⟩), .pointer (some ⟨bw, 0, none⟩), .int .u64 x.t0, vr, vl, .bool x.over].toArray 122), row 124 1 vr (rs.map rmF), row 82 4 vl (cs.map cmV), relP P bw x.own] ++ R) entD ?_
  refine ok_loop' (γ := Nat × List Cm × HProp) (fun y ρ L => y.1 ≤ cs.length ∧ (∀ c ∈ y.2.1, CmR y.2.2 c) ∧ y.2.1.map Cm.c = x.l ∧ Ext P y.2.2 ∧
      Knows ρ [(3, .slice pt (cs.map cmV).length ct), (13, .slice pt (cs.map cmV).length ct), (14, .int .i64 ((cs.map cmV).length : Int)), (15, .int .i64 y.1)] ∧
      L = [y.2.2, row 82 4 (.slice pt (cs.map cmV).length ct) (y.2.1.map cmV), pts b (.cells [.pointer (some ⟨bn, 0, none⟩), .pointer (some ⟨bw, 0, none⟩), .int .u64 x.t0, vr, vl, .bool x.over].toArray 122), row 124 1 vr (rs.map rmF), row 82 4 vl (cs.map cmV), relP P bw x.own] ++ R) (fun y => cs.length - y.1)
    (0, cs, P) ⟨by omega, h5, h6, Ext.refl P, ⟨rfl, rfl, rfl, rfl, trivial⟩, rfl⟩ ?_
  rintro ⟨k, ck, Q⟩ ρ L ⟨hk1, hcr, hmc, hext, hk, rfl⟩
  dsimp only at hk1 hcr hmc hext hk ⊢
  refine ok_regs hk ?_
  have hckl : ck.length = cs.length := by rw [hcl, ← hmc]; simp
  cases t1 : decide ((k : Int) < ((cs.map cmV).length : Int)) with
  | true =>
    have hkl : k < ck.length := by have := of_decide_eq_true t1; omega
    have hn1 : k < (cs.map cmV).length := by omega
    have hki : ck[k]? = some ck[k] := List.getElem?_eq_getElem hkl
    have hxx : (ck.map cmV)[k]? = some (cmV ck[k]) := by rw [List.getElem?_map, hki]; rfl
    have hckm := List.getElem_mem hkl
    have hc := hcr _ hckm
    obtain ⟨hb1, ha1⟩ := hchl _ _ hmc hckm
    have hset : ∀ v u, ((ck.map cmV).set k ((cmV ck[k]).set 2 v.1)).set k (((cmV ck[k]).set 2 v.1).set 3 u.1) = (ck.set k { ck[k] with bv := v, av := u }).map cmV := fun v u => by rw [List.map_set, List.set_set]; rfl
    have hcs : ∀ v u, (ck.set k { ck[k] with bv := v, av := u }).map Cm.c = x.l := fun v u => by
      rw [List.map_set, ← hmc]
      apply List.ext_getElem?
      intro j
      rw [List.getElem?_set]
      split
      · rename_i e; subst e
        rw [List.getElem?_map, hki]
        rw [if_pos (by rw [List.length_map]; exact hkl)]; rfl
      · rfl
    have hts : ∀ v u P', Ext Q P' → Vw P' 4 v.1 (ck[k].bef.map valV) → Vw P' 4 u.1 (ck[k].aft.map valV) → ∀ t ∈ ck.set k { ck[k] with bv := v, av := u }, CmR P' t := fun v u P' e hv hu t ht => by
      rcases List.mem_or_eq_of_mem_set ht with ht | rfl
      · exact (hcr t ht).ext e
      · exact ⟨hv, hu⟩
    have hsl : (ck.map cmV).length = (cs.map cmV).length := by rw [List.length_map, List.length_map, hckl]
    refine ok_learn (rowShape (e := 82) (n := 4) (v := .slice pt (cs.map cmV).length ct) (xs := ck.map cmV) (by decide) takeD) ?_
    rintro (⟨e, hn⟩ | ⟨g, cap, e, _⟩)
    · rw [hn] at hsl; simp at hsl; omega
    simp only [Value.slice.injEq] at e
    obtain ⟨rfl, _, rfl⟩ := e
    generalize ck[k] = c at hxx hc hb1 ha1 hset hcs hts
    obtain ⟨ckd, ctb, ⟨cbv, hcbv⟩, cbef, ⟨cav, hcav⟩, caft⟩ := c
    obtain ⟨hvb, hva⟩ := hc
    dsimp only at hvb hva hb1 ha1 hts hcs hset
    dsimp only [cmV] at hxx hset
    refine ok_learn (VwIn.slice (VwIn.here hvb)) ?_
    rintro ⟨pb, cb, rfl⟩
    refine ok_learn (VwIn.slice (VwIn.here hva)) ?_
    rintro ⟨pa, ca, rfl⟩
    have hc1 := cloneV_spec (.slice pb (cbef.map valV).length cb) Q cbef hvb hb1
    have hc2 := cloneV_spec (.slice pa (caft.map valV).length ca) Q caft hva ha1
    repeat' (first | (refine go_Y ?_; intros) | (refine gs_Y ?_ ?_ <;> (intro hgd; try (simp only [Bool.not_true, Bool.not_false] at hgd))) | (refine gc_Y ?_ ?_ <;> intro _) | fail)
    rename_i b5
    refine ok_map (L' := [Q, row 82 4 (.slice (some ⟨g, 0, none⟩) (cs.map cmV).length ct) (ck.map cmV), pts b5 (.cells [.int .u8 ckd, .int .i64 ctb, .slice pb (cbef.map valV).length cb, .slice pa (caft.map valV).length ca].toArray 82), pts b (.cells [.pointer (some ⟨bn, 0, none⟩), .pointer (some ⟨bw, 0, none⟩), .int .u64 x.t0, vr, vl, .bool x.over].toArray 122), row 124 1 vr (rs.map rmF), row 82 4 vl (cs.map cmV), relP P bw x.own] ++ R) entD ?_
    refine ok_drawL (cv := []) [6] ([pts b5 (.cells [.int .u8 ckd, .int .i64 ctb, .slice pb (cbef.map valV).length cb, .slice pa (caft.map valV).length ca].toArray 82)]) (takeD) (by kernel_rfl) rfl (by decide +kernel) ?_
    repeat' (first | (refine go_Y ?_; intros) | (refine gs_Y ?_ ?_ <;> (intro hgd; try (simp only [Bool.not_true, Bool.not_false] at hgd))) | (refine gc_Y ?_ ?_ <;> intro _) | fail)
    refine clN_Y (hc1) ?_
    rintro ⟨v1, hv1⟩ _
    repeat' (first | (refine go_Y ?_; intros) | (refine gs_Y ?_ ?_ <;> (intro hgd; try (simp only [Bool.not_true, Bool.not_false] at hgd))) | (refine gc_Y ?_ ?_ <;> intro _) | fail)
    refine cl_Y (hc2) ?_
    rintro ⟨v2, hv2⟩ _
    repeat' (first | (refine go_Y ?_; intros) | (refine gs_Y ?_ ?_ <;> (intro hgd; try (simp only [Bool.not_true, Bool.not_false] at hgd))) | (refine gc_Y ?_ ?_ <;> intro _) | fail)
    have hs1 := hset ⟨v1, hv1⟩ ⟨v2, hv2⟩
    have hset1 : ((ck.map cmV).set k ([.int .u8 ckd, .int .i64 ctb, .slice pb (cbef.map valV).length cb, .slice pa (caft.map valV).length ca].set 2 v1))[k]? = some ([.int .u8 ckd, .int .i64 ctb, .slice pb (cbef.map valV).length cb, .slice pa (caft.map valV).length ca].set 2 v1) := by rw [List.getElem?_set_self (by omega)]
    refine ops_run (s_storeRowN (y := [.int .u8 ckd, .int .i64 ctb, .slice pb (cbef.map valV).length cb, .slice pa (caft.map valV).length ca]) (by rfl) (by rfl) (one_cells hv1) hv1 selD hxx rfl rfl ?_)
    repeat' (first | (refine go_Y ?_; intros) | (refine gs_Y ?_ ?_ <;> (intro hgd; try (simp only [Bool.not_true, Bool.not_false] at hgd))) | (refine gc_Y ?_ ?_ <;> intro _) | fail)
    refine ops_run (s_storeRowN (y := [.int .u8 ckd, .int .i64 ctb, .slice pb (cbef.map valV).length cb, .slice pa (caft.map valV).length ca].set 2 v1) (by rfl) (by rfl) (one_cells hv2) hv2 selD hset1 rfl rfl ?_)
    rw [hs1]
    repeat' (first | (refine go_Y ?_; intros) | (refine gs_Y ?_ ?_ <;> (intro hgd; try (simp only [Bool.not_true, Bool.not_false] at hgd))) | (refine gc_Y ?_ ?_ <;> intro _) | fail)
    have e1 := Ext.pool (row 31 4 v1 (cbef.map valV)) Q
    have w1 : Vw (pool (row 31 4 v1 (cbef.map valV)) Q) 4 v1 (cbef.map valV) := pool_row
    refine cont_map (fun _ h => pool_in (A := row 31 4 v1 (cbef.map valV)) (P := Q) (Take.out2 takeD h)) ?_
    generalize pool (row 31 4 v1 (cbef.map valV)) Q = Q1 at e1 w1
    have e2 := Ext.pool (row 31 4 v2 (caft.map valV)) Q1
    have w2 : Vw (pool (row 31 4 v2 (caft.map valV)) Q1) 4 v2 (caft.map valV) := pool_row
    refine cont_map (fun _ h => pool_in (A := row 31 4 v2 (caft.map valV)) (P := Q1) (Take.out2 takeD h)) ?_
    generalize pool (row 31 4 v2 (caft.map valV)) Q1 = Q2 at e2 w2
    have e12 := e1.trans e2
    have hts' := hts ⟨v1, hv1⟩ ⟨v2, hv2⟩ Q2 e12 (e2.vw w1) w2
    have hcs' := hcs ⟨v1, hv1⟩ ⟨v2, hv2⟩
    refine cont_map (L' := [Q2, row 82 4 (.slice (some ⟨g, 0, none⟩) (cs.map cmV).length ct) ((ck.set k ⟨ckd, ctb, ⟨v1, hv1⟩, cbef, ⟨v2, hv2⟩, caft⟩).map cmV), pts b (.cells [.pointer (some ⟨bn, 0, none⟩), .pointer (some ⟨bw, 0, none⟩), .int .u64 x.t0, vr, vl, .bool x.over].toArray 122), row 124 1 vr (rs.map rmF), row 82 4 vl (cs.map cmV), relP P bw x.own] ++ R) entD ?_
    refine cont_back (k + 1, ck.set k ⟨ckd, ctb, ⟨v1, hv1⟩, cbef, ⟨v2, hv2⟩, caft⟩, Q2) ⟨by dsimp only; omega, hts', hcs', hext.trans e12, ⟨rfl, rfl, rfl, rfl, trivial⟩, rfl⟩ (by show cs.length - (k + 1) < cs.length - k; omega)
  | false =>
    repeat' (first | (refine go_Y ?_; intros) | (refine gs_Y ?_ ?_ <;> (intro hgd; try (simp only [Bool.not_true, Bool.not_false] at hgd))) | (refine gc_Y ?_ ?_ <;> intro _) | fail)
    refine cont_map (fun _ h => relP_ext (b := bw) (r := x.own) hext (Take.out1 takeD h)) ?_
    refine cont_map (fun _ h => hin Q hext _ _ (Take.out takeD h)) ?_
    have hsl : (ck.map cmV).length = (cs.map cmV).length := by rw [List.length_map, List.length_map, hckl]
    (refine rt_Y (y := (⟨.slice pt (cs.map cmV).length ct, rfl⟩, ck, Q)) (hrs := Tryd.results38) (hv := ?_) (hφ := ?_))
    · rfl
    · exact ⟨hext, hcr, hmc⟩
end Go.Proofs.YtbagfdolcabniaaDoor
