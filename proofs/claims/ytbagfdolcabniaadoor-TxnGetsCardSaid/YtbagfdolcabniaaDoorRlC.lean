/- The walk of rel.clone. -/
import Derived.Test.YtbagfdolcabniaaDoorRlB
-- @DEFS Y
set_option linter.unusedSimpArgs false
set_option linter.unusedVariables false
set_option maxRecDepth 100000
namespace Go.Proofs.YtbagfdolcabniaaDoor
open Go Go.Fx Go.Proofs Go.Pl

theorem TbOk.ext {P P' : HProp} (e : Ext P P') {t : Tb} (h : TbOk P t) : TbOk P' t := ⟨e.vw h.vw, h.len, h.nm, h.cnm⟩
theorem SV.ext {P P' : HProp} (e : Ext P P') {vs : Value} {ts : List Tb} (h : SV P vs ts) : SV P' vs ts := ⟨e.vw h.vw, fun t ht => (h.tab t ht).ext e, h.len, h.cap⟩
theorem UT.ext {P P' : HProp} (e : Ext P P') (h : UT P) : UT P' := fun w ⟨f, l, hf⟩ => by
  obtain ⟨f', l', hf'⟩ := e f hf
  exact h w ⟨f', l'.trans l, hf'⟩
theorem Vl.wf_all {l : List Vl} (h : ∀ v ∈ l, v.wf) : ∀ v ∈ l, v.wf := h

set_option maxHeartbeats 2000000 in
theorem relClone_spec (vs : Value) (ts : List Tb) (A : HProp) (h : SV A vs ts) (h1 : 1 ≤ ts.length) :
    FSpec Tryd.prog 54 [.agg #[vs]] [A] ({ v : Value // v.oneCell' = true } × List Tb × HProp) (fun y => SV y.2.2 y.1.1 y.2.1 ∧ y.2.1.map Tb.c = ts.map Tb.c ∧ Ext A y.2.2) (fun y => .agg #[y.1.1]) (fun y => [y.2.2]) := by
  have hlen := h.len
  have hct := cloneT_spec vs A ts h.vw (by omega)
  have hlm : (ts.map tbV).length = ts.length := by simp
  refine spec_intro [] _ Tryd.func54 rfl Tryd.ntmps54 (by rfl) (fun w0 R => ?_)
  refine ok_learn (VwIn.slice (VwIn.here h.vw)) ?_
  rintro ⟨pv, cv, rfl⟩
  repeat' (first | (refine go_Y ?_; intros) | (refine gs_Y ?_ ?_ <;> (intro hgd; try (simp only [Bool.not_true, Bool.not_false] at hgd))) | (refine gc_Y ?_ ?_ <;> intro _) | fail)
  refine cl_Y (hct) ?_
  rintro ⟨vt, hvt⟩ _
  refine ops_learn (rowShape (e := 47) (n := 5) (v := vt) (xs := ts.map tbV) (by decide) takeD) ?_
  rintro (⟨rfl, hn⟩ | ⟨g, cap, rfl, hcap⟩)
  · exfalso
    have := congrArg List.length hn
    rw [hlm, List.length_nil] at this; omega
  repeat' (first | (refine go_Y ?_; intros) | (refine gs_Y ?_ ?_ <;> (intro hgd; try (simp only [Bool.not_true, Bool.not_false] at hgd))) | (refine gc_Y ?_ ?_ <;> intro _) | fail)
  rename_i b1 b2 _ b3
  refine ok_map (L' := [A, pts b3 (.cells [.slice (some ⟨g, 0, none⟩) (ts.map tbV).length cap].toArray 24), row 47 5 (.slice (some ⟨g, 0, none⟩) (ts.map tbV).length cap) (ts.map tbV), pts b2 (.cells [.slice none 0 0].toArray 24)] ++ R) entD ?_
  refine ok_loop' (γ := Nat × List Tb × HProp) (fun y ρ L => y.1 ≤ ts.length ∧ (∀ t ∈ y.2.1, TbOk y.2.2 t) ∧ y.2.1.map Tb.c = ts.map Tb.c ∧ Ext A y.2.2 ∧
      Knows ρ [(2, .pointer (some ⟨b2, 0, none⟩)), (3, .pointer (some ⟨b3, 0, none⟩)), (11, .int .i64 ((ts.map tbV).length : Int)), (12, .int .i64 y.1)] ∧
      L = [y.2.2, pts b3 (.cells [.slice (some ⟨g, 0, none⟩) (ts.map tbV).length cap].toArray 24), row 47 5 (.slice (some ⟨g, 0, none⟩) (ts.map tbV).length cap) (y.2.1.map tbV), pts b2 (.cells [.slice none 0 0].toArray 24)] ++ R) (fun y => ts.length - y.1)
    (0, ts, A) ⟨by omega, h.tab, rfl, Ext.refl A, ⟨rfl, rfl, rfl, rfl, trivial⟩, rfl⟩ ?_
  rintro ⟨k, tk, P⟩ ρ L ⟨hk1, htab, hmc, hext, hk, rfl⟩
  dsimp only at hk1 htab hmc hext hk ⊢
  refine ok_regs hk ?_
  have htl : tk.length = ts.length := by have := congrArg List.length hmc; simpa using this
  cases t1 : decide ((k : Int) < ((ts.map tbV).length : Int)) with
  | true =>
    have hkl : k < tk.length := by have := of_decide_eq_true t1; omega
    have hn1 : k < (ts.map tbV).length := by omega
    have hki : tk[k]? = some tk[k] := List.getElem?_eq_getElem hkl
    have hx : (tk.map tbV)[k]? = some (tbV tk[k]) := by rw [List.getElem?_map, hki]; rfl
    have htb := htab _ (List.getElem_mem hkl)
    have hcc := cloneC_spec tk[k].cv.1 P tk[k].cols htb.vw (by have := htb.len; omega)
    have hset : ∀ v, (tk.map tbV).set k ((tbV tk[k]).set 1 v.1) = (tk.set k { tk[k] with cv := v }).map tbV := fun v => by rw [List.map_set]; rfl
    have hcs : ∀ v, (tk.set k { tk[k] with cv := v }).map Tb.c = ts.map Tb.c := fun v => by
      rw [List.map_set, ← hmc]
      apply List.ext_getElem?
      intro j
      rw [List.getElem?_set]
      split
      · rename_i e; subst e
        rw [List.getElem?_map, hki]
        rw [if_pos (by rw [List.length_map]; exact hkl)]; rfl
      · rfl
    have hts : ∀ v P', Ext P P' → Vw P' 3 v.1 (tk[k].cols.map coV) → ∀ t ∈ tk.set k { tk[k] with cv := v }, TbOk P' t := fun v P' e hv t ht => by
      rcases List.mem_or_eq_of_mem_set ht with ht | rfl
      · exact (htab t ht).ext e
      · exact ⟨hv, htb.len, htb.nm, htb.cnm⟩
    generalize tk[k] = t at hx htb hcc hset hcs hts
    obtain ⟨tn, cols, ⟨cv', hcv'⟩, key, ref, par⟩ := t
    dsimp only [tbV] at hx htb hcc hset hts
    repeat' (first | (refine go_Y ?_; intros) | (refine gs_Y ?_ ?_ <;> (intro hgd; try (simp only [Bool.not_true, Bool.not_false] at hgd))) | (refine gc_Y ?_ ?_ <;> intro _) | fail)
    (apply ok_draw [9]; (focus (kernel_rfl)); (focus ((conv => lhs; whnf); first | done | rfl)); (focus (decide +kernel)); (focus (exact (fun _ h => h))))
    repeat' (first | (refine go_Y ?_; intros) | (refine gs_Y ?_ ?_ <;> (intro hgd; try (simp only [Bool.not_true, Bool.not_false] at hgd))) | (refine gc_Y ?_ ?_ <;> intro _) | fail)
    refine clN_Y (hcc) ?_
    rintro ⟨vc, hvc⟩ _
    repeat' (first | (refine go_Y ?_; intros) | (refine gs_Y ?_ ?_ <;> (intro hgd; try (simp only [Bool.not_true, Bool.not_false] at hgd))) | (refine gc_Y ?_ ?_ <;> intro _) | fail)
    refine ops_run (s_storeRowN (y := [.string tn, cv', .int .i64 key, .int .i64 ref, .int .i64 par]) (by rfl) (by rfl) (one_cells hvc) hvc selD hx rfl rfl ?_)
    have hs1 := hset ⟨vc, hvc⟩
    dsimp only at hs1
    rw [hs1]
    repeat' (first | (refine go_Y ?_; intros) | (refine gs_Y ?_ ?_ <;> (intro hgd; try (simp only [Bool.not_true, Bool.not_false] at hgd))) | (refine gc_Y ?_ ?_ <;> intro _) | fail)
    refine cont_map (fun _ h => pool_in (A := row 150 3 vc (cols.map coV)) (P := P) (Take.out2 takeD h)) ?_
    refine cont_map (L' := [pool (row 150 3 vc (cols.map coV)) P, pts b3 (.cells [.slice (some ⟨g, 0, none⟩) (ts.map tbV).length cap].toArray 24), row 47 5 (.slice (some ⟨g, 0, none⟩) (ts.map tbV).length cap) ((tk.set k ⟨tn, cols, ⟨vc, hvc⟩, key, ref, par⟩).map tbV), pts b2 (.cells [.slice none 0 0].toArray 24)] ++ R) entD ?_
    refine cont_back (k + 1, tk.set k ⟨tn, cols, ⟨vc, hvc⟩, key, ref, par⟩, pool (row 150 3 vc (cols.map coV)) P) ⟨by dsimp only; omega, hts ⟨vc, hvc⟩ _ (Ext.pool _ _) pool_row, hcs ⟨vc, hvc⟩, hext.trans (Ext.pool _ _), ⟨rfl, rfl, rfl, rfl, trivial⟩, rfl⟩ (by show ts.length - (k + 1) < ts.length - k; omega)
  | false =>
    have hlt : (ts.map tbV).length = (tk.map tbV).length := by rw [List.length_map, List.length_map, htl]
    repeat' (first | (refine go_Y ?_; intros) | (refine gs_Y ?_ ?_ <;> (intro hgd; try (simp only [Bool.not_true, Bool.not_false] at hgd))) | (refine gc_Y ?_ ?_ <;> intro _) | fail)
    refine cont_map (fun _ h => pool_in (A := row 47 5 (.slice (some ⟨g, 0, none⟩) (ts.map tbV).length cap) (tk.map tbV)) (P := P) (Take.out2 takeD h)) ?_
    (refine rt_Y (y := (⟨.slice (some ⟨g, 0, none⟩) (ts.map tbV).length cap, rfl⟩, tk, pool (row 47 5 (.slice (some ⟨g, 0, none⟩) (ts.map tbV).length cap) (tk.map tbV)) P)) (hrs := Tryd.results54) (hv := ?_) (hφ := ?_))
    · rfl
    · exact ⟨⟨pool_row, fun t ht => (htab t ht).ext (Ext.pool _ _), by dsimp only; omega, ⟨_, _, _, rfl, hcap⟩⟩, hmc, hext.trans (Ext.pool _ _)⟩
end Go.Proofs.YtbagfdolcabniaaDoor
