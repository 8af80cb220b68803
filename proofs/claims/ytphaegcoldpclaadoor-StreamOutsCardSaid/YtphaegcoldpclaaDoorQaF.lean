import Derived.Test.YtphaegcoldpclaaDoorQaE
set_option linter.unusedSimpArgs false
set_option linter.unusedVariables false
set_option maxRecDepth 100000
namespace Go.Proofs.YtphaegcoldpclaaDoor
open Go Go.Fx Go.Proofs Go.Pl

set_option maxHeartbeats 8000000 in
theorem rMay_spec (vs : Value) (ts : List Tb) (A : HProp) (hvc : vs.oneCell' = true) (h : SV A vs ts) :
    FSpec Tryd.prog 14 [.agg #[vs]] [A] Unit (fun _ => True) (fun _ => .bool (checkS (ts.map Tb.c))) (fun _ => [A]) := by
  have hS := h
  obtain ⟨hvw, htab, hlen, _⟩ := h
  have hlm : (ts.map tbV).length = ts.length := by simp
  generalize hT : checkS (ts.map Tb.c) = T
  refine spec_intro [] _ Tryd.func14 rfl Tryd.ntmps14 (by rfl) (fun w0 R => ?_)
  refine ok_learn (VwIn.slice (VwIn.here hvw)) ?_
  rintro ⟨pv, cvv, rfl⟩
  cases n1 : decide (((ts.map tbV).length : Int) < 1) with
  | true =>
    obtain rfl : T = false := by
      rw [← hT]
      unfold checkS depthsS
      rw [if_pos (.inl (by have := of_decide_eq_true n1; rw [List.length_map]; omega))]; rfl
    repeat' (first | (refine go_Y ?_; intros) | (refine gs_Y ?_ ?_ <;> (intro hgd; try (simp only [Bool.not_true, Bool.not_false] at hgd))) | (refine gc_Y ?_ ?_ <;> intro _) | fail)
    (refine rt_Y (y := ()) (hrs := Tryd.results14) (hv := ?_) (hφ := ?_))
    · rfl
    · trivial
  | false =>
  cases n2 : decide ((12 : Int) < ((ts.map tbV).length : Int)) with
  | true =>
    obtain rfl : T = false := by
      rw [← hT]
      unfold checkS depthsS
      rw [if_pos (.inr (by have := of_decide_eq_true n2; rw [List.length_map]; omega))]; rfl
    repeat' (first | (refine go_Y ?_; intros) | (refine gs_Y ?_ ?_ <;> (intro hgd; try (simp only [Bool.not_true, Bool.not_false] at hgd))) | (refine gc_Y ?_ ?_ <;> intro _) | fail)
    (refine rt_Y (y := ()) (hrs := Tryd.results14) (hv := ?_) (hφ := ?_))
    · rfl
    · trivial
  | false =>
    have l1 : 1 ≤ ts.length := by have := of_decide_eq_false n1; omega
    have l2 : ts.length ≤ 12 := by have := of_decide_eq_false n2; omega
    repeat' (first | (refine go_Y ?_; intros) | (refine gs_Y ?_ ?_ <;> (intro hgd; try (simp only [Bool.not_true, Bool.not_false] at hgd))) | (refine gc_Y ?_ ?_ <;> intro _) | fail)
    rename_i b1
    refine ok_map (L' := [pts b1 (.cells [.slice pv (ts.map tbV).length cvv].toArray 24), A] ++ R) entD ?_
    refine ok_loop' (γ := Nat × { ds : List Int // True }) (fun g ρ L => g.1 ≤ ts.length ∧ UpTo ts g.1 g.2.1 ∧ Knows ρ [(1, .pointer (some ⟨b1, 0, none⟩)), (3, .int .i64 g.1)] ∧ L = [pts b1 (.cells [.slice pv (ts.map tbV).length cvv].toArray 24), A] ++ R) (fun g => ts.length - g.1)
      (0, ⟨[], trivial⟩) ⟨by simp, UpTo.zero, ⟨rfl, rfl, trivial⟩, rfl⟩ ?_
    rintro ⟨i, ⟨ds, _⟩⟩ ρ L ⟨hi, hu, hk, rfl⟩
    dsimp only at hi hu hk ⊢
    refine ok_regs hk ?_
    cases t1 : decide ((i : Int) < ((ts.map tbV).length : Int)) with
    | false =>
      have hie : i = ts.length := by have := of_decide_eq_false t1; omega
      subst hie
      obtain rfl : T = true := by rw [← hT]; exact hu.all l1 l2
      repeat' (first | (refine go_Y ?_; intros) | (refine gs_Y ?_ ?_ <;> (intro hgd; try (simp only [Bool.not_true, Bool.not_false] at hgd))) | (refine gc_Y ?_ ?_ <;> intro _) | fail)
      (refine rt_Y (y := ()) (hrs := Tryd.results14) (hv := ?_) (hφ := ?_))
      · rfl
      · trivial
    | true =>
      have h0 : i < ts.length := by have := of_decide_eq_true t1; omega
      have hti : ts[i]? = some ts[i] := List.getElem?_eq_getElem h0
      have hx : (ts.map tbV)[i]? = some (tbV ts[i]) := by rw [List.getElem?_map, hti]; rfl
      have hn1 : i < (ts.map tbV).length := by omega
      have hin := List.getElem_mem h0
      have hto := htab _ hin
      have hah : ∀ x ∈ ts.take i, TabOk x.c := fun x hx => hu.ok.tab _ (List.mem_map_of_mem hx)
      have hbs := rBelongs_spec (.slice pv (ts.map tbV).length cvv) ts i ts[i] A hvc hS hti hah
      have hds := fun (ht : ts[i].par < (i : Int)) => rDepth_spec (.slice pv (ts.map tbV).length cvv) ts ds i ts[i] A hvc hS hti hu.ok.dep ht hu.pd
      have hcs := rCols_spec ts[i] A hto
      have hns := rName_spec ts[i].name (by have := hto.nm; omega)
      have hbad := hu.bad h0 hti
      have hstep := hu.step h0 hti
      have hnam : nameS ts[i].name = false → T = false := fun hn => by
        rw [← hT]; exact checkS_names (namedS_no (List.mem_map_of_mem (f := fun x : Tc => x.name) (List.mem_map_of_mem (f := Tb.c) hin)) hn)
      have hdup : ts[i].name ∈ (ts.take i).map (·.name) → T = false := fun hm => by
        rw [← hT]
        refine checkS_names ?_
        have : ¬ ((ts.map Tb.c).map (·.name)).Nodup := fun hd => by
          rw [List.map_map] at hd
          have hd2 : ((ts.take (i + 1)).map (fun t : Tb => t.name)).Nodup := List.Nodup.sublist ((List.take_sublist ..).map _) hd
          rw [List.take_succ_eq_append_getElem h0, List.map_append, List.nodup_append] at hd2
          exact hd2.2.2 _ hm _ (List.mem_singleton.2 rfl) rfl
        unfold namedS; simp only [this, decide_false, Bool.and_false]
      refine ok_learn (VwIn.base (VwIn.there (VwIn.here hvw)) (by intro e; rw [e] at hn1; simp at hn1)) ?_
      rintro ⟨bu, ou, rfl⟩
      have hpar := fun (hb : belongsR ((ts.take i).map Tb.c) ts[i].c = true) => belongsR_par (ahead := (ts.take i).map Tb.c) (t := ts[i].c) hb
      rw [show (((ts.take i).map Tb.c).length : Int) = i by rw [List.length_map, List.length_take]; omega] at hpar
      rw [hT] at hbad
      generalize ts[i] = t at hx hto hbs hds hcs hns hbad hstep hnam hdup hpar hti
      obtain ⟨tn, cols, ⟨cv, hcv⟩, key, ref, par⟩ := t
      dsimp only [tbV, Tb.c] at hx hbs hds hcs hns hbad hstep hnam hdup hpar
      cases a1 : nameS tn with
      | false =>
        obtain rfl := hnam a1
        rw [a1] at hns
        repeat' (first | (refine go_Y ?_; intros) | (refine gs_Y ?_ ?_ <;> (intro hgd; try (simp only [Bool.not_true, Bool.not_false] at hgd))) | (refine gc_Y ?_ ?_ <;> intro _) | fail)
        refine cl_Y (hns) ?_
        intro _ _
        repeat' (first | (refine go_Y ?_; intros) | (refine gs_Y ?_ ?_ <;> (intro hgd; try (simp only [Bool.not_true, Bool.not_false] at hgd))) | (refine gc_Y ?_ ?_ <;> intro _) | fail)
        (refine rt_Y (y := ()) (hrs := Tryd.results14) (hv := ?_) (hφ := ?_))
        · rfl
        · trivial
      | true =>
        rw [a1] at hns
        cases a2 : colsR cols key with
        | false =>
          obtain rfl := hbad (fun c => by rw [a2] at c; cases c.1)
          rw [a2] at hcs
          repeat' (first | (refine go_Y ?_; intros) | (refine gs_Y ?_ ?_ <;> (intro hgd; try (simp only [Bool.not_true, Bool.not_false] at hgd))) | (refine gc_Y ?_ ?_ <;> intro _) | fail)
          refine cl_Y (hns) ?_
          intro _ _
          repeat' (first | (refine go_Y ?_; intros) | (refine gs_Y ?_ ?_ <;> (intro hgd; try (simp only [Bool.not_true, Bool.not_false] at hgd))) | (refine gc_Y ?_ ?_ <;> intro _) | fail)
          refine cl_Y (hcs) ?_
          intro _ _
          repeat' (first | (refine go_Y ?_; intros) | (refine gs_Y ?_ ?_ <;> (intro hgd; try (simp only [Bool.not_true, Bool.not_false] at hgd))) | (refine gc_Y ?_ ?_ <;> intro _) | fail)
          (refine rt_Y (y := ()) (hrs := Tryd.results14) (hv := ?_) (hφ := ?_))
          · rfl
          · trivial
        | true =>
          rw [a2] at hcs
          cases a3 : belongsR ((ts.take i).map Tb.c) ⟨tn, cols, key, ref, par⟩ with
          | false =>
            obtain rfl := hbad (fun c => by rw [a3] at c; cases c.2.1)
            rw [a3] at hbs
            repeat' (first | (refine go_Y ?_; intros) | (refine gs_Y ?_ ?_ <;> (intro hgd; try (simp only [Bool.not_true, Bool.not_false] at hgd))) | (refine gc_Y ?_ ?_ <;> intro _) | fail)
            refine cl_Y (hns) ?_
            intro _ _
            repeat' (first | (refine go_Y ?_; intros) | (refine gs_Y ?_ ?_ <;> (intro hgd; try (simp only [Bool.not_true, Bool.not_false] at hgd))) | (refine gc_Y ?_ ?_ <;> intro _) | fail)
            refine cl_Y (hcs) ?_
            intro _ _
            repeat' (first | (refine go_Y ?_; intros) | (refine gs_Y ?_ ?_ <;> (intro hgd; try (simp only [Bool.not_true, Bool.not_false] at hgd))) | (refine gc_Y ?_ ?_ <;> intro _) | fail)
            refine cl_Y (hbs) ?_
            intro _ _
            repeat' (first | (refine go_Y ?_; intros) | (refine gs_Y ?_ ?_ <;> (intro hgd; try (simp only [Bool.not_true, Bool.not_false] at hgd))) | (refine gc_Y ?_ ?_ <;> intro _) | fail)
            (refine rt_Y (y := ()) (hrs := Tryd.results14) (hv := ?_) (hφ := ?_))
            · rfl
            · trivial
          | true =>
            rw [a3] at hbs
            have hds := hds (hpar a3)
            generalize depR ds ⟨tn, cols, key, ref, par⟩ = dd at hds hbad hstep
            cases a4 : decide ((8 : Int) < dd) with
            | true =>
              obtain rfl := hbad (fun c => by have := of_decide_eq_true a4; omega)
              repeat' (first | (refine go_Y ?_; intros) | (refine gs_Y ?_ ?_ <;> (intro hgd; try (simp only [Bool.not_true, Bool.not_false] at hgd))) | (refine gc_Y ?_ ?_ <;> intro _) | fail)
              refine cl_Y (hns) ?_
              intro _ _
              repeat' (first | (refine go_Y ?_; intros) | (refine gs_Y ?_ ?_ <;> (intro hgd; try (simp only [Bool.not_true, Bool.not_false] at hgd))) | (refine gc_Y ?_ ?_ <;> intro _) | fail)
              refine cl_Y (hcs) ?_
              intro _ _
              repeat' (first | (refine go_Y ?_; intros) | (refine gs_Y ?_ ?_ <;> (intro hgd; try (simp only [Bool.not_true, Bool.not_false] at hgd))) | (refine gc_Y ?_ ?_ <;> intro _) | fail)
              refine cl_Y (hbs) ?_
              intro _ _
              repeat' (first | (refine go_Y ?_; intros) | (refine gs_Y ?_ ?_ <;> (intro hgd; try (simp only [Bool.not_true, Bool.not_false] at hgd))) | (refine gc_Y ?_ ?_ <;> intro _) | fail)
              refine cl_Y (hds) ?_
              intro _ _
              repeat' (first | (refine go_Y ?_; intros) | (refine gs_Y ?_ ?_ <;> (intro hgd; try (simp only [Bool.not_true, Bool.not_false] at hgd))) | (refine gc_Y ?_ ?_ <;> intro _) | fail)
              (refine rt_Y (y := ()) (hrs := Tryd.results14) (hv := ?_) (hφ := ?_))
              · rfl
              · trivial
            | false =>
              have hstep := hstep a1 a2 a3 (by have := of_decide_eq_false a4; omega)
              repeat' (first | (refine go_Y ?_; intros) | (refine gs_Y ?_ ?_ <;> (intro hgd; try (simp only [Bool.not_true, Bool.not_false] at hgd))) | (refine gc_Y ?_ ?_ <;> intro _) | fail)
              rename_i b4
              refine cl_Y (hns) ?_
              intro _ _
              repeat' (first | (refine go_Y ?_; intros) | (refine gs_Y ?_ ?_ <;> (intro hgd; try (simp only [Bool.not_true, Bool.not_false] at hgd))) | (refine gc_Y ?_ ?_ <;> intro _) | fail)
              refine cl_Y (hcs) ?_
              intro _ _
              repeat' (first | (refine go_Y ?_; intros) | (refine gs_Y ?_ ?_ <;> (intro hgd; try (simp only [Bool.not_true, Bool.not_false] at hgd))) | (refine gc_Y ?_ ?_ <;> intro _) | fail)
              refine cl_Y (hbs) ?_
              intro _ _
              repeat' (first | (refine go_Y ?_; intros) | (refine gs_Y ?_ ?_ <;> (intro hgd; try (simp only [Bool.not_true, Bool.not_false] at hgd))) | (refine gc_Y ?_ ?_ <;> intro _) | fail)
              refine cl_Y (hds) ?_
              intro _ _
              repeat' (first | (refine go_Y ?_; intros) | (refine gs_Y ?_ ?_ <;> (intro hgd; try (simp only [Bool.not_true, Bool.not_false] at hgd))) | (refine gc_Y ?_ ?_ <;> intro _) | fail)
              refine ok_map (L' := [pts b4 (.cells [.string tn, cv, .int .i64 key, .int .i64 ref, .int .i64 par].toArray 84), pts b1 (.cells [.slice (some ⟨bu, ou, none⟩) (ts.map tbV).length cvv].toArray 24), A] ++ R) entD ?_
              refine ok_loop' (γ := Nat) (fun k ρ L => k ≤ i ∧ tn ∉ (ts.take k).map (·.name) ∧
                  Knows ρ [(1, .pointer (some ⟨b1, 0, none⟩)), (3, .int .i64 i), (4, .pointer (some ⟨b4, 0, none⟩)), (5, .int .i64 k)] ∧ L = [pts b4 (.cells [.string tn, cv, .int .i64 key, .int .i64 ref, .int .i64 par].toArray 84), pts b1 (.cells [.slice (some ⟨bu, ou, none⟩) (ts.map tbV).length cvv].toArray 24), A] ++ R) (fun k => i - k)
                0 ⟨by omega, by simp, ⟨rfl, rfl, rfl, rfl, trivial⟩, rfl⟩ ?_
              rintro k ρ L ⟨hk1, hno, hk, rfl⟩
              refine ok_regs hk ?_
              cases t2 : decide ((k : Int) < (i : Int)) with
              | false =>
                have hke : k = i := by have := of_decide_eq_false t2; omega
                subst hke
                repeat' (first | (refine go_Y ?_; intros) | (refine gs_Y ?_ ?_ <;> (intro hgd; try (simp only [Bool.not_true, Bool.not_false] at hgd))) | (refine gc_Y ?_ ?_ <;> intro _) | fail)
                refine cont_map (L' := [pts b1 (.cells [.slice (some ⟨bu, ou, none⟩) (ts.map tbV).length cvv].toArray 24), A] ++ R) entD ?_
                refine cont_back (k + 1, ⟨_, trivial⟩) ⟨h0, hstep hno, ⟨rfl, rfl, trivial⟩, rfl⟩ (by show ts.length - (k + 1) < ts.length - k; omega)
              | true =>
                have h2 : k < i := by have := of_decide_eq_true t2; omega
                have hck : ts[k]? = some (ts[k]'(by omega)) := List.getElem?_eq_getElem _
                have hy : (ts.map tbV)[k]? = some (tbV (ts[k]'(by omega))) := by rw [List.getElem?_map, hck]; rfl
                have hn2 : k < (ts.map tbV).length := by omega
                have htk2 : ts.take (k + 1) = ts.take k ++ [ts[k]'(by omega)] := List.take_succ_eq_append_getElem _
                have hmi : (ts[k]'(by omega)) ∈ ts.take i := List.mem_of_getElem? (by rw [List.getElem?_take, if_pos h2]; exact hck)
                generalize (ts[k]'(by omega)) = d at hy htk2 hmi
                obtain ⟨dn, dcols, ⟨dcv, hdcv⟩, dkey, dref, dpar⟩ := d
                dsimp only [tbV] at hy
                by_cases he : dn = tn
                · subst he
                  obtain rfl : T = false := hdup (List.mem_map_of_mem (f := fun x : Tb => x.name) hmi)
                  have e1 : (dn.toList == dn.toList) = true := beq_self_eq_true _
                  repeat' (first | (refine go_Y ?_; intros) | (refine gs_Y ?_ ?_ <;> (intro hgd; try (simp only [Bool.not_true, Bool.not_false] at hgd))) | (refine gc_Y ?_ ?_ <;> intro _) | fail)
                  (refine rt_Y (y := ()) (hrs := Tryd.results14) (hv := ?_) (hφ := ?_))
                  · rfl
                  · trivial
                · have e1 := ba_ne he
                  repeat' (first | (refine go_Y ?_; intros) | (refine gs_Y ?_ ?_ <;> (intro hgd; try (simp only [Bool.not_true, Bool.not_false] at hgd))) | (refine gc_Y ?_ ?_ <;> intro _) | fail)
                  refine cont_map (L' := [pts b4 (.cells [.string tn, cv, .int .i64 key, .int .i64 ref, .int .i64 par].toArray 84), pts b1 (.cells [.slice (some ⟨bu, ou, none⟩) (ts.map tbV).length cvv].toArray 24), A] ++ R) entD ?_
                  refine cont_back (k + 1) ⟨h2, by rw [htk2, List.map_append, List.mem_append, not_or]; exact ⟨hno, by rw [List.map_cons, List.map_nil, List.mem_singleton]; exact fun e => he e.symm⟩, ⟨rfl, rfl, rfl, rfl, trivial⟩, rfl⟩ (by omega)
end Go.Proofs.YtphaegcoldpclaaDoor
