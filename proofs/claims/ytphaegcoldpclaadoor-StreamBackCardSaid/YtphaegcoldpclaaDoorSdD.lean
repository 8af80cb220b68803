import Derived.Test.YtphaegcoldpclaaDoorSdC
set_option linter.unusedSimpArgs false
set_option linter.unusedVariables false
set_option maxRecDepth 100000
namespace Go.Proofs.YtphaegcoldpclaaDoor
open Go Go.Fx Go.Proofs Go.Pl

theorem colAt_nat {l : List Co} {m : Nat} (h : m < l.length) : colAt l (m : Int) = l[m] := by
  unfold colAt; rw [Int.toNat_natCast, List.getElem?_eq_getElem h]; rfl
theorem tabAt_nat {l : Sc} {m : Nat} {t : Tc} (h : l[m]? = some t) : tabAt l (m : Int) = t := by
  unfold tabAt; rw [Int.toNat_natCast, h]; rfl
theorem hasC_nat {l : List Co} {k : Int} (h : hasC l k = true) : ∃ m : Nat, k = m ∧ m < l.length := by
  simp only [hasC, Bool.and_eq_true, decide_eq_true_eq] at h
  exact ⟨k.toNat, by omega, by omega⟩

set_option maxHeartbeats 8000000 in
theorem table_spec (ahead : List Tb) (ds : List Int) (t : Tb) (ua ud : Value) (A D : HProp) (ha : Vw A 5 ua (ahead.map tbV)) (hat : ∀ x ∈ ahead, TbOk A x) (hd : Vw D 1 ud (ds.map dpV)) (ht : TbOk A t) (hok : AheadOk (ahead.map Tb.c) ds) (hl : ahead.length ≤ 1000) :
    FSpec Tryd.prog 94 [ua, ud, .agg (tbV t).toArray] [D, A] Int (fun y => ∀ d, tableS (ahead.map Tb.c) ds t.c = some d → y = d) (fun y => .tuple #[.int .i64 y, .bool (tableS (ahead.map Tb.c) ds t.c).isSome]) (fun _ => [D, A]) := by
  obtain ⟨hv, hlen, hnm, hcnm⟩ := ht
  obtain ⟨tn, cols, ⟨cv, hcv⟩, key, ref, par⟩ := t
  have has0 := fun (k : Int) (b : Nat) => has1_spec k ⟨tn, cols, ⟨cv, hcv⟩, key, ref, par⟩ b A hv
  dsimp only [tbV, Tb.c] at hv hlen hnm hcnm has0 ⊢
  generalize hT : tableS (ahead.map Tb.c) ds ⟨tn, cols, key, ref, par⟩ = T
  have hlm : (cols.map coV).length = cols.length := by simp
  refine spec_intro [] _ Tryd.func94 rfl Tryd.ntmps94 (by rfl) (fun w0 R => ?_)
  refine ok_learn (VwIn.slice (VwIn.there (VwIn.here hv))) ?_
  rintro ⟨pc, cc, rfl⟩
  refine ok_learn (VwIn.slice (VwIn.there (VwIn.here ha))) ?_
  rintro ⟨pa, ca, rfl⟩
  refine ok_learn (VwIn.slice (VwIn.here hd)) ?_
  rintro ⟨pd, cd, rfl⟩
  repeat' (first | (refine go_Y ?_; intros) | (refine gs_Y ?_ ?_ <;> (intro hgd; try (simp only [Bool.not_true, Bool.not_false] at hgd))) | (refine gc_Y ?_ ?_ <;> intro _) | fail)
  rename_i b5
  refine ok_map (fun _ h => nilRow (e := 9) (n := 1) h) ?_
  refine ok_map (L' := [row 9 1 (.slice none 0 0) [], pts b5 (.cells [.string tn, .slice pc (cols.map coV).length cc, .int .i64 key, .int .i64 ref, .int .i64 par].toArray 84), D, A] ++ R) entD ?_
  refine ok_loop' (γ := Nat × { v : Value // v.oneCell' = true }) (fun g ρ L => g.1 ≤ cols.length ∧ ((cols.take g.1).any fun c => decide (c.kind < 1) || decide (5 < c.kind)) = false ∧
      Knows ρ [(0, .slice pa (ahead.map tbV).length ca), (1, .slice pd (ds.map dpV).length cd), (5, .pointer (some ⟨b5, 0, none⟩)), (8, g.2.1), (14, .slice pc (cols.map coV).length cc), (15, .int .i64 ((cols.map coV).length : Int)), (16, .int .i64 g.1)] ∧
      L = [row 9 1 g.2.1 (((cols.take g.1).map (·.name)).map fun s => [Value.string s]), pts b5 (.cells [.string tn, .slice pc (cols.map coV).length cc, .int .i64 key, .int .i64 ref, .int .i64 par].toArray 84), D, A] ++ R) (fun g => cols.length - g.1)
    (0, ⟨.slice none 0 0, rfl⟩) ⟨by omega, rfl, ⟨rfl, rfl, rfl, rfl, rfl, rfl, rfl, trivial⟩, rfl⟩ ?_
  rintro ⟨i, ⟨vl, hvl⟩⟩ ρ L ⟨hi, hall, hk, rfl⟩
  dsimp only at hi hall hk ⊢
  refine ok_regs hk ?_
  cases t1 : decide ((i : Int) < ((cols.map coV).length : Int)) with
  | true =>
    have h : i < cols.length := by simp at t1; omega
    have hci : cols[i]? = some cols[i] := List.getElem?_eq_getElem h
    have hx : (cols.map coV)[i]? = some (coV cols[i]) := by rw [List.getElem?_map, hci]; rfl
    have hn1 : i < (cols.map coV).length := by omega
    have htk : cols.take (i + 1) = cols.take i ++ [cols[i]] := List.take_succ_eq_append_getElem h
    have hti : (cols.take i).length = i := by rw [List.length_take]; omega
    have hin := List.getElem_mem h
    have hsz := hcnm _ hin
    refine ok_learn (VwIn.base (VwIn.there (VwIn.there (VwIn.there (VwIn.here hv)))) (by intro e; rw [e] at hn1; simp at hn1)) ?_
    rintro ⟨bu, ou, rfl⟩
    generalize cols[i] = c at hx htk hsz hin
    obtain ⟨cn, ck, cb⟩ := c
    dsimp only [coV] at hx hsz
    have hbad : (decide (ck < 1) || decide (5 < ck)) = true → T = none := fun e => by
      rw [← hT]
      exact tS_a (List.any_eq_true.2 ⟨⟨cn, ck, cb⟩, hin, e⟩)
    cases u1 : decide (ck < 1) with
    | true =>
      rw [hbad (by rw [u1]; rfl)]
      repeat' (first | (refine go_Y ?_; intros) | (refine gs_Y ?_ ?_ <;> (intro hgd; try (simp only [Bool.not_true, Bool.not_false] at hgd))) | (refine gc_Y ?_ ?_ <;> intro _) | fail)
      (refine rt_Y (y := 0) (hrs := Tryd.results94) (hv := ?_) (hφ := ?_))
      · rfl
      · intro d h; cases h
    | false =>
      cases u2 : decide (5 < ck) with
      | true =>
        rw [hbad (by rw [u1, u2]; rfl)]
        repeat' (first | (refine go_Y ?_; intros) | (refine gs_Y ?_ ?_ <;> (intro hgd; try (simp only [Bool.not_true, Bool.not_false] at hgd))) | (refine gc_Y ?_ ?_ <;> intro _) | fail)
        (refine rt_Y (y := 0) (hrs := Tryd.results94) (hv := ?_) (hφ := ?_))
        · rfl
        · intro d h; cases h
      | false =>
        repeat' (first | (refine go_Y ?_; intros) | (refine gs_Y ?_ ?_ <;> (intro hgd; try (simp only [Bool.not_true, Bool.not_false] at hgd))) | (refine gc_Y ?_ ?_ <;> intro _) | fail)
        rename_i v1 _ v2 hv2
        have hmm : (((cols.take i).map (·.name)).map fun s => [Value.string s]) ++ [(Value.string cn).cells.toList] = (((cols.take (i + 1)).map (·.name)).map fun s => [Value.string s]) := by rw [htk, List.map_append, List.map_append]; rfl
        rw [hmm]
        refine cont_map (L' := [row 9 1 v2 (((cols.take (i + 1)).map (·.name)).map fun s => [Value.string s]), pts b5 (.cells [.string tn, .slice (some ⟨bu, ou, none⟩) (cols.map coV).length cc, .int .i64 key, .int .i64 ref, .int .i64 par].toArray 84), D, A] ++ R) entD ?_
        refine cont_back (i + 1, ⟨v2, hv2⟩) ⟨h, by rw [htk, List.any_append, hall]; simp only [List.any_cons, List.any_nil, u1, u2]; rfl, ⟨rfl, rfl, rfl, rfl, rfl, rfl, rfl, trivial⟩, rfl⟩ (by show cols.length - (i + 1) < cols.length - i; omega)
  | false =>
    have hie : i = cols.length := by simp at t1; omega
    rw [hie] at t1
    rw [hie, List.take_length] at hall
    rw [hie, List.take_length]
    clear hk hie hi
    have hns := named_spec vl (row 9 1 vl ((cols.map (·.name)).map fun s => [Value.string s])) (cols.map (·.name)) Vw.row (fun s hs => by
      obtain ⟨c, hc, rfl⟩ := List.mem_map.1 hs
      have := hcnm c hc; omega) (by rw [List.length_map]; omega)
    have hnl : ((cols.map (·.name)).map fun s => [Value.string s]).length = cols.length := by simp
    have hkey := has0 key b5
    have href := has0 ref b5
    cases n1 : decide (((((cols.map (·.name)).map fun s => [Value.string s]).length : Nat) : Int) < 1) with
    | true =>
      have hN : T = none := by rw [← hT]; exact tS_b (.inl (by have h1 := of_decide_eq_true n1; rw [hnl] at h1; show cols.length < 1; omega))
      rw [hN]
      repeat' (first | (refine go_Y ?_; intros) | (refine gs_Y ?_ ?_ <;> (intro hgd; try (simp only [Bool.not_true, Bool.not_false] at hgd))) | (refine gc_Y ?_ ?_ <;> intro _) | fail)
      (refine rt_Y (y := 0) (hrs := Tryd.results94) (hv := ?_) (hφ := ?_))
      · rfl
      · intro d h; cases h
    | false =>
    cases n2 : decide ((8 : Int) < ((((cols.map (·.name)).map fun s => [Value.string s]).length : Nat) : Int)) with
    | true =>
      have hN : T = none := by rw [← hT]; exact tS_b (.inr (.inl (by have h1 := of_decide_eq_true n2; rw [hnl] at h1; show 8 < cols.length; omega)))
      rw [hN]
      repeat' (first | (refine go_Y ?_; intros) | (refine gs_Y ?_ ?_ <;> (intro hgd; try (simp only [Bool.not_true, Bool.not_false] at hgd))) | (refine gc_Y ?_ ?_ <;> intro _) | fail)
      (refine rt_Y (y := 0) (hrs := Tryd.results94) (hv := ?_) (hφ := ?_))
      · rfl
      · intro d h; cases h
    | false =>
    cases n3 : namedS (cols.map (·.name)) with
    | false =>
      rw [n3] at hns
      have hN : T = none := by rw [← hT]; exact tS_b (.inr (.inr (.inl n3)))
      rw [hN]
      repeat' (first | (refine go_Y ?_; intros) | (refine gs_Y ?_ ?_ <;> (intro hgd; try (simp only [Bool.not_true, Bool.not_false] at hgd))) | (refine gc_Y ?_ ?_ <;> intro _) | fail)
      refine cl_Y (hns) ?_
      intro _ _
      repeat' (first | (refine go_Y ?_; intros) | (refine gs_Y ?_ ?_ <;> (intro hgd; try (simp only [Bool.not_true, Bool.not_false] at hgd))) | (refine gc_Y ?_ ?_ <;> intro _) | fail)
      (refine rt_Y (y := 0) (hrs := Tryd.results94) (hv := ?_) (hφ := ?_))
      · rfl
      · intro d h; cases h
    | true =>
    rw [n3] at hns
    cases n4 : hasC cols key with
    | false =>
      rw [n4] at hkey
      have hN : T = none := by rw [← hT]; exact tS_b (.inr (.inr (.inr (.inl n4))))
      rw [hN]
      repeat' (first | (refine go_Y ?_; intros) | (refine gs_Y ?_ ?_ <;> (intro hgd; try (simp only [Bool.not_true, Bool.not_false] at hgd))) | (refine gc_Y ?_ ?_ <;> intro _) | fail)
      refine cl_Y (hns) ?_
      intro _ _
      repeat' (first | (refine go_Y ?_; intros) | (refine gs_Y ?_ ?_ <;> (intro hgd; try (simp only [Bool.not_true, Bool.not_false] at hgd))) | (refine gc_Y ?_ ?_ <;> intro _) | fail)
      refine clV_Y (vspec_func (args := [.int .i64 key]) (cap := [.pointer (some ⟨b5, 0, none⟩)]) hkey) ?_
      intro _ _
      repeat' (first | (refine go_Y ?_; intros) | (refine gs_Y ?_ ?_ <;> (intro hgd; try (simp only [Bool.not_true, Bool.not_false] at hgd))) | (refine gc_Y ?_ ?_ <;> intro _) | fail)
      (refine rt_Y (y := 0) (hrs := Tryd.results94) (hv := ?_) (hφ := ?_))
      · rfl
      · intro d h; cases h
    | true =>
    rw [n4] at hkey
    obtain ⟨km, rfl, hkm⟩ := hasC_nat n4
    have hck : cols[km]? = some cols[km] := List.getElem?_eq_getElem hkm
    have hxk : (cols.map coV)[km]? = some (coV cols[km]) := by rw [List.getElem?_map, hck]; rfl
    have hnk : km < (cols.map coV).length := by omega
    have hak := colAt_nat hkm
    refine ok_learn (VwIn.base (VwIn.there (VwIn.there (VwIn.there (VwIn.here hv)))) (by intro e; rw [e] at hnk; simp at hnk)) ?_
    rintro ⟨bu, ou, rfl⟩
    generalize cols[km] = kc at hxk hak
    obtain ⟨kn, kk, kb⟩ := kc
    dsimp only [coV] at hxk
    cases kb with
    | true =>
      have hN : T = none := by rw [← hT]; exact tS_b (.inr (.inr (.inr (.inr (by show (colAt cols (km : Int)).null = true; rw [hak])))))
      rw [hN]
      repeat' (first | (refine go_Y ?_; intros) | (refine gs_Y ?_ ?_ <;> (intro hgd; try (simp only [Bool.not_true, Bool.not_false] at hgd))) | (refine gc_Y ?_ ?_ <;> intro _) | fail)
      refine cl_Y (hns) ?_
      intro _ _
      repeat' (first | (refine go_Y ?_; intros) | (refine gs_Y ?_ ?_ <;> (intro hgd; try (simp only [Bool.not_true, Bool.not_false] at hgd))) | (refine gc_Y ?_ ?_ <;> intro _) | fail)
      refine clV_Y (vspec_func (args := [.int .i64 km]) (cap := [.pointer (some ⟨b5, 0, none⟩)]) hkey) ?_
      intro _ _
      repeat' (first | (refine go_Y ?_; intros) | (refine gs_Y ?_ ?_ <;> (intro hgd; try (simp only [Bool.not_true, Bool.not_false] at hgd))) | (refine gc_Y ?_ ?_ <;> intro _) | fail)
      (refine rt_Y (y := 0) (hrs := Tryd.results94) (hv := ?_) (hφ := ?_))
      · rfl
      · intro d h; cases h
    | false =>
    have hno2 : ¬ (cols.length < 1 ∨ 8 < cols.length ∨ namedS (cols.map (·.name)) = false ∨ hasC cols (km : Int) = false ∨ (colAt cols (km : Int)).null = true) := by
      have h1 := of_decide_eq_false n1
      have h2 := of_decide_eq_false n2
      rw [hnl] at h1 h2
      rw [n3, n4, hak]
      rintro (h | h | h | h | h)
      · omega
      · omega
      · cases h
      · cases h
      · cases h
    by_cases h3 : ref = -1 ∧ par = -1
    · have hN : T = some 1 := by rw [← hT]; exact tS_c hall hno2 h3
      rw [hN]
      obtain ⟨rfl, rfl⟩ := h3
      repeat' (first | (refine go_Y ?_; intros) | (refine gs_Y ?_ ?_ <;> (intro hgd; try (simp only [Bool.not_true, Bool.not_false] at hgd))) | (refine gc_Y ?_ ?_ <;> intro _) | fail)
      refine cl_Y (hns) ?_
      intro _ _
      repeat' (first | (refine go_Y ?_; intros) | (refine gs_Y ?_ ?_ <;> (intro hgd; try (simp only [Bool.not_true, Bool.not_false] at hgd))) | (refine gc_Y ?_ ?_ <;> intro _) | fail)
      refine clV_Y (vspec_func (args := [.int .i64 km]) (cap := [.pointer (some ⟨b5, 0, none⟩)]) hkey) ?_
      intro _ _
      repeat' (first | (refine go_Y ?_; intros) | (refine gs_Y ?_ ?_ <;> (intro hgd; try (simp only [Bool.not_true, Bool.not_false] at hgd))) | (refine gc_Y ?_ ?_ <;> intro _) | fail)
      (refine rt_Y (y := 1) (hrs := Tryd.results94) (hv := ?_) (hφ := ?_))
      · rfl
      · intro d h; cases h; rfl
    · have hm : decide (ref = -1) = false ∨ (decide (ref = -1) = true ∧ decide (par = -1) = false) := by
        by_cases hr : ref = -1
        · exact .inr ⟨by simp [hr], by simp; exact fun e => h3 ⟨hr, e⟩⟩
        · exact .inl (by simp [hr])
      have hal : (ahead.map tbV).length = ahead.length := by simp
      have hac : (ahead.map Tb.c).length = ahead.length := by simp
      rcases hm with hm | ⟨hm, hm'⟩
      all_goals
        cases r1 : hasC cols ref with
        | false =>
          rw [r1] at href
          have hN : T = none := by rw [← hT]; exact tS_d h3 (.inl r1)
          rw [hN]
          repeat' (first | (refine go_Y ?_; intros) | (refine gs_Y ?_ ?_ <;> (intro hgd; try (simp only [Bool.not_true, Bool.not_false] at hgd))) | (refine gc_Y ?_ ?_ <;> intro _) | fail)
          refine cl_Y (hns) ?_
          intro _ _
          repeat' (first | (refine go_Y ?_; intros) | (refine gs_Y ?_ ?_ <;> (intro hgd; try (simp only [Bool.not_true, Bool.not_false] at hgd))) | (refine gc_Y ?_ ?_ <;> intro _) | fail)
          refine clV_Y (vspec_func (args := [.int .i64 km]) (cap := [.pointer (some ⟨b5, 0, none⟩)]) hkey) ?_
          intro _ _
          repeat' (first | (refine go_Y ?_; intros) | (refine gs_Y ?_ ?_ <;> (intro hgd; try (simp only [Bool.not_true, Bool.not_false] at hgd))) | (refine gc_Y ?_ ?_ <;> intro _) | fail)
          refine clV_Y (vspec_func (args := [.int .i64 ref]) (cap := [.pointer (some ⟨b5, 0, none⟩)]) href) ?_
          intro _ _
          repeat' (first | (refine go_Y ?_; intros) | (refine gs_Y ?_ ?_ <;> (intro hgd; try (simp only [Bool.not_true, Bool.not_false] at hgd))) | (refine gc_Y ?_ ?_ <;> intro _) | fail)
          (refine rt_Y (y := 0) (hrs := Tryd.results94) (hv := ?_) (hφ := ?_))
          · rfl
          · intro d h; cases h
        | true =>
        rw [r1] at href
        cases r2 : decide (ref = (km : Int)) with
        | true =>
          have hN : T = none := by rw [← hT]; exact tS_d h3 (.inr (.inl (of_decide_eq_true r2)))
          rw [hN]
          repeat' (first | (refine go_Y ?_; intros) | (refine gs_Y ?_ ?_ <;> (intro hgd; try (simp only [Bool.not_true, Bool.not_false] at hgd))) | (refine gc_Y ?_ ?_ <;> intro _) | fail)
          refine cl_Y (hns) ?_
          intro _ _
          repeat' (first | (refine go_Y ?_; intros) | (refine gs_Y ?_ ?_ <;> (intro hgd; try (simp only [Bool.not_true, Bool.not_false] at hgd))) | (refine gc_Y ?_ ?_ <;> intro _) | fail)
          refine clV_Y (vspec_func (args := [.int .i64 km]) (cap := [.pointer (some ⟨b5, 0, none⟩)]) hkey) ?_
          intro _ _
          repeat' (first | (refine go_Y ?_; intros) | (refine gs_Y ?_ ?_ <;> (intro hgd; try (simp only [Bool.not_true, Bool.not_false] at hgd))) | (refine gc_Y ?_ ?_ <;> intro _) | fail)
          refine clV_Y (vspec_func (args := [.int .i64 ref]) (cap := [.pointer (some ⟨b5, 0, none⟩)]) href) ?_
          intro _ _
          repeat' (first | (refine go_Y ?_; intros) | (refine gs_Y ?_ ?_ <;> (intro hgd; try (simp only [Bool.not_true, Bool.not_false] at hgd))) | (refine gc_Y ?_ ?_ <;> intro _) | fail)
          (refine rt_Y (y := 0) (hrs := Tryd.results94) (hv := ?_) (hφ := ?_))
          · rfl
          · intro d h; cases h
        | false =>
        cases r3 : decide (par < 0) with
        | true =>
          have hN : T = none := by rw [← hT]; exact tS_d h3 (.inr (.inr (.inl (of_decide_eq_true r3))))
          rw [hN]
          repeat' (first | (refine go_Y ?_; intros) | (refine gs_Y ?_ ?_ <;> (intro hgd; try (simp only [Bool.not_true, Bool.not_false] at hgd))) | (refine gc_Y ?_ ?_ <;> intro _) | fail)
          refine cl_Y (hns) ?_
          intro _ _
          repeat' (first | (refine go_Y ?_; intros) | (refine gs_Y ?_ ?_ <;> (intro hgd; try (simp only [Bool.not_true, Bool.not_false] at hgd))) | (refine gc_Y ?_ ?_ <;> intro _) | fail)
          refine clV_Y (vspec_func (args := [.int .i64 km]) (cap := [.pointer (some ⟨b5, 0, none⟩)]) hkey) ?_
          intro _ _
          repeat' (first | (refine go_Y ?_; intros) | (refine gs_Y ?_ ?_ <;> (intro hgd; try (simp only [Bool.not_true, Bool.not_false] at hgd))) | (refine gc_Y ?_ ?_ <;> intro _) | fail)
          refine clV_Y (vspec_func (args := [.int .i64 ref]) (cap := [.pointer (some ⟨b5, 0, none⟩)]) href) ?_
          intro _ _
          repeat' (first | (refine go_Y ?_; intros) | (refine gs_Y ?_ ?_ <;> (intro hgd; try (simp only [Bool.not_true, Bool.not_false] at hgd))) | (refine gc_Y ?_ ?_ <;> intro _) | fail)
          (refine rt_Y (y := 0) (hrs := Tryd.results94) (hv := ?_) (hφ := ?_))
          · rfl
          · intro d h; cases h
        | false =>
        cases r4 : decide (((ahead.map tbV).length : Int) ≤ par) with
        | true =>
          have hN : T = none := by rw [← hT]; exact tS_d h3 (.inr (.inr (.inr (by have := of_decide_eq_true r4; show ((ahead.map Tb.c).length : Int) ≤ par; omega))))
          rw [hN]
          repeat' (first | (refine go_Y ?_; intros) | (refine gs_Y ?_ ?_ <;> (intro hgd; try (simp only [Bool.not_true, Bool.not_false] at hgd))) | (refine gc_Y ?_ ?_ <;> intro _) | fail)
          refine cl_Y (hns) ?_
          intro _ _
          repeat' (first | (refine go_Y ?_; intros) | (refine gs_Y ?_ ?_ <;> (intro hgd; try (simp only [Bool.not_true, Bool.not_false] at hgd))) | (refine gc_Y ?_ ?_ <;> intro _) | fail)
          refine clV_Y (vspec_func (args := [.int .i64 km]) (cap := [.pointer (some ⟨b5, 0, none⟩)]) hkey) ?_
          intro _ _
          repeat' (first | (refine go_Y ?_; intros) | (refine gs_Y ?_ ?_ <;> (intro hgd; try (simp only [Bool.not_true, Bool.not_false] at hgd))) | (refine gc_Y ?_ ?_ <;> intro _) | fail)
          refine clV_Y (vspec_func (args := [.int .i64 ref]) (cap := [.pointer (some ⟨b5, 0, none⟩)]) href) ?_
          intro _ _
          repeat' (first | (refine go_Y ?_; intros) | (refine gs_Y ?_ ?_ <;> (intro hgd; try (simp only [Bool.not_true, Bool.not_false] at hgd))) | (refine gc_Y ?_ ?_ <;> intro _) | fail)
          (refine rt_Y (y := 0) (hrs := Tryd.results94) (hv := ?_) (hφ := ?_))
          · rfl
          · intro d h; cases h
        | false =>
        have hpr := of_decide_eq_false r3
        have hpl := of_decide_eq_false r4
        obtain ⟨pm, rfl⟩ : ∃ pm : Nat, par = pm := ⟨par.toNat, by omega⟩
        obtain ⟨rm, rfl, hrm⟩ := hasC_nat r1
        have hpm : pm < ahead.length := by omega
        have hpa : pm < (ahead.map tbV).length := by omega
        have hap : ahead[pm]? = some ahead[pm] := List.getElem?_eq_getElem hpm
        have hxp : (ahead.map tbV)[pm]? = some (tbV ahead[pm]) := by rw [List.getElem?_map, hap]; rfl
        have hcp : (ahead.map Tb.c)[pm]? = some ahead[pm].c := by rw [List.getElem?_map, hap]; rfl
        have htp := tabAt_nat hcp
        have hpok := hok.tab _ (List.mem_of_getElem? hcp)
        have hptb := hat _ (List.getElem_mem hpm)
        have hdl : pm < ds.length := by rw [hok.len]; omega
        have hdp : pm < (ds.map dpV).length := by rw [List.length_map]; omega
        have hdi : ds[pm]? = some ds[pm] := List.getElem?_eq_getElem hdl
        have hxd : (ds.map dpV)[pm]? = some (dpV ds[pm]) := by rw [List.getElem?_map, hdi]; rfl
        have hdd := hok.dep _ (List.getElem_mem hdl)
        have hgd2 : (ds[(pm : Int).toNat]?).getD 0 = ds[pm] := by rw [Int.toNat_natCast, hdi]; rfl
        have hcr : cols[rm]? = some cols[rm] := List.getElem?_eq_getElem hrm
        have hxr : (cols.map coV)[rm]? = some (coV cols[rm]) := by rw [List.getElem?_map, hcr]; rfl
        have hnr : rm < (cols.map coV).length := by omega
        have har := colAt_nat hrm
        have hE := tS_e (ahead := ahead.map Tb.c) (ds := ds) (t := ⟨tn, cols, (km : Int), (rm : Int), (pm : Int)⟩) hall hno2 h3 (by
          show ¬ (hasC cols (rm : Int) = false ∨ (rm : Int) = (km : Int) ∨ (pm : Int) < 0 ∨ ((ahead.map Tb.c).length : Int) ≤ (pm : Int))
          rw [r1]; have := of_decide_eq_false r2; simp; omega)
        have hE1 := fun h => hE.trans (if_pos h)
        have hE0 := fun h => hE.trans (if_neg h)
        clear hE
        dsimp only at hE1 hE0
        rw [htp, har, hgd2] at hE1 hE0
        refine ok_learn (VwIn.base (VwIn.there (VwIn.there (VwIn.there (VwIn.here ha)))) (by intro e; rw [e] at hpa; simp at hpa)) ?_
        rintro ⟨ba, oa, rfl⟩
        refine ok_learn (VwIn.base (VwIn.there (VwIn.there (VwIn.here hd))) (by intro e; rw [e] at hdp; simp at hdp)) ?_
        rintro ⟨bd, od, rfl⟩
        clear hcp hap hdi hcr
        generalize ahead[pm] = p at hxp hE1 hE0 hpok hptb
        generalize ds[pm] = dv at hxd hdd hE1 hE0
        generalize cols[rm] = rc at hxr hE1 hE0
        obtain ⟨pn, pcols, ⟨pcv, hpcv⟩, pkey, pref, ppar⟩ := p
        obtain ⟨rn, rk, rb⟩ := rc
        obtain ⟨hpv, hplen, _, _⟩ := hptb
        have pk0 := hpok.key0
        have pkL := hpok.keyL
        dsimp only [tbV, Tb.c, coV, dpV] at hxp hxr hxd hE1 hE0 hpv hplen pk0 pkL
        obtain ⟨pk, rfl⟩ : ∃ pk : Nat, pkey = pk := ⟨pkey.toNat, by omega⟩
        have hpk : pk < pcols.length := by omega
        have hpl2 : (pcols.map coV).length = pcols.length := by simp
        have hnp : pk < (pcols.map coV).length := by omega
        have hxq : (pcols.map coV)[pk]? = some (coV pcols[pk]) := by rw [List.getElem?_map, List.getElem?_eq_getElem hpk]; rfl
        have haq := colAt_nat hpk
        rw [haq] at hE1 hE0
        refine ok_learn (VwIn.slice (VwIn.there (VwIn.there (VwIn.there (VwIn.here hpv))))) ?_
        rintro ⟨pq, cq, rfl⟩
        refine ok_learn (VwIn.base (VwIn.there (VwIn.there (VwIn.there (VwIn.here hpv)))) (by intro e; rw [e] at hnp; simp at hnp)) ?_
        rintro ⟨bq, oq, rfl⟩
        generalize pcols[pk] = qc at hxq hE1 hE0
        obtain ⟨qn, qk, qb⟩ := qc
        dsimp only [coV] at hxq hE1 hE0
        obtain ⟨hd1, hd8⟩ := hdd
        rw [hT] at hE1 hE0
        cases q1 : decide (qk = rk) with
        | false =>
          rw [hE0 (fun h => by have := of_decide_eq_false q1; exact this h.1)]
          repeat' (first | (refine go_Y ?_; intros) | (refine gs_Y ?_ ?_ <;> (intro hgd; try (simp only [Bool.not_true, Bool.not_false] at hgd))) | (refine gc_Y ?_ ?_ <;> intro _) | fail)
          refine cl_Y (hns) ?_
          intro _ _
          repeat' (first | (refine go_Y ?_; intros) | (refine gs_Y ?_ ?_ <;> (intro hgd; try (simp only [Bool.not_true, Bool.not_false] at hgd))) | (refine gc_Y ?_ ?_ <;> intro _) | fail)
          refine clV_Y (vspec_func (args := [.int .i64 km]) (cap := [.pointer (some ⟨b5, 0, none⟩)]) hkey) ?_
          intro _ _
          repeat' (first | (refine go_Y ?_; intros) | (refine gs_Y ?_ ?_ <;> (intro hgd; try (simp only [Bool.not_true, Bool.not_false] at hgd))) | (refine gc_Y ?_ ?_ <;> intro _) | fail)
          refine clV_Y (vspec_func (args := [.int .i64 rm]) (cap := [.pointer (some ⟨b5, 0, none⟩)]) href) ?_
          intro _ _
          repeat' (first | (refine go_Y ?_; intros) | (refine gs_Y ?_ ?_ <;> (intro hgd; try (simp only [Bool.not_true, Bool.not_false] at hgd))) | (refine gc_Y ?_ ?_ <;> intro _) | fail)
          (refine rt_Y (y := dv + 1) (hrs := Tryd.results94) (hv := ?_) (hφ := ?_))
          · rfl
          · intro d h; cases h
        | true =>
          cases q2 : decide (dv + 1 ≤ 8) with
          | false =>
            rw [hE0 (fun h => by have := of_decide_eq_false q2; exact this h.2)]
            repeat' (first | (refine go_Y ?_; intros) | (refine gs_Y ?_ ?_ <;> (intro hgd; try (simp only [Bool.not_true, Bool.not_false] at hgd))) | (refine gc_Y ?_ ?_ <;> intro _) | fail)
            refine cl_Y (hns) ?_
            intro _ _
            repeat' (first | (refine go_Y ?_; intros) | (refine gs_Y ?_ ?_ <;> (intro hgd; try (simp only [Bool.not_true, Bool.not_false] at hgd))) | (refine gc_Y ?_ ?_ <;> intro _) | fail)
            refine clV_Y (vspec_func (args := [.int .i64 km]) (cap := [.pointer (some ⟨b5, 0, none⟩)]) hkey) ?_
            intro _ _
            repeat' (first | (refine go_Y ?_; intros) | (refine gs_Y ?_ ?_ <;> (intro hgd; try (simp only [Bool.not_true, Bool.not_false] at hgd))) | (refine gc_Y ?_ ?_ <;> intro _) | fail)
            refine clV_Y (vspec_func (args := [.int .i64 rm]) (cap := [.pointer (some ⟨b5, 0, none⟩)]) href) ?_
            intro _ _
            repeat' (first | (refine go_Y ?_; intros) | (refine gs_Y ?_ ?_ <;> (intro hgd; try (simp only [Bool.not_true, Bool.not_false] at hgd))) | (refine gc_Y ?_ ?_ <;> intro _) | fail)
            (refine rt_Y (y := dv + 1) (hrs := Tryd.results94) (hv := ?_) (hφ := ?_))
            · rw [q2]; rfl
            · intro d h; cases h
          | true =>
            rw [hE1 ⟨of_decide_eq_true q1, of_decide_eq_true q2⟩]
            repeat' (first | (refine go_Y ?_; intros) | (refine gs_Y ?_ ?_ <;> (intro hgd; try (simp only [Bool.not_true, Bool.not_false] at hgd))) | (refine gc_Y ?_ ?_ <;> intro _) | fail)
            refine cl_Y (hns) ?_
            intro _ _
            repeat' (first | (refine go_Y ?_; intros) | (refine gs_Y ?_ ?_ <;> (intro hgd; try (simp only [Bool.not_true, Bool.not_false] at hgd))) | (refine gc_Y ?_ ?_ <;> intro _) | fail)
            refine clV_Y (vspec_func (args := [.int .i64 km]) (cap := [.pointer (some ⟨b5, 0, none⟩)]) hkey) ?_
            intro _ _
            repeat' (first | (refine go_Y ?_; intros) | (refine gs_Y ?_ ?_ <;> (intro hgd; try (simp only [Bool.not_true, Bool.not_false] at hgd))) | (refine gc_Y ?_ ?_ <;> intro _) | fail)
            refine clV_Y (vspec_func (args := [.int .i64 rm]) (cap := [.pointer (some ⟨b5, 0, none⟩)]) href) ?_
            intro _ _
            repeat' (first | (refine go_Y ?_; intros) | (refine gs_Y ?_ ?_ <;> (intro hgd; try (simp only [Bool.not_true, Bool.not_false] at hgd))) | (refine gc_Y ?_ ?_ <;> intro _) | fail)
            (refine rt_Y (y := dv + 1) (hrs := Tryd.results94) (hv := ?_) (hφ := ?_))
            · rw [q2]; rfl
            · intro d h; cases h; rfl
end Go.Proofs.YtphaegcoldpclaaDoor
