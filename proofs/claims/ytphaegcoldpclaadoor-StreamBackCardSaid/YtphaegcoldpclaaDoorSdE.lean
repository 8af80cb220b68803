import Derived.Test.YtphaegcoldpclaaDoorSdD
set_option linter.unusedSimpArgs false
set_option linter.unusedVariables false
set_option maxRecDepth 100000
namespace Go.Proofs.YtphaegcoldpclaaDoor
open Go Go.Fx Go.Proofs Go.Pl

theorem goD_step {ahead : Sc} {ds : List Int} {t : Tc} {rest : Sc} {d : Int} (h : tableS ahead ds t = some d) : goD ahead ds (t :: rest) = goD (ahead ++ [t]) (ds ++ [d]) rest := by
  rw [goD, h]
theorem goD_none {ahead : Sc} {ds : List Int} {t : Tc} {rest : Sc} (h : tableS ahead ds t = none) : goD ahead ds (t :: rest) = none := by
  rw [goD, h]
theorem checkS_none {s : Sc} (h : goD [] [] s = none) : checkS s = false := by
  unfold checkS depthsS
  split
  · rfl
  · rw [h]; rfl
theorem checkS_some {s : Sc} {ds : List Int} (h : goD [] [] s = some ds) (h1 : 1 ≤ s.length) (h2 : s.length ≤ 12) : checkS s = namedS (s.map (·.name)) := by
  unfold checkS depthsS
  rw [if_neg (by omega), h]
  dsimp only
  split <;> simp_all

set_option maxHeartbeats 4000000 in
theorem depths_spec (vs : Value) (ts : List Tb) (A : HProp) (h : SV A vs ts) :
    FSpec Tryd.prog 71 [.agg #[vs]] [A] { v : Value // v.oneCell' = true } (fun _ => True) (fun y => .tuple #[y.1, .bool (checkS (ts.map Tb.c))]) (fun _ => [A]) := by
  obtain ⟨hv, htab, hlen, hcapo⟩ := h
  have hlm : (ts.map tbV).length = ts.length := by simp
  have hlc : (ts.map Tb.c).length = ts.length := by simp
  refine spec_intro [] _ Tryd.func71 rfl Tryd.ntmps71 (by rfl) (fun w0 R => ?_)
  refine ok_learn (VwIn.slice (VwIn.here hv)) ?_
  rintro ⟨pv, cv, rfl⟩
  obtain ⟨_, _, _, hce, hcap⟩ := hcapo
  simp only [Value.slice.injEq] at hce
  obtain ⟨_, rfl, rfl⟩ := hce
  cases n1 : decide (((ts.map tbV).length : Int) < 1) with
  | true =>
    have hN : checkS (ts.map Tb.c) = false := by
      unfold checkS depthsS
      rw [if_pos (.inl (by have := of_decide_eq_true n1; omega))]; rfl
    rw [hN]
    repeat' (first | (refine go_Y ?_; intros) | (refine gs_Y ?_ ?_ <;> (intro hgd; try (simp only [Bool.not_true, Bool.not_false] at hgd))) | (refine gc_Y ?_ ?_ <;> intro _) | fail)
    (refine rt_Y (y := ⟨.slice none 0 0, rfl⟩) (hrs := Tryd.results71) (hv := ?_) (hφ := ?_))
    · rfl
    · trivial
  | false =>
  cases n2 : decide ((12 : Int) < ((ts.map tbV).length : Int)) with
  | true =>
    have hN : checkS (ts.map Tb.c) = false := by
      unfold checkS depthsS
      rw [if_pos (.inr (by have := of_decide_eq_true n2; omega))]; rfl
    rw [hN]
    repeat' (first | (refine go_Y ?_; intros) | (refine gs_Y ?_ ?_ <;> (intro hgd; try (simp only [Bool.not_true, Bool.not_false] at hgd))) | (refine gc_Y ?_ ?_ <;> intro _) | fail)
    (refine rt_Y (y := ⟨.slice none 0 0, rfl⟩) (hrs := Tryd.results71) (hv := ?_) (hφ := ?_))
    · rfl
    · trivial
  | false =>
    have l1 : 1 ≤ ts.length := by have := of_decide_eq_false n1; omega
    have l2 : ts.length ≤ 12 := by have := of_decide_eq_false n2; omega
    repeat' (first | (refine go_Y ?_; intros) | (refine gs_Y ?_ ?_ <;> (intro hgd; try (simp only [Bool.not_true, Bool.not_false] at hgd))) | (refine gc_Y ?_ ?_ <;> intro _) | fail)
    rename_i b1
    refine ok_map (fun _ h => nilRow (e := 9) (n := 1) h) ?_
    refine ok_map (fun _ h => nilRow (e := 3) (n := 1) h) ?_
    refine ok_map (L' := [row 3 1 (.slice none 0 0) [], row 9 1 (.slice none 0 0) [], pts b1 (.cells [.slice pv (ts.map tbV).length cv].toArray 24), A] ++ R) entD ?_
    refine ok_loop' (γ := Nat × { v : Value // v.oneCell' = true } × { v : Value // v.oneCell' = true } × List Int) (fun g ρ L => g.1 ≤ ts.length ∧ goD ((ts.take g.1).map Tb.c) g.2.2.2 ((ts.drop g.1).map Tb.c) = goD [] [] (ts.map Tb.c) ∧ AheadOk ((ts.take g.1).map Tb.c) g.2.2.2 ∧
        Knows ρ [(1, .pointer (some ⟨b1, 0, none⟩)), (2, g.2.1.1), (3, .bool (decide (0 < g.1))), (4, g.2.2.1.1), (20, .slice pv (ts.map tbV).length cv), (21, .int .i64 ((ts.map tbV).length : Int)), (22, .int .i64 g.1)] ∧
        L = [row 3 1 g.2.1.1 (g.2.2.2.map dpV), row 9 1 g.2.2.1.1 (((ts.take g.1).map (·.name)).map fun s => [Value.string s]), pts b1 (.cells [.slice pv (ts.map tbV).length cv].toArray 24), A] ++ R) (fun g => ts.length - g.1)
      (0, ⟨.slice none 0 0, rfl⟩, ⟨.slice none 0 0, rfl⟩, []) ⟨by omega, rfl, ⟨rfl, fun _ h => by simp at h, fun _ h => by simp at h⟩, ⟨rfl, rfl, rfl, rfl, rfl, rfl, rfl, trivial⟩, rfl⟩ ?_
    rintro ⟨i, ⟨vd, hvd⟩, ⟨vn, hvn⟩, ds⟩ ρ L ⟨hi, hgo, hok, hk, rfl⟩
    dsimp only at hi hgo hok hk ⊢
    refine ok_regs hk ?_
    cases t1 : decide ((i : Int) < ((ts.map tbV).length : Int)) with
    | true =>
      have h : i < ts.length := by have := of_decide_eq_true t1; omega
      have hti : ts[i]? = some ts[i] := List.getElem?_eq_getElem h
      have hx : (ts.map tbV)[i]? = some (tbV ts[i]) := by rw [List.getElem?_map, hti]; rfl
      have hn1 : i < (ts.map tbV).length := by omega
      have hic : i ≤ cv := by omega
      have htk : ts.take (i + 1) = ts.take i ++ [ts[i]] := List.take_succ_eq_append_getElem h
      have hdr : ts.drop i = ts[i] :: ts.drop (i + 1) := List.drop_eq_getElem_cons h
      have htl : (ts.take i).length = i := by rw [List.length_take]; omega
      have hdl : ds.length = i := by rw [hok.len, List.length_map, htl]
      have htb := htab _ (List.getElem_mem h)
      refine ok_learn (VwIn.good (VwIn.there (VwIn.there (VwIn.there (VwIn.here hv))))) ?_
      intro hgood
      refine ok_learn (VwIn.base (VwIn.there (VwIn.there (VwIn.there (VwIn.here hv)))) (by intro e; rw [e] at hn1; simp at hn1)) ?_
      rintro ⟨bu, ou, rfl⟩
      generalize ts[i] = t at hx htk hdr htb
      have hah : Vw A 5 (.slice (some ⟨bu, ou, none⟩) i cv) ((ts.take i).map tbV) := by
        have := Vw.take hv (k := i) (by omega)
        rwa [← List.map_take] at this
      have htS := table_spec (ts.take i) ds t (.slice (some ⟨bu, ou, none⟩) i cv) vd A (row 3 1 vd (ds.map dpV)) hah (fun x hx => htab x (List.mem_of_mem_take hx)) Vw.row htb hok (by omega)
      clear hah
      have hnmz := htb.nm
      rw [hdr, List.map_cons] at hgo
      have hok2 := fun d (e : tableS ((ts.take i).map Tb.c) ds t.c = some d) => hok.snoc e
      have hg0 := fun (e : tableS ((ts.take i).map Tb.c) ds t.c = none) => checkS_none (s := ts.map Tb.c) (by rw [← hgo]; exact goD_none e)
      have hg1 := fun d (e : tableS ((ts.take i).map Tb.c) ds t.c = some d) => (goD_step (rest := (ts.drop (i + 1)).map Tb.c) e).symm.trans hgo
      generalize hT : tableS ((ts.take i).map Tb.c) ds t.c = T at htS hg0 hg1 hok2
      obtain ⟨tn, cols, ⟨cv', hcv'⟩, key, ref, par⟩ := t
      dsimp only [tbV, Tb.c] at hx htS hnmz
      cases T with
      | none =>
        rw [hg0 rfl]
        simp only [Option.isSome_none] at htS
        repeat' (first | (refine go_Y ?_; intros) | (refine gs_Y ?_ ?_ <;> (intro hgd; try (simp only [Bool.not_true, Bool.not_false] at hgd))) | (refine gc_Y ?_ ?_ <;> intro _) | fail)
        refine cl_Y (htS) ?_
        intro y hy
        repeat' (first | (refine go_Y ?_; intros) | (refine gs_Y ?_ ?_ <;> (intro hgd; try (simp only [Bool.not_true, Bool.not_false] at hgd))) | (refine gc_Y ?_ ?_ <;> intro _) | fail)
        (refine rt_Y (y := ⟨vd, hvd⟩) (hrs := Tryd.results71) (hv := ?_) (hφ := ?_))
        · rfl
        · trivial
      | some d =>
        simp only [Option.isSome_some] at htS
        repeat' (first | (refine go_Y ?_; intros) | (refine gs_Y ?_ ?_ <;> (intro hgd; try (simp only [Bool.not_true, Bool.not_false] at hgd))) | (refine gc_Y ?_ ?_ <;> intro _) | fail)
        refine cl_Y (htS) ?_
        intro y hy
        have hyd := hy d rfl
        subst hyd
        repeat' (first | (refine go_Y ?_; intros) | (refine gs_Y ?_ ?_ <;> (intro hgd; try (simp only [Bool.not_true, Bool.not_false] at hgd))) | (refine gc_Y ?_ ?_ <;> intro _) | fail)
        rename_i vd1 _ vd2 hvd2 vn1 _ vn2 hvn2
        have e1 : ds.map dpV ++ [(Value.int .i64 y).cells.toList] = (ds ++ [y]).map dpV := by rw [List.map_append]; rfl
        have e2 : (((ts.take i).map (·.name)).map fun s => [Value.string s]) ++ [(Value.string tn).cells.toList] = (((ts.take (i + 1)).map (·.name)).map fun s => [Value.string s]) := by rw [htk, List.map_append, List.map_append]; rfl
        have e3 : (ts.take (i + 1)).map Tb.c = (ts.take i).map Tb.c ++ [Tb.c ⟨tn, cols, ⟨cv', hcv'⟩, key, ref, par⟩] := by rw [htk, List.map_append]; rfl
        rw [e1, e2]
        refine cont_map (L' := [row 3 1 vd2 ((ds ++ [y]).map dpV), row 9 1 vn2 (((ts.take (i + 1)).map (·.name)).map fun s => [Value.string s]), pts b1 (.cells [.slice (some ⟨bu, ou, none⟩) (ts.map tbV).length cv].toArray 24), A] ++ R) entD ?_
        refine cont_back (i + 1, ⟨vd2, hvd2⟩, ⟨vn2, hvn2⟩, ds ++ [y]) ⟨h, by dsimp only; rw [e3]; exact hg1 y rfl, by dsimp only; rw [e3]; exact hok2 y rfl, ⟨rfl, rfl, by rw [decide_eq_true (Nat.succ_pos i)]; rfl, rfl, rfl, rfl, rfl, trivial⟩, rfl⟩ (by show ts.length - (i + 1) < ts.length - i; omega)
    | false =>
      have hie : i = ts.length := by have := of_decide_eq_false t1; omega
      subst hie
      rw [List.take_length, List.drop_length] at hgo
      rw [List.take_length]
      have hS : checkS (ts.map Tb.c) = namedS ((ts.map Tb.c).map (·.name)) := checkS_some (ds := ds) hgo.symm (by omega) (by omega)
      have hnm : (ts.map Tb.c).map (·.name) = ts.map (·.name) := by rw [List.map_map]; rfl
      rw [hS, hnm]
      have h0 : decide (0 < ts.length) = true := by simp; omega
      rw [h0]
      have hns := named_spec vn (row 9 1 vn ((ts.map (·.name)).map fun s => [Value.string s])) (ts.map (·.name)) Vw.row (fun s hs => by
        obtain ⟨c, hc, rfl⟩ := List.mem_map.1 hs
        have := (htab c hc).nm; omega) (by rw [List.length_map]; omega)
      generalize namedS (ts.map (·.name)) = nb at hns
      repeat' (first | (refine go_Y ?_; intros) | (refine gs_Y ?_ ?_ <;> (intro hgd; try (simp only [Bool.not_true, Bool.not_false] at hgd))) | (refine gc_Y ?_ ?_ <;> intro _) | fail)
      refine cl_Y (hns) ?_
      intro _ _
      repeat' (first | (refine go_Y ?_; intros) | (refine gs_Y ?_ ?_ <;> (intro hgd; try (simp only [Bool.not_true, Bool.not_false] at hgd))) | (refine gc_Y ?_ ?_ <;> intro _) | fail)
      (refine rt_Y (y := ⟨vd, hvd⟩) (hrs := Tryd.results71) (hv := ?_) (hφ := ?_))
      · rfl
      · trivial

theorem sCheck_spec (vs : Value) (ts : List Tb) (A : HProp) (h : SV A vs ts) :
    FSpec Tryd.prog 38 [.agg #[vs]] [A] Unit (fun _ => True) (fun _ => .int .i64 (if checkS (ts.map Tb.c) then 0 else 2)) (fun _ => [A]) := by
  have hd := depths_spec vs ts A h
  cases hc : checkS (ts.map Tb.c) with
  | true =>
    rw [hc] at hd
    rw [if_pos rfl]
    refine spec_intro [] _ Tryd.func38 rfl Tryd.ntmps38 (by rfl) (fun w0 R => ?_)
    repeat' (first | (refine go_Y ?_; intros) | (refine gs_Y ?_ ?_ <;> (intro hgd; try (simp only [Bool.not_true, Bool.not_false] at hgd))) | (refine gc_Y ?_ ?_ <;> intro _) | fail)
    refine cl_Y (hd) ?_
    rintro ⟨y, hy⟩ _
    repeat' (first | (refine go_Y ?_; intros) | (refine gs_Y ?_ ?_ <;> (intro hgd; try (simp only [Bool.not_true, Bool.not_false] at hgd))) | (refine gc_Y ?_ ?_ <;> intro _) | fail)
    (refine rt_Y (y := ()) (hrs := Tryd.results38) (hv := ?_) (hφ := ?_))
    · rfl
    · trivial
  | false =>
    rw [hc] at hd
    rw [if_neg (by decide)]
    refine spec_intro [] _ Tryd.func38 rfl Tryd.ntmps38 (by rfl) (fun w0 R => ?_)
    repeat' (first | (refine go_Y ?_; intros) | (refine gs_Y ?_ ?_ <;> (intro hgd; try (simp only [Bool.not_true, Bool.not_false] at hgd))) | (refine gc_Y ?_ ?_ <;> intro _) | fail)
    refine cl_Y (hd) ?_
    rintro ⟨y, hy⟩ _
    repeat' (first | (refine go_Y ?_; intros) | (refine gs_Y ?_ ?_ <;> (intro hgd; try (simp only [Bool.not_true, Bool.not_false] at hgd))) | (refine gc_Y ?_ ?_ <;> intro _) | fail)
    (refine rt_Y (y := ()) (hrs := Tryd.results38) (hv := ?_) (hφ := ?_))
    · rfl
    · trivial
end Go.Proofs.YtphaegcoldpclaaDoor
