import Derived.Test.YtphaegcoldpclaaDoorL14E
import Derived.Test.YtphaegcoldpclaaDoorTxB
import Derived.Test.YtphaegcoldpclaaDoorQbC
set_option linter.unusedSimpArgs false
set_option linter.unusedVariables false
set_option maxRecDepth 100000
namespace Go.Proofs.YtphaegcoldpclaaDoor
open Go Go.Fx Go.Proofs Go.Pl

structure CsR (A : HProp) (ul : Value) (cs : List Cm) : Prop where
  vw : Vw A 4 ul (cs.map cmV)
  c : ∀ x ∈ cs, CmR A x
  bl : ∀ x ∈ cs, x.bef.length ≤ 140737488355328 ∧ ∀ v ∈ x.bef, v.text.size ≤ 140737488355328
  al : ∀ x ∈ cs, x.aft.length ≤ 140737488355328 ∧ ∀ v ∈ x.aft, v.text.size ≤ 140737488355328
  len : cs.length ≤ 140737488355328
def smallC (cs : List Cm) : Prop := cs.length ≤ 300 ∧ ∀ x ∈ cs, x.bef.length ≤ 3000 ∧ x.aft.length ≤ 3000
set_option maxHeartbeats 8000000 in
theorem heavy20_spec (vs uq ul : Value) (ts : List Tb) (m : Int) (qs : List Int) (cs : List Cm) (A : HProp) (h : SVr A vs ts) (hq : Vw A 1 uq (qs.map sqV)) (hc : CsR A ul cs) :
    FSpec Tryd.prog 6 [.agg #[vs], .agg #[.int .u64 m, uq], ul] [A] Bool (fun y => y = false → smallS ts ∧ qs.length ≤ 100 ∧ smallC cs) (fun y => .bool y) (fun _ => [A]) := by
  have hv := hc.vw
  have hz := hc.len
  have lm : (cs.map cmV).length = cs.length := by simp
  have lq : (qs.map sqV).length = qs.length := by simp
  refine spec_intro [] _ Tryd.func6 rfl Tryd.ntmps6 (by rfl) (fun w0 R => ?_)
  refine ok_learn (VwIn.slice (VwIn.here hv)) ?_
  rintro ⟨pv, cv, rfl⟩
  refine ok_learn (VwIn.slice (VwIn.here hq)) ?_
  rintro ⟨pq, cq, rfl⟩
  repeat' (first | (refine go_Y ?_; intros) | (refine gs_Y ?_ ?_ <;> (intro hgd; try (simp only [Bool.not_true, Bool.not_false] at hgd))) | (refine gc_Y ?_ ?_ <;> intro _) | fail)
  rename_i b3 b4
  refine ok_map (L' := [A, pts b3 (.cells [vs].toArray 24), pts b4 (.cells [.int .u64 m, .slice pq (qs.map sqV).length cq].toArray 28)] ++ R) entD ?_
  refine ok_loop' (γ := Nat × Nat) (fun g ρ L => g.1 ≤ cs.length ∧ g.1 ≤ 400 ∧ (∀ x ∈ cs.take g.1, x.bef.length ≤ g.2 ∧ x.aft.length ≤ g.2) ∧ g.2 ≤ g.1 * 8001 ∧ Knows ρ [(2, .slice pv (cs.map cmV).length cv), (3, .pointer (some ⟨b3, 0, none⟩)), (4, .pointer (some ⟨b4, 0, none⟩)), (7, .int .i64 (g.2 : Int)), (8, .int .i64 g.1)] ∧
      L = [A, pts b3 (.cells [vs].toArray 24), pts b4 (.cells [.int .u64 m, .slice pq (qs.map sqV).length cq].toArray 28)] ++ R) (fun g => cs.length - g.1) (0, 0)
    ⟨by omega, by omega, fun _ h => by simp at h, by simp, ⟨rfl, rfl, rfl, rfl, rfl, trivial⟩, rfl⟩ ?_
  rintro ⟨i, n⟩ ρ L ⟨hi, hi1, hall, hn, hk, rfl⟩
  dsimp only at hi hi1 hall hn hk ⊢
  refine ok_regs hk ?_
  have hend : decide ((300 : Int) < ((cs.map cmV).length : Int)) = false → decide ((3000 : Int) < (n : Int)) = false → (i = cs.length ∨ i = 400) → smallC cs := fun hb hb2 he => by
    simp only [decide_eq_false_iff_not] at hb hb2
    have hie : i = cs.length := by omega
    rw [hie, List.take_length] at hall
    exact ⟨by omega, fun t ht => by have := hall t ht; omega⟩
  cases t1 : decide ((i : Int) < ((cs.map cmV).length : Int)) with
  | false =>
    have he : i = cs.length ∨ i = 400 := .inl (by have := of_decide_eq_false t1; omega)
    cases u1 : decide ((100 : Int) < ((qs.map sqV).length : Int)) with
    | true =>
      repeat' (first | (refine go_Y ?_; intros) | (refine gs_Y ?_ ?_ <;> (intro hgd; try (simp only [Bool.not_true, Bool.not_false] at hgd))) | (refine gc_Y ?_ ?_ <;> intro _) | fail)
      refine cl_Y (large_spec vs ts A h) ?_
      intro _ _
      repeat' (first | (refine go_Y ?_; intros) | (refine gs_Y ?_ ?_ <;> (intro hgd; try (simp only [Bool.not_true, Bool.not_false] at hgd))) | (refine gc_Y ?_ ?_ <;> intro _) | fail)
      all_goals
        repeat' (first | (refine go_Y ?_; intros) | (refine gs_Y ?_ ?_ <;> (intro hgd; try (simp only [Bool.not_true, Bool.not_false] at hgd))) | (refine gc_Y ?_ ?_ <;> intro _) | fail)
        (refine rt_Y (y := true) (hrs := Tryd.results6) (hv := ?_) (hφ := ?_))
        · rfl
        · intro hb; cases hb
    | false =>
    cases u2 : decide ((300 : Int) < ((cs.map cmV).length : Int)) with
    | true =>
      repeat' (first | (refine go_Y ?_; intros) | (refine gs_Y ?_ ?_ <;> (intro hgd; try (simp only [Bool.not_true, Bool.not_false] at hgd))) | (refine gc_Y ?_ ?_ <;> intro _) | fail)
      refine cl_Y (large_spec vs ts A h) ?_
      intro _ _
      repeat' (first | (refine go_Y ?_; intros) | (refine gs_Y ?_ ?_ <;> (intro hgd; try (simp only [Bool.not_true, Bool.not_false] at hgd))) | (refine gc_Y ?_ ?_ <;> intro _) | fail)
      all_goals
        repeat' (first | (refine go_Y ?_; intros) | (refine gs_Y ?_ ?_ <;> (intro hgd; try (simp only [Bool.not_true, Bool.not_false] at hgd))) | (refine gc_Y ?_ ?_ <;> intro _) | fail)
        (refine rt_Y (y := true) (hrs := Tryd.results6) (hv := ?_) (hφ := ?_))
        · rfl
        · intro hb; cases hb
    | false =>
      repeat' (first | (refine go_Y ?_; intros) | (refine gs_Y ?_ ?_ <;> (intro hgd; try (simp only [Bool.not_true, Bool.not_false] at hgd))) | (refine gc_Y ?_ ?_ <;> intro _) | fail)
      refine cl_Y (large_spec vs ts A h) ?_
      intro _ _
      repeat' (first | (refine go_Y ?_; intros) | (refine gs_Y ?_ ?_ <;> (intro hgd; try (simp only [Bool.not_true, Bool.not_false] at hgd))) | (refine gc_Y ?_ ?_ <;> intro _) | fail)
      · rename_i yy hlg
        have hsm := hlg hgd
        repeat' (first | (refine go_Y ?_; intros) | (refine gs_Y ?_ ?_ <;> (intro hgd; try (simp only [Bool.not_true, Bool.not_false] at hgd))) | (refine gc_Y ?_ ?_ <;> intro _) | fail)
        (refine rt_Y (y := decide ((3000 : Int) < (n : Int))) (hrs := Tryd.results6) (hv := ?_) (hφ := ?_))
        · rfl
        · exact fun hb => ⟨hsm, by have := of_decide_eq_false u1; omega, hend u2 hb he⟩
      · repeat' (first | (refine go_Y ?_; intros) | (refine gs_Y ?_ ?_ <;> (intro hgd; try (simp only [Bool.not_true, Bool.not_false] at hgd))) | (refine gc_Y ?_ ?_ <;> intro _) | fail)
        (refine rt_Y (y := true) (hrs := Tryd.results6) (hv := ?_) (hφ := ?_))
        · rfl
        · intro hb; cases hb
  | true =>
    have h0 : i < cs.length := by have := of_decide_eq_true t1; omega
    cases t2 : decide ((i : Int) < 400) with
    | false =>
      have he : i = cs.length ∨ i = 400 := .inr (by have := of_decide_eq_false t2; omega)
      cases u1 : decide ((100 : Int) < ((qs.map sqV).length : Int)) with
      | true =>
        repeat' (first | (refine go_Y ?_; intros) | (refine gs_Y ?_ ?_ <;> (intro hgd; try (simp only [Bool.not_true, Bool.not_false] at hgd))) | (refine gc_Y ?_ ?_ <;> intro _) | fail)
        refine cl_Y (large_spec vs ts A h) ?_
        intro _ _
        repeat' (first | (refine go_Y ?_; intros) | (refine gs_Y ?_ ?_ <;> (intro hgd; try (simp only [Bool.not_true, Bool.not_false] at hgd))) | (refine gc_Y ?_ ?_ <;> intro _) | fail)
        all_goals
          repeat' (first | (refine go_Y ?_; intros) | (refine gs_Y ?_ ?_ <;> (intro hgd; try (simp only [Bool.not_true, Bool.not_false] at hgd))) | (refine gc_Y ?_ ?_ <;> intro _) | fail)
          (refine rt_Y (y := true) (hrs := Tryd.results6) (hv := ?_) (hφ := ?_))
          · rfl
          · intro hb; cases hb
      | false =>
      cases u2 : decide ((300 : Int) < ((cs.map cmV).length : Int)) with
      | true =>
        repeat' (first | (refine go_Y ?_; intros) | (refine gs_Y ?_ ?_ <;> (intro hgd; try (simp only [Bool.not_true, Bool.not_false] at hgd))) | (refine gc_Y ?_ ?_ <;> intro _) | fail)
        refine cl_Y (large_spec vs ts A h) ?_
        intro _ _
        repeat' (first | (refine go_Y ?_; intros) | (refine gs_Y ?_ ?_ <;> (intro hgd; try (simp only [Bool.not_true, Bool.not_false] at hgd))) | (refine gc_Y ?_ ?_ <;> intro _) | fail)
        all_goals
          repeat' (first | (refine go_Y ?_; intros) | (refine gs_Y ?_ ?_ <;> (intro hgd; try (simp only [Bool.not_true, Bool.not_false] at hgd))) | (refine gc_Y ?_ ?_ <;> intro _) | fail)
          (refine rt_Y (y := true) (hrs := Tryd.results6) (hv := ?_) (hφ := ?_))
          · rfl
          · intro hb; cases hb
      | false =>
        repeat' (first | (refine go_Y ?_; intros) | (refine gs_Y ?_ ?_ <;> (intro hgd; try (simp only [Bool.not_true, Bool.not_false] at hgd))) | (refine gc_Y ?_ ?_ <;> intro _) | fail)
        refine cl_Y (large_spec vs ts A h) ?_
        intro _ _
        repeat' (first | (refine go_Y ?_; intros) | (refine gs_Y ?_ ?_ <;> (intro hgd; try (simp only [Bool.not_true, Bool.not_false] at hgd))) | (refine gc_Y ?_ ?_ <;> intro _) | fail)
        · rename_i yy hlg
          have hsm := hlg hgd
          repeat' (first | (refine go_Y ?_; intros) | (refine gs_Y ?_ ?_ <;> (intro hgd; try (simp only [Bool.not_true, Bool.not_false] at hgd))) | (refine gc_Y ?_ ?_ <;> intro _) | fail)
          (refine rt_Y (y := decide ((3000 : Int) < (n : Int))) (hrs := Tryd.results6) (hv := ?_) (hφ := ?_))
          · rfl
          · exact fun hb => ⟨hsm, by have := of_decide_eq_false u1; omega, hend u2 hb he⟩
        · repeat' (first | (refine go_Y ?_; intros) | (refine gs_Y ?_ ?_ <;> (intro hgd; try (simp only [Bool.not_true, Bool.not_false] at hgd))) | (refine gc_Y ?_ ?_ <;> intro _) | fail)
          (refine rt_Y (y := true) (hrs := Tryd.results6) (hv := ?_) (hφ := ?_))
          · rfl
          · intro hb; cases hb
    | true =>
      have h40 : i < 400 := by have := of_decide_eq_true t2; omega
      have hx : (cs.map cmV)[i]? = some (cmV cs[i]) := by rw [List.getElem?_map, List.getElem?_eq_getElem h0]; rfl
      have hnn : i < (cs.map cmV).length := by omega
      have htk : cs.take (i + 1) = cs.take i ++ [cs[i]] := List.take_succ_eq_append_getElem h0
      have hci := hc.c _ (List.getElem_mem h0)
      obtain ⟨hb1, hb2⟩ := hc.bl _ (List.getElem_mem h0)
      obtain ⟨ha1, ha2⟩ := hc.al _ (List.getElem_mem h0)
      refine ok_learn (VwIn.base (n := 4) (p := pv) (len := (cs.map cmV).length) (cap := cv) (xs := cs.map cmV) (VwIn.here hv) (by intro e; rw [e] at hnn; simp at hnn)) ?_
      rintro ⟨bu, ou, rfl⟩
      generalize cs[i] = c at hx htk hci hb1 hb2 ha1 ha2
      obtain ⟨ck, ct, ⟨bv, hbv⟩, bef, ⟨av, hav⟩, aft⟩ := c
      dsimp only [cmV] at hx hb1 hb2 ha1 ha2
      have hvb : Vw A 4 bv (bef.map valV) := hci.bv
      have hva : Vw A 4 av (aft.map valV) := hci.av
      have lb : (bef.map valV).length = bef.length := by simp
      have la : (aft.map valV).length = aft.length := by simp
      refine ok_learn (VwIn.slice (VwIn.here hvb)) ?_
      rintro ⟨pb, cb, rfl⟩
      refine ok_learn (VwIn.slice (VwIn.here hva)) ?_
      rintro ⟨pa, ca, rfl⟩
      repeat' (first | (refine go_Y ?_; intros) | (refine gs_Y ?_ ?_ <;> (intro hgd; try (simp only [Bool.not_true, Bool.not_false] at hgd))) | (refine gc_Y ?_ ?_ <;> intro _) | fail)
      refine cl_Y (long_spec (.slice pb (bef.map valV).length cb) A bef hvb hb1 hb2) ?_
      intro _ _
      repeat' (first | (refine go_Y ?_; intros) | (refine gs_Y ?_ ?_ <;> (intro hgd; try (simp only [Bool.not_true, Bool.not_false] at hgd))) | (refine gc_Y ?_ ?_ <;> intro _) | fail)
      · rename_i yy hlg
        have hl := hlg hgd
        refine cl_Y (long_spec (.slice pa (aft.map valV).length ca) A aft hva ha1 ha2) ?_
        intro _ _
        repeat' (first | (refine go_Y ?_; intros) | (refine gs_Y ?_ ?_ <;> (intro hgd; try (simp only [Bool.not_true, Bool.not_false] at hgd))) | (refine gc_Y ?_ ?_ <;> intro _) | fail)
        · repeat' (first | (refine go_Y ?_; intros) | (refine gs_Y ?_ ?_ <;> (intro hgd; try (simp only [Bool.not_true, Bool.not_false] at hgd))) | (refine gc_Y ?_ ?_ <;> intro _) | fail)
          (refine rt_Y (y := true) (hrs := Tryd.results6) (hv := ?_) (hφ := ?_))
          · rfl
          · intro hb; cases hb
        · rename_i hl2 hl3
          have hl' := hl2 hl3
          repeat' (first | (refine go_Y ?_; intros) | (refine gs_Y ?_ ?_ <;> (intro hgd; try (simp only [Bool.not_true, Bool.not_false] at hgd))) | (refine gc_Y ?_ ?_ <;> intro _) | fail)
          refine cont_map (L' := [A, pts b3 (.cells [vs].toArray 24), pts b4 (.cells [.int .u64 m, .slice pq (qs.map sqV).length cq].toArray 28)] ++ R) entD ?_
          refine cont_back (i + 1, n + 1 + bef.length + aft.length) ⟨h0, by dsimp only; omega, fun x hx => by
            rw [htk] at hx
            rcases List.mem_append.1 hx with hx | hx
            · have := hall x hx; dsimp only; omega
            · rw [List.mem_singleton] at hx; subst hx; dsimp only; omega, by dsimp only; rw [Nat.succ_mul]; omega, ⟨rfl, rfl, rfl, by show Value.int .i64 ((n : Int) + 1 + ((bef.map valV).length : Int) + ((aft.map valV).length : Int)) = _; rw [lb, la]; simp, rfl, trivial⟩, rfl⟩ (by show cs.length - (i + 1) < cs.length - i; omega)
      · repeat' (first | (refine go_Y ?_; intros) | (refine gs_Y ?_ ?_ <;> (intro hgd; try (simp only [Bool.not_true, Bool.not_false] at hgd))) | (refine gc_Y ?_ ?_ <;> intro _) | fail)
        (refine rt_Y (y := true) (hrs := Tryd.results6) (hv := ?_) (hφ := ?_))
        · rfl
        · intro hb; cases hb
end Go.Proofs.YtphaegcoldpclaaDoor
