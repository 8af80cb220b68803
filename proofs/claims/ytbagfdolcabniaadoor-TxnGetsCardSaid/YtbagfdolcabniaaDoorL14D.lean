/- The laws' guards: Large (13), Heavy (14). -/
import Derived.Test.YtbagfdolcabniaaDoorL14C
-- @DEFS Y
set_option linter.unusedSimpArgs false
set_option linter.unusedVariables false
set_option maxRecDepth 100000
namespace Go.Proofs.YtbagfdolcabniaaDoor
open Go Go.Fx Go.Proofs Go.Pl

/-- A table, a schema, in memory, of whatever length. -/
structure TbR (A : HProp) (t : Tb) : Prop where
  vw : Vw A 3 t.cv.1 (t.cols.map coV)
  len : t.cols.length ≤ 140737488355328
  nm : t.name.size ≤ 140737488355328
  cnm : ∀ c ∈ t.cols, c.name.size ≤ 140737488355328
structure SVr (A : HProp) (vs : Value) (ts : List Tb) : Prop where
  vw : Vw A 5 vs (ts.map tbV)
  tab : ∀ t ∈ ts, TbR A t
  len : ts.length ≤ 140737488355328
  cap : capOk vs
def smallS (ts : List Tb) : Prop := ts.length ≤ 30 ∧ ∀ t ∈ ts, t.cols.length ≤ 600
theorem SVr.sv {A : HProp} {vs : Value} {ts : List Tb} (h : SVr A vs ts) (hs : smallS ts) : SV A vs ts :=
  ⟨h.vw, fun t ht => ⟨(h.tab t ht).vw, by have := hs.2 t ht; omega, (h.tab t ht).nm, (h.tab t ht).cnm⟩, by have := hs.1; omega, h.cap⟩

set_option maxHeartbeats 4000000 in
theorem large_spec (vs : Value) (ts : List Tb) (A : HProp) (h : SVr A vs ts) :
    FSpec Tryd.prog 50 [.agg #[vs]] [A] Bool (fun y => y = false → smallS ts) (fun y => .bool y) (fun _ => [A]) := by
  have hv := h.vw
  have hz := h.len
  have lm : (ts.map tbV).length = ts.length := by simp
  refine spec_intro [] _ Tryd.func50 rfl Tryd.ntmps50 (by rfl) (fun w0 R => ?_)
  refine ok_learn (VwIn.slice (VwIn.here hv)) ?_
  rintro ⟨pv, cv, rfl⟩
  repeat' (first | (refine go_Y ?_; intros) | (refine gs_Y ?_ ?_ <;> (intro hgd; try (simp only [Bool.not_true, Bool.not_false] at hgd))) | (refine gc_Y ?_ ?_ <;> intro _) | fail)
  rename_i b1
  refine ok_loop' (γ := Nat × Nat) (fun g ρ L => g.1 ≤ ts.length ∧ g.1 ≤ 40 ∧ (∀ t ∈ ts.take g.1, t.cols.length ≤ g.2) ∧ g.2 ≤ g.1 * 9007199254740992 ∧ Knows ρ [(1, .pointer (some ⟨b1, 0, none⟩)), (3, .int .i64 (g.2 : Int)), (4, .int .i64 g.1)] ∧ L = [pts b1 (.cells [.slice pv (ts.map tbV).length cv].toArray 24), A] ++ R) (fun g => ts.length - g.1) (0, 0)
    ⟨by omega, by omega, fun _ h => by simp at h, by simp, ⟨rfl, rfl, rfl, trivial⟩, rfl⟩ ?_
  rintro ⟨i, n⟩ ρ L ⟨hi, hi1, hall, hn, hk, rfl⟩
  dsimp only at hi hi1 hall hn hk ⊢
  refine ok_regs hk ?_
  have hend : (decide ((30 : Int) < ((ts.map tbV).length : Int)) || decide ((600 : Int) < (n : Int))) = false → (i = ts.length ∨ i = 40) → smallS ts := fun hb he => by
    simp only [Bool.or_eq_false_iff, decide_eq_false_iff_not] at hb
    have hie : i = ts.length := by omega
    rw [hie, List.take_length] at hall
    exact ⟨by omega, fun t ht => by have := hall t ht; omega⟩
  cases t1 : decide ((i : Int) < ((ts.map tbV).length : Int)) with
  | false =>
    have hie : i = ts.length := by have := of_decide_eq_false t1; omega
    cases u1 : decide ((30 : Int) < ((ts.map tbV).length : Int)) with
    | true =>
      repeat' (first | (refine go_Y ?_; intros) | (refine gs_Y ?_ ?_ <;> (intro hgd; try (simp only [Bool.not_true, Bool.not_false] at hgd))) | (refine gc_Y ?_ ?_ <;> intro _) | fail)
      (refine rt_Y (y := true) (hrs := Tryd.results50) (hv := ?_) (hφ := ?_))
      · rfl
      · intro hb; cases hb
    | false =>
      repeat' (first | (refine go_Y ?_; intros) | (refine gs_Y ?_ ?_ <;> (intro hgd; try (simp only [Bool.not_true, Bool.not_false] at hgd))) | (refine gc_Y ?_ ?_ <;> intro _) | fail)
      (refine rt_Y (y := decide ((600 : Int) < (n : Int))) (hrs := Tryd.results50) (hv := ?_) (hφ := ?_))
      · rfl
      · exact fun hb => hend (by rw [u1, hb]; rfl) (.inl hie)
  | true =>
    have h0 : i < ts.length := by have := of_decide_eq_true t1; omega
    cases t2 : decide ((i : Int) < 40) with
    | false =>
      have hie : i = 40 := by have := of_decide_eq_false t2; omega
      cases u1 : decide ((30 : Int) < ((ts.map tbV).length : Int)) with
      | true =>
        repeat' (first | (refine go_Y ?_; intros) | (refine gs_Y ?_ ?_ <;> (intro hgd; try (simp only [Bool.not_true, Bool.not_false] at hgd))) | (refine gc_Y ?_ ?_ <;> intro _) | fail)
        (refine rt_Y (y := true) (hrs := Tryd.results50) (hv := ?_) (hφ := ?_))
        · rfl
        · intro hb; cases hb
      | false =>
        repeat' (first | (refine go_Y ?_; intros) | (refine gs_Y ?_ ?_ <;> (intro hgd; try (simp only [Bool.not_true, Bool.not_false] at hgd))) | (refine gc_Y ?_ ?_ <;> intro _) | fail)
        (refine rt_Y (y := decide ((600 : Int) < (n : Int))) (hrs := Tryd.results50) (hv := ?_) (hφ := ?_))
        · rfl
        · exact fun hb => hend (by rw [u1, hb]; rfl) (.inr hie)
    | true =>
      have h40 : i < 40 := by have := of_decide_eq_true t2; omega
      have hti : ts[i]? = some ts[i] := List.getElem?_eq_getElem h0
      have hx : (ts.map tbV)[i]? = some (tbV ts[i]) := by rw [List.getElem?_map, hti]; rfl
      have hnn : i < (ts.map tbV).length := by omega
      have htk : ts.take (i + 1) = ts.take i ++ [ts[i]] := List.take_succ_eq_append_getElem h0
      obtain ⟨hcv, hcl, hcn, hcs⟩ := h.tab _ (List.getElem_mem h0)
      refine ok_learn (VwIn.base (VwIn.there (VwIn.here hv)) (by intro e; rw [e] at hnn; simp at hnn)) ?_
      rintro ⟨bu, ou, rfl⟩
      generalize ts[i] = t at hx htk hcv hcl hcn hcs
      obtain ⟨tn, cols, ⟨cv', hcv'⟩, key, ref, par⟩ := t
      dsimp only [tbV] at hx hcv hcl hcn hcs
      have lc : (cols.map coV).length = cols.length := by simp
      refine ok_learn (VwIn.slice (VwIn.there (VwIn.here hcv))) ?_
      rintro ⟨pc, cc, rfl⟩
      have hq := quo_nat tn.size 16 (by decide) hcn
      have hqb : tn.size / 16 ≤ 140737488355328 := Nat.le_trans (Nat.div_le_self _ _) hcn
      generalize tn.size / 16 = q at hq hqb
      have hq' : IntKind.i64.wrap ((tn.size : Int).tdiv 16) = (q : Int) := hq
      have hib : i * 9007199254740992 ≤ 40 * 9007199254740992 := Nat.mul_le_mul_right _ hi1
      repeat' (first | (refine go_Y ?_; intros) | (refine gs_Y ?_ ?_ <;> (intro hgd; try (simp only [Bool.not_true, Bool.not_false] at hgd))) | (refine gc_Y ?_ ?_ <;> intro _) | fail)
      refine ok_loop' (γ := Nat × Nat) (fun g ρ L => g.1 ≤ cols.length ∧ g.1 ≤ 40 ∧ n + cols.length + q ≤ g.2 ∧ g.2 ≤ n + cols.length + q + g.1 * 140737488355328 ∧ Knows ρ [(1, .pointer (some ⟨b1, 0, none⟩)), (3, .int .i64 (g.2 : Int)), (4, .int .i64 i), (5, .int .i64 g.1)] ∧ L = [pts b1 (.cells [.slice (some ⟨bu, ou, none⟩) (ts.map tbV).length cv].toArray 24), A] ++ R) (fun g => cols.length - g.1) (0, n + cols.length + q)
        ⟨by omega, by omega, by simp, by simp, ⟨rfl, by show Value.int .i64 ((n : Int) + ((cols.map coV).length : Int) + (q : Int)) = _; rw [lc]; simp, rfl, rfl, trivial⟩, rfl⟩ ?_
      rintro ⟨k, z⟩ ρ L ⟨hk0, hk1, hz1, hz2, hk', rfl⟩
      dsimp only at hk0 hk1 hz1 hz2 hk' ⊢
      refine ok_regs hk' ?_
      have hkb : k * 140737488355328 ≤ 40 * 140737488355328 := Nat.mul_le_mul_right _ hk1
      have hnext : ∀ x ∈ ts.take (i + 1), x.cols.length ≤ z := fun x hx => by
        rw [htk] at hx
        rcases List.mem_append.1 hx with hx | hx
        · have := hall x hx; omega
        · rw [List.mem_singleton] at hx; subst hx; dsimp only; omega
      have hzz : z ≤ (i + 1) * 9007199254740992 := by rw [Nat.succ_mul]; omega
      cases t3 : decide ((k : Int) < ((cols.map coV).length : Int)) with
      | false =>
        repeat' (first | (refine go_Y ?_; intros) | (refine gs_Y ?_ ?_ <;> (intro hgd; try (simp only [Bool.not_true, Bool.not_false] at hgd))) | (refine gc_Y ?_ ?_ <;> intro _) | fail)
        refine cont_back (i + 1, z) ⟨h0, by dsimp only; omega, hnext, hzz, ⟨rfl, rfl, rfl, trivial⟩, rfl⟩ (by show ts.length - (i + 1) < ts.length - i; omega)
      | true =>
        have hkl : k < cols.length := by have := of_decide_eq_true t3; omega
        cases t4 : decide ((k : Int) < 40) with
        | false =>
          repeat' (first | (refine go_Y ?_; intros) | (refine gs_Y ?_ ?_ <;> (intro hgd; try (simp only [Bool.not_true, Bool.not_false] at hgd))) | (refine gc_Y ?_ ?_ <;> intro _) | fail)
          refine cont_back (i + 1, z) ⟨h0, by dsimp only; omega, hnext, hzz, ⟨rfl, rfl, rfl, trivial⟩, rfl⟩ (by show ts.length - (i + 1) < ts.length - i; omega)
        | true =>
          have hk4 : k < 40 := by have := of_decide_eq_true t4; omega
          have hxc : (cols.map coV)[k]? = some (coV cols[k]) := by rw [List.getElem?_map, List.getElem?_eq_getElem hkl]; rfl
          have hnk : k < (cols.map coV).length := by omega
          have hcz := hcs _ (List.getElem_mem hkl)
          refine ok_learn (VwIn.base (VwIn.there (VwIn.here hcv)) (by intro e; rw [e] at hnk; simp at hnk)) ?_
          rintro ⟨bc, oc, rfl⟩
          generalize cols[k] = c at hxc hcz
          obtain ⟨cn, ck, cb⟩ := c
          dsimp only [coV] at hxc hcz
          have hp := quo_nat cn.size 16 (by decide) hcz
          have hpb : cn.size / 16 ≤ 140737488355328 := Nat.le_trans (Nat.div_le_self _ _) hcz
          generalize cn.size / 16 = p at hp hpb
          have hp' : IntKind.i64.wrap ((cn.size : Int).tdiv 16) = (p : Int) := hp
          repeat' (first | (refine go_Y ?_; intros) | (refine gs_Y ?_ ?_ <;> (intro hgd; try (simp only [Bool.not_true, Bool.not_false] at hgd))) | (refine gc_Y ?_ ?_ <;> intro _) | fail)
          refine cont_back (k + 1, z + p) ⟨hkl, by dsimp only; omega, by dsimp only; omega, by dsimp only; rw [Nat.succ_mul]; omega, ⟨rfl, by show Value.int .i64 ((z : Int) + (p : Int)) = _; simp, rfl, rfl, trivial⟩, rfl⟩ (by show cols.length - (k + 1) < cols.length - k; omega)
end Go.Proofs.YtbagfdolcabniaaDoor
