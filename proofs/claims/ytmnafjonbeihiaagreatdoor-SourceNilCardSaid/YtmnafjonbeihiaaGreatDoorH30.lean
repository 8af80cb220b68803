/- Texts merged: L14E RwA. -/
import Derived.Test.YtmnafjonbeihiaaGreatDoorG5
import Derived.Test.YtmnafjonbeihiaaGreatDoorG4
set_option linter.unusedSimpArgs false
set_option linter.unusedVariables false
set_option maxRecDepth 100000
namespace Go.Proofs.YtmnafjonbeihiaaGreatDoor
open Go Go.Fx Go.Proofs Go.Pl
structure Om where
  kind : Int
  table : Int
  rv : V1s
  row : List Vl
def opV (o : Om) : List Value := [.int .u8 o.kind, .int .i64 o.table, o.rv.1]
def Om.c (o : Om) : Opr := ⟨o.kind, o.table, o.row⟩
structure OmR (A : HProp) (o : Om) : Prop where
  vw : Vw A 4 o.rv.1 (o.row.map valV)
  len : o.row.length ≤ 140737488355328
  txt : ∀ v ∈ o.row, v.text.size ≤ 140737488355328
structure OsR (A : HProp) (vo : Value) (ops : List Om) : Prop where
  vw : Vw A 3 vo (ops.map opV)
  op : ∀ o ∈ ops, OmR A o
  len : ops.length ≤ 140737488355328
def smallO (ops : List Om) : Prop := ops.length ≤ 300 ∧ ∀ o ∈ ops, o.row.length ≤ 3000
set_option maxHeartbeats 4000000 in
theorem heavy14_spec (vs vo : Value) (ts : List Tb) (ops : List Om) (A : HProp) (h : SVr A vs ts) (ho : OsR A vo ops) :
    FSpec Tryz.prog 7 [.agg #[vs], vo] [A] Bool (fun y => y = false → smallS ts ∧ smallO ops) (fun y => .bool y) (fun _ => [A]) := by
  have hv := ho.vw
  have hz := ho.len
  have lm : (ops.map opV).length = ops.length := by simp
  refine spec_intro [] _ Tryz.func7 rfl Tryz.ntmps7 (by rfl) (fun w0 R => ?_)
  refine ok_learn (VwIn.slice (VwIn.here hv)) ?_
  rintro ⟨pv, cv, rfl⟩
  repeat' (first | (refine gY ?_; intros) | (refine hY ?_ ?_ <;> (intro hgd; try simp only [bn] at hgd)) | (refine jY ?_ ?_ <;> intro _) | fail)
  rename_i b1
  refine ok_loop' (γ := Nat × Nat) (fun g ρ L => g.1 ≤ ops.length ∧ g.1 ≤ 400 ∧ (∀ o ∈ ops.take g.1, o.row.length ≤ g.2) ∧ g.2 ≤ g.1 * 4001 ∧ Knows ρ [(1, .slice pv (ops.map opV).length cv), (2, .pointer (some ⟨b1, 0, none⟩)), (4, .bool false), (5, .int .i64 (g.2 : Int)), (6, .int .i64 g.1)] ∧ L = [pts b1 (.cells [vs].toArray 29), A] ++ R) (fun g => ops.length - g.1) (0, 0)
    ⟨by omega, by omega, fun _ h => by simp at h, by simp, ⟨rfl, rfl, rfl, rfl, rfl, trivial⟩, rfl⟩ ?_
  rintro ⟨i, n⟩ ρ L ⟨hi, hi1, hall, hn, hk, rfl⟩
  dsimp only at hi hi1 hall hn hk ⊢
  refine ok_regs hk ?_
  have hend : (decide ((300 : Int) < ((ops.map opV).length : Int)) || decide ((3000 : Int) < (n : Int))) = false → (i = ops.length ∨ i = 400) → smallO ops := fun hb he => by
    simp only [Bool.or_eq_false_iff, decide_eq_false_iff_not] at hb
    have hie : i = ops.length := by omega
    rw [hie, List.take_length] at hall
    exact ⟨by omega, fun t ht => by have := hall t ht; omega⟩
  cases t1 : decide ((i : Int) < ((ops.map opV).length : Int)) with
  | false =>
    have hie : i = ops.length := by have := of_decide_eq_false t1; omega
    cases u1 : decide ((300 : Int) < ((ops.map opV).length : Int)) with
    | true =>
      repeat' (first | (refine gY ?_; intros) | (refine hY ?_ ?_ <;> (intro hgd; try simp only [bn] at hgd)) | (refine jY ?_ ?_ <;> intro _) | fail)
      refine cl_Y (large_spec vs ts A h) ?_
      intro _ _
      repeat' (first | (refine gY ?_; intros) | (refine hY ?_ ?_ <;> (intro hgd; try simp only [bn] at hgd)) | (refine jY ?_ ?_ <;> intro _) | fail)
      · repeat' (first | (refine gY ?_; intros) | (refine hY ?_ ?_ <;> (intro hgd; try simp only [bn] at hgd)) | (refine jY ?_ ?_ <;> intro _) | fail)
        (refine rt_Y (y := true) (hrs := Tryz.results7) (hv := ?_) (hφ := ?_))
        · rfl
        · intro hb; cases hb
      · repeat' (first | (refine gY ?_; intros) | (refine hY ?_ ?_ <;> (intro hgd; try simp only [bn] at hgd)) | (refine jY ?_ ?_ <;> intro _) | fail)
        (refine rt_Y (y := true) (hrs := Tryz.results7) (hv := ?_) (hφ := ?_))
        · rfl
        · intro hb; cases hb
    | false =>
      repeat' (first | (refine gY ?_; intros) | (refine hY ?_ ?_ <;> (intro hgd; try simp only [bn] at hgd)) | (refine jY ?_ ?_ <;> intro _) | fail)
      refine cl_Y (large_spec vs ts A h) ?_
      intro _ _
      repeat' (first | (refine gY ?_; intros) | (refine hY ?_ ?_ <;> (intro hgd; try simp only [bn] at hgd)) | (refine jY ?_ ?_ <;> intro _) | fail)
      · rename_i yy hlg
        have hsm := hlg hgd
        repeat' (first | (refine gY ?_; intros) | (refine hY ?_ ?_ <;> (intro hgd; try simp only [bn] at hgd)) | (refine jY ?_ ?_ <;> intro _) | fail)
        (refine rt_Y (y := decide ((3000 : Int) < (n : Int))) (hrs := Tryz.results7) (hv := ?_) (hφ := ?_))
        · rfl
        · exact fun hb => ⟨hsm, hend (by rw [u1, hb]; rfl) (.inl hie)⟩
      · repeat' (first | (refine gY ?_; intros) | (refine hY ?_ ?_ <;> (intro hgd; try simp only [bn] at hgd)) | (refine jY ?_ ?_ <;> intro _) | fail)
        (refine rt_Y (y := true) (hrs := Tryz.results7) (hv := ?_) (hφ := ?_))
        · rfl
        · intro hb; cases hb
  | true =>
    have h0 : i < ops.length := by have := of_decide_eq_true t1; omega
    cases t2 : decide ((i : Int) < 400) with
    | false =>
      have hie : i = 400 := by have := of_decide_eq_false t2; omega
      cases u1 : decide ((300 : Int) < ((ops.map opV).length : Int)) with
      | true =>
        repeat' (first | (refine gY ?_; intros) | (refine hY ?_ ?_ <;> (intro hgd; try simp only [bn] at hgd)) | (refine jY ?_ ?_ <;> intro _) | fail)
        refine cl_Y (large_spec vs ts A h) ?_
        intro _ _
        repeat' (first | (refine gY ?_; intros) | (refine hY ?_ ?_ <;> (intro hgd; try simp only [bn] at hgd)) | (refine jY ?_ ?_ <;> intro _) | fail)
        · repeat' (first | (refine gY ?_; intros) | (refine hY ?_ ?_ <;> (intro hgd; try simp only [bn] at hgd)) | (refine jY ?_ ?_ <;> intro _) | fail)
          (refine rt_Y (y := true) (hrs := Tryz.results7) (hv := ?_) (hφ := ?_))
          · rfl
          · intro hb; cases hb
        · repeat' (first | (refine gY ?_; intros) | (refine hY ?_ ?_ <;> (intro hgd; try simp only [bn] at hgd)) | (refine jY ?_ ?_ <;> intro _) | fail)
          (refine rt_Y (y := true) (hrs := Tryz.results7) (hv := ?_) (hφ := ?_))
          · rfl
          · intro hb; cases hb
      | false =>
        repeat' (first | (refine gY ?_; intros) | (refine hY ?_ ?_ <;> (intro hgd; try simp only [bn] at hgd)) | (refine jY ?_ ?_ <;> intro _) | fail)
        refine cl_Y (large_spec vs ts A h) ?_
        intro _ _
        repeat' (first | (refine gY ?_; intros) | (refine hY ?_ ?_ <;> (intro hgd; try simp only [bn] at hgd)) | (refine jY ?_ ?_ <;> intro _) | fail)
        · rename_i yy hlg
          have hsm := hlg hgd
          repeat' (first | (refine gY ?_; intros) | (refine hY ?_ ?_ <;> (intro hgd; try simp only [bn] at hgd)) | (refine jY ?_ ?_ <;> intro _) | fail)
          (refine rt_Y (y := decide ((3000 : Int) < (n : Int))) (hrs := Tryz.results7) (hv := ?_) (hφ := ?_))
          · rfl
          · exact fun hb => ⟨hsm, hend (by rw [u1, hb]; rfl) (.inr hie)⟩
        · repeat' (first | (refine gY ?_; intros) | (refine hY ?_ ?_ <;> (intro hgd; try simp only [bn] at hgd)) | (refine jY ?_ ?_ <;> intro _) | fail)
          (refine rt_Y (y := true) (hrs := Tryz.results7) (hv := ?_) (hφ := ?_))
          · rfl
          · intro hb; cases hb
    | true =>
      have h40 : i < 400 := by have := of_decide_eq_true t2; omega
      have hti : ops[i]? = some ops[i] := List.getElem?_eq_getElem h0
      have hx : (ops.map opV)[i]? = some (opV ops[i]) := by rw [List.getElem?_map, hti]; rfl
      have hnn : i < (ops.map opV).length := by omega
      have htk : ops.take (i + 1) = ops.take i ++ [ops[i]] := List.take_succ_eq_append_getElem h0
      obtain ⟨hcv, hcl, hct⟩ := ho.op _ (List.getElem_mem h0)
      refine ok_learn (VwIn.base (VwIn.there (VwIn.here hv)) (by intro e; rw [e] at hnn; simp at hnn)) ?_
      rintro ⟨bu, ou, rfl⟩
      generalize ops[i] = o at hx htk hcv hcl hct
      obtain ⟨ok, ot, ⟨rv, hrv⟩, row⟩ := o
      dsimp only [opV] at hx hcv hcl hct
      have lc : (row.map valV).length = row.length := by simp
      refine ok_learn (VwIn.slice (VwIn.there (VwIn.here hcv))) ?_
      rintro ⟨pc, cc, rfl⟩
      repeat' (first | (refine gY ?_; intros) | (refine hY ?_ ?_ <;> (intro hgd; try simp only [bn] at hgd)) | (refine jY ?_ ?_ <;> intro _) | fail)
      refine cl_Y (long_spec (.slice pc (row.map valV).length cc) A row hcv hcl hct) ?_
      intro _ _
      repeat' (first | (refine gY ?_; intros) | (refine hY ?_ ?_ <;> (intro hgd; try simp only [bn] at hgd)) | (refine jY ?_ ?_ <;> intro _) | fail)
      · repeat' (first | (refine gY ?_; intros) | (refine hY ?_ ?_ <;> (intro hgd; try simp only [bn] at hgd)) | (refine jY ?_ ?_ <;> intro _) | fail)
        (refine rt_Y (y := true) (hrs := Tryz.results7) (hv := ?_) (hφ := ?_))
        · rfl
        · intro hb; cases hb
      · rename_i hl0 hl1
        have hl := hl0 hl1
        refine cont_map (L' := [pts b1 (.cells [vs].toArray 29), A] ++ R) entD ?_
        refine cont_back (i + 1, n + 1 + row.length) ⟨h0, by dsimp only; omega, fun x hx => by
          rw [htk] at hx
          rcases List.mem_append.1 hx with hx | hx
          · have := hall x hx; dsimp only; omega
          · rw [List.mem_singleton] at hx; subst hx; dsimp only; omega, by dsimp only; rw [Nat.succ_mul]; omega, ⟨rfl, rfl, rfl, by show Value.int .i64 ((n : Int) + 1 + ((row.map valV).length : Int)) = _; rw [lc]; simp, rfl, trivial⟩, rfl⟩ (by show ops.length - (i + 1) < ops.length - i; omega)
abbrev Rw := V1s × List Vl
def rwV (x : Rw) : List Value := [x.1.1]
end Go.Proofs.YtmnafjonbeihiaaGreatDoor
