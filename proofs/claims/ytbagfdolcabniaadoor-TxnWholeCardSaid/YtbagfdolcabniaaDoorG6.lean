/- Texts merged: L14E L14F. -/
import Derived.Test.YtbagfdolcabniaaDoorG5
import Derived.Test.YtbagfdolcabniaaDoorRkP
/- The laws' guard of layer 14: Heavy. -/
-- @DEFS Y
set_option linter.unusedSimpArgs false
set_option linter.unusedVariables false
set_option maxRecDepth 100000
namespace Go.Proofs.YtbagfdolcabniaaDoor
open Go Go.Fx Go.Proofs Go.Pl

/-- An operation in memory. -/
structure Om where
  kind : Int
  table : Int
  rv : V1s
  row : List Vl
def opV (o : Om) : List Value := [.int .u8 o.kind, .int .i64 o.table, o.rv.1]
def Om.c (o : Om) : Opr := ⟨o.kind, o.table, o.row⟩
structure OmR (A : HProp) (o : Om) : Prop where
  vw : Vw A 4 o.rv.1 (o.row.map valV)
  len : o.row.length ≤ 140737488355328
  txt : ∀ v ∈ o.row, v.text.size ≤ 140737488355328
structure OsR (A : HProp) (vo : Value) (ops : List Om) : Prop where
  vw : Vw A 3 vo (ops.map opV)
  op : ∀ o ∈ ops, OmR A o
  len : ops.length ≤ 140737488355328
def smallO (ops : List Om) : Prop := ops.length ≤ 300 ∧ ∀ o ∈ ops, o.row.length ≤ 3000

set_option maxHeartbeats 4000000 in
theorem heavy14_spec (vs vo : Value) (ts : List Tb) (ops : List Om) (A : HProp) (h : SVr A vs ts) (ho : OsR A vo ops) :
    FSpec Tryd.prog 10 [.agg #[vs], vo] [A] Bool (fun y => y = false → smallS ts ∧ smallO ops) (fun y => .bool y) (fun _ => [A]) := by
  have hv := ho.vw
  have hz := ho.len
  have lm : (ops.map opV).length = ops.length := by simp
  refine spec_intro [] _ Tryd.func10 rfl Tryd.ntmps10 (by rfl) (fun w0 R => ?_)
  refine ok_learn (VwIn.slice (VwIn.here hv)) ?_
  rintro ⟨pv, cv, rfl⟩
  repeat' (first | (refine go_Y ?_; intros) | (refine gs_Y ?_ ?_ <;> (intro hgd; try (simp only [Bool.not_true, Bool.not_false] at hgd))) | (refine gc_Y ?_ ?_ <;> intro _) | fail)
  rename_i b1
  refine ok_loop' (γ := Nat × Nat) (fun g ρ L => g.1 ≤ ops.length ∧ g.1 ≤ 400 ∧ (∀ o ∈ ops.take g.1, o.row.length ≤ g.2) ∧ g.2 ≤ g.1 * 4001 ∧ Knows ρ [(1, .slice pv (ops.map opV).length cv), (2, .pointer (some ⟨b1, 0, none⟩)), (4, .bool false), (5, .int .i64 (g.2 : Int)), (6, .int .i64 g.1)] ∧ L = [pts b1 (.cells [vs].toArray 24), A] ++ R) (fun g => ops.length - g.1) (0, 0)
    ⟨by omega, by omega, fun _ h => by simp at h, by simp, ⟨rfl, rfl, rfl, rfl, rfl, trivial⟩, rfl⟩ ?_
  rintro ⟨i, n⟩ ρ L ⟨hi, hi1, hall, hn, hk, rfl⟩
  dsimp only at hi hi1 hall hn hk ⊢
  refine ok_regs hk ?_
  have hend : (decide ((300 : Int) < ((ops.map opV).length : Int)) || decide ((3000 : Int) < (n : Int))) = false → (i = ops.length ∨ i = 400) → smallO ops := fun hb he => by
    simp only [Bool.or_eq_false_iff, decide_eq_false_iff_not] at hb
    have hie : i = ops.length := by omega
    rw [hie, List.take_length] at hall
    exact ⟨by omega, fun t ht => by have := hall t ht; omega⟩
  cases t1 : decide ((i : Int) < ((ops.map opV).length : Int)) with
  | false =>
    have hie : i = ops.length := by have := of_decide_eq_false t1; omega
    cases u1 : decide ((300 : Int) < ((ops.map opV).length : Int)) with
    | true =>
      repeat' (first | (refine go_Y ?_; intros) | (refine gs_Y ?_ ?_ <;> (intro hgd; try (simp only [Bool.not_true, Bool.not_false] at hgd))) | (refine gc_Y ?_ ?_ <;> intro _) | fail)
      refine cl_Y (large_spec vs ts A h) ?_
      intro _ _
      repeat' (first | (refine go_Y ?_; intros) | (refine gs_Y ?_ ?_ <;> (intro hgd; try (simp only [Bool.not_true, Bool.not_false] at hgd))) | (refine gc_Y ?_ ?_ <;> intro _) | fail)
      · repeat' (first | (refine go_Y ?_; intros) | (refine gs_Y ?_ ?_ <;> (intro hgd; try (simp only [Bool.not_true, Bool.not_false] at hgd))) | (refine gc_Y ?_ ?_ <;> intro _) | fail)
        (refine rt_Y (y := true) (hrs := Tryd.results10) (hv := ?_) (hφ := ?_))
        · rfl
        · intro hb; cases hb
      · repeat' (first | (refine go_Y ?_; intros) | (refine gs_Y ?_ ?_ <;> (intro hgd; try (simp only [Bool.not_true, Bool.not_false] at hgd))) | (refine gc_Y ?_ ?_ <;> intro _) | fail)
        (refine rt_Y (y := true) (hrs := Tryd.results10) (hv := ?_) (hφ := ?_))
        · rfl
        · intro hb; cases hb
    | false =>
      repeat' (first | (refine go_Y ?_; intros) | (refine gs_Y ?_ ?_ <;> (intro hgd; try (simp only [Bool.not_true, Bool.not_false] at hgd))) | (refine gc_Y ?_ ?_ <;> intro _) | fail)
      refine cl_Y (large_spec vs ts A h) ?_
      intro _ _
      repeat' (first | (refine go_Y ?_; intros) | (refine gs_Y ?_ ?_ <;> (intro hgd; try (simp only [Bool.not_true, Bool.not_false] at hgd))) | (refine gc_Y ?_ ?_ <;> intro _) | fail)
      · rename_i yy hlg
        have hsm := hlg hgd
        repeat' (first | (refine go_Y ?_; intros) | (refine gs_Y ?_ ?_ <;> (intro hgd; try (simp only [Bool.not_true, Bool.not_false] at hgd))) | (refine gc_Y ?_ ?_ <;> intro _) | fail)
        (refine rt_Y (y := decide ((3000 : Int) < (n : Int))) (hrs := Tryd.results10) (hv := ?_) (hφ := ?_))
        · rfl
        · exact fun hb => ⟨hsm, hend (by rw [u1, hb]; rfl) (.inl hie)⟩
      · repeat' (first | (refine go_Y ?_; intros) | (refine gs_Y ?_ ?_ <;> (intro hgd; try (simp only [Bool.not_true, Bool.not_false] at hgd))) | (refine gc_Y ?_ ?_ <;> intro _) | fail)
        (refine rt_Y (y := true) (hrs := Tryd.results10) (hv := ?_) (hφ := ?_))
        · rfl
        · intro hb; cases hb
  | true =>
    have h0 : i < ops.length := by have := of_decide_eq_true t1; omega
    cases t2 : decide ((i : Int) < 400) with
    | false =>
      have hie : i = 400 := by have := of_decide_eq_false t2; omega
      cases u1 : decide ((300 : Int) < ((ops.map opV).length : Int)) with
      | true =>
        repeat' (first | (refine go_Y ?_; intros) | (refine gs_Y ?_ ?_ <;> (intro hgd; try (simp only [Bool.not_true, Bool.not_false] at hgd))) | (refine gc_Y ?_ ?_ <;> intro _) | fail)
        refine cl_Y (large_spec vs ts A h) ?_
        intro _ _
        repeat' (first | (refine go_Y ?_; intros) | (refine gs_Y ?_ ?_ <;> (intro hgd; try (simp only [Bool.not_true, Bool.not_false] at hgd))) | (refine gc_Y ?_ ?_ <;> intro _) | fail)
        · repeat' (first | (refine go_Y ?_; intros) | (refine gs_Y ?_ ?_ <;> (intro hgd; try (simp only [Bool.not_true, Bool.not_false] at hgd))) | (refine gc_Y ?_ ?_ <;> intro _) | fail)
          (refine rt_Y (y := true) (hrs := Tryd.results10) (hv := ?_) (hφ := ?_))
          · rfl
          · intro hb; cases hb
        · repeat' (first | (refine go_Y ?_; intros) | (refine gs_Y ?_ ?_ <;> (intro hgd; try (simp only [Bool.not_true, Bool.not_false] at hgd))) | (refine gc_Y ?_ ?_ <;> intro _) | fail)
          (refine rt_Y (y := true) (hrs := Tryd.results10) (hv := ?_) (hφ := ?_))
          · rfl
          · intro hb; cases hb
      | false =>
        repeat' (first | (refine go_Y ?_; intros) | (refine gs_Y ?_ ?_ <;> (intro hgd; try (simp only [Bool.not_true, Bool.not_false] at hgd))) | (refine gc_Y ?_ ?_ <;> intro _) | fail)
        refine cl_Y (large_spec vs ts A h) ?_
        intro _ _
        repeat' (first | (refine go_Y ?_; intros) | (refine gs_Y ?_ ?_ <;> (intro hgd; try (simp only [Bool.not_true, Bool.not_false] at hgd))) | (refine gc_Y ?_ ?_ <;> intro _) | fail)
        · rename_i yy hlg
          have hsm := hlg hgd
          repeat' (first | (refine go_Y ?_; intros) | (refine gs_Y ?_ ?_ <;> (intro hgd; try (simp only [Bool.not_true, Bool.not_false] at hgd))) | (refine gc_Y ?_ ?_ <;> intro _) | fail)
          (refine rt_Y (y := decide ((3000 : Int) < (n : Int))) (hrs := Tryd.results10) (hv := ?_) (hφ := ?_))
          · rfl
          · exact fun hb => ⟨hsm, hend (by rw [u1, hb]; rfl) (.inr hie)⟩
        · repeat' (first | (refine go_Y ?_; intros) | (refine gs_Y ?_ ?_ <;> (intro hgd; try (simp only [Bool.not_true, Bool.not_false] at hgd))) | (refine gc_Y ?_ ?_ <;> intro _) | fail)
          (refine rt_Y (y := true) (hrs := Tryd.results10) (hv := ?_) (hφ := ?_))
          · rfl
          · intro hb; cases hb
    | true =>
      have h40 : i < 400 := by have := of_decide_eq_true t2; omega
      have hti : ops[i]? = some ops[i] := List.getElem?_eq_getElem h0
      have hx : (ops.map opV)[i]? = some (opV ops[i]) := by rw [List.getElem?_map, hti]; rfl
      have hnn : i < (ops.map opV).length := by omega
      have htk : ops.take (i + 1) = ops.take i ++ [ops[i]] := List.take_succ_eq_append_getElem h0
      obtain ⟨hcv, hcl, hct⟩ := ho.op _ (List.getElem_mem h0)
      refine ok_learn (VwIn.base (VwIn.there (VwIn.here hv)) (by intro e; rw [e] at hnn; simp at hnn)) ?_
      rintro ⟨bu, ou, rfl⟩
      generalize ops[i] = o at hx htk hcv hcl hct
      obtain ⟨ok, ot, ⟨rv, hrv⟩, row⟩ := o
      dsimp only [opV] at hx hcv hcl hct
      have lc : (row.map valV).length = row.length := by simp
      refine ok_learn (VwIn.slice (VwIn.there (VwIn.here hcv))) ?_
      rintro ⟨pc, cc, rfl⟩
      repeat' (first | (refine go_Y ?_; intros) | (refine gs_Y ?_ ?_ <;> (intro hgd; try (simp only [Bool.not_true, Bool.not_false] at hgd))) | (refine gc_Y ?_ ?_ <;> intro _) | fail)
      refine cl_Y (long_spec (.slice pc (row.map valV).length cc) A row hcv hcl hct) ?_
      intro _ _
      repeat' (first | (refine go_Y ?_; intros) | (refine gs_Y ?_ ?_ <;> (intro hgd; try (simp only [Bool.not_true, Bool.not_false] at hgd))) | (refine gc_Y ?_ ?_ <;> intro _) | fail)
      · repeat' (first | (refine go_Y ?_; intros) | (refine gs_Y ?_ ?_ <;> (intro hgd; try (simp only [Bool.not_true, Bool.not_false] at hgd))) | (refine gc_Y ?_ ?_ <;> intro _) | fail)
        (refine rt_Y (y := true) (hrs := Tryd.results10) (hv := ?_) (hφ := ?_))
        · rfl
        · intro hb; cases hb
      · rename_i hl0 hl1
        have hl := hl0 hl1
        refine cont_map (L' := [pts b1 (.cells [vs].toArray 24), A] ++ R) entD ?_
        refine cont_back (i + 1, n + 1 + row.length) ⟨h0, by dsimp only; omega, fun x hx => by
          rw [htk] at hx
          rcases List.mem_append.1 hx with hx | hx
          · have := hall x hx; dsimp only; omega
          · rw [List.mem_singleton] at hx; subst hx; dsimp only; omega, by dsimp only; rw [Nat.succ_mul]; omega, ⟨rfl, rfl, rfl, by show Value.int .i64 ((n : Int) + 1 + ((row.map valV).length : Int)) = _; rw [lc]; simp, rfl, trivial⟩, rfl⟩ (by show ops.length - (i + 1) < ops.length - i; omega)
end Go.Proofs.YtbagfdolcabniaaDoor
/- The law RelKeeps (layer 14). -/
-- @DEFS Y
set_option linter.unusedSimpArgs false
set_option linter.unusedVariables false
set_option maxRecDepth 100000
set_option pp.deepTerms true
set_option pp.maxSteps 200000
namespace Go.Proofs.YtbagfdolcabniaaDoor
open Go Go.Fx Go.Proofs Go.Pl

section
variable {X : Cx} {ops : Array Oper} {nb : NB} {N : Act → World → Prop} {i : Nat} {d : Option Nat} {op : Op} {ty : TypeId} {os : List Oper} {Ls : List HProp} {ds : List Deferred} {ρ : Regs} {L : List HProp}
theorem op1_map {st : List Nat} {T L' : List HProp} (k : ∀ h, SatL L h → SatL L' h) (h : Op1 X ops ⟨[], st, T⟩ N i d op ty os L' ds ρ L') : Op1 X ops ⟨[], st, T⟩ N i d op ty os L ds ρ L := by
  unfold Op1 at h ⊢
  intro pos after gd h1 h2 a w ha hs hw
  exact OkT.weaken _ (fun _ hq => Sats.map hq k) (h pos after gd h1 h2 a w ha (Sats.map hs k) hw)
theorem op1_learn {φ : Prop} (k : ∀ h, SatL L h → φ) (h : φ → Op1 X ops nb N i d op ty os Ls ds ρ L) : Op1 X ops nb N i d op ty os Ls ds ρ L := by
  unfold Op1
  intro pos after gd h1 h2 a w ha hs hw
  have := h (k _ (Sats.heap hs))
  unfold Op1 at this
  exact this pos after gd h1 h2 a w ha hs hw
end
theorem SVr.ext {P P' : HProp} (e : Ext P P') {vs : Value} {ts : List Tb} (h : SVr P vs ts) : SVr P' vs ts := ⟨e.vw h.vw, fun t ht => ⟨e.vw (h.tab t ht).vw, (h.tab t ht).len, (h.tab t ht).nm, (h.tab t ht).cnm⟩, h.len, h.cap⟩
/-- The key by which an op's row stands is one of its values. -/
theorem placeS_mem {s : Sc} {o : Opr} {p : Pc} (h : placeS s o = some p) : p.2 ∈ o.row := by
  obtain ⟨h1, h2, h3, h4⟩ := placeS_tab h
  by_cases hk : o.kind = 3
  · rw [h4 hk]; exact List.mem_singleton.2 rfl
  · have hro := h3 hk
    have hx := rowS_key hro.row
    have hy := hro.key
    dsimp only at hx hy
    exact List.mem_of_getElem? (by rw [← hy]; exact hx.2.1)
theorem getOp_wf {r : Rl} {t : Int} {k : Vl} (h : r.Ok) : (r.getOp t k).1.length ≤ 1000000 := by
  unfold Rl.getOp
  split
  · split
    · rename_i l hl
      have := row_len h hl
      show l.length ≤ _
      omega
    · simp
  · simp
abbrev GK (ts : List Tb) (P1 : HProp) := { x : Rl × HProp // x.1.Ok ∧ x.1.s = ts.map Tb.c ∧ Ext P1 x.2 }
set_option maxHeartbeats 4000000 in
theorem RelKeeps_spec (vs vo : Value) (ts : List Tb) (ops : List Om) (o : Om) (table : Int) (key : Vl) (A : HProp) (hU : UT A) (hvc : vs.oneCell' = true) (h : SVr A vs ts) (ho : OsR A vo ops) (h1 : OmR A o)
    (hwl : ∀ q ∈ ops, ∀ v ∈ q.row, v.wf) (hwo : ∀ v ∈ o.row, v.wf) (hwk : key.wf) :
    FSpec Tryd.prog 3 [.agg #[vs], vo, .agg (opV o).toArray, .int .i64 table, .agg (valV key).toArray] [A] HProp (fun P' => Ext A P') (fun _ => .bool true) (fun P' => [P']) := by
  have hv := ho.vw
  have hz := ho.len
  have hkt := hwk.t
  have lm : (ops.map opV).length = ops.length := by simp
  obtain ⟨okd, otb, ⟨orv, horv⟩, orow⟩ := o
  obtain ⟨kk, ki, kr, kt⟩ := key
  dsimp only [opV, valV] at *
  have hh1 := heavy14_spec vs vo ts ops A h ho
  refine spec_intro [] _ Tryd.func3 rfl Tryd.ntmps3 (by rfl) (fun w0 R => ?_)
  refine ok_learn (VwIn.slice (VwIn.here hv)) ?_
  rintro ⟨pv, cv, rfl⟩
  obtain ⟨hcv, hcl, hct⟩ := h1
  dsimp only at hcv hcl hct
  refine ok_learn (VwIn.slice (VwIn.here hcv)) ?_
  rintro ⟨po, co, rfl⟩
  refine ok_learn (VwIn.slice (VwIn.here h.vw)) ?_
  rintro ⟨ps, cs, rfl⟩
  have lr : (orow.map valV).length = orow.length := by simp
  have lt : (ts.map tbV).length = ts.length := by simp
  repeat' (first | (refine go_Y ?_; intros) | (refine gs_Y ?_ ?_ <;> (intro hgd; try (simp only [Bool.not_true, Bool.not_false] at hgd))) | (refine gc_Y ?_ ?_ <;> intro _) | fail)
  rename_i b1 b2 b3
  refine cl_Y (hh1) ?_
  intro y1 hlg
  cases y1 with
  | true =>
    repeat' (first | (refine go_Y ?_; intros) | (refine gs_Y ?_ ?_ <;> (intro hgd; try (simp only [Bool.not_true, Bool.not_false] at hgd))) | (refine gc_Y ?_ ?_ <;> intro _) | fail)
    refine cl_Y (alive14_spec A hU) ?_
    intro _ _
    repeat' (first | (refine go_Y ?_; intros) | (refine gs_Y ?_ ?_ <;> (intro hgd; try (simp only [Bool.not_true, Bool.not_false] at hgd))) | (refine gc_Y ?_ ?_ <;> intro _) | fail)
    (refine rt_Y (y := A) (hrs := Tryd.results3) (hv := ?_) (hφ := ?_))
    · rfl
    · exact Ext.refl A
  | false =>
    have hsm := hlg rfl
    repeat' (first | (refine go_Y ?_; intros) | (refine gs_Y ?_ ?_ <;> (intro hgd; try (simp only [Bool.not_true, Bool.not_false] at hgd))) | (refine gc_Y ?_ ?_ <;> intro _) | fail)
    rename_i w1 hw1
    refine op1_learn (rowShape (e := 28) (n := 3) (v := w1) (xs := [[.int .u8 okd, .int .i64 otb, .slice po (orow.map valV).length co]]) (by decide) takeD) ?_
    rintro (⟨rfl, hn⟩ | ⟨g1, c1, rfl, _⟩)
    · cases hn
    refine op1_map (fun _ h => pool_in (A := row 28 3 (.slice (some ⟨g1, 0, none⟩) 1 c1) [[.int .u8 okd, .int .i64 otb, .slice po (orow.map valV).length co]]) (P := A) (Take.out2 takeD h)) ?_
    have hx1 := Ext.pool (row 28 3 (.slice (some ⟨g1, 0, none⟩) 1 c1) [[.int .u8 okd, .int .i64 otb, .slice po (orow.map valV).length co]]) A
    have hwv1 : Vw (pool (row 28 3 (.slice (some ⟨g1, 0, none⟩) 1 c1) [[.int .u8 okd, .int .i64 otb, .slice po (orow.map valV).length co]]) A) 3 (.slice (some ⟨g1, 0, none⟩) 1 c1) ([⟨okd, otb, ⟨_, horv⟩, orow⟩].map opV) := pool_row
    generalize pool (row 28 3 (.slice (some ⟨g1, 0, none⟩) 1 c1) [[.int .u8 okd, .int .i64 otb, .slice po (orow.map valV).length co]]) A = P0 at hx1 hwv1
    have hU0 := hU.ext hx1
    have hEA0 : Ext A P0 := hx1
    have hcv0 := hx1.vw hcv
    have hs0 : SVr P0 (.slice ps (ts.map tbV).length cs) ts := h.ext hx1
    have hh2 := heavy14_spec (.slice ps (ts.map tbV).length cs) (.slice (some ⟨g1, 0, none⟩) 1 c1) ts [⟨okd, otb, ⟨_, horv⟩, orow⟩] P0 hs0 ⟨hwv1, fun q hq => by rw [List.mem_singleton] at hq; subst hq; exact ⟨hcv0, hcl, hct⟩, by show (1 : Nat) ≤ _; decide⟩
    have hop0 : ∀ o ∈ ops, Vw P0 4 o.rv.1 (o.row.map valV) := fun o hq => hx1.vw (ho.op o hq).vw
    have hv0 := hx1.vw hv
    clear hwv1 hx1 hv hcv ho h hU hw1 hh1 hlg hct hcl
    refine cl_Y (hh2) ?_
    intro y2 hlh
    cases y2 with
    | true =>
      repeat' (first | (refine go_Y ?_; intros) | (refine gs_Y ?_ ?_ <;> (intro hgd; try (simp only [Bool.not_true, Bool.not_false] at hgd))) | (refine gc_Y ?_ ?_ <;> intro _) | fail)
      refine cl_Y (alive14_spec P0 hU0) ?_
      intro _ _
      repeat' (first | (refine go_Y ?_; intros) | (refine gs_Y ?_ ?_ <;> (intro hgd; try (simp only [Bool.not_true, Bool.not_false] at hgd))) | (refine gc_Y ?_ ?_ <;> intro _) | fail)
      (refine rt_Y (y := P0) (hrs := Tryd.results3) (hv := ?_) (hφ := ?_))
      · rfl
      · exact hEA0
    | false =>
      have hsn := (hlh rfl).2.2 _ (List.mem_singleton.2 rfl)
      dsimp only at hsn
      cases u1 : decide ((4096 : Int) < (kt.size : Int)) with
      | true =>
        repeat' (first | (refine go_Y ?_; intros) | (refine gs_Y ?_ ?_ <;> (intro hgd; try (simp only [Bool.not_true, Bool.not_false] at hgd))) | (refine gc_Y ?_ ?_ <;> intro _) | fail)
        refine cl_Y (alive14_spec P0 hU0) ?_
        intro _ _
        repeat' (first | (refine go_Y ?_; intros) | (refine gs_Y ?_ ?_ <;> (intro hgd; try (simp only [Bool.not_true, Bool.not_false] at hgd))) | (refine gc_Y ?_ ?_ <;> intro _) | fail)
        (refine rt_Y (y := P0) (hrs := Tryd.results3) (hv := ?_) (hφ := ?_))
        · rfl
        · exact hEA0
      | false =>
        have hsv := hs0.sv hsm.1
        cases hck : checkS (ts.map Tb.c) with
        | false =>
          have hnew := new_bad (.slice ps (ts.map tbV).length cs) ts P0 hsv hck
          repeat' (first | (refine go_Y ?_; intros) | (refine gs_Y ?_ ?_ <;> (intro hgd; try (simp only [Bool.not_true, Bool.not_false] at hgd))) | (refine gc_Y ?_ ?_ <;> intro _) | fail)
          refine cl_Y (hnew) ?_
          intro _ _
          repeat' (first | (refine go_Y ?_; intros) | (refine gs_Y ?_ ?_ <;> (intro hgd; try (simp only [Bool.not_true, Bool.not_false] at hgd))) | (refine gc_Y ?_ ?_ <;> intro _) | fail)
          refine cl_Y (alive14_spec P0 hU0) ?_
          intro _ _
          repeat' (first | (refine go_Y ?_; intros) | (refine gs_Y ?_ ?_ <;> (intro hgd; try (simp only [Bool.not_true, Bool.not_false] at hgd))) | (refine gc_Y ?_ ?_ <;> intro _) | fail)
          (refine rt_Y (y := P0) (hrs := Tryd.results3) (hv := ?_) (hφ := ?_))
          · rfl
          · exact hEA0
        | true =>
          have hnew := new_spec (.slice ps (ts.map tbV).length cs) ts P0 hsv hck
          clear hh2 hlh
          repeat' (first | (refine go_Y ?_; intros) | (refine gs_Y ?_ ?_ <;> (intro hgd; try (simp only [Bool.not_true, Bool.not_false] at hgd))) | (refine gc_Y ?_ ?_ <;> intro _) | fail)
          refine cl_Y (hnew) ?_
          rintro ⟨b, P1⟩ hE1
          dsimp only at hE1 ⊢
          have hU1 := hU0.ext hE1
          have hEA1 := hEA0.trans hE1
          have hv1 := hE1.vw hv0
          have hop1 : ∀ o ∈ ops, Vw P1 4 o.rv.1 (o.row.map valV) := fun o hq => hE1.vw (hop0 o hq)
          have hsv1 := hsv.ext hE1
          have hcv1 := hE1.vw hcv0
          clear hE1 hU0 hv0 hop0 hsv hcv0 hs0 hnew
          repeat' (first | (refine go_Y ?_; intros) | (refine gs_Y ?_ ?_ <;> (intro hgd; try (simp only [Bool.not_true, Bool.not_false] at hgd))) | (refine gc_Y ?_ ?_ <;> intro _) | fail)
          refine ok_map (L' := [relP P1 b ⟨ts.map Tb.c, [], 0⟩, P1, pts b1 (.cells [.slice ps (ts.map tbV).length cs].toArray 24), pts b2 (.cells [.int .u8 okd, .int .i64 otb, .slice po (orow.map valV).length co].toArray 28), pts b3 (.cells [.int .u8 kk, .int .i64 ki, .int .u64 kr, .string kt].toArray 31)] ++ R) entD ?_
          refine ok_loop' (γ := Nat × GK ts P1) (fun g ρ L => g.1 ≤ ops.length ∧ Knows ρ [(1, .slice pv (ops.map opV).length cv), (3, .int .i64 table), (5, .pointer (some ⟨b1, 0, none⟩)), (7, .pointer (some ⟨b2, 0, none⟩)), (9, .pointer (some ⟨b3, 0, none⟩)), (11, .pointer (some ⟨b, 0, none⟩)), (13, .int .i64 g.1)]
              ∧ L = [relP g.2.1.2 b g.2.1.1, g.2.1.2, pts b1 (.cells [.slice ps (ts.map tbV).length cs].toArray 24), pts b2 (.cells [.int .u8 okd, .int .i64 otb, .slice po (orow.map valV).length co].toArray 28), pts b3 (.cells [.int .u8 kk, .int .i64 ki, .int .u64 kr, .string kt].toArray 31)] ++ R) (fun g => ops.length - g.1)
              (0, ⟨(⟨ts.map Tb.c, [], 0⟩, P1), Rl.Ok.new hck, rfl, Ext.refl P1⟩) ⟨by simp, ⟨rfl, rfl, rfl, rfl, rfl, rfl, rfl, trivial⟩, rfl⟩ ?_
          rintro ⟨i, ⟨r, P⟩, hok, hrs, hE⟩ ρ L ⟨hi, hk, rfl⟩
          dsimp only at hok hrs hE hi hk ⊢
          refine ok_regs hk ?_
          have hUP := hU1.ext hE
          cases t1 : decide ((i : Int) < ((ops.map opV).length : Int)) with
          | true =>
            have h0 : i < ops.length := by have := of_decide_eq_true t1; omega
            have hti : ops[i]? = some ops[i] := List.getElem?_eq_getElem h0
            have hx : (ops.map opV)[i]? = some (opV ops[i]) := by rw [List.getElem?_map, hti]; rfl
            have hnn : i < (ops.map opV).length := by omega
            have hmm := List.getElem_mem h0
            have hvw := hE.vw (hop1 _ hmm)
            have hwf := hwl _ hmm
            have hln := hsm.2.2 _ hmm
            have hvP := hE.vw hv1
            refine ok_learn (VwIn.base (VwIn.there (VwIn.here hvP)) (by intro e; rw [e] at hnn; simp at hnn)) ?_
            rintro ⟨bu, ou, rfl⟩
            generalize ops[i] = q at hx hvw hwf hln
            obtain ⟨qk, qt, ⟨qv, hqv⟩, qrow⟩ := q
            dsimp only [opV] at hx hvw hwf hln
            have hdo := relDo_spec b r ⟨qk, qt, qrow⟩ qv P hok hUP hvw hqv hwf (by show qrow.length ≤ _; omega)
            have hokn := hok.doOp ⟨qk, qt, qrow⟩
            have hsn' : (r.doOp ⟨qk, qt, qrow⟩).1.s = ts.map Tb.c := by
              rcases doOp_did r ⟨qk, qt, qrow⟩ with ⟨_, e, _⟩ | ⟨_, p, d⟩
              · rw [e]; exact hrs
              · rw [d.s]; exact hrs
            clear hwf hln hmm
            repeat' (first | (refine go_Y ?_; intros) | (refine gs_Y ?_ ?_ <;> (intro hgd; try (simp only [Bool.not_true, Bool.not_false] at hgd))) | (refine gc_Y ?_ ?_ <;> intro _) | fail)
            refine cl_Y (hdo) ?_
            rintro ⟨⟨b4, hb4⟩, ⟨a4, ha4⟩, P'⟩ ⟨hE', _⟩
            dsimp only at hE' ⊢
            repeat' (first | (refine go_Y ?_; intros) | (refine gs_Y ?_ ?_ <;> (intro hgd; try (simp only [Bool.not_true, Bool.not_false] at hgd))) | (refine gc_Y ?_ ?_ <;> intro _) | fail)
            refine cont_map (L' := [relP P' b (r.doOp ⟨qk, qt, qrow⟩).1, P', pts b1 (.cells [.slice ps (ts.map tbV).length cs].toArray 24), pts b2 (.cells [.int .u8 okd, .int .i64 otb, .slice po (orow.map valV).length co].toArray 28), pts b3 (.cells [.int .u8 kk, .int .i64 ki, .int .u64 kr, .string kt].toArray 31)] ++ R) entD ?_
            refine cont_back (i + 1, ⟨((r.doOp ⟨qk, qt, qrow⟩).1, P'), hokn, hsn', hE.trans hE'⟩) ⟨h0, ⟨rfl, rfl, rfl, rfl, rfl, rfl, rfl, trivial⟩, rfl⟩ (by show ops.length - (i + 1) < ops.length - i; omega)
          | false =>
            repeat' (first | (refine go_Y ?_; intros) | (refine gs_Y ?_ ?_ <;> (intro hgd; try (simp only [Bool.not_true, Bool.not_false] at hgd))) | (refine gc_Y ?_ ?_ <;> intro _) | fail)
            have hsvP := hsv1.ext hE
            have hEAP := hEA1.trans hE
            have hcvP := hE.vw hcv1
            have hg1 := relGet_spec b r table ⟨kk, ki, kr, kt⟩ P hok hUP hwk
            have hLn := relLen_spec b r P
            have hTn := relTurns_spec b r P
            have hdo := relDo_spec b r ⟨okd, otb, orow⟩ (.slice po (orow.map valV).length co) P hok hUP hcvP rfl hwo (by show orow.length ≤ _; omega)
            have hlen200 := hok.len
            have hgl := getOp_wf (t := table) (k := ⟨kk, ki, kr, kt⟩) hok
            clear hE hv1 hop1 hsv1 hcv1 hU1 hwl hi hk
            rcases doOp_did r ⟨okd, otb, orow⟩ with ⟨he, hr', hb', ha'⟩ | ⟨he, p, hd⟩
            · rw [hr', hb', ha'] at hdo
              generalize (r.doOp ⟨okd, otb, orow⟩).2.2.2 = e at hdo he
              have fe : (!decide (e = (0 : Int))) = true := by simp [he]
              have f1 : decide ((r.rows.length : Int) = (r.rows.length : Int)) = true := by simp
              have f2 : decide (r.turns = r.turns) = true := by simp
              have f3 : decide ((r.getOp table ⟨kk, ki, kr, kt⟩).2 = (r.getOp table ⟨kk, ki, kr, kt⟩).2) = true := by simp
              refine cl_Y (hg1) ?_
              rintro ⟨was, hwas⟩ _
              repeat' (first | (refine go_Y ?_; intros) | (refine gs_Y ?_ ?_ <;> (intro hgd; try (simp only [Bool.not_true, Bool.not_false] at hgd))) | (refine gc_Y ?_ ?_ <;> intro _) | fail)
              refine cl_Y (hLn) ?_
              intro _ _
              repeat' (first | (refine go_Y ?_; intros) | (refine gs_Y ?_ ?_ <;> (intro hgd; try (simp only [Bool.not_true, Bool.not_false] at hgd))) | (refine gc_Y ?_ ?_ <;> intro _) | fail)
              refine cl_Y (hTn) ?_
              intro _ _
              repeat' (first | (refine go_Y ?_; intros) | (refine gs_Y ?_ ?_ <;> (intro hgd; try (simp only [Bool.not_true, Bool.not_false] at hgd))) | (refine gc_Y ?_ ?_ <;> intro _) | fail)
              refine cl_Y (hdo) ?_
              rintro ⟨⟨b4, hb4⟩, ⟨a4, ha4⟩, P'⟩ ⟨hE', hbv⟩
              dsimp only at hE' hbv ⊢
              have hUP' := hUP.ext hE'
              have hEAP' := hEAP.trans hE'
              have hg2 := relGet_spec b r table ⟨kk, ki, kr, kt⟩ P' hok hUP' hwk
              have hLn' := relLen_spec b r P'
              have hTn' := relTurns_spec b r P'
              repeat' (first | (refine go_Y ?_; intros) | (refine gs_Y ?_ ?_ <;> (intro hgd; try (simp only [Bool.not_true, Bool.not_false] at hgd))) | (refine gc_Y ?_ ?_ <;> intro _) | fail)
              refine cl_Y (hg2) ?_
              rintro ⟨now, hnow⟩ _
              repeat' (first | (refine go_Y ?_; intros) | (refine gs_Y ?_ ?_ <;> (intro hgd; try (simp only [Bool.not_true, Bool.not_false] at hgd))) | (refine gc_Y ?_ ?_ <;> intro _) | fail)
              refine cl_Y (hLn') ?_
              intro _ _
              repeat' (first | (refine go_Y ?_; intros) | (refine gs_Y ?_ ?_ <;> (intro hgd; try (simp only [Bool.not_true, Bool.not_false] at hgd))) | (refine gc_Y ?_ ?_ <;> intro _) | fail)
              refine cl_Y (hTn') ?_
              intro _ _
              repeat' (first | (refine go_Y ?_; intros) | (refine gs_Y ?_ ?_ <;> (intro hgd; try (simp only [Bool.not_true, Bool.not_false] at hgd))) | (refine gc_Y ?_ ?_ <;> intro _) | fail)
              have hsame := same04_spec (r.getOp table ⟨kk, ki, kr, kt⟩).1 (r.getOp table ⟨kk, ki, kr, kt⟩).1 was now _ _ (Vw.row (e := 31)) (Vw.row (e := 31)) hgl
              rw [decide_eq_true rfl] at hsame
              refine cl_Y (hsame) ?_
              intro _ _
              have fz : decide (IntKind.i64.wrap (arith BinOp.add ((([] : List Vl).map valV).length : Int) ((([] : List Vl).map valV).length : Int)) = 0) = true := by decide
              repeat' (first | (refine go_Y ?_; intros) | (refine gs_Y ?_ ?_ <;> (intro hgd; try (simp only [Bool.not_true, Bool.not_false] at hgd))) | (refine gc_Y ?_ ?_ <;> intro _) | fail)
              refine cl_Y (alive14_spec P' hUP') ?_
              intro _ _
              repeat' (first | (refine go_Y ?_; intros) | (refine gs_Y ?_ ?_ <;> (intro hgd; try (simp only [Bool.not_true, Bool.not_false] at hgd))) | (refine gc_Y ?_ ?_ <;> intro _) | fail)
              (refine rt_Y (y := P') (hrs := Tryd.results3) (hv := ?_) (hφ := ?_))
              · rfl
              · exact hEAP'
            · obtain ⟨hp1, hp2, hp3, hp4, hp5⟩ := hd.one hok
              have hpm := placeS_mem hd.pl
              have hwp := hwo _ hpm
              have hat := hd.get_at hok
              have hne := fun (hn : (table, (⟨kk, ki, kr, kt⟩ : Vl)) ≠ p) => hd.get_ne hok hn
              have hwas := hd.get_was hok
              have hln := hd.len
              have htn := hd.turns
              have hokn := hok.doOp ⟨okd, otb, orow⟩
              have hkd : (okd = 1 ∧ orow = (r.doOp ⟨okd, otb, orow⟩).2.2.1) ∨ (okd = 2 ∧ orow = (r.doOp ⟨okd, otb, orow⟩).2.2.1) ∨ (okd = 3 ∧ (r.doOp ⟨okd, otb, orow⟩).2.2.1 = []) := by
                rcases hd.kind with ⟨e, _, _, n⟩ | ⟨e, _, _, n⟩ | ⟨e, _, _, n⟩
                · exact .inl ⟨e, n.symm⟩
                · exact .inr (.inl ⟨e, n.symm⟩)
                · exact .inr (.inr ⟨e, n⟩)
              have hh : hasS (ts.map Tb.c) otb = true := by rw [← hrs]; exact hp2
              clear hd hpm hp2 hp5
              rw [he] at hdo
              generalize (r.doOp ⟨okd, otb, orow⟩).1 = r' at hdo hat hne hln htn hokn
              generalize (r.doOp ⟨okd, otb, orow⟩).2.1 = bef at hdo hwas hp3
              generalize (r.doOp ⟨okd, otb, orow⟩).2.2.1 = aft at hdo hkd hp3
              obtain ⟨tm, ⟨tn, tc, ⟨tcv, htcv⟩, tk, tr, tp⟩, rfl, htt, hxt, htl, hta, htok, htmem⟩ := hasS_tb hh
              rw [hrs, hta] at hp3 hp4
              dsimp only [Tb.c] at hp3 hp4
              obtain ⟨kn, rfl⟩ : ∃ kn : Nat, tk = (kn : Int) := ⟨tk.toNat, by omega⟩
              rw [Int.toNat_natCast] at hp3
              dsimp only [tbV] at hxt
              have g0 : decide ((tm : Int) < 0) = false := by simp
              have g1 : decide (((ts.map tbV).length : Int) ≤ (tm : Int)) = false := by simp; omega
              have g2 : (!decide (r'.turns = IntKind.u64.wrap (arith BinOp.add r.turns 1))) = false := by rw [htn]; simp [arith]
              have ge : (!decide ((0 : Int) = (0 : Int))) = false := by simp
              rcases hkd with ⟨rfl, rfl⟩ | ⟨rfl, rfl⟩ | ⟨rfl, rfl⟩
              · obtain ⟨pt, ⟨pk, pi, pr, px⟩⟩ := p
                dsimp only at hp1 hp3 hat hwp hwas
                obtain rfl := hp1
                rw [if_neg (by decide)] at hp3 hat
                have hkl : kn < (orow.map valV).length := by rw [List.length_map]; exact (List.getElem?_eq_some_iff.1 hp3).1
                have hkx : (orow.map valV)[kn]? = some [.int .u8 pk, .int .i64 pi, .int .u64 pr, .string px] := by rw [List.getElem?_map, hp3]; rfl
                have k1 : (!decide ((1 : Int) = (3 : Int))) = true := by decide
                have k2 : decide ((1 : Int) = (3 : Int)) = false := by decide
                have k3 : decide ((1 : Int) = (1 : Int)) = true := by decide
                have k4 : decide ((1 : Int) = (2 : Int)) = false := by decide
                have k5 : decide (((orow.map valV).length : Int) ≤ (kn : Int)) = false := by simp only [decide_eq_false_iff_not]; omega
                have k6 : (!decide ((3 : Int) = (3 : Int))) = false := by decide
                have hln : (r'.rows.length : Int) = (r.rows.length : Int) + 1 := by dsimp only at hln; omega
                have k7 : (!decide ((r'.rows.length : Int) = (r.rows.length : Int) + 1)) = false := by simp [hln]
                refine ops_learn (VwIn.base (VwIn.there (VwIn.here hsvP.vw)) (by intro e; rw [e] at htl; simp at htl)) ?_
                rintro ⟨bt, ot, rfl⟩
                refine cl_Y (hg1) ?_
                rintro ⟨was, hwasc⟩ _
                repeat' (first | (refine go_Y ?_; intros) | (refine gs_Y ?_ ?_ <;> (intro hgd; try (simp only [Bool.not_true, Bool.not_false] at hgd))) | (refine gc_Y ?_ ?_ <;> intro _) | fail)
                refine cl_Y (hLn) ?_
                intro _ _
                repeat' (first | (refine go_Y ?_; intros) | (refine gs_Y ?_ ?_ <;> (intro hgd; try (simp only [Bool.not_true, Bool.not_false] at hgd))) | (refine gc_Y ?_ ?_ <;> intro _) | fail)
                refine cl_Y (hTn) ?_
                intro _ _
                repeat' (first | (refine go_Y ?_; intros) | (refine gs_Y ?_ ?_ <;> (intro hgd; try (simp only [Bool.not_true, Bool.not_false] at hgd))) | (refine gc_Y ?_ ?_ <;> intro _) | fail)
                refine cl_Y (hdo) ?_
                rintro ⟨⟨b4, hb4⟩, ⟨a4, ha4⟩, P'⟩ ⟨hE', hbv⟩
                dsimp only at hE' hbv ⊢
                refine ops_learn (rowShape (e := 31) (n := 4) (v := a4) (xs := orow.map valV) (by decide) takeD) ?_
                rintro (⟨rfl, hn⟩ | ⟨ga, ca, rfl, _⟩)
                · rw [hn] at hkl; simp at hkl
                have hUP' := hUP.ext hE'
                have hEAP' := hEAP.trans hE'
                have hg2 := relGet_spec b r' table ⟨kk, ki, kr, kt⟩ P' hokn hUP' hwk
                have hg3 := relGet_spec b r' (tm : Int) ⟨pk, pi, pr, px⟩ P' hokn hUP' hwp
                rw [hat] at hg3
                dsimp only at hg3
                have hLn' := relLen_spec b r' P'
                have hTn' := relTurns_spec b r' P'
                have hvt := (hsvP.ext hE').vw
                have hcvP' := hE'.vw hcvP
                clear hE'
                repeat' (first | (refine go_Y ?_; intros) | (refine gs_Y ?_ ?_ <;> (intro hgd; try (simp only [Bool.not_true, Bool.not_false] at hgd))) | (refine gc_Y ?_ ?_ <;> intro _) | fail)
                refine cl_Y (hg2) ?_
                rintro ⟨now, hnow⟩ _
                repeat' (first | (refine go_Y ?_; intros) | (refine gs_Y ?_ ?_ <;> (intro hgd; try (simp only [Bool.not_true, Bool.not_false] at hgd))) | (refine gc_Y ?_ ?_ <;> intro _) | fail)
                refine cl_Y (hTn') ?_
                intro _ _
                repeat' (first | (refine go_Y ?_; intros) | (refine gs_Y ?_ ?_ <;> (intro hgd; try (simp only [Bool.not_true, Bool.not_false] at hgd))) | (refine gc_Y ?_ ?_ <;> intro _) | fail)
                refine cl_Y (hg3) ?_
                rintro ⟨got, hgot⟩ _
                repeat' (first | (refine go_Y ?_; intros) | (refine gs_Y ?_ ?_ <;> (intro hgd; try (simp only [Bool.not_true, Bool.not_false] at hgd))) | (refine gc_Y ?_ ?_ <;> intro _) | fail)
                have hs1 := same04_spec orow orow got (.slice po (orow.map valV).length co) (row 31 4 got (orow.map valV)) P' Vw.row hcvP' (by omega)
                rw [decide_eq_true rfl] at hs1
                refine cl_Y (hs1) ?_
                intro _ _
                repeat' (first | (refine go_Y ?_; intros) | (refine gs_Y ?_ ?_ <;> (intro hgd; try (simp only [Bool.not_true, Bool.not_false] at hgd))) | (refine gc_Y ?_ ?_ <;> intro _) | fail)
                have hs2 := same04_spec orow orow got (.slice (some ⟨ga, 0, none⟩) (orow.map valV).length ca) (row 31 4 got (orow.map valV)) (row 31 4 (.slice (some ⟨ga, 0, none⟩) (orow.map valV).length ca) (orow.map valV)) Vw.row Vw.row (by omega)
                rw [decide_eq_true rfl] at hs2
                refine cl_Y (hs2) ?_
                intro _ _
                repeat' (first | (refine go_Y ?_; intros) | (refine gs_Y ?_ ?_ <;> (intro hgd; try (simp only [Bool.not_true, Bool.not_false] at hgd))) | (refine gc_Y ?_ ?_ <;> intro _) | fail)
                by_cases hsp : (table, (⟨kk, ki, kr, kt⟩ : Vl)) = ((tm : Int), ⟨pk, pi, pr, px⟩)
                · simp only [Prod.mk.injEq, Vl.mk.injEq] at hsp
                  obtain ⟨rfl, rfl, rfl, rfl, rfl⟩ := hsp
                  have q1 : decide ((tm : Int) = (tm : Int)) = true := by simp
                  have q2 : nilB .eql (eqL [.int .u8, .int .i64, .int .u64, .string] [.int .u8 kk, .int .i64 ki, .int .u64 kr, .string kt] [.int .u8 kk, .int .i64 ki, .int .u64 kr, .string kt]) = true := by have := eqL_valV ⟨kk, ki, kr, kt⟩ ⟨kk, ki, kr, kt⟩; simp only [valV] at this; simp [nilB, this]
                  have hs3 := same04_spec (r.getOp (tm : Int) ⟨kk, ki, kr, kt⟩).1 bef was b4 (row 31 4 was ((r.getOp (tm : Int) ⟨kk, ki, kr, kt⟩).1.map valV)) P' Vw.row hbv hgl
                  rw [decide_eq_true hwas] at hs3
                  refine cl_Y (hLn') ?_
                  intro _ _
                  repeat' (first | (refine go_Y ?_; intros) | (refine gs_Y ?_ ?_ <;> (intro hgd; try (simp only [Bool.not_true, Bool.not_false] at hgd))) | (refine gc_Y ?_ ?_ <;> intro _) | fail)
                  refine cl_Y (hs3) ?_
                  intro _ _
                  repeat' (first | (refine go_Y ?_; intros) | (refine gs_Y ?_ ?_ <;> (intro hgd; try (simp only [Bool.not_true, Bool.not_false] at hgd))) | (refine gc_Y ?_ ?_ <;> intro _) | fail)
                  refine cl_Y (alive14_spec P' hUP') ?_
                  intro _ _
                  repeat' (first | (refine go_Y ?_; intros) | (refine gs_Y ?_ ?_ <;> (intro hgd; try (simp only [Bool.not_true, Bool.not_false] at hgd))) | (refine gc_Y ?_ ?_ <;> intro _) | fail)
                  (refine rt_Y (y := P') (hrs := Tryd.results3) (hv := ?_) (hφ := ?_))
                  · rfl
                  · exact hEAP'
                · have hne' := hne hsp
                  have q3 : decide ((r.getOp table ⟨kk, ki, kr, kt⟩).2 = (r'.getOp table ⟨kk, ki, kr, kt⟩).2) = true := by rw [hne']; simp
                  have hs3 := same04_spec (r.getOp table ⟨kk, ki, kr, kt⟩).1 (r'.getOp table ⟨kk, ki, kr, kt⟩).1 was now (row 31 4 was ((r.getOp table ⟨kk, ki, kr, kt⟩).1.map valV)) (row 31 4 now ((r'.getOp table ⟨kk, ki, kr, kt⟩).1.map valV)) Vw.row Vw.row hgl
                  rw [decide_eq_true (by rw [hne'])] at hs3
                  by_cases htb : (tm : Int) = table
                  · have q1 : decide ((tm : Int) = table) = true := decide_eq_true htb
                    have q2 : nilB .eql (eqL [.int .u8, .int .i64, .int .u64, .string] [.int .u8 pk, .int .i64 pi, .int .u64 pr, .string px] [.int .u8 kk, .int .i64 ki, .int .u64 kr, .string kt]) = false := by
                      have hx := eqL_valV ⟨pk, pi, pr, px⟩ ⟨kk, ki, kr, kt⟩
                      have hn : ¬ ((⟨pk, pi, pr, px⟩ : Vl) = ⟨kk, ki, kr, kt⟩) := fun e => hsp (by rw [e, htb])
                      rw [decide_eq_false hn] at hx
                      exact hx
                    refine cl_Y (hLn') ?_
                    intro _ _
                    repeat' (first | (refine go_Y ?_; intros) | (refine gs_Y ?_ ?_ <;> (intro hgd; try (simp only [Bool.not_true, Bool.not_false] at hgd))) | (refine gc_Y ?_ ?_ <;> intro _) | fail)
                    refine cl_Y (hs3) ?_
                    intro _ _
                    repeat' (first | (refine go_Y ?_; intros) | (refine gs_Y ?_ ?_ <;> (intro hgd; try (simp only [Bool.not_true, Bool.not_false] at hgd))) | (refine gc_Y ?_ ?_ <;> intro _) | fail)
                    refine cl_Y (alive14_spec P' hUP') ?_
                    intro _ _
                    repeat' (first | (refine go_Y ?_; intros) | (refine gs_Y ?_ ?_ <;> (intro hgd; try (simp only [Bool.not_true, Bool.not_false] at hgd))) | (refine gc_Y ?_ ?_ <;> intro _) | fail)
                    (refine rt_Y (y := P') (hrs := Tryd.results3) (hv := ?_) (hφ := ?_))
                    · rfl
                    · exact hEAP'
                  · have q1 : decide ((tm : Int) = table) = false := decide_eq_false htb
                    refine cl_Y (hLn') ?_
                    intro _ _
                    repeat' (first | (refine go_Y ?_; intros) | (refine gs_Y ?_ ?_ <;> (intro hgd; try (simp only [Bool.not_true, Bool.not_false] at hgd))) | (refine gc_Y ?_ ?_ <;> intro _) | fail)
                    refine cl_Y (hs3) ?_
                    intro _ _
                    repeat' (first | (refine go_Y ?_; intros) | (refine gs_Y ?_ ?_ <;> (intro hgd; try (simp only [Bool.not_true, Bool.not_false] at hgd))) | (refine gc_Y ?_ ?_ <;> intro _) | fail)
                    refine cl_Y (alive14_spec P' hUP') ?_
                    intro _ _
                    repeat' (first | (refine go_Y ?_; intros) | (refine gs_Y ?_ ?_ <;> (intro hgd; try (simp only [Bool.not_true, Bool.not_false] at hgd))) | (refine gc_Y ?_ ?_ <;> intro _) | fail)
                    (refine rt_Y (y := P') (hrs := Tryd.results3) (hv := ?_) (hφ := ?_))
                    · rfl
                    · exact hEAP'
              · obtain ⟨pt, ⟨pk, pi, pr, px⟩⟩ := p
                dsimp only at hp1 hp3 hat hwp hwas
                obtain rfl := hp1
                rw [if_neg (by decide)] at hp3 hat
                have hkl : kn < (orow.map valV).length := by rw [List.length_map]; exact (List.getElem?_eq_some_iff.1 hp3).1
                have hkx : (orow.map valV)[kn]? = some [.int .u8 pk, .int .i64 pi, .int .u64 pr, .string px] := by rw [List.getElem?_map, hp3]; rfl
                have k1 : (!decide ((2 : Int) = (3 : Int))) = true := by decide
                have k2 : decide ((2 : Int) = (3 : Int)) = false := by decide
                have k3 : decide ((2 : Int) = (1 : Int)) = false := by decide
                have k4 : decide ((2 : Int) = (2 : Int)) = true := by decide
                have k5 : decide (((orow.map valV).length : Int) ≤ (kn : Int)) = false := by simp only [decide_eq_false_iff_not]; omega
                have k6 : (!decide ((3 : Int) = (3 : Int))) = false := by decide
                have hln : (r'.rows.length : Int) = (r.rows.length : Int) := by dsimp only at hln; omega
                have k7 : (!decide ((r'.rows.length : Int) = (r.rows.length : Int))) = false := by simp [hln]
                refine ops_learn (VwIn.base (VwIn.there (VwIn.here hsvP.vw)) (by intro e; rw [e] at htl; simp at htl)) ?_
                rintro ⟨bt, ot, rfl⟩
                refine cl_Y (hg1) ?_
                rintro ⟨was, hwasc⟩ _
                repeat' (first | (refine go_Y ?_; intros) | (refine gs_Y ?_ ?_ <;> (intro hgd; try (simp only [Bool.not_true, Bool.not_false] at hgd))) | (refine gc_Y ?_ ?_ <;> intro _) | fail)
                refine cl_Y (hLn) ?_
                intro _ _
                repeat' (first | (refine go_Y ?_; intros) | (refine gs_Y ?_ ?_ <;> (intro hgd; try (simp only [Bool.not_true, Bool.not_false] at hgd))) | (refine gc_Y ?_ ?_ <;> intro _) | fail)
                refine cl_Y (hTn) ?_
                intro _ _
                repeat' (first | (refine go_Y ?_; intros) | (refine gs_Y ?_ ?_ <;> (intro hgd; try (simp only [Bool.not_true, Bool.not_false] at hgd))) | (refine gc_Y ?_ ?_ <;> intro _) | fail)
                refine cl_Y (hdo) ?_
                rintro ⟨⟨b4, hb4⟩, ⟨a4, ha4⟩, P'⟩ ⟨hE', hbv⟩
                dsimp only at hE' hbv ⊢
                refine ops_learn (rowShape (e := 31) (n := 4) (v := a4) (xs := orow.map valV) (by decide) takeD) ?_
                rintro (⟨rfl, hn⟩ | ⟨ga, ca, rfl, _⟩)
                · rw [hn] at hkl; simp at hkl
                have hUP' := hUP.ext hE'
                have hEAP' := hEAP.trans hE'
                have hg2 := relGet_spec b r' table ⟨kk, ki, kr, kt⟩ P' hokn hUP' hwk
                have hg3 := relGet_spec b r' (tm : Int) ⟨pk, pi, pr, px⟩ P' hokn hUP' hwp
                rw [hat] at hg3
                dsimp only at hg3
                have hLn' := relLen_spec b r' P'
                have hTn' := relTurns_spec b r' P'
                have hvt := (hsvP.ext hE').vw
                have hcvP' := hE'.vw hcvP
                clear hE'
                repeat' (first | (refine go_Y ?_; intros) | (refine gs_Y ?_ ?_ <;> (intro hgd; try (simp only [Bool.not_true, Bool.not_false] at hgd))) | (refine gc_Y ?_ ?_ <;> intro _) | fail)
                refine cl_Y (hg2) ?_
                rintro ⟨now, hnow⟩ _
                repeat' (first | (refine go_Y ?_; intros) | (refine gs_Y ?_ ?_ <;> (intro hgd; try (simp only [Bool.not_true, Bool.not_false] at hgd))) | (refine gc_Y ?_ ?_ <;> intro _) | fail)
                refine cl_Y (hTn') ?_
                intro _ _
                repeat' (first | (refine go_Y ?_; intros) | (refine gs_Y ?_ ?_ <;> (intro hgd; try (simp only [Bool.not_true, Bool.not_false] at hgd))) | (refine gc_Y ?_ ?_ <;> intro _) | fail)
                refine cl_Y (hg3) ?_
                rintro ⟨got, hgot⟩ _
                repeat' (first | (refine go_Y ?_; intros) | (refine gs_Y ?_ ?_ <;> (intro hgd; try (simp only [Bool.not_true, Bool.not_false] at hgd))) | (refine gc_Y ?_ ?_ <;> intro _) | fail)
                have hs1 := same04_spec orow orow got (.slice po (orow.map valV).length co) (row 31 4 got (orow.map valV)) P' Vw.row hcvP' (by omega)
                rw [decide_eq_true rfl] at hs1
                refine cl_Y (hs1) ?_
                intro _ _
                repeat' (first | (refine go_Y ?_; intros) | (refine gs_Y ?_ ?_ <;> (intro hgd; try (simp only [Bool.not_true, Bool.not_false] at hgd))) | (refine gc_Y ?_ ?_ <;> intro _) | fail)
                have hs2 := same04_spec orow orow got (.slice (some ⟨ga, 0, none⟩) (orow.map valV).length ca) (row 31 4 got (orow.map valV)) (row 31 4 (.slice (some ⟨ga, 0, none⟩) (orow.map valV).length ca) (orow.map valV)) Vw.row Vw.row (by omega)
                rw [decide_eq_true rfl] at hs2
                refine cl_Y (hs2) ?_
                intro _ _
                repeat' (first | (refine go_Y ?_; intros) | (refine gs_Y ?_ ?_ <;> (intro hgd; try (simp only [Bool.not_true, Bool.not_false] at hgd))) | (refine gc_Y ?_ ?_ <;> intro _) | fail)
                by_cases hsp : (table, (⟨kk, ki, kr, kt⟩ : Vl)) = ((tm : Int), ⟨pk, pi, pr, px⟩)
                · simp only [Prod.mk.injEq, Vl.mk.injEq] at hsp
                  obtain ⟨rfl, rfl, rfl, rfl, rfl⟩ := hsp
                  have q1 : decide ((tm : Int) = (tm : Int)) = true := by simp
                  have q2 : nilB .eql (eqL [.int .u8, .int .i64, .int .u64, .string] [.int .u8 kk, .int .i64 ki, .int .u64 kr, .string kt] [.int .u8 kk, .int .i64 ki, .int .u64 kr, .string kt]) = true := by have := eqL_valV ⟨kk, ki, kr, kt⟩ ⟨kk, ki, kr, kt⟩; simp only [valV] at this; simp [nilB, this]
                  have hs3 := same04_spec (r.getOp (tm : Int) ⟨kk, ki, kr, kt⟩).1 bef was b4 (row 31 4 was ((r.getOp (tm : Int) ⟨kk, ki, kr, kt⟩).1.map valV)) P' Vw.row hbv hgl
                  rw [decide_eq_true hwas] at hs3
                  refine cl_Y (hLn') ?_
                  intro _ _
                  repeat' (first | (refine go_Y ?_; intros) | (refine gs_Y ?_ ?_ <;> (intro hgd; try (simp only [Bool.not_true, Bool.not_false] at hgd))) | (refine gc_Y ?_ ?_ <;> intro _) | fail)
                  refine cl_Y (hs3) ?_
                  intro _ _
                  repeat' (first | (refine go_Y ?_; intros) | (refine gs_Y ?_ ?_ <;> (intro hgd; try (simp only [Bool.not_true, Bool.not_false] at hgd))) | (refine gc_Y ?_ ?_ <;> intro _) | fail)
                  refine cl_Y (alive14_spec P' hUP') ?_
                  intro _ _
                  repeat' (first | (refine go_Y ?_; intros) | (refine gs_Y ?_ ?_ <;> (intro hgd; try (simp only [Bool.not_true, Bool.not_false] at hgd))) | (refine gc_Y ?_ ?_ <;> intro _) | fail)
                  (refine rt_Y (y := P') (hrs := Tryd.results3) (hv := ?_) (hφ := ?_))
                  · rfl
                  · exact hEAP'
                · have hne' := hne hsp
                  have q3 : decide ((r.getOp table ⟨kk, ki, kr, kt⟩).2 = (r'.getOp table ⟨kk, ki, kr, kt⟩).2) = true := by rw [hne']; simp
                  have hs3 := same04_spec (r.getOp table ⟨kk, ki, kr, kt⟩).1 (r'.getOp table ⟨kk, ki, kr, kt⟩).1 was now (row 31 4 was ((r.getOp table ⟨kk, ki, kr, kt⟩).1.map valV)) (row 31 4 now ((r'.getOp table ⟨kk, ki, kr, kt⟩).1.map valV)) Vw.row Vw.row hgl
                  rw [decide_eq_true (by rw [hne'])] at hs3
                  by_cases htb : (tm : Int) = table
                  · have q1 : decide ((tm : Int) = table) = true := decide_eq_true htb
                    have q2 : nilB .eql (eqL [.int .u8, .int .i64, .int .u64, .string] [.int .u8 pk, .int .i64 pi, .int .u64 pr, .string px] [.int .u8 kk, .int .i64 ki, .int .u64 kr, .string kt]) = false := by
                      have hx := eqL_valV ⟨pk, pi, pr, px⟩ ⟨kk, ki, kr, kt⟩
                      have hn : ¬ ((⟨pk, pi, pr, px⟩ : Vl) = ⟨kk, ki, kr, kt⟩) := fun e => hsp (by rw [e, htb])
                      rw [decide_eq_false hn] at hx
                      exact hx
                    refine cl_Y (hLn') ?_
                    intro _ _
                    repeat' (first | (refine go_Y ?_; intros) | (refine gs_Y ?_ ?_ <;> (intro hgd; try (simp only [Bool.not_true, Bool.not_false] at hgd))) | (refine gc_Y ?_ ?_ <;> intro _) | fail)
                    refine cl_Y (hs3) ?_
                    intro _ _
                    repeat' (first | (refine go_Y ?_; intros) | (refine gs_Y ?_ ?_ <;> (intro hgd; try (simp only [Bool.not_true, Bool.not_false] at hgd))) | (refine gc_Y ?_ ?_ <;> intro _) | fail)
                    refine cl_Y (alive14_spec P' hUP') ?_
                    intro _ _
                    repeat' (first | (refine go_Y ?_; intros) | (refine gs_Y ?_ ?_ <;> (intro hgd; try (simp only [Bool.not_true, Bool.not_false] at hgd))) | (refine gc_Y ?_ ?_ <;> intro _) | fail)
                    (refine rt_Y (y := P') (hrs := Tryd.results3) (hv := ?_) (hφ := ?_))
                    · rfl
                    · exact hEAP'
                  · have q1 : decide ((tm : Int) = table) = false := decide_eq_false htb
                    refine cl_Y (hLn') ?_
                    intro _ _
                    repeat' (first | (refine go_Y ?_; intros) | (refine gs_Y ?_ ?_ <;> (intro hgd; try (simp only [Bool.not_true, Bool.not_false] at hgd))) | (refine gc_Y ?_ ?_ <;> intro _) | fail)
                    refine cl_Y (hs3) ?_
                    intro _ _
                    repeat' (first | (refine go_Y ?_; intros) | (refine gs_Y ?_ ?_ <;> (intro hgd; try (simp only [Bool.not_true, Bool.not_false] at hgd))) | (refine gc_Y ?_ ?_ <;> intro _) | fail)
                    refine cl_Y (alive14_spec P' hUP') ?_
                    intro _ _
                    repeat' (first | (refine go_Y ?_; intros) | (refine gs_Y ?_ ?_ <;> (intro hgd; try (simp only [Bool.not_true, Bool.not_false] at hgd))) | (refine gc_Y ?_ ?_ <;> intro _) | fail)
                    (refine rt_Y (y := P') (hrs := Tryd.results3) (hv := ?_) (hφ := ?_))
                    · rfl
                    · exact hEAP'
              · obtain ⟨pt, ⟨pk, pi, pr, px⟩⟩ := p
                dsimp only at hp1 hp3 hat hwp hwas
                obtain rfl := hp1
                rw [if_pos rfl] at hp3 hat
                have hkl : kn < (bef.map valV).length := by rw [List.length_map]; exact (List.getElem?_eq_some_iff.1 hp3).1
                have hkx : (bef.map valV)[kn]? = some [.int .u8 pk, .int .i64 pi, .int .u64 pr, .string px] := by rw [List.getElem?_map, hp3]; rfl
                have k1 : (!decide ((3 : Int) = (3 : Int))) = false := by decide
                have k2 : decide ((3 : Int) = (3 : Int)) = true := by decide
                have k3 : decide ((3 : Int) = (1 : Int)) = false := by decide
                have k4 : decide ((3 : Int) = (2 : Int)) = false := by decide
                have k5 : decide (((bef.map valV).length : Int) ≤ (kn : Int)) = false := by simp only [decide_eq_false_iff_not]; omega
                have k6 : (!decide ((3 : Int) = (3 : Int))) = false := by decide
                have hln : (r'.rows.length : Int) = (r.rows.length : Int) - 1 := by dsimp only at hln; omega
                have k7 : (!decide ((r'.rows.length : Int) = (r.rows.length : Int) - 1)) = false := by simp [hln]
                refine ops_learn (VwIn.base (VwIn.there (VwIn.here hsvP.vw)) (by intro e; rw [e] at htl; simp at htl)) ?_
                rintro ⟨bt, ot, rfl⟩
                refine cl_Y (hg1) ?_
                rintro ⟨was, hwasc⟩ _
                repeat' (first | (refine go_Y ?_; intros) | (refine gs_Y ?_ ?_ <;> (intro hgd; try (simp only [Bool.not_true, Bool.not_false] at hgd))) | (refine gc_Y ?_ ?_ <;> intro _) | fail)
                refine cl_Y (hLn) ?_
                intro _ _
                repeat' (first | (refine go_Y ?_; intros) | (refine gs_Y ?_ ?_ <;> (intro hgd; try (simp only [Bool.not_true, Bool.not_false] at hgd))) | (refine gc_Y ?_ ?_ <;> intro _) | fail)
                refine cl_Y (hTn) ?_
                intro _ _
                repeat' (first | (refine go_Y ?_; intros) | (refine gs_Y ?_ ?_ <;> (intro hgd; try (simp only [Bool.not_true, Bool.not_false] at hgd))) | (refine gc_Y ?_ ?_ <;> intro _) | fail)
                refine cl_Y (hdo) ?_
                rintro ⟨⟨b4, hb4⟩, ⟨a4, ha4⟩, P'⟩ ⟨hE', hbv⟩
                dsimp only at hE' hbv ⊢
                refine ops_learn (VwIn.slice (VwIn.there (VwIn.there (VwIn.here hbv)))) ?_
                rintro ⟨qb, cb, rfl⟩
                refine ops_learn (VwIn.base (VwIn.there (VwIn.there (VwIn.here hbv))) (by intro e; rw [e] at hkl; simp at hkl)) ?_
                rintro ⟨bb, ob, rfl⟩
                have hUP' := hUP.ext hE'
                have hEAP' := hEAP.trans hE'
                have hg2 := relGet_spec b r' table ⟨kk, ki, kr, kt⟩ P' hokn hUP' hwk
                have hg3 := relGet_spec b r' (tm : Int) ⟨pk, pi, pr, px⟩ P' hokn hUP' hwp
                rw [hat] at hg3
                dsimp only at hg3
                have hLn' := relLen_spec b r' P'
                have hTn' := relTurns_spec b r' P'
                have hvt := (hsvP.ext hE').vw
                have hcvP' := hE'.vw hcvP
                clear hE'
                repeat' (first | (refine go_Y ?_; intros) | (refine gs_Y ?_ ?_ <;> (intro hgd; try (simp only [Bool.not_true, Bool.not_false] at hgd))) | (refine gc_Y ?_ ?_ <;> intro _) | fail)
                refine cl_Y (hg2) ?_
                rintro ⟨now, hnow⟩ _
                repeat' (first | (refine go_Y ?_; intros) | (refine gs_Y ?_ ?_ <;> (intro hgd; try (simp only [Bool.not_true, Bool.not_false] at hgd))) | (refine gc_Y ?_ ?_ <;> intro _) | fail)
                refine cl_Y (hTn') ?_
                intro _ _
                repeat' (first | (refine go_Y ?_; intros) | (refine gs_Y ?_ ?_ <;> (intro hgd; try (simp only [Bool.not_true, Bool.not_false] at hgd))) | (refine gc_Y ?_ ?_ <;> intro _) | fail)
                refine cl_Y (hg3) ?_
                rintro ⟨got, hgot⟩ _
                repeat' (first | (refine go_Y ?_; intros) | (refine gs_Y ?_ ?_ <;> (intro hgd; try (simp only [Bool.not_true, Bool.not_false] at hgd))) | (refine gc_Y ?_ ?_ <;> intro _) | fail)
                by_cases hsp : (table, (⟨kk, ki, kr, kt⟩ : Vl)) = ((tm : Int), ⟨pk, pi, pr, px⟩)
                · simp only [Prod.mk.injEq, Vl.mk.injEq] at hsp
                  obtain ⟨rfl, rfl, rfl, rfl, rfl⟩ := hsp
                  have q1 : decide ((tm : Int) = (tm : Int)) = true := by simp
                  have q2 : nilB .eql (eqL [.int .u8, .int .i64, .int .u64, .string] [.int .u8 kk, .int .i64 ki, .int .u64 kr, .string kt] [.int .u8 kk, .int .i64 ki, .int .u64 kr, .string kt]) = true := by have := eqL_valV ⟨kk, ki, kr, kt⟩ ⟨kk, ki, kr, kt⟩; simp only [valV] at this; simp [nilB, this]
                  have hs3 := same04_spec (r.getOp (tm : Int) ⟨kk, ki, kr, kt⟩).1 bef was (.slice (some ⟨bb, ob, none⟩) (bef.map valV).length cb) (row 31 4 was ((r.getOp (tm : Int) ⟨kk, ki, kr, kt⟩).1.map valV)) P' Vw.row hbv hgl
                  rw [decide_eq_true hwas] at hs3
                  refine cl_Y (hLn') ?_
                  intro _ _
                  repeat' (first | (refine go_Y ?_; intros) | (refine gs_Y ?_ ?_ <;> (intro hgd; try (simp only [Bool.not_true, Bool.not_false] at hgd))) | (refine gc_Y ?_ ?_ <;> intro _) | fail)
                  refine cl_Y (hs3) ?_
                  intro _ _
                  repeat' (first | (refine go_Y ?_; intros) | (refine gs_Y ?_ ?_ <;> (intro hgd; try (simp only [Bool.not_true, Bool.not_false] at hgd))) | (refine gc_Y ?_ ?_ <;> intro _) | fail)
                  refine cl_Y (alive14_spec P' hUP') ?_
                  intro _ _
                  repeat' (first | (refine go_Y ?_; intros) | (refine gs_Y ?_ ?_ <;> (intro hgd; try (simp only [Bool.not_true, Bool.not_false] at hgd))) | (refine gc_Y ?_ ?_ <;> intro _) | fail)
                  (refine rt_Y (y := P') (hrs := Tryd.results3) (hv := ?_) (hφ := ?_))
                  · rfl
                  · exact hEAP'
                · have hne' := hne hsp
                  have q3 : decide ((r.getOp table ⟨kk, ki, kr, kt⟩).2 = (r'.getOp table ⟨kk, ki, kr, kt⟩).2) = true := by rw [hne']; simp
                  have hs3 := same04_spec (r.getOp table ⟨kk, ki, kr, kt⟩).1 (r'.getOp table ⟨kk, ki, kr, kt⟩).1 was now (row 31 4 was ((r.getOp table ⟨kk, ki, kr, kt⟩).1.map valV)) (row 31 4 now ((r'.getOp table ⟨kk, ki, kr, kt⟩).1.map valV)) Vw.row Vw.row hgl
                  rw [decide_eq_true (by rw [hne'])] at hs3
                  by_cases htb : (tm : Int) = table
                  · have q1 : decide ((tm : Int) = table) = true := decide_eq_true htb
                    have q2 : nilB .eql (eqL [.int .u8, .int .i64, .int .u64, .string] [.int .u8 pk, .int .i64 pi, .int .u64 pr, .string px] [.int .u8 kk, .int .i64 ki, .int .u64 kr, .string kt]) = false := by
                      have hx := eqL_valV ⟨pk, pi, pr, px⟩ ⟨kk, ki, kr, kt⟩
                      have hn : ¬ ((⟨pk, pi, pr, px⟩ : Vl) = ⟨kk, ki, kr, kt⟩) := fun e => hsp (by rw [e, htb])
                      rw [decide_eq_false hn] at hx
                      exact hx
                    refine cl_Y (hLn') ?_
                    intro _ _
                    repeat' (first | (refine go_Y ?_; intros) | (refine gs_Y ?_ ?_ <;> (intro hgd; try (simp only [Bool.not_true, Bool.not_false] at hgd))) | (refine gc_Y ?_ ?_ <;> intro _) | fail)
                    refine cl_Y (hs3) ?_
                    intro _ _
                    repeat' (first | (refine go_Y ?_; intros) | (refine gs_Y ?_ ?_ <;> (intro hgd; try (simp only [Bool.not_true, Bool.not_false] at hgd))) | (refine gc_Y ?_ ?_ <;> intro _) | fail)
                    refine cl_Y (alive14_spec P' hUP') ?_
                    intro _ _
                    repeat' (first | (refine go_Y ?_; intros) | (refine gs_Y ?_ ?_ <;> (intro hgd; try (simp only [Bool.not_true, Bool.not_false] at hgd))) | (refine gc_Y ?_ ?_ <;> intro _) | fail)
                    (refine rt_Y (y := P') (hrs := Tryd.results3) (hv := ?_) (hφ := ?_))
                    · rfl
                    · exact hEAP'
                  · have q1 : decide ((tm : Int) = table) = false := decide_eq_false htb
                    refine cl_Y (hLn') ?_
                    intro _ _
                    repeat' (first | (refine go_Y ?_; intros) | (refine gs_Y ?_ ?_ <;> (intro hgd; try (simp only [Bool.not_true, Bool.not_false] at hgd))) | (refine gc_Y ?_ ?_ <;> intro _) | fail)
                    refine cl_Y (hs3) ?_
                    intro _ _
                    repeat' (first | (refine go_Y ?_; intros) | (refine gs_Y ?_ ?_ <;> (intro hgd; try (simp only [Bool.not_true, Bool.not_false] at hgd))) | (refine gc_Y ?_ ?_ <;> intro _) | fail)
                    refine cl_Y (alive14_spec P' hUP') ?_
                    intro _ _
                    repeat' (first | (refine go_Y ?_; intros) | (refine gs_Y ?_ ?_ <;> (intro hgd; try (simp only [Bool.not_true, Bool.not_false] at hgd))) | (refine gc_Y ?_ ?_ <;> intro _) | fail)
                    (refine rt_Y (y := P') (hrs := Tryd.results3) (hv := ?_) (hφ := ?_))
                    · rfl
                    · exact hEAP'
end Go.Proofs.YtbagfdolcabniaaDoor
