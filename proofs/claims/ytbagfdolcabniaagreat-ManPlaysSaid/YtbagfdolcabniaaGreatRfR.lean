/- ManPlays: for every input the law returns true, and each argument reads behind the call as it read before. -/
import Derived.Test.YtbagfdolcabniaaGreatRfQ
import Derived.Test.YtbagfdolcabniaaGreatMnL
set_option linter.unusedSimpArgs false
set_option linter.unusedVariables false
set_option maxRecDepth 8000
namespace Go.Proofs.YtbagfdolcabniaaGreat
open Go Go.Fx Go.Proofs Go.Pl Go.ChangeShapes Go.WideShapes Go.ChangeAt Go.RowKit

instance : Inhabited Sm := ⟨⟨0, mn0, ⟨.slice none 0 0, rfl⟩, 0, 0⟩⟩

theorem open_Sm {H : Type} {enc : TypeId × Value → H} {W : World} {held : Bool} {fuel : Nat} {cs : List Value} {y : DataW H × List MemPlace} (h : DataW.trod enc Tryz.prog W 0 (fun _ => true) held fuel 38 cs = some y)
    (hw : ∀ k ∈ y.1.weights Tryz.prog 38, k ≤ reachBytes) : ∃ x : Sm, cs = smV x ∧ Vw (orig W) 1 x.v.1 (x.m.runs.map uV) ∧ capOk x.v.1 ∧ x.m.wf ∧ x.n ≤ 9223372036854775807 := by
  have hC : Tryz.prog.cellsOf 38 = 6 := by kernel_rfl
  have c3 : Tryz.prog.cellsOf 3 = 1 := by kernel_rfl
  have cM : Tryz.prog.cellsOf 36 = 3 := by kernel_rfl
  obtain ⟨xs, n, rfl, rfl, hl, hlen, hf⟩ := DataW.trod_struct Tryz.underlying38 h
  rw [hC] at hl
  match cs, hl with
  | [v0, v1, v2, v3, v4, v5], _ =>
    match xs, hlen with
    | [y0, y1, y2, y3], _ =>
      have h0 : DataW.trod enc Tryz.prog W 0 (fun _ => true) held n 3 (([v0, v1, v2, v3, v4, v5].drop 0).take (Tryz.prog.cellsOf 3)) = some y0 := hf 0 _ rfl
      rw [c3] at h0
      have h1 : DataW.trod enc Tryz.prog W 0 (fun _ => true) held n 36 (([v0, v1, v2, v3, v4, v5].drop 1).take (Tryz.prog.cellsOf 36)) = some y1 := hf 1 _ rfl
      rw [cM] at h1
      have h2 : DataW.trod enc Tryz.prog W 0 (fun _ => true) held n 3 (([v0, v1, v2, v3, v4, v5].drop 4).take (Tryz.prog.cellsOf 3)) = some y2 := hf 2 _ rfl
      rw [c3] at h2
      have h3 : DataW.trod enc Tryz.prog W 0 (fun _ => true) held n 3 (([v0, v1, v2, v3, v4, v5].drop 5).take (Tryz.prog.cellsOf 3)) = some y3 := hf 3 _ rfl
      rw [c3] at h3
      obtain ⟨a0, e0, _, _⟩ := DataW.trod_int Tryz.underlying3 h0
      obtain ⟨a2, e2, _, w2⟩ := DataW.trod_int Tryz.underlying3 h2
      obtain ⟨a3, e3, _, _⟩ := DataW.trod_int Tryz.underlying3 h3
      simp only [List.drop_succ_cons, List.drop_zero, List.take_succ_cons, List.take_zero, List.cons.injEq, and_true] at e0 e2 e3 h1
      subst e0 e2 e3
      obtain ⟨m, v, em, hwf, hcap, hv⟩ := open_Man h1 (fun k hk => hw k (by
        simp only [List.map_cons, List.map_nil, DataW.weights, Tryz.underlying38, DataW.weightsEach, List.mem_append, List.mem_cons]
        exact .inr (.inl hk)))
      simp only [manV, List.cons.injEq, and_true] at em
      obtain ⟨rfl, rfl, rfl⟩ := em
      have h1c : v2.oneCell' = true := by
        obtain ⟨_, _, _, rfl, _⟩ := hcap
        rfl
      exact ⟨⟨a0, m, ⟨v2, h1c⟩, a2, a3⟩, rfl, hv, hcap, hwf, (i64_range w2).2⟩

set_option maxRecDepth 100000 in
theorem manPlays_lifted (os : Os) (started : os.Started) (H : Type) (enc : TypeId × Value → H) :
    ReturnsInHanded {} Tryz.checked os 3 .any (Rows.manPlaysSpec.pre6 enc Tryz.prog Tryz.f3 Rows.manPlaysRow.domain false) (Rows.manPlaysSpec.post enc Tryz.prog Tryz.f3 false true false false) := by
  refine returnsInHanded_of_change_sized (C := Tryz.checked) mn_own started (by kernel_rfl) Tryz.func3
    (ChangeSpec.witness6 (enc := enc) (C := Tryz.checked) false ⟨#[], #[.slice none 0 0], []⟩ 8 (by kernel_rfl) (by kernel_rfl) (by kernel_rfl) (by kernel_rfl)) ?_
  intro W base args ds gs before hval0 hW _ hsz _
  have hval : ∀ (j : Nat) t v, Tryz.f3.params[j]? = some t → args[j]? = some v → Value.okWide Tryz.prog W .any base t v := hval0
  have hW' := hW
  obtain ⟨p, q, hA0, hV, rfl, _, _⟩ := hW
  have hA : DataW.TrodAll enc Tryz.prog W 0 (fun _ => true) true Tryz.f3.params.toList args.toList ds p := hA0
  rw [Tryz.params3] at hA hval
  obtain ⟨v0, d0, rfl, rfl, h0⟩ := trodAll_one hA
  obtain ⟨rfl, rfl⟩ := trodVars_none hV
  have hsz' : (DataW.weightsEach Tryz.prog [22] [d0]).all (· ≤ reachBytes) = true := hsz
  have hszj : ∀ k ∈ d0.weights Tryz.prog 22, k ≤ reachBytes := fun k hk => by
    have := List.all_eq_true.1 hsz' k (DataW.weights_mem_each (j := 0) rfl rfl k hk)
    simpa using this
  obtain ⟨a, len, cap, rfl⟩ := okWide_slice Tryz.underlying22 (hval 0 22 v0 rfl rfl)
  obtain ⟨fuel, hf⟩ := h0
  obtain ⟨v, xs, ev, _, hxs, hvw⟩ := open_viewC (e := 38) (n := 6) Tryz.underlying22 (by kernel_rfl) (by decide) hf hszj smV (fun x => Vw (orig W) 1 x.v.1 (x.m.runs.map uV) ∧ capOk x.v.1 ∧ x.m.wf ∧ x.n ≤ 9223372036854775807)
    (fun x => ⟨rfl, by simp only [smV, oneCells, List.all_cons, List.all_nil, x.v.2, Bool.and_true]; rfl⟩) (fun fuel cs y h hw => open_Sm h hw)
  have e1 : (Value.slice a len cap).cells.toList = [Value.slice a len cap] := rfl
  rw [e1] at ev
  simp only [List.cons.injEq, and_true] at ev
  subst ev
  refine (calls_true_orig (ManPlays_spec (.slice a len cap) (orig W) xs hvw hxs)).mono fun e W' ⟨he, hnx⟩ => ?_
  subst he
  refine ⟨_, rfl, _, _, _, [], p, [], hW', ?_, ?_, rfl, hnx.frame _, fun h => by cases h⟩
  · exact trodAll_mk1 (shut_bool Tryz.underlying4 true)
  · exact below_trodAll mn_laidOut hnx (by kernel_rfl) hA0 (fun x hx => by have := hW'.lt x (by simpa using hx); simpa using this)

/-- ManPlays, for every input. -/
theorem manPlays_holds : Rows.ManPlaysSaid :=
  OpenClaim.holds_of_wide 3 Tryz.f3 rfl rfl rfl rfl rfl rfl rfl ⟨rfl, rfl, rfl, rfl, rfl⟩ rfl rfl rfl rfl rfl (by kernel_rfl) Tryz.func3 (by kernel_rfl)
    (of_decide_eq_true (by kernel_rfl)) (by unfold Func.isWrapper; first | (rw [if_pos (by decide +kernel)]; kernel_rfl) | (rw [if_neg (by decide +kernel)]; exact ⟨rfl, rfl⟩))
    (fun os started H enc _ => manPlays_lifted os started H enc)
end Go.Proofs.YtbagfdolcabniaaGreat
