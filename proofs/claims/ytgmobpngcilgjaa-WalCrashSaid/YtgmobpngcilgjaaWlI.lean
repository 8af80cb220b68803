/- WalCrash: for every input the law returns true, and each argument reads behind the call as it read before. -/
import Derived.Test.YtgmobpngcilgjaaWlH
import Derived.Test.YtgmobpngcilgjaaMnL
set_option linter.unusedSimpArgs false
set_option linter.unusedVariables false
set_option maxRecDepth 8000
namespace Go.Proofs.Ytgmobpngcilgjaa
open Go Go.Fx Go.Proofs Go.Pl Go.ChangeShapes Go.WideShapes Go.ChangeAt Go.RowKit

instance : Inhabited Sw := ⟨⟨0, [], ⟨.slice none 0 0, rfl⟩, 0, 0⟩⟩

theorem open_strs {H : Type} {enc : TypeId × Value → H} {W : World} {held : Bool} {fuel : Nat} {cs : List Value} {y : DataW H × List MemPlace} (h : DataW.trod enc Try.prog W 0 (fun _ => true) held fuel 52 cs = some y)
    (hw : ∀ k ∈ y.1.weights Try.prog 52, k ≤ reachBytes) : ∃ (v : Value) (l : List BA), cs = [v] ∧ capOk v ∧ (∀ s ∈ l, s.size ≤ 140737488355328) ∧ Vw (orig W) 1 v (l.map strV) :=
  open_viewC (e := 9) (n := 1) Try.underlying52 (by kernel_rfl) (by decide) h hw strV (fun s => s.size ≤ 140737488355328) (fun x => ⟨rfl, rfl⟩) (fun fuel cs y h hw => by
    obtain ⟨a, e, d1, _⟩ := DataW.trod_string Try.underlying9 h
    subst d1
    have hr : reachBytes ≤ 140737488355328 := by decide
    have := hw a.data.toList.length (by simp only [DataW.weights, Try.underlying9]; first | exact List.mem_singleton.2 rfl | simp)
    have e' : a.data.toList.length = a.size := by simp
    exact ⟨a, e, by show a.size ≤ _; omega⟩)

theorem open_Sw {H : Type} {enc : TypeId × Value → H} {W : World} {held : Bool} {fuel : Nat} {cs : List Value} {y : DataW H × List MemPlace} (h : DataW.trod enc Try.prog W 0 (fun _ => true) held fuel 56 cs = some y)
    (hw : ∀ k ∈ y.1.weights Try.prog 56, k ≤ reachBytes) : ∃ x : Sw, cs = swV x ∧ Vw (orig W) 1 x.v.1 (x.l.map strV) ∧ capOk x.v.1 ∧ (∀ s ∈ x.l, s.size ≤ 140737488355328) ∧ x.n ≤ 9223372036854775807 := by
  have hC : Try.prog.cellsOf 56 = 4 := by kernel_rfl
  have c3 : Try.prog.cellsOf 3 = 1 := by kernel_rfl
  have cM : Try.prog.cellsOf 52 = 1 := by kernel_rfl
  obtain ⟨xs, n, rfl, rfl, hl, hlen, hf⟩ := DataW.trod_struct Try.underlying56 h
  rw [hC] at hl
  match cs, hl with
  | [v0, v1, v2, v3], _ =>
    match xs, hlen with
    | [y0, y1, y2, y3], _ =>
      have h0 : DataW.trod enc Try.prog W 0 (fun _ => true) held n 3 (([v0, v1, v2, v3].drop 0).take (Try.prog.cellsOf 3)) = some y0 := hf 0 _ rfl
      rw [c3] at h0
      have h1 : DataW.trod enc Try.prog W 0 (fun _ => true) held n 52 (([v0, v1, v2, v3].drop 1).take (Try.prog.cellsOf 52)) = some y1 := hf 1 _ rfl
      rw [cM] at h1
      have h2 : DataW.trod enc Try.prog W 0 (fun _ => true) held n 3 (([v0, v1, v2, v3].drop 2).take (Try.prog.cellsOf 3)) = some y2 := hf 2 _ rfl
      rw [c3] at h2
      have h3 : DataW.trod enc Try.prog W 0 (fun _ => true) held n 3 (([v0, v1, v2, v3].drop 3).take (Try.prog.cellsOf 3)) = some y3 := hf 3 _ rfl
      rw [c3] at h3
      obtain ⟨a0, e0, _, _⟩ := DataW.trod_int Try.underlying3 h0
      obtain ⟨a2, e2, _, w2⟩ := DataW.trod_int Try.underlying3 h2
      obtain ⟨a3, e3, _, _⟩ := DataW.trod_int Try.underlying3 h3
      simp only [List.drop_succ_cons, List.drop_zero, List.take_succ_cons, List.take_zero, List.cons.injEq, and_true] at e0 e2 e3 h1
      subst e0 e2 e3
      obtain ⟨v, l, em, hcap, hz, hv⟩ := open_strs h1 (fun k hk => hw k (by
        simp only [List.map_cons, List.map_nil, DataW.weights, Try.underlying56, DataW.weightsEach, List.mem_append, List.mem_cons]
        exact .inr (.inl hk)))
      simp only [List.cons.injEq, and_true] at em
      subst em
      have h1c : v1.oneCell' = true := by
        obtain ⟨_, _, _, rfl, _⟩ := hcap
        rfl
      exact ⟨⟨a0, l, ⟨v1, h1c⟩, a2, a3⟩, rfl, hv, hcap, hz, (i64_range w2).2⟩

set_option maxRecDepth 100000 in
theorem walCrash_lifted (os : Os) (started : os.Started) (H : Type) (enc : TypeId × Value → H) :
    ReturnsInHanded {} Try.checked os 5 .any (Rows.walCrashSpec.pre6 enc Try.prog Try.f5 Rows.walCrashRow.domain false) (Rows.walCrashSpec.post enc Try.prog Try.f5 false true false false) := by
  refine returnsInHanded_of_change_sized (C := Try.checked) mn_own started (by kernel_rfl) Try.func5
    (ChangeSpec.witness6 (enc := enc) (C := Try.checked) false ⟨#[], #[.slice none 0 0], []⟩ 8 (by kernel_rfl) (by kernel_rfl) (by kernel_rfl) (by kernel_rfl)) ?_
  intro W base args ds gs before hval0 hW _ hsz _
  have hval : ∀ (j : Nat) t v, Try.f5.params[j]? = some t → args[j]? = some v → Value.okWide Try.prog W .any base t v := hval0
  have hW' := hW
  obtain ⟨p, q, hA0, hV, rfl, _, _⟩ := hW
  have hA : DataW.TrodAll enc Try.prog W 0 (fun _ => true) true Try.f5.params.toList args.toList ds p := hA0
  rw [Try.params5] at hA hval
  obtain ⟨v0, d0, rfl, rfl, h0⟩ := trodAll_one hA
  obtain ⟨rfl, rfl⟩ := trodVars_none hV
  have hsz' : (DataW.weightsEach Try.prog [49] [d0]).all (· ≤ reachBytes) = true := hsz
  have hszj : ∀ k ∈ d0.weights Try.prog 49, k ≤ reachBytes := fun k hk => by
    have := List.all_eq_true.1 hsz' k (DataW.weights_mem_each (j := 0) rfl rfl k hk)
    simpa using this
  obtain ⟨a, len, cap, rfl⟩ := okWide_slice Try.underlying49 (hval 0 49 v0 rfl rfl)
  obtain ⟨fuel, hf⟩ := h0
  obtain ⟨v, xs, ev, _, hxs, hvw⟩ := open_viewC (e := 56) (n := 4) Try.underlying49 (by kernel_rfl) (by decide) hf hszj swV (fun x => Vw (orig W) 1 x.v.1 (x.l.map strV) ∧ capOk x.v.1 ∧ (∀ s ∈ x.l, s.size ≤ 140737488355328) ∧ x.n ≤ 9223372036854775807)
    (fun x => ⟨rfl, by simp only [swV, oneCells, List.all_cons, List.all_nil, x.v.2, Bool.and_true]; rfl⟩) (fun fuel cs y h hw => open_Sw h hw)
  have e1 : (Value.slice a len cap).cells.toList = [Value.slice a len cap] := rfl
  rw [e1] at ev
  simp only [List.cons.injEq, and_true] at ev
  subst ev
  refine (calls_true_orig (WalCrash_spec (.slice a len cap) (orig W) xs hvw hxs)).mono fun e W' ⟨he, hnx⟩ => ?_
  subst he
  refine ⟨_, rfl, _, _, _, [], p, [], hW', ?_, ?_, rfl, hnx.frame _, fun h => by cases h⟩
  · exact trodAll_mk1 (shut_bool Try.underlying4 true)
  · exact below_trodAll mn_laidOut hnx (by kernel_rfl) hA0 (fun x hx => by have := hW'.lt x (by simpa using hx); simpa using this)

/-- WalCrash, for every input. -/
theorem walCrash_holds : Rows.WalCrashSaid :=
  OpenClaim.holds_of_wide 5 Try.f5 rfl rfl rfl rfl rfl rfl rfl ⟨rfl, rfl, rfl, rfl, rfl⟩ rfl rfl rfl rfl rfl (by kernel_rfl) Try.func5 (by kernel_rfl)
    (of_decide_eq_true (by kernel_rfl)) (by unfold Func.isWrapper; first | (rw [if_pos (by decide +kernel)]; kernel_rfl) | (rw [if_neg (by decide +kernel)]; exact ⟨rfl, rfl⟩))
    (fun os started H enc _ => walCrash_lifted os started H enc)
end Go.Proofs.Ytgmobpngcilgjaa
