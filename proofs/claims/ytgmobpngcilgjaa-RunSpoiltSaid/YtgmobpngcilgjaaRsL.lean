/- RunSpoilt: for every input the law returns true, and each argument reads behind the call as it read before. -/
import Derived.Test.YtgmobpngcilgjaaRnV
import Derived.Test.YtgmobpngcilgjaaLf
set_option linter.unusedSimpArgs false
set_option linter.unusedVariables false
set_option maxRecDepth 8000
namespace Go.Proofs.Ytgmobpngcilgjaa
open Go Go.Fx Go.Proofs Go.Pl Go.ChangeShapes Go.WideShapes Go.ChangeAt Go.RowKit

theorem open_Pr {H : Type} {enc : TypeId × Value → H} {W : World} {held : Bool} {fuel : Nat} {cs : List Value} {y : DataW H × List MemPlace} (h : DataW.trod enc Try.prog W 0 (fun _ => true) held fuel 23 cs = some y)
    (hw : ∀ k ∈ y.1.weights Try.prog 23, k ≤ reachBytes) : ∃ x : Pr, cs = prV x ∧ x.k.size ≤ 140737488355328 ∧ x.v.size ≤ 140737488355328 := by
  have hC : Try.prog.cellsOf 23 = 3 := by kernel_rfl
  have hrb : reachBytes ≤ 140737488355328 := by decide
  have c0 : Try.prog.cellsOf 9 = 1 := by kernel_rfl
  have c1 : Try.prog.cellsOf 4 = 1 := by kernel_rfl
  obtain ⟨xs, n, rfl, rfl, hl, hlen, hf⟩ := DataW.trod_struct Try.underlying23 h
  rw [hC] at hl
  match cs, hl with
  | [v0, v1, v2], _ =>
    match xs, hlen with
    | [y0, y1, y2], _ =>
      have h0 : DataW.trod enc Try.prog W 0 (fun _ => true) held n 9 (([v0, v1, v2].drop 0).take (Try.prog.cellsOf 9)) = some y0 := hf 0 _ rfl
      rw [c0] at h0
      have h1 : DataW.trod enc Try.prog W 0 (fun _ => true) held n 9 (([v0, v1, v2].drop 1).take (Try.prog.cellsOf 9)) = some y1 := hf 1 _ rfl
      rw [c0] at h1
      have h2 : DataW.trod enc Try.prog W 0 (fun _ => true) held n 4 (([v0, v1, v2].drop 2).take (Try.prog.cellsOf 4)) = some y2 := hf 2 _ rfl
      rw [c1] at h2
      obtain ⟨a0, e0, d0, _⟩ := DataW.trod_string Try.underlying9 h0
      obtain ⟨a1, e1, d1, _⟩ := DataW.trod_string Try.underlying9 h1
      obtain ⟨a2, e2, _⟩ := DataW.trod_bool Try.underlying4 h2
      simp only [List.drop_succ_cons, List.drop_zero, List.take_succ_cons, List.take_zero, List.cons.injEq, and_true] at e0 e1 e2
      subst e0 e1 e2
      simp only [List.map_cons, List.map_nil, DataW.weights, Try.underlying23, DataW.weightsEach, List.mem_append, List.mem_cons] at hw
      have z0 : a0.size ≤ 140737488355328 := by
        subst d0
        have := hw a0.data.toList.length (.inl (by simp only [DataW.weights, Try.underlying9]; first | exact List.mem_singleton.2 rfl | simp))
        have e' : a0.data.toList.length = a0.size := by simp
        omega
      have z1 : a1.size ≤ 140737488355328 := by
        subst d1
        have := hw a1.data.toList.length (.inr (.inl (by simp only [DataW.weights, Try.underlying9]; first | exact List.mem_singleton.2 rfl | simp)))
        have e' : a1.data.toList.length = a1.size := by simp
        omega
      exact ⟨⟨a0, a1, a2⟩, rfl, z0, z1⟩

instance : Inhabited Pr := ⟨⟨⟨#[]⟩, ⟨#[]⟩, false⟩⟩
theorem open_Prs {H : Type} {enc : TypeId × Value → H} {W : World} {held : Bool} {fuel : Nat} {cs : List Value} {y : DataW H × List MemPlace} (h : DataW.trod enc Try.prog W 0 (fun _ => true) held fuel 25 cs = some y)
    (hw : ∀ k ∈ y.1.weights Try.prog 25, k ≤ reachBytes) : ∃ (v : Value) (l : List Pr), cs = [v] ∧ capOk v ∧ (∀ x ∈ l, (fun x : Pr => x.k.size ≤ 140737488355328 ∧ x.v.size ≤ 140737488355328) x) ∧ Vw (orig W) 3 v (l.map prV) :=
  open_viewC (e := 23) (n := 3) Try.underlying25 (by kernel_rfl) (by decide) h hw prV (fun x : Pr => x.k.size ≤ 140737488355328 ∧ x.v.size ≤ 140737488355328) (fun x => ⟨rfl, rfl⟩) (fun fuel cs y h hw => open_Pr h hw)

set_option maxRecDepth 100000 in
theorem runSpoilt_lifted (os : Os) (started : os.Started) (H : Type) (enc : TypeId × Value → H) :
    ReturnsInHanded {} Try.checked os 11 .any (Rows.runSpoiltSpec.pre6 enc Try.prog Try.f11 Rows.runSpoiltRow.domain false) (Rows.runSpoiltSpec.post enc Try.prog Try.f11 false true false false) := by
  refine returnsInHanded_of_change_sized (C := Try.checked) lf_own started (by kernel_rfl) Try.func11
    (ChangeSpec.witness6 (enc := enc) (C := Try.checked) false ⟨#[], #[.slice none 0 0, .int .u16 0, .int .u8 0], []⟩ 8 (by kernel_rfl) (by kernel_rfl) (by kernel_rfl) (by kernel_rfl)) ?_
  intro W base args ds gs before hval0 hW _ hsz _
  have hval : ∀ (j : Nat) t v, Try.f11.params[j]? = some t → args[j]? = some v → Value.okWide Try.prog W .any base t v := hval0
  have hW' := hW
  obtain ⟨p, q, hA0, hV, rfl, _, _⟩ := hW
  have hA : DataW.TrodAll enc Try.prog W 0 (fun _ => true) true Try.f11.params.toList args.toList ds p := hA0
  rw [Try.params11] at hA hval
  obtain ⟨v0, v1, v2, d0, d1, d2, p0, p1, p2, rfl, rfl, rfl, h0, h1, h2⟩ := trodAll_three hA
  obtain ⟨rfl, rfl⟩ := trodVars_none hV
  have hsz' : (DataW.weightsEach Try.prog [25, 97, 5] [d0, d1, d2]).all (· ≤ reachBytes) = true := hsz
  have hszj : ∀ (j : Nat) t d, [25, 97, 5][j]? = some t → [d0, d1, d2][j]? = some d → ∀ k ∈ d.weights Try.prog t, k ≤ reachBytes := fun j t d ht hd k hk => by
    have := List.all_eq_true.1 hsz' k (DataW.weights_mem_each (j := j) ht hd k hk)
    simpa using this
  obtain ⟨a0, len0, cap0, rfl⟩ := okWide_slice Try.underlying25 (hval 0 25 v0 rfl rfl)
  obtain ⟨fuel0, hf0⟩ := h0
  obtain ⟨u0, l0, ev0, hc0, hp0, hv0⟩ := open_Prs hf0 (hszj 0 _ _ rfl rfl)
  have ee0 : (Value.slice a0 len0 cap0).cells.toList = [Value.slice a0 len0 cap0] := rfl
  rw [ee0] at ev0
  simp only [List.cons.injEq, and_true] at ev0
  subst ev0
  obtain ⟨n1, rfl, rfl, rfl, w1⟩ := open_int Try.underlying97 (hval 1 97 v1 rfl rfl) h1
  obtain ⟨n2, rfl, rfl, rfl, w2⟩ := open_int Try.underlying5 (hval 2 5 v2 rfl rfl) h2
  refine (calls_true_orig (RunSpoilt_spec (.slice a0 len0 cap0) (orig W) l0 n1 n2 hv0 hp0 (lf_u16 w1) (lf_u8 w2))).mono fun e W' ⟨he, hnx⟩ => ?_
  subst he
  refine ⟨_, rfl, _, _, _, [], p0 ++ [] ++ [], [], hW', ?_, ?_, rfl, hnx.frame _, fun h => by cases h⟩
  · exact trodAll_mk1 (shut_bool Try.underlying4 true)
  · exact below_trodAll lf_laidOut hnx (by kernel_rfl) hA0 (fun x hx => by have := hW'.lt x (by simpa using hx); simpa using this)

/-- RunSpoilt, for every input. -/
theorem runSpoilt_holds : Rows.RunSpoiltSaid :=
  OpenClaim.holds_of_wide 11 Try.f11 rfl rfl rfl rfl rfl rfl rfl ⟨rfl, rfl, rfl, rfl, rfl⟩ rfl rfl rfl rfl rfl (by kernel_rfl) Try.func11 (by kernel_rfl)
    (of_decide_eq_true (by kernel_rfl)) (by unfold Func.isWrapper; first | (rw [if_pos (by decide +kernel)]; kernel_rfl) | (rw [if_neg (by decide +kernel)]; exact ⟨rfl, rfl⟩))
    (fun os started H enc _ => runSpoilt_lifted os started H enc)
end Go.Proofs.Ytgmobpngcilgjaa

