/- ManTells: for every input the law returns true, and each argument reads behind the call as it read before. -/
import Derived.Test.YtgmobpngcilgjaaMnT
import Derived.Test.YtgmobpngcilgjaaMnL
set_option linter.unusedSimpArgs false
set_option linter.unusedVariables false
set_option maxRecDepth 8000
namespace Go.Proofs.Ytgmobpngcilgjaa
open Go Go.Fx Go.Proofs Go.Pl Go.ChangeShapes Go.WideShapes Go.ChangeAt Go.RowKit

set_option maxRecDepth 100000 in
theorem manTells_lifted (os : Os) (started : os.Started) (H : Type) (enc : TypeId × Value → H) :
    ReturnsInHanded {} Try.checked os 6 .any (Rows.manTellsSpec.pre6 enc Try.prog Try.f6 Rows.manTellsRow.domain false) (Rows.manTellsSpec.post enc Try.prog Try.f6 false true false false) := by
  refine returnsInHanded_of_change_sized (C := Try.checked) mn_own started (by kernel_rfl) Try.func6
    (ChangeSpec.witness6 (enc := enc) (C := Try.checked) false ⟨#[], #[.agg #[.int .u64 0, .slice none 0 0, .int .u64 0], .string ⟨#[]⟩], []⟩ 8 (by kernel_rfl) (by kernel_rfl) (by kernel_rfl) (by kernel_rfl)) ?_
  intro W base args ds gs before hval0 hW _ hsz _
  have hval : ∀ (j : Nat) t v, Try.f6.params[j]? = some t → args[j]? = some v → Value.okWide Try.prog W .any base t v := hval0
  have hW' := hW
  obtain ⟨p, q, hA0, hV, rfl, _, _⟩ := hW
  have hA : DataW.TrodAll enc Try.prog W 0 (fun _ => true) true Try.f6.params.toList args.toList ds p := hA0
  rw [Try.params6] at hA hval
  obtain ⟨v0, v1, d0, d1, p0, p1, rfl, rfl, rfl, h0, h1⟩ := trodAll_two hA
  obtain ⟨rfl, rfl⟩ := trodVars_none hV
  have hsz' : (DataW.weightsEach Try.prog [63, 9] [d0, d1]).all (· ≤ reachBytes) = true := hsz
  have hszj : ∀ (j : Nat) t d, [63, 9][j]? = some t → [d0, d1][j]? = some d → ∀ k ∈ d.weights Try.prog t, k ≤ reachBytes := fun j t d ht hd k hk => by
    have := List.all_eq_true.1 hsz' k (DataW.weights_mem_each (j := j) ht hd k hk)
    simpa using this
  obtain ⟨nm, rfl, hnm⟩ := open_text Try.underlying9 (hval 1 9 v1 rfl rfl) h1 (hszj 1 _ _ rfl rfl)
  obtain ⟨cs, rfl, _⟩ := okWide_struct Try.underlying63 (hval 0 63 v0 rfl rfl)
  obtain ⟨fuel, hf⟩ := h0
  obtain ⟨m, v, hx, hwf, _, hv⟩ := open_Man hf (hszj 0 _ _ rfl rfl)
  have hcs : cs = (manV m v).toArray := Array.ext' (by have e : (Value.agg cs).cells.toList = cs.toList := rfl; rw [← e, hx])
  subst hcs
  refine (calls_true_orig (ManTells_spec m v (orig W) nm hv hwf hnm)).mono fun e W' ⟨he, hnx⟩ => ?_
  subst he
  refine ⟨_, rfl, _, _, _, [], p0 ++ p1, [], hW', ?_, ?_, rfl, hnx.frame _, fun h => by cases h⟩
  · exact trodAll_mk1 (shut_bool Try.underlying4 true)
  · exact below_trodAll mn_laidOut hnx (by kernel_rfl) hA0 (fun x hx => by have := hW'.lt x (by simpa using hx); simpa using this)

/-- ManTells, for every input. -/
theorem manTells_holds : Rows.ManTellsSaid :=
  OpenClaim.holds_of_wide 6 Try.f6 rfl rfl rfl rfl rfl rfl rfl ⟨rfl, rfl, rfl, rfl, rfl⟩ rfl rfl rfl rfl rfl (by kernel_rfl) Try.func6 (by kernel_rfl)
    (of_decide_eq_true (by kernel_rfl)) (by unfold Func.isWrapper; first | (rw [if_pos (by decide +kernel)]; kernel_rfl) | (rw [if_neg (by decide +kernel)]; exact ⟨rfl, rfl⟩))
    (fun os started H enc _ => manTells_lifted os started H enc)
end Go.Proofs.Ytgmobpngcilgjaa
