import Derived.Test.YtadgdikijdmceaaGreatLfT
set_option linter.unusedSimpArgs false
set_option linter.unusedVariables false
set_option maxRecDepth 8000
namespace Go.Proofs.YtadgdikijdmceaaGreat
open Go Go.Fx Go.Proofs Go.Pl Go.ChangeShapes Go.WideShapes Go.ChangeAt Go.RowKit

set_option maxRecDepth 100000 in
theorem topicFull_lifted (os : Os) (started : os.Started) (H : Type) (enc : TypeId × Value → H) :
    ReturnsInHanded {} Tryz.checked os 7 .any (Rows.topicFullSpec.pre6 enc Tryz.prog Tryz.f7 Rows.topicFullRow.domain false) (Rows.topicFullSpec.post enc Tryz.prog Tryz.f7 false true false false) := by
  refine returnsInHanded_of_change_sized (C := Tryz.checked) lf_own started (by kernel_rfl) Tryz.func7
    (ChangeSpec.witness6 (enc := enc) (C := Tryz.checked) false ⟨#[], #[.int .u16 0, .int .u16 0, .slice none 0 0], []⟩ 8 (by kernel_rfl) (by kernel_rfl) (by kernel_rfl) (by kernel_rfl)) ?_
  intro W base args ds gs before hval0 hW _ hsz _
  have hval : ∀ (j : Nat) t v, Tryz.f7.params[j]? = some t → args[j]? = some v → Value.okWide Tryz.prog W .any base t v := hval0
  have hW' := hW
  obtain ⟨p, q, hA0, hV, rfl, _, _⟩ := hW
  have hA : DataW.TrodAll enc Tryz.prog W 0 (fun _ => true) true Tryz.f7.params.toList args.toList ds p := hA0
  rw [Tryz.params7] at hA hval
  obtain ⟨v0, v1, v2, d0, d1, d2, p0, p1, p2, rfl, rfl, rfl, h0, h1, h2⟩ := trodAll_three hA
  obtain ⟨rfl, rfl⟩ := trodVars_none hV
  have hsz' : (DataW.weightsEach Tryz.prog [45, 45, 27] [d0, d1, d2]).all (· ≤ reachBytes) = true := hsz
  have hszj : ∀ (j : Nat) t d, [45, 45, 27][j]? = some t → [d0, d1, d2][j]? = some d → ∀ k ∈ d.weights Tryz.prog t, k ≤ reachBytes := fun j t d ht hd k hk => by
    have := List.all_eq_true.1 hsz' k (DataW.weights_mem_each (j := j) ht hd k hk)
    simpa using this
  obtain ⟨n0, rfl, rfl, rfl, w0⟩ := open_int Tryz.underlying45 (hval 0 45 v0 rfl rfl) h0
  obtain ⟨k0, rfl⟩ : ∃ k : Nat, n0 = k := ⟨n0.toNat, by have := (lf_u16 w0).1; omega⟩
  obtain ⟨n1, rfl, rfl, rfl, w1⟩ := open_int Tryz.underlying45 (hval 1 45 v1 rfl rfl) h1
  obtain ⟨k1, rfl⟩ : ∃ k : Nat, n1 = k := ⟨n1.toNat, by have := (lf_u16 w1).1; omega⟩
  obtain ⟨a2, len2, cap2, rfl⟩ := okWide_slice Tryz.underlying27 (hval 2 27 v2 rfl rfl)
  obtain ⟨fuel2, hf2⟩ := h2
  obtain ⟨u2, l2, ev2, hc2, hp2, hv2⟩ := open_Tss hf2 (hszj 2 _ _ rfl rfl)
  have ee2 : (Value.slice a2 len2 cap2).cells.toList = [Value.slice a2 len2 cap2] := rfl
  rw [ee2] at ev2
  simp only [List.cons.injEq, and_true] at ev2
  subst ev2
  refine (calls_true_orig (fspec_ext (TopicFull_spec k0 k1 (.slice a2 len2 cap2) (orig W) l2 (by have := (lf_u16 w0).2; omega) (by have := (lf_u16 w1).2; omega) hv2 (fun x h => (hp2 x h).r)))).mono fun e W' ⟨he, hnx⟩ => ?_
  subst he
  refine ⟨_, rfl, _, _, _, [], [] ++ [] ++ p2, [], hW', ?_, ?_, rfl, hnx.frame _, fun h => by cases h⟩
  · exact trodAll_mk1 (shut_bool Tryz.underlying4 true)
  · exact below_trodAll lf_laidOut hnx (by kernel_rfl) hA0 (fun x hx => by have := hW'.lt x (by simpa using hx); simpa using this)

theorem topicFull_holds : Rows.TopicFullSaid :=
  OpenClaim.holds_of_wide 7 Tryz.f7 rfl rfl rfl rfl rfl rfl rfl ⟨rfl, rfl, rfl, rfl, rfl⟩ rfl rfl rfl rfl rfl (by kernel_rfl) Tryz.func7 (by kernel_rfl)
    (of_decide_eq_true (by kernel_rfl)) (by unfold Func.isWrapper; first | (rw [if_pos (by decide +kernel)]; kernel_rfl) | (rw [if_neg (by decide +kernel)]; exact ⟨rfl, rfl⟩))
    (fun os started H enc _ => topicFull_lifted os started H enc)
end Go.Proofs.YtadgdikijdmceaaGreat

