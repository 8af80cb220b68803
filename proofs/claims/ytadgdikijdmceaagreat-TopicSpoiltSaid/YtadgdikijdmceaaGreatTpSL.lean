import Derived.Test.YtadgdikijdmceaaGreatTrF
import Derived.Test.YtadgdikijdmceaaGreatLfT
set_option linter.unusedSimpArgs false
set_option linter.unusedVariables false
set_option maxRecDepth 8000
namespace Go.Proofs.YtadgdikijdmceaaGreat
open Go Go.Fx Go.Proofs Go.Pl Go.ChangeShapes Go.WideShapes Go.ChangeAt Go.RowKit

set_option maxRecDepth 100000 in
theorem topicSpoilt_lifted (os : Os) (started : os.Started) (H : Type) (enc : TypeId × Value → H) :
    ReturnsInHanded {} Tryz.checked os 4 .any (Rows.topicSpoiltSpec.pre6 enc Tryz.prog Tryz.f4 Rows.topicSpoiltRow.domain false) (Rows.topicSpoiltSpec.post enc Tryz.prog Tryz.f4 false true false false) := by
  refine returnsInHanded_of_change_sized (C := Tryz.checked) lf_own started (by kernel_rfl) Tryz.func4
    (ChangeSpec.witness6 (enc := enc) (C := Tryz.checked) false ⟨#[], #[.int .u16 0, .slice none 0 0, .int .u16 0, .int .u16 0, .int .u8 0], []⟩ 8 (by kernel_rfl) (by kernel_rfl) (by kernel_rfl) (by kernel_rfl)) ?_
  intro W base args ds gs before hval0 hW _ hsz _
  have hval : ∀ (j : Nat) t v, Tryz.f4.params[j]? = some t → args[j]? = some v → Value.okWide Tryz.prog W .any base t v := hval0
  have hW' := hW
  obtain ⟨p, q, hA0, hV, rfl, _, _⟩ := hW
  have hA : DataW.TrodAll enc Tryz.prog W 0 (fun _ => true) true Tryz.f4.params.toList args.toList ds p := hA0
  rw [Tryz.params4] at hA hval
  obtain ⟨v0, v1, v2, v3, v4, d0, d1, d2, d3, d4, p0, p1, p2, p3, p4, rfl, rfl, rfl, h0, h1, h2, h3, h4⟩ := lf_trod5 hA
  obtain ⟨rfl, rfl⟩ := trodVars_none hV
  have hsz' : (DataW.weightsEach Tryz.prog [45, 22, 45, 45, 5] [d0, d1, d2, d3, d4]).all (· ≤ reachBytes) = true := hsz
  have hszj : ∀ (j : Nat) t d, [45, 22, 45, 45, 5][j]? = some t → [d0, d1, d2, d3, d4][j]? = some d → ∀ k ∈ d.weights Tryz.prog t, k ≤ reachBytes := fun j t d ht hd k hk => by
    have := List.all_eq_true.1 hsz' k (DataW.weights_mem_each (j := j) ht hd k hk)
    simpa using this
  obtain ⟨n0, rfl, rfl, rfl, w0⟩ := open_int Tryz.underlying45 (hval 0 45 v0 rfl rfl) h0
  obtain ⟨k0, rfl⟩ : ∃ k : Nat, n0 = k := ⟨n0.toNat, by have := (lf_u16 w0).1; omega⟩
  obtain ⟨a1, len1, cap1, rfl⟩ := okWide_slice Tryz.underlying22 (hval 1 22 v1 rfl rfl)
  obtain ⟨fuel1, hf1⟩ := h1
  obtain ⟨u1, l1, ev1, hc1, hp1, hv1⟩ := open_strs hf1 (hszj 1 _ _ rfl rfl)
  have ee1 : (Value.slice a1 len1 cap1).cells.toList = [Value.slice a1 len1 cap1] := rfl
  rw [ee1] at ev1
  simp only [List.cons.injEq, and_true] at ev1
  subst ev1
  obtain ⟨n2, rfl, rfl, rfl, w2⟩ := open_int Tryz.underlying45 (hval 2 45 v2 rfl rfl) h2
  obtain ⟨k2, rfl⟩ : ∃ k : Nat, n2 = k := ⟨n2.toNat, by have := (lf_u16 w2).1; omega⟩
  obtain ⟨n3, rfl, rfl, rfl, w3⟩ := open_int Tryz.underlying45 (hval 3 45 v3 rfl rfl) h3
  obtain ⟨k3, rfl⟩ : ∃ k : Nat, n3 = k := ⟨n3.toNat, by have := (lf_u16 w3).1; omega⟩
  obtain ⟨n4, rfl, rfl, rfl, w4⟩ := open_int Tryz.underlying5 (hval 4 5 v4 rfl rfl) h4
  obtain ⟨k4, rfl⟩ : ∃ k : Nat, n4 = k := ⟨n4.toNat, by have := (lf_u8 w4).1; omega⟩
  refine (calls_true_orig (fspec_ext (TopicSpoilt_spec k0 (.slice a1 len1 cap1) (orig W) l1 k2 k3 k4 (by have := (lf_u16 w0).2; omega) (by have := (lf_u16 w2).2; omega) (by have := (lf_u16 w3).2; omega) (by have := (lf_u8 w4).2; omega) hv1 hc1 hp1))).mono fun e W' ⟨he, hnx⟩ => ?_
  subst he
  refine ⟨_, rfl, _, _, _, [], [] ++ p1 ++ [] ++ [] ++ [], [], hW', ?_, ?_, rfl, hnx.frame _, fun h => by cases h⟩
  · exact trodAll_mk1 (shut_bool Tryz.underlying4 true)
  · exact below_trodAll lf_laidOut hnx (by kernel_rfl) hA0 (fun x hx => by have := hW'.lt x (by simpa using hx); simpa using this)

theorem topicSpoilt_holds : Rows.TopicSpoiltSaid :=
  OpenClaim.holds_of_wide 4 Tryz.f4 rfl rfl rfl rfl rfl rfl rfl ⟨rfl, rfl, rfl, rfl, rfl⟩ rfl rfl rfl rfl rfl (by kernel_rfl) Tryz.func4 (by kernel_rfl)
    (of_decide_eq_true (by kernel_rfl)) (by unfold Func.isWrapper; first | (rw [if_pos (by decide +kernel)]; kernel_rfl) | (rw [if_neg (by decide +kernel)]; exact ⟨rfl, rfl⟩))
    (fun os started H enc _ => topicSpoilt_lifted os started H enc)
end Go.Proofs.YtadgdikijdmceaaGreat

