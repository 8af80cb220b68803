/- Mans, read out of a law's arguments. -/
import Derived.Test.YtgmobpngcilgjaaMnE
import Derived.Test.YtgmobpngcilgjaaRows
set_option linter.unusedSimpArgs false
set_option linter.unusedVariables false
set_option maxRecDepth 8000
namespace Go.Proofs.Ytgmobpngcilgjaa
open Go Go.Fx Go.Proofs Go.Pl Go.ChangeShapes Go.WideShapes Go.ChangeAt Go.RowKit

theorem mn_own : ownKnob Try.prog.godebug = none := by kernel_rfl
theorem mn_laidOut : laidOutB Try.prog = true := by kernel_rfl
theorem u64_range {F : Int} (h : (Lit.int .u64 F).wf = true) : 0 ≤ F ∧ F ≤ 18446744073709551615 := by
  have e1 : IntKind.u64.min = 0 := rfl
  have e2 : IntKind.u64.max = 18446744073709551615 := rfl
  simp only [Lit.wf, e1, e2, Bool.and_eq_true, decide_eq_true_eq] at h
  exact h
theorem i64_range {F : Int} (h : (Lit.int .i64 F).wf = true) : -9223372036854775808 ≤ F ∧ F ≤ 9223372036854775807 := by
  have e1 : IntKind.i64.min = -9223372036854775808 := rfl
  have e2 : IntKind.i64.max = 9223372036854775807 := rfl
  simp only [Lit.wf, e1, e2, Bool.and_eq_true, decide_eq_true_eq] at h
  exact h

theorem open_Man {H : Type} {enc : TypeId × Value → H} {W : World} {held : Bool} {fuel : Nat} {cs : List Value} {y : DataW H × List MemPlace} (h : DataW.trod enc Try.prog W 0 (fun _ => true) held fuel 63 cs = some y)
    (hw : ∀ k ∈ y.1.weights Try.prog 63, k ≤ reachBytes) : ∃ (m : Mn) (v : Value), cs = manV m v ∧ m.wf ∧ capOk v ∧ Vw (orig W) 1 v (m.runs.map uV) := by
  have hC : Try.prog.cellsOf 63 = 3 := by kernel_rfl
  have c60 : Try.prog.cellsOf 60 = 1 := by kernel_rfl
  have c61 : Try.prog.cellsOf 61 = 1 := by kernel_rfl
  obtain ⟨xs, n, rfl, rfl, hl, hlen, hf⟩ := DataW.trod_struct Try.underlying63 h
  rw [hC] at hl
  match cs, hl with
  | [v0, v1, v2], _ =>
    match xs, hlen with
    | [y0, y1, y2], _ =>
      have h0 : DataW.trod enc Try.prog W 0 (fun _ => true) held n 60 (([v0, v1, v2].drop 0).take (Try.prog.cellsOf 60)) = some y0 := hf 0 _ rfl
      rw [c60] at h0
      have h1 : DataW.trod enc Try.prog W 0 (fun _ => true) held n 61 (([v0, v1, v2].drop 1).take (Try.prog.cellsOf 61)) = some y1 := hf 1 _ rfl
      rw [c61] at h1
      have h2 : DataW.trod enc Try.prog W 0 (fun _ => true) held n 60 (([v0, v1, v2].drop 2).take (Try.prog.cellsOf 60)) = some y2 := hf 2 _ rfl
      rw [c60] at h2
      obtain ⟨a0, e0, _, w0⟩ := DataW.trod_int Try.underlying60 h0
      obtain ⟨a2, e2, _, w2⟩ := DataW.trod_int Try.underlying60 h2
      simp only [List.drop_succ_cons, List.drop_zero, List.take_succ_cons, List.take_zero, List.cons.injEq, and_true] at e0 e2 h1
      subst e0 e2
      obtain ⟨v, rs, ev, hcap, hr, hv⟩ := open_viewC (e := 60) (n := 1) Try.underlying61 c60 (by decide) h1 (fun k hk => hw k (by
        simp only [List.map_cons, List.map_nil, DataW.weights, Try.underlying63, DataW.weightsEach, List.mem_append, List.mem_cons]
        exact .inr (.inl hk))) uV (fun x => 0 ≤ x ∧ x ≤ 18446744073709551615) (fun x => ⟨rfl, rfl⟩) (fun fuel cs y h _ => by
          obtain ⟨a, e, _, w⟩ := DataW.trod_int Try.underlying60 h
          exact ⟨a, e, u64_range w⟩)
      simp only [List.cons.injEq, and_true] at ev
      subst ev
      exact ⟨⟨a0, rs, a2⟩, v1, rfl, ⟨u64_range w0, u64_range w2, hr⟩, hcap, hv⟩

/-- A text, read. -/
theorem open_text {H : Type} {enc : TypeId × Value → H} {W : World} {held : Bool} {v : Value} {d : DataW H} {ps : List MemPlace} {t : TypeId} {r : Reach} {b0 : Nat} (ht : Try.prog.underlying t = some .string) (hval : Value.okWide Try.prog W r b0 t v) (h : DataW.Trod enc Try.prog W 0 (fun _ => true) held t v d ps)
    (hw : ∀ k ∈ d.weights Try.prog t, k ≤ reachBytes) : ∃ s : ByteArray, v = .string s ∧ s.size ≤ 140737488355328 := by
  obtain ⟨s, rfl⟩ := okWide_string ht hval
  obtain ⟨fuel, hf⟩ := h
  obtain ⟨a, e, d1, _⟩ := DataW.trod_string ht hf
  have e' : (Value.string s).cells.toList = [Value.string s] := rfl
  rw [e'] at e
  simp only [List.cons.injEq, Value.string.injEq, and_true] at e
  subst e
  simp only [Prod.mk.injEq] at d1
  obtain ⟨rfl, _⟩ := d1
  refine ⟨s, rfl, ?_⟩
  have := hw s.data.toList.length (by simp [DataW.weights, ht])
  have hr : reachBytes ≤ 140737488355328 := by decide
  have e3 : s.data.toList.length = s.size := by simp
  omega

set_option maxRecDepth 100000 in
theorem manNil_lifted (os : Os) (started : os.Started) (H : Type) (enc : TypeId × Value → H) :
    ReturnsInHanded {} Try.checked os 7 .any (Rows.manNilSpec.pre6 enc Try.prog Try.f7 Rows.manNilRow.domain false) (Rows.manNilSpec.post enc Try.prog Try.f7 false true false false) := by
  refine returnsInHanded_of_change_sized (C := Try.checked) mn_own started (by kernel_rfl) Try.func7
    (ChangeSpec.witness6 (enc := enc) (C := Try.checked) false ⟨#[], #[.agg #[.int .u64 0, .slice none 0 0, .int .u64 0], .string ⟨#[]⟩], []⟩ 8 (by kernel_rfl) (by kernel_rfl) (by kernel_rfl) (by kernel_rfl)) ?_
  intro W base args ds gs before hval0 hW _ hsz _
  have hval : ∀ (j : Nat) t v, Try.f7.params[j]? = some t → args[j]? = some v → Value.okWide Try.prog W .any base t v := hval0
  have hW' := hW
  obtain ⟨p, q, hA0, hV, rfl, _, _⟩ := hW
  have hA : DataW.TrodAll enc Try.prog W 0 (fun _ => true) true Try.f7.params.toList args.toList ds p := hA0
  rw [Try.params7] at hA hval
  obtain ⟨v0, v1, d0, d1, p0, p1, rfl, rfl, rfl, h0, h1⟩ := trodAll_two hA
  obtain ⟨rfl, rfl⟩ := trodVars_none hV
  have hsz' : (DataW.weightsEach Try.prog [63, 9] [d0, d1]).all (· ≤ reachBytes) = true := hsz
  have hszj : ∀ (j : Nat) t d, [63, 9][j]? = some t → [d0, d1][j]? = some d → ∀ k ∈ d.weights Try.prog t, k ≤ reachBytes := fun j t d ht hd k hk => by
    have := List.all_eq_true.1 hsz' k (DataW.weights_mem_each (j := j) ht hd k hk)
    simpa using this
  obtain ⟨nm, rfl, hnm⟩ := open_text Try.underlying9 (hval 1 9 v1 rfl rfl) h1 (hszj 1 _ _ rfl rfl)
  obtain ⟨cs, rfl, _⟩ := okWide_struct Try.underlying63 (hval 0 63 v0 rfl rfl)
  obtain ⟨fuel, hf⟩ := h0
  obtain ⟨m, v, hx, _, _, hv⟩ := open_Man hf (hszj 0 _ _ rfl rfl)
  have hcs : cs = (manV m v).toArray := Array.ext' (by have e : (Value.agg cs).cells.toList = cs.toList := rfl; rw [← e, hx])
  subst hcs
  refine (calls_true_orig (ManNil_spec m v (orig W) nm hv (by omega))).mono fun e W' ⟨he, hnx⟩ => ?_
  subst he
  refine ⟨_, rfl, _, _, _, [], p0 ++ p1, [], hW', ?_, ?_, rfl, hnx.frame _, fun h => by cases h⟩
  · exact trodAll_mk1 (shut_bool Try.underlying4 true)
  · exact below_trodAll mn_laidOut hnx (by kernel_rfl) hA0 (fun x hx => by have := hW'.lt x (by simpa using hx); simpa using this)

/-- ManNil, for every input. -/
theorem manNil_holds : Rows.ManNilSaid :=
  OpenClaim.holds_of_wide 7 Try.f7 rfl rfl rfl rfl rfl rfl rfl ⟨rfl, rfl, rfl, rfl, rfl⟩ rfl rfl rfl rfl rfl (by kernel_rfl) Try.func7 (by kernel_rfl)
    (of_decide_eq_true (by kernel_rfl)) (by unfold Func.isWrapper; first | (rw [if_pos (by decide +kernel)]; kernel_rfl) | (rw [if_neg (by decide +kernel)]; exact ⟨rfl, rfl⟩))
    (fun os started H enc _ => manNil_lifted os started H enc)
end Go.Proofs.Ytgmobpngcilgjaa
