/- DiskStill: for every input the law returns true, and each argument reads behind the call as it read before. -/
import Derived.Test.YtgmobpngcilgjaaDkM
import Derived.Test.YtgmobpngcilgjaaFwL
import Derived.Test.YtgmobpngcilgjaaRows
set_option linter.unusedSimpArgs false
set_option linter.unusedVariables false
set_option maxRecDepth 8000
namespace Go.Proofs.Ytgmobpngcilgjaa
open Go Go.Fx Go.Proofs Go.Pl Go.ChangeShapes Go.WideShapes Go.ChangeAt Go.RowKit

theorem dk_own : ownKnob Try.prog.godebug = none := by kernel_rfl
theorem dk_laidOut : laidOutB Try.prog = true := by kernel_rfl

instance : Inhabited St := ⟨⟨0, ⟨#[]⟩, ⟨#[]⟩, 0, 0⟩⟩

/-- A step of a script, read. -/
theorem open_St {H : Type} {enc : TypeId × Value → H} {W : World} {held : Bool} {fuel : Nat} {cs : List Value} {y : DataW H × List MemPlace} (h : DataW.trod enc Try.prog W 0 (fun _ => true) held fuel 43 cs = some y)
    (hw : ∀ k ∈ y.1.weights Try.prog 43, k ≤ reachBytes) : ∃ x : St, cs = stV x ∧ x.name.size ≤ 140737488355328 ∧ x.text.size ≤ 140737488355328 := by
  have hC : Try.prog.cellsOf 43 = 5 := by kernel_rfl
  have c3 : Try.prog.cellsOf 3 = 1 := by kernel_rfl
  have c9 : Try.prog.cellsOf 9 = 1 := by kernel_rfl
  obtain ⟨xs, n, rfl, rfl, hl, hlen, hf⟩ := DataW.trod_struct Try.underlying43 h
  rw [hC] at hl
  match cs, hl with
  | [v0, v1, v2, v3, v4], _ =>
    match xs, hlen with
    | [y0, y1, y2, y3, y4], _ =>
      have h0 : DataW.trod enc Try.prog W 0 (fun _ => true) held n 3 (([v0, v1, v2, v3, v4].drop 0).take (Try.prog.cellsOf 3)) = some y0 := hf 0 _ rfl
      rw [c3] at h0
      have h1 : DataW.trod enc Try.prog W 0 (fun _ => true) held n 9 (([v0, v1, v2, v3, v4].drop 1).take (Try.prog.cellsOf 9)) = some y1 := hf 1 _ rfl
      rw [c9] at h1
      have h2 : DataW.trod enc Try.prog W 0 (fun _ => true) held n 9 (([v0, v1, v2, v3, v4].drop 2).take (Try.prog.cellsOf 9)) = some y2 := hf 2 _ rfl
      rw [c9] at h2
      have h3 : DataW.trod enc Try.prog W 0 (fun _ => true) held n 3 (([v0, v1, v2, v3, v4].drop 3).take (Try.prog.cellsOf 3)) = some y3 := hf 3 _ rfl
      rw [c3] at h3
      have h4 : DataW.trod enc Try.prog W 0 (fun _ => true) held n 3 (([v0, v1, v2, v3, v4].drop 4).take (Try.prog.cellsOf 3)) = some y4 := hf 4 _ rfl
      rw [c3] at h4
      obtain ⟨a0, e0, _, _⟩ := DataW.trod_int Try.underlying3 h0
      obtain ⟨a1, e1, d1, _⟩ := DataW.trod_string Try.underlying9 h1
      obtain ⟨a2, e2, d2, _⟩ := DataW.trod_string Try.underlying9 h2
      obtain ⟨a3, e3, _, _⟩ := DataW.trod_int Try.underlying3 h3
      obtain ⟨a4, e4, _, _⟩ := DataW.trod_int Try.underlying3 h4
      simp only [List.drop_succ_cons, List.drop_zero, List.take_succ_cons, List.take_zero, List.cons.injEq, and_true] at e0 e1 e2 e3 e4
      subst e0 e1 e2 e3 e4 d1 d2
      have hr : reachBytes ≤ 140737488355328 := by decide
      simp only [List.map_cons, List.map_nil, DataW.weights, Try.underlying43, DataW.weightsEach, List.mem_append, List.mem_cons] at hw
      refine ⟨⟨a0, a1, a2, a3, a4⟩, rfl, ?_, ?_⟩
      · have := hw a1.data.toList.length (.inr (.inl (.inl rfl)))
        have e : a1.data.toList.length = a1.size := by simp
        show a1.size ≤ _
        omega
      · have := hw a2.data.toList.length (.inr (.inr (.inl (.inl rfl))))
        have e : a2.data.toList.length = a2.size := by simp
        show a2.size ≤ _
        omega

theorem u8_range {F : Int} (h : (Lit.int .u8 F).wf = true) : 0 ≤ F ∧ F ≤ 255 := by
  have e1 : IntKind.u8.min = 0 := rfl
  have e2 : IntKind.u8.max = 255 := rfl
  simp only [Lit.wf, e1, e2, Bool.and_eq_true, decide_eq_true_eq] at h
  exact h

set_option maxRecDepth 100000 in
theorem diskStill_lifted (os : Os) (started : os.Started) (H : Type) (enc : TypeId × Value → H) :
    ReturnsInHanded {} Try.checked os 4 .any (Rows.diskStillSpec.pre6 enc Try.prog Try.f4 Rows.diskStillRow.domain false) (Rows.diskStillSpec.post enc Try.prog Try.f4 false true false false) := by
  refine returnsInHanded_of_change_sized (C := Try.checked) dk_own started (by kernel_rfl) Try.func4
    (ChangeSpec.witness6 (enc := enc) (C := Try.checked) false ⟨#[], #[.slice none 0 0, .int .u8 0], []⟩ 8 (by kernel_rfl) (by kernel_rfl) (by kernel_rfl) (by kernel_rfl)) ?_
  intro W base args ds gs before hval0 hW _ hsz _
  have hval : ∀ (j : Nat) t v, Try.f4.params[j]? = some t → args[j]? = some v → Value.okWide Try.prog W .any base t v := hval0
  have hW' := hW
  obtain ⟨p, q, hA0, hV, rfl, _, _⟩ := hW
  have hA : DataW.TrodAll enc Try.prog W 0 (fun _ => true) true Try.f4.params.toList args.toList ds p := hA0
  rw [Try.params4] at hA hval
  obtain ⟨v0, v1, d0, d1, p0, p1, rfl, rfl, rfl, h0, h1⟩ := trodAll_two hA
  obtain ⟨rfl, rfl⟩ := trodVars_none hV
  obtain ⟨F, rfl, rfl, rfl, wm⟩ := open_int Try.underlying5 (hval 1 5 v1 rfl rfl) h1
  have hsz' : (DataW.weightsEach Try.prog [35, 5] [d0, .lit (.int .u8 F)]).all (· ≤ reachBytes) = true := hsz
  obtain ⟨xs, hxs, hvw⟩ := open_view (e := 43) (n := 5) Try.underlying35 (by kernel_rfl) (by decide) (hval 0 35 v0 rfl rfl) h0 (fun k hk => by
    have := List.all_eq_true.1 hsz' k (DataW.weights_mem_each (j := 0) rfl rfl k hk)
    simpa using this) stV (fun x => x.name.size ≤ 140737488355328 ∧ x.text.size ≤ 140737488355328) (fun x => ⟨rfl, rfl⟩) (fun fuel cs y h hw => open_St h hw)
  obtain ⟨f0, f1⟩ := u8_range wm
  refine (calls_true_orig (DiskStill_spec v0 (orig W) xs F hvw hxs f0 f1)).mono fun e W' ⟨he, hnx⟩ => ?_
  subst he
  refine ⟨_, rfl, _, _, _, [], p0 ++ [], [], hW', ?_, ?_, rfl, hnx.frame _, fun h => by cases h⟩
  · exact trodAll_mk1 (shut_bool Try.underlying4 true)
  · exact below_trodAll dk_laidOut hnx (by kernel_rfl) hA0 (fun x hx => by have := hW'.lt x (by simpa using hx); simpa using this)

/-- DiskStill, for every input. -/
theorem diskStill_holds : Rows.DiskStillSaid :=
  OpenClaim.holds_of_wide 4 Try.f4 rfl rfl rfl rfl rfl rfl rfl ⟨rfl, rfl, rfl, rfl, rfl⟩ rfl rfl rfl rfl rfl (by kernel_rfl) Try.func4 (by kernel_rfl)
    (of_decide_eq_true (by kernel_rfl)) (by unfold Func.isWrapper; first | (rw [if_pos (by decide +kernel)]; kernel_rfl) | (rw [if_neg (by decide +kernel)]; exact ⟨rfl, rfl⟩))
    (fun os started H enc _ => diskStill_lifted os started H enc)
end Go.Proofs.Ytgmobpngcilgjaa
