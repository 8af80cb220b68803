/- RunNil: for every input the law returns true, and each argument reads behind the call as it read before. -/
import Derived.Test.YtgmobpngcilgjaaRnJ
import Derived.Test.YtgmobpngcilgjaaLf
set_option linter.unusedSimpArgs false
set_option linter.unusedVariables false
set_option maxRecDepth 8000
namespace Go.Proofs.Ytgmobpngcilgjaa
open Go Go.Fx Go.Proofs Go.Pl Go.ChangeShapes Go.WideShapes Go.ChangeAt Go.RowKit

theorem open_Pr {H : Type} {enc : TypeId × Value → H} {W : World} {held : Bool} {fuel : Nat} {cs : List Value} {y : DataW H × List MemPlace} (h : DataW.trod enc Try.prog W 0 (fun _ => true) held fuel 23 cs = some y)
    (hw : ∀ k ∈ y.1.weights Try.prog 23, k ≤ reachBytes) : ∃ x : Pr, cs = prV x ∧ x.k.size ≤ 140737488355328 ∧ x.v.size ≤ 140737488355328 := by
  have hC : Try.prog.cellsOf 23 = 3 := by kernel_rfl
  have hrb : reachBytes ≤ 140737488355328 := by decide
  have c0 : Try.prog.cellsOf 9 = 1 := by kernel_rfl
  have c1 : Try.prog.cellsOf 4 = 1 := by kernel_rfl
  obtain ⟨xs, n, rfl, rfl, hl, hlen, hf⟩ := DataW.trod_struct Try.underlying23 h
  rw [hC] at hl
  match cs, hl with
  | [v0, v1, v2], _ =>
    match xs, hlen with
    | [y0, y1, y2], _ =>
      have h0 : DataW.trod enc Try.prog W 0 (fun _ => true) held n 9 (([v0, v1, v2].drop 0).take (Try.prog.cellsOf 9)) = some y0 := hf 0 _ rfl
      rw [c0] at h0
      have h1 : DataW.trod enc Try.prog W 0 (fun _ => true) held n 9 (([v0, v1, v2].drop 1).take (Try.prog.cellsOf 9)) = some y1 := hf 1 _ rfl
      rw [c0] at h1
      have h2 : DataW.trod enc Try.prog W 0 (fun _ => true) held n 4 (([v0, v1, v2].drop 2).take (Try.prog.cellsOf 4)) = some y2 := hf 2 _ rfl
      rw [c1] at h2
      obtain ⟨a0, e0, d0, _⟩ := DataW.trod_string Try.underlying9 h0
      obtain ⟨a1, e1, d1, _⟩ := DataW.trod_string Try.underlying9 h1
      obtain ⟨a2, e2, _⟩ := DataW.trod_bool Try.underlying4 h2
      simp only [List.drop_succ_cons, List.drop_zero, List.take_succ_cons, List.take_zero, List.cons.injEq, and_true] at e0 e1 e2
      subst e0 e1 e2
      simp only [List.map_cons, List.map_nil, DataW.weights, Try.underlying23, DataW.weightsEach, List.mem_append, List.mem_cons] at hw
      have z0 : a0.size ≤ 140737488355328 := by
        subst d0
        have := hw a0.data.toList.length (.inl (by simp only [DataW.weights, Try.underlying9]; first | exact List.mem_singleton.2 rfl | simp))
        have e' : a0.data.toList.length = a0.size := by simp
        omega
      have z1 : a1.size ≤ 140737488355328 := by
        subst d1
        have := hw a1.data.toList.length (.inr (.inl (by simp only [DataW.weights, Try.underlying9]; first | exact List.mem_singleton.2 rfl | simp)))
        have e' : a1.data.toList.length = a1.size := by simp
        omega
      exact ⟨⟨a0, a1, a2⟩, rfl, z0, z1⟩

instance : Inhabited Pr := ⟨⟨⟨#[]⟩, ⟨#[]⟩, false⟩⟩
theorem open_Prs {H : Type} {enc : TypeId × Value → H} {W : World} {held : Bool} {fuel : Nat} {cs : List Value} {y : DataW H × List MemPlace} (h : DataW.trod enc Try.prog W 0 (fun _ => true) held fuel 25 cs = some y)
    (hw : ∀ k ∈ y.1.weights Try.prog 25, k ≤ reachBytes) : ∃ (v : Value) (l : List Pr), cs = [v] ∧ capOk v ∧ (∀ x ∈ l, (fun x : Pr => x.k.size ≤ 140737488355328 ∧ x.v.size ≤ 140737488355328) x) ∧ Vw (orig W) 3 v (l.map prV) :=
  open_viewC (e := 23) (n := 3) Try.underlying25 (by kernel_rfl) (by decide) h hw prV (fun x : Pr => x.k.size ≤ 140737488355328 ∧ x.v.size ≤ 140737488355328) (fun x => ⟨rfl, rfl⟩) (fun fuel cs y h hw => open_Pr h hw)

theorem open_Sr {H : Type} {enc : TypeId × Value → H} {W : World} {held : Bool} {fuel : Nat} {cs : List Value} {y : DataW H × List MemPlace} (h : DataW.trod enc Try.prog W 0 (fun _ => true) held fuel 79 cs = some y)
    (hw : ∀ k ∈ y.1.weights Try.prog 79, k ≤ reachBytes) : ∃ x : Sr, cs = srV x ∧ Vw (orig W) 3 x.v.1 (x.l.map prV) ∧ ∀ p ∈ x.l, p.k.size ≤ 140737488355328 ∧ p.v.size ≤ 140737488355328 := by
  have hC : Try.prog.cellsOf 79 = 8 := by kernel_rfl
  have hrb : reachBytes ≤ 140737488355328 := by decide
  have c0 : Try.prog.cellsOf 3 = 1 := by kernel_rfl
  have c1 : Try.prog.cellsOf 9 = 1 := by kernel_rfl
  have c2 : Try.prog.cellsOf 25 = 1 := by kernel_rfl
  obtain ⟨xs, n, rfl, rfl, hl, hlen, hf⟩ := DataW.trod_struct Try.underlying79 h
  rw [hC] at hl
  match cs, hl with
  | [v0, v1, v2, v3, v4, v5, v6, v7], _ =>
    match xs, hlen with
    | [y0, y1, y2, y3, y4, y5, y6, y7], _ =>
      have h0 : DataW.trod enc Try.prog W 0 (fun _ => true) held n 3 (([v0, v1, v2, v3, v4, v5, v6, v7].drop 0).take (Try.prog.cellsOf 3)) = some y0 := hf 0 _ rfl
      rw [c0] at h0
      have h1 : DataW.trod enc Try.prog W 0 (fun _ => true) held n 9 (([v0, v1, v2, v3, v4, v5, v6, v7].drop 1).take (Try.prog.cellsOf 9)) = some y1 := hf 1 _ rfl
      rw [c1] at h1
      have h2 : DataW.trod enc Try.prog W 0 (fun _ => true) held n 25 (([v0, v1, v2, v3, v4, v5, v6, v7].drop 2).take (Try.prog.cellsOf 25)) = some y2 := hf 2 _ rfl
      rw [c2] at h2
      have h3 : DataW.trod enc Try.prog W 0 (fun _ => true) held n 9 (([v0, v1, v2, v3, v4, v5, v6, v7].drop 3).take (Try.prog.cellsOf 9)) = some y3 := hf 3 _ rfl
      rw [c1] at h3
      have h4 : DataW.trod enc Try.prog W 0 (fun _ => true) held n 9 (([v0, v1, v2, v3, v4, v5, v6, v7].drop 4).take (Try.prog.cellsOf 9)) = some y4 := hf 4 _ rfl
      rw [c1] at h4
      have h5 : DataW.trod enc Try.prog W 0 (fun _ => true) held n 9 (([v0, v1, v2, v3, v4, v5, v6, v7].drop 5).take (Try.prog.cellsOf 9)) = some y5 := hf 5 _ rfl
      rw [c1] at h5
      have h6 : DataW.trod enc Try.prog W 0 (fun _ => true) held n 3 (([v0, v1, v2, v3, v4, v5, v6, v7].drop 6).take (Try.prog.cellsOf 3)) = some y6 := hf 6 _ rfl
      rw [c0] at h6
      have h7 : DataW.trod enc Try.prog W 0 (fun _ => true) held n 3 (([v0, v1, v2, v3, v4, v5, v6, v7].drop 7).take (Try.prog.cellsOf 3)) = some y7 := hf 7 _ rfl
      rw [c0] at h7
      obtain ⟨a0, e0, _, w0⟩ := DataW.trod_int Try.underlying3 h0
      obtain ⟨a1, e1, d1, _⟩ := DataW.trod_string Try.underlying9 h1
      obtain ⟨a3, e3, d3, _⟩ := DataW.trod_string Try.underlying9 h3
      obtain ⟨a4, e4, d4, _⟩ := DataW.trod_string Try.underlying9 h4
      obtain ⟨a5, e5, d5, _⟩ := DataW.trod_string Try.underlying9 h5
      obtain ⟨a6, e6, _, w6⟩ := DataW.trod_int Try.underlying3 h6
      obtain ⟨a7, e7, _, w7⟩ := DataW.trod_int Try.underlying3 h7
      simp only [List.drop_succ_cons, List.drop_zero, List.take_succ_cons, List.take_zero, List.cons.injEq, and_true] at e0 e1 e3 e4 e5 e6 e7 h2
      subst e0 e1 e3 e4 e5 e6 e7
      simp only [List.map_cons, List.map_nil, DataW.weights, Try.underlying79, DataW.weightsEach, List.mem_append, List.mem_cons] at hw
      have z1 : a1.size ≤ 140737488355328 := by
        subst d1
        have := hw a1.data.toList.length (.inr (.inl (by simp only [DataW.weights, Try.underlying9]; first | exact List.mem_singleton.2 rfl | simp)))
        have e' : a1.data.toList.length = a1.size := by simp
        omega
      have q2 := open_Prs h2 (fun k hk => hw k (.inr (.inr (.inl hk))))
      have z3 : a3.size ≤ 140737488355328 := by
        subst d3
        have := hw a3.data.toList.length (.inr (.inr (.inr (.inl (by simp only [DataW.weights, Try.underlying9]; first | exact List.mem_singleton.2 rfl | simp)))))
        have e' : a3.data.toList.length = a3.size := by simp
        omega
      have z4 : a4.size ≤ 140737488355328 := by
        subst d4
        have := hw a4.data.toList.length (.inr (.inr (.inr (.inr (.inl (by simp only [DataW.weights, Try.underlying9]; first | exact List.mem_singleton.2 rfl | simp))))))
        have e' : a4.data.toList.length = a4.size := by simp
        omega
      have z5 : a5.size ≤ 140737488355328 := by
        subst d5
        have := hw a5.data.toList.length (.inr (.inr (.inr (.inr (.inr (.inl (by simp only [DataW.weights, Try.underlying9]; first | exact List.mem_singleton.2 rfl | simp)))))))
        have e' : a5.data.toList.length = a5.size := by simp
        omega
      obtain ⟨v, l, em, hcap, hz, hv⟩ := q2
      simp only [List.cons.injEq, and_true] at em
      subst em
      have h1c : v2.oneCell' = true := by
        obtain ⟨_, _, _, rfl, _⟩ := hcap
        rfl
      exact ⟨⟨a0, a1, l, ⟨v2, h1c⟩, a3, a4, a5, a6, a7⟩, rfl, hv, hz⟩

set_option maxRecDepth 100000 in
theorem runNil_lifted (os : Os) (started : os.Started) (H : Type) (enc : TypeId × Value → H) :
    ReturnsInHanded {} Try.checked os 9 .any (Rows.runNilSpec.pre6 enc Try.prog Try.f9 Rows.runNilRow.domain false) (Rows.runNilSpec.post enc Try.prog Try.f9 false true false false) := by
  refine returnsInHanded_of_change_sized (C := Try.checked) lf_own started (by kernel_rfl) Try.func9
    (ChangeSpec.witness6 (enc := enc) (C := Try.checked) false ⟨#[], #[.agg #[.int .i64 0, .string ⟨#[]⟩, .slice none 0 0, .string ⟨#[]⟩, .string ⟨#[]⟩, .string ⟨#[]⟩, .int .i64 0, .int .i64 0]], []⟩ 8 (by kernel_rfl) (by kernel_rfl) (by kernel_rfl) (by kernel_rfl)) ?_
  intro W base args ds gs before hval0 hW _ hsz _
  have hval : ∀ (j : Nat) t v, Try.f9.params[j]? = some t → args[j]? = some v → Value.okWide Try.prog W .any base t v := hval0
  have hW' := hW
  obtain ⟨p, q, hA0, hV, rfl, _, _⟩ := hW
  have hA : DataW.TrodAll enc Try.prog W 0 (fun _ => true) true Try.f9.params.toList args.toList ds p := hA0
  rw [Try.params9] at hA hval
  obtain ⟨v0, d0, rfl, rfl, h0⟩ := trodAll_one hA
  obtain ⟨rfl, rfl⟩ := trodVars_none hV
  have hsz' : (DataW.weightsEach Try.prog [79] [d0]).all (· ≤ reachBytes) = true := hsz
  have hszj : ∀ (j : Nat) t d, [79][j]? = some t → [d0][j]? = some d → ∀ k ∈ d.weights Try.prog t, k ≤ reachBytes := fun j t d ht hd k hk => by
    have := List.all_eq_true.1 hsz' k (DataW.weights_mem_each (j := j) ht hd k hk)
    simpa using this
  obtain ⟨cs0, rfl, _⟩ := okWide_struct Try.underlying79 (hval 0 79 v0 rfl rfl)
  obtain ⟨fuel0, hf0⟩ := h0
  obtain ⟨x0, hx0, hq0⟩ := open_Sr hf0 (hszj 0 _ _ rfl rfl)
  have hcs0 : cs0 = (srV x0).toArray := Array.ext' (by have e : (Value.agg cs0).cells.toList = cs0.toList := rfl; rw [← e, hx0])
  subst hcs0
  refine (calls_true_orig (RunNil_spec x0 (orig W) hq0.1 hq0.2)).mono fun e W' ⟨he, hnx⟩ => ?_
  subst he
  refine ⟨_, rfl, _, _, _, [], p, [], hW', ?_, ?_, rfl, hnx.frame _, fun h => by cases h⟩
  · exact trodAll_mk1 (shut_bool Try.underlying4 true)
  · exact below_trodAll lf_laidOut hnx (by kernel_rfl) hA0 (fun x hx => by have := hW'.lt x (by simpa using hx); simpa using this)

/-- RunNil, for every input. -/
theorem runNil_holds : Rows.RunNilSaid :=
  OpenClaim.holds_of_wide 9 Try.f9 rfl rfl rfl rfl rfl rfl rfl ⟨rfl, rfl, rfl, rfl, rfl⟩ rfl rfl rfl rfl rfl (by kernel_rfl) Try.func9 (by kernel_rfl)
    (of_decide_eq_true (by kernel_rfl)) (by unfold Func.isWrapper; first | (rw [if_pos (by decide +kernel)]; kernel_rfl) | (rw [if_neg (by decide +kernel)]; exact ⟨rfl, rfl⟩))
    (fun os started H enc _ => runNil_lifted os started H enc)
end Go.Proofs.Ytgmobpngcilgjaa

