/- Steps of a script, read out of a law's arguments. -/
import Derived.Test.YtgmobpngcilgjaaDkL
import Derived.Test.YtgmobpngcilgjaaFwY
import Derived.Test.YtgmobpngcilgjaaRows
set_option linter.unusedSimpArgs false
set_option linter.unusedVariables false
set_option maxRecDepth 8000
namespace Go.Proofs.Ytgmobpngcilgjaa
open Go Go.Fx Go.Proofs Go.Pl Go.ChangeShapes Go.WideShapes Go.ChangeAt Go.RowKit

theorem dk_own : ownKnob Try.prog.godebug = none := by kernel_rfl
theorem dk_laidOut : laidOutB Try.prog = true := by kernel_rfl

instance : Inhabited St := ⟨⟨0, ⟨#[]⟩, ⟨#[]⟩, 0, 0⟩⟩

/-- A step of a script, read. -/
theorem open_St {H : Type} {enc : TypeId × Value → H} {W : World} {held : Bool} {fuel : Nat} {cs : List Value} {y : DataW H × List MemPlace} (h : DataW.trod enc Try.prog W 0 (fun _ => true) held fuel 43 cs = some y)
    (hw : ∀ k ∈ y.1.weights Try.prog 43, k ≤ reachBytes) : ∃ x : St, cs = stV x ∧ x.name.size ≤ 140737488355328 ∧ x.text.size ≤ 140737488355328 := by
  have hC : Try.prog.cellsOf 43 = 5 := by kernel_rfl
  have c3 : Try.prog.cellsOf 3 = 1 := by kernel_rfl
  have c9 : Try.prog.cellsOf 9 = 1 := by kernel_rfl
  obtain ⟨xs, n, rfl, rfl, hl, hlen, hf⟩ := DataW.trod_struct Try.underlying43 h
  rw [hC] at hl
  match cs, hl with
  | [v0, v1, v2, v3, v4], _ =>
    match xs, hlen with
    | [y0, y1, y2, y3, y4], _ =>
      have h0 : DataW.trod enc Try.prog W 0 (fun _ => true) held n 3 (([v0, v1, v2, v3, v4].drop 0).take (Try.prog.cellsOf 3)) = some y0 := hf 0 _ rfl
      rw [c3] at h0
      have h1 : DataW.trod enc Try.prog W 0 (fun _ => true) held n 9 (([v0, v1, v2, v3, v4].drop 1).take (Try.prog.cellsOf 9)) = some y1 := hf 1 _ rfl
      rw [c9] at h1
      have h2 : DataW.trod enc Try.prog W 0 (fun _ => true) held n 9 (([v0, v1, v2, v3, v4].drop 2).take (Try.prog.cellsOf 9)) = some y2 := hf 2 _ rfl
      rw [c9] at h2
      have h3 : DataW.trod enc Try.prog W 0 (fun _ => true) held n 3 (([v0, v1, v2, v3, v4].drop 3).take (Try.prog.cellsOf 3)) = some y3 := hf 3 _ rfl
      rw [c3] at h3
      have h4 : DataW.trod enc Try.prog W 0 (fun _ => true) held n 3 (([v0, v1, v2, v3, v4].drop 4).take (Try.prog.cellsOf 3)) = some y4 := hf 4 _ rfl
      rw [c3] at h4
      obtain ⟨a0, e0, _, _⟩ := DataW.trod_int Try.underlying3 h0
      obtain ⟨a1, e1, d1, _⟩ := DataW.trod_string Try.underlying9 h1
      obtain ⟨a2, e2, d2, _⟩ := DataW.trod_string Try.underlying9 h2
      obtain ⟨a3, e3, _, _⟩ := DataW.trod_int Try.underlying3 h3
      obtain ⟨a4, e4, _, _⟩ := DataW.trod_int Try.underlying3 h4
      simp only [List.drop_succ_cons, List.drop_zero, List.take_succ_cons, List.take_zero, List.cons.injEq, and_true] at e0 e1 e2 e3 e4
      subst e0 e1 e2 e3 e4 d1 d2
      have hr : reachBytes ≤ 140737488355328 := by decide
      simp only [List.map_cons, List.map_nil, DataW.weights, Try.underlying43, DataW.weightsEach, List.mem_append, List.mem_cons] at hw
      refine ⟨⟨a0, a1, a2, a3, a4⟩, rfl, ?_, ?_⟩
      · have := hw a1.data.toList.length (.inr (.inl (.inl rfl)))
        have e : a1.data.toList.length = a1.size := by simp
        show a1.size ≤ _
        omega
      · have := hw a2.data.toList.length (.inr (.inr (.inl (.inl rfl))))
        have e : a2.data.toList.length = a2.size := by simp
        show a2.size ≤ _
        omega

theorem u8_range {F : Int} (h : (Lit.int .u8 F).wf = true) : 0 ≤ F ∧ F ≤ 255 := by
  have e1 : IntKind.u8.min = 0 := rfl
  have e2 : IntKind.u8.max = 255 := rfl
  simp only [Lit.wf, e1, e2, Bool.and_eq_true, decide_eq_true_eq] at h
  exact h

end Go.Proofs.Ytgmobpngcilgjaa
