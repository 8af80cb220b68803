/- What is read of a law's arguments: facts for all lifts. -/
import Derived.Test.YtbagfdolcabniaaGreatDoorTy
import Derived.Test.YtbagfdolcabniaaGreatDoorFwY
import Derived.Test.YtbagfdolcabniaaGreatDoorRows
import Derived.Carry
set_option linter.unusedSimpArgs false
set_option linter.unusedVariables false
set_option maxRecDepth 8000
namespace Go.Proofs.YtbagfdolcabniaaGreatDoor
open Go Go.Fx Go.Proofs Go.ChangeShapes Go.WideShapes Go.ChangeAt Go.RowKit

theorem lf_own : ownKnob Tryz.prog.godebug = none := by kernel_rfl
theorem lf_laidOut : laidOutB Tryz.prog = true := by kernel_rfl
theorem lf_u64 {F : Int} (h : (Lit.int .u64 F).wf = true) : 0 ≤ F ∧ F ≤ 18446744073709551615 := by
  have e1 : IntKind.u64.min = 0 := rfl
  have e2 : IntKind.u64.max = 18446744073709551615 := rfl
  simp only [Lit.wf, e1, e2, Bool.and_eq_true, decide_eq_true_eq] at h
  exact h
theorem lf_i64 {F : Int} (h : (Lit.int .i64 F).wf = true) : -9223372036854775808 ≤ F ∧ F ≤ 9223372036854775807 := by
  have e1 : IntKind.i64.min = -9223372036854775808 := rfl
  have e2 : IntKind.i64.max = 9223372036854775807 := rfl
  simp only [Lit.wf, e1, e2, Bool.and_eq_true, decide_eq_true_eq] at h
  exact h
theorem lf_u16 {F : Int} (h : (Lit.int .u16 F).wf = true) : 0 ≤ F ∧ F ≤ 65535 := by
  have e1 : IntKind.u16.min = 0 := rfl
  have e2 : IntKind.u16.max = 65535 := rfl
  simp only [Lit.wf, e1, e2, Bool.and_eq_true, decide_eq_true_eq] at h
  exact h
theorem lf_u8 {F : Int} (h : (Lit.int .u8 F).wf = true) : 0 ≤ F ∧ F ≤ 255 := by
  have e1 : IntKind.u8.min = 0 := rfl
  have e2 : IntKind.u8.max = 255 := rfl
  simp only [Lit.wf, e1, e2, Bool.and_eq_true, decide_eq_true_eq] at h
  exact h
theorem lf_trod5 {H : Type} {enc : TypeId × Value → H} {P : Program} {w : World} {base : Nat} {spare : Nat → Bool} {held : Bool} {t t' t'' t3 t4 : TypeId} {args : Array Value} {ds : List (DataW H)} {ps : List MemPlace} (h : DataW.TrodAll enc P w base spare held [t, t', t'', t3, t4] args.toList ds ps) :
    ∃ v v' v'' v3 v4 d d' d'' d3 d4 p p' p'' p3 p4, args = #[v, v', v'', v3, v4] ∧ ds = [d, d', d'', d3, d4] ∧ ps = p ++ p' ++ p'' ++ p3 ++ p4 ∧ DataW.Trod enc P w base spare held t v d p ∧ DataW.Trod enc P w base spare held t' v' d' p' ∧ DataW.Trod enc P w base spare held t'' v'' d'' p'' ∧ DataW.Trod enc P w base spare held t3 v3 d3 p3 ∧ DataW.Trod enc P w base spare held t4 v4 d4 p4 := by
  obtain ⟨v, vs, d, ds', p, q, hargs, rfl, rfl, hd, hrest⟩ := trodAll_cons h
  obtain ⟨v', vs', d', ds'', p', q', rfl, rfl, rfl, hd', hrest'⟩ := trodAll_cons hrest
  obtain ⟨v'', vs'', d'', ds''', p'', q'', rfl, rfl, rfl, hd'', hrest''⟩ := trodAll_cons hrest'
  obtain ⟨v3, vs3, d3, ds3, p3, q3, rfl, rfl, rfl, hd3, hrest3⟩ := trodAll_cons hrest''
  obtain ⟨v4, vs4, d4, ds4, p4, q4, rfl, rfl, rfl, hd4, hrest4⟩ := trodAll_cons hrest3
  obtain ⟨rfl, rfl, rfl⟩ := trodAll_nil hrest4
  exact ⟨v, v', v'', v3, v4, d, d', d'', d3, d4, p, p', p'', p3, p4, by cases args; simp_all, rfl, by simp, hd, hd', hd'', hd3, hd4⟩
/-- A text, read. -/
theorem lf_text {H : Type} {enc : TypeId × Value → H} {W : World} {held : Bool} {v : Value} {d : DataW H} {ps : List MemPlace} {t : TypeId} {r : Reach} {b0 : Nat} (ht : Tryz.prog.underlying t = some .string) (hval : Value.okWide Tryz.prog W r b0 t v) (h : DataW.Trod enc Tryz.prog W 0 (fun _ => true) held t v d ps)
    (hw : ∀ k ∈ d.weights Tryz.prog t, k ≤ reachBytes) : ∃ s : ByteArray, v = .string s ∧ s.size ≤ 140737488355328 := by
  obtain ⟨s, rfl⟩ := okWide_string ht hval
  obtain ⟨fuel, hf⟩ := h
  obtain ⟨a, e, d1, _⟩ := DataW.trod_string ht hf
  have e' : (Value.string s).cells.toList = [Value.string s] := rfl
  rw [e'] at e
  simp only [List.cons.injEq, Value.string.injEq, and_true] at e
  subst e
  simp only [Prod.mk.injEq] at d1
  obtain ⟨rfl, _⟩ := d1
  refine ⟨s, rfl, ?_⟩
  have := hw s.data.toList.length (by simp [DataW.weights, ht])
  have hr : reachBytes ≤ 140737488355328 := by decide
  have e3 : s.data.toList.length = s.size := by simp
  omega
end Go.Proofs.YtbagfdolcabniaaGreatDoor
