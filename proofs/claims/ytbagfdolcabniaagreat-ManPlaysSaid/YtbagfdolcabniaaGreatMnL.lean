/- Mans, read out of a law's arguments. -/
import Derived.Test.YtbagfdolcabniaaGreatG15
import Derived.Test.YtbagfdolcabniaaGreatRows
set_option linter.unusedSimpArgs false
set_option linter.unusedVariables false
set_option maxRecDepth 8000
namespace Go.Proofs.YtbagfdolcabniaaGreat
open Go Go.Fx Go.Proofs Go.Pl Go.ChangeShapes Go.WideShapes Go.ChangeAt Go.RowKit

theorem mn_own : ownKnob Tryz.prog.godebug = none := by kernel_rfl
theorem mn_laidOut : laidOutB Tryz.prog = true := by kernel_rfl
theorem u64_range {F : Int} (h : (Lit.int .u64 F).wf = true) : 0 ≤ F ∧ F ≤ 18446744073709551615 := by
  have e1 : IntKind.u64.min = 0 := rfl
  have e2 : IntKind.u64.max = 18446744073709551615 := rfl
  simp only [Lit.wf, e1, e2, Bool.and_eq_true, decide_eq_true_eq] at h
  exact h
theorem i64_range {F : Int} (h : (Lit.int .i64 F).wf = true) : -9223372036854775808 ≤ F ∧ F ≤ 9223372036854775807 := by
  have e1 : IntKind.i64.min = -9223372036854775808 := rfl
  have e2 : IntKind.i64.max = 9223372036854775807 := rfl
  simp only [Lit.wf, e1, e2, Bool.and_eq_true, decide_eq_true_eq] at h
  exact h

theorem open_Man {H : Type} {enc : TypeId × Value → H} {W : World} {held : Bool} {fuel : Nat} {cs : List Value} {y : DataW H × List MemPlace} (h : DataW.trod enc Tryz.prog W 0 (fun _ => true) held fuel 36 cs = some y)
    (hw : ∀ k ∈ y.1.weights Tryz.prog 36, k ≤ reachBytes) : ∃ (m : Mn) (v : Value), cs = manV m v ∧ m.wf ∧ capOk v ∧ Vw (orig W) 1 v (m.runs.map uV) := by
  have hC : Tryz.prog.cellsOf 36 = 3 := by kernel_rfl
  have c60 : Tryz.prog.cellsOf 33 = 1 := by kernel_rfl
  have c61 : Tryz.prog.cellsOf 34 = 1 := by kernel_rfl
  obtain ⟨xs, n, rfl, rfl, hl, hlen, hf⟩ := DataW.trod_struct Tryz.underlying36 h
  rw [hC] at hl
  match cs, hl with
  | [v0, v1, v2], _ =>
    match xs, hlen with
    | [y0, y1, y2], _ =>
      have h0 : DataW.trod enc Tryz.prog W 0 (fun _ => true) held n 33 (([v0, v1, v2].drop 0).take (Tryz.prog.cellsOf 33)) = some y0 := hf 0 _ rfl
      rw [c60] at h0
      have h1 : DataW.trod enc Tryz.prog W 0 (fun _ => true) held n 34 (([v0, v1, v2].drop 1).take (Tryz.prog.cellsOf 34)) = some y1 := hf 1 _ rfl
      rw [c61] at h1
      have h2 : DataW.trod enc Tryz.prog W 0 (fun _ => true) held n 33 (([v0, v1, v2].drop 2).take (Tryz.prog.cellsOf 33)) = some y2 := hf 2 _ rfl
      rw [c60] at h2
      obtain ⟨a0, e0, _, w0⟩ := DataW.trod_int Tryz.underlying33 h0
      obtain ⟨a2, e2, _, w2⟩ := DataW.trod_int Tryz.underlying33 h2
      simp only [List.drop_succ_cons, List.drop_zero, List.take_succ_cons, List.take_zero, List.cons.injEq, and_true] at e0 e2 h1
      subst e0 e2
      obtain ⟨v, rs, ev, hcap, hr, hv⟩ := open_viewC (e := 33) (n := 1) Tryz.underlying34 c60 (by decide) h1 (fun k hk => hw k (by
        simp only [List.map_cons, List.map_nil, DataW.weights, Tryz.underlying36, DataW.weightsEach, List.mem_append, List.mem_cons]
        exact .inr (.inl hk))) uV (fun x => 0 ≤ x ∧ x ≤ 18446744073709551615) (fun x => ⟨rfl, rfl⟩) (fun fuel cs y h _ => by
          obtain ⟨a, e, _, w⟩ := DataW.trod_int Tryz.underlying33 h
          exact ⟨a, e, u64_range w⟩)
      simp only [List.cons.injEq, and_true] at ev
      subst ev
      exact ⟨⟨a0, rs, a2⟩, v1, rfl, ⟨u64_range w0, u64_range w2, hr⟩, hcap, hv⟩

/-- A text, read. -/
theorem open_text {H : Type} {enc : TypeId × Value → H} {W : World} {held : Bool} {v : Value} {d : DataW H} {ps : List MemPlace} {t : TypeId} {r : Reach} {b0 : Nat} (ht : Tryz.prog.underlying t = some .string) (hval : Value.okWide Tryz.prog W r b0 t v) (h : DataW.Trod enc Tryz.prog W 0 (fun _ => true) held t v d ps)
    (hw : ∀ k ∈ d.weights Tryz.prog t, k ≤ reachBytes) : ∃ s : ByteArray, v = .string s ∧ s.size ≤ 140737488355328 := by
  obtain ⟨s, rfl⟩ := okWide_string ht hval
  obtain ⟨fuel, hf⟩ := h
  obtain ⟨a, e, d1, _⟩ := DataW.trod_string ht hf
  have e' : (Value.string s).cells.toList = [Value.string s] := rfl
  rw [e'] at e
  simp only [List.cons.injEq, Value.string.injEq, and_true] at e
  subst e
  simp only [Prod.mk.injEq] at d1
  obtain ⟨rfl, _⟩ := d1
  refine ⟨s, rfl, ?_⟩
  have := hw s.data.toList.length (by simp [DataW.weights, ht])
  have hr : reachBytes ≤ 140737488355328 := by decide
  have e3 : s.data.toList.length = s.size := by simp
  omega

end Go.Proofs.YtbagfdolcabniaaGreat
