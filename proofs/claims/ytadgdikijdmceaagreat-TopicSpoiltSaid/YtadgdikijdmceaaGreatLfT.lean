import Derived.Test.YtadgdikijdmceaaGreatTrB
import Derived.Test.YtadgdikijdmceaaGreatLf
set_option linter.unusedSimpArgs false
set_option linter.unusedVariables false
set_option maxRecDepth 8000
namespace Go.Proofs.YtadgdikijdmceaaGreat
open Go Go.Fx Go.Proofs Go.Pl Go.ChangeShapes Go.WideShapes Go.ChangeAt Go.RowKit

theorem ext_satL {A P : HProp} {L : List HProp} {h : Frag} (a : Ext A P) (s : SatL (P :: L) h) : SatL (A :: L) h := by
  obtain ⟨h1, h2, ha, l1, l2, hP, hL⟩ := s
  obtain ⟨h', l', hA⟩ := a h1 hP
  exact ⟨h', h2, ha.sub l' (.refl _), l'.trans l1, l2, hA, hL⟩
theorem fspec_ext {P : Program} {f : FuncId} {args : List Value} {A : HProp} {ret : Value} (s : FSpec P f args [A] HProp (fun P' => Ext A P') (fun _ => ret) (fun P' => [P'])) : FSpec P f args [A] Unit (fun _ => True) (fun _ => ret) (fun _ => [A]) := by
  intro w0 w R hs
  refine (s w0 w R hs).mono ?_
  rintro e w' ⟨y, hE, rfl, hs'⟩
  exact ⟨(), trivial, rfl, hs'.map fun _ k => ext_satL hE k⟩
instance : Inhabited Ts := ⟨⟨0, [], ⟨.slice none 0 0, rfl⟩, 0, 0, 0⟩⟩
theorem open_strs {H : Type} {enc : TypeId × Value → H} {W : World} {held : Bool} {fuel : Nat} {cs : List Value} {y : DataW H × List MemPlace} (h : DataW.trod enc Tryz.prog W 0 (fun _ => true) held fuel 22 cs = some y)
    (hw : ∀ k ∈ y.1.weights Tryz.prog 22, k ≤ reachBytes) : ∃ (v : Value) (l : List BA), cs = [v] ∧ capOk v ∧ (∀ s ∈ l, s.size ≤ 140737488355328) ∧ Vw (orig W) 1 v (l.map strV) :=
  open_viewC (e := 9) (n := 1) Tryz.underlying22 (by kernel_rfl) (by decide) h hw strV (fun s => s.size ≤ 140737488355328) (fun x => ⟨rfl, rfl⟩) (fun fuel cs y h hw => by
    obtain ⟨a, e, d1, _⟩ := DataW.trod_string Tryz.underlying9 h
    subst d1
    have hr : reachBytes ≤ 140737488355328 := by decide
    have := hw a.data.toList.length (by simp only [DataW.weights, Tryz.underlying9]; first | exact List.mem_singleton.2 rfl | simp)
    have e' : a.data.toList.length = a.size := by simp
    exact ⟨a, e, by show a.size ≤ _; omega⟩)
end Go.Proofs.YtadgdikijdmceaaGreat
