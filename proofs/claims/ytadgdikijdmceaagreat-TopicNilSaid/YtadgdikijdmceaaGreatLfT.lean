import Derived.Test.YtadgdikijdmceaaGreatTrB
import Derived.Test.YtadgdikijdmceaaGreatLf
set_option linter.unusedSimpArgs false
set_option linter.unusedVariables false
set_option maxRecDepth 8000
namespace Go.Proofs.YtadgdikijdmceaaGreat
open Go Go.Fx Go.Proofs Go.Pl Go.ChangeShapes Go.WideShapes Go.ChangeAt Go.RowKit

theorem ext_satL {A P : HProp} {L : List HProp} {h : Frag} (a : Ext A P) (s : SatL (P :: L) h) : SatL (A :: L) h := by
  obtain ⟨h1, h2, ha, l1, l2, hP, hL⟩ := s
  obtain ⟨h', l', hA⟩ := a h1 hP
  exact ⟨h', h2, ha.sub l' (.refl _), l'.trans l1, l2, hA, hL⟩
theorem fspec_ext {P : Program} {f : FuncId} {args : List Value} {A : HProp} {ret : Value} (s : FSpec P f args [A] HProp (fun P' => Ext A P') (fun _ => ret) (fun P' => [P'])) : FSpec P f args [A] Unit (fun _ => True) (fun _ => ret) (fun _ => [A]) := by
  intro w0 w R hs
  refine (s w0 w R hs).mono ?_
  rintro e w' ⟨y, hE, rfl, hs'⟩
  exact ⟨(), trivial, rfl, hs'.map fun _ k => ext_satL hE k⟩
instance : Inhabited Ts := ⟨⟨0, [], ⟨.slice none 0 0, rfl⟩, 0, 0, 0⟩⟩
theorem open_strs {H : Type} {enc : TypeId × Value → H} {W : World} {held : Bool} {fuel : Nat} {cs : List Value} {y : DataW H × List MemPlace} (h : DataW.trod enc Tryz.prog W 0 (fun _ => true) held fuel 22 cs = some y)
    (hw : ∀ k ∈ y.1.weights Tryz.prog 22, k ≤ reachBytes) : ∃ (v : Value) (l : List BA), cs = [v] ∧ capOk v ∧ (∀ s ∈ l, s.size ≤ 140737488355328) ∧ Vw (orig W) 1 v (l.map strV) :=
  open_viewC (e := 9) (n := 1) Tryz.underlying22 (by kernel_rfl) (by decide) h hw strV (fun s => s.size ≤ 140737488355328) (fun x => ⟨rfl, rfl⟩) (fun fuel cs y h hw => by
    obtain ⟨a, e, d1, _⟩ := DataW.trod_string Tryz.underlying9 h
    subst d1
    have hr : reachBytes ≤ 140737488355328 := by decide
    have := hw a.data.toList.length (by simp only [DataW.weights, Tryz.underlying9]; first | exact List.mem_singleton.2 rfl | simp)
    have e' : a.data.toList.length = a.size := by simp
    exact ⟨a, e, by show a.size ≤ _; omega⟩)
theorem open_Ts {H : Type} {enc : TypeId × Value → H} {W : World} {held : Bool} {fuel : Nat} {cs : List Value} {y : DataW H × List MemPlace} (h : DataW.trod enc Tryz.prog W 0 (fun _ => true) held fuel 25 cs = some y)
    (hw : ∀ k ∈ y.1.weights Tryz.prog 25, k ≤ reachBytes) : ∃ x : Ts, cs = tsV x ∧ TsG (orig W) x := by
  have hC : Tryz.prog.cellsOf 25 = 5 := by kernel_rfl
  have hrb : reachBytes ≤ 140737488355328 := by decide
  have c0 : Tryz.prog.cellsOf 3 = 1 := by kernel_rfl
  have c1 : Tryz.prog.cellsOf 22 = 1 := by kernel_rfl
  have c2 : Tryz.prog.cellsOf 23 = 1 := by kernel_rfl
  obtain ⟨xs, n, rfl, rfl, hl, hlen, hf⟩ := DataW.trod_struct Tryz.underlying25 h
  rw [hC] at hl
  match cs, hl with
  | [v0, v1, v2, v3, v4], _ =>
    match xs, hlen with
    | [y0, y1, y2, y3, y4], _ =>
      have h0 : DataW.trod enc Tryz.prog W 0 (fun _ => true) held n 3 (([v0, v1, v2, v3, v4].drop 0).take (Tryz.prog.cellsOf 3)) = some y0 := hf 0 _ rfl
      rw [c0] at h0
      have h1 : DataW.trod enc Tryz.prog W 0 (fun _ => true) held n 22 (([v0, v1, v2, v3, v4].drop 1).take (Tryz.prog.cellsOf 22)) = some y1 := hf 1 _ rfl
      rw [c1] at h1
      have h2 : DataW.trod enc Tryz.prog W 0 (fun _ => true) held n 23 (([v0, v1, v2, v3, v4].drop 2).take (Tryz.prog.cellsOf 23)) = some y2 := hf 2 _ rfl
      rw [c2] at h2
      have h3 : DataW.trod enc Tryz.prog W 0 (fun _ => true) held n 3 (([v0, v1, v2, v3, v4].drop 3).take (Tryz.prog.cellsOf 3)) = some y3 := hf 3 _ rfl
      rw [c0] at h3
      have h4 : DataW.trod enc Tryz.prog W 0 (fun _ => true) held n 3 (([v0, v1, v2, v3, v4].drop 4).take (Tryz.prog.cellsOf 3)) = some y4 := hf 4 _ rfl
      rw [c0] at h4
      obtain ⟨a0, e0, _, w0⟩ := DataW.trod_int Tryz.underlying3 h0
      obtain ⟨a2, e2, _, w2⟩ := DataW.trod_int Tryz.underlying23 h2
      obtain ⟨a3, e3, _, w3⟩ := DataW.trod_int Tryz.underlying3 h3
      obtain ⟨a4, e4, _, w4⟩ := DataW.trod_int Tryz.underlying3 h4
      simp only [List.drop_succ_cons, List.drop_zero, List.take_succ_cons, List.take_zero, List.cons.injEq, and_true] at e0 e2 e3 e4 h1
      subst e0 e2 e3 e4
      simp only [List.map_cons, List.map_nil, DataW.weights, Tryz.underlying25, DataW.weightsEach, List.mem_append, List.mem_cons] at hw
      have q1 := open_strs h1 (fun k hk => hw k (.inr (.inl hk)))
      obtain ⟨v, l, em, hcap, hz, hv⟩ := q1
      simp only [List.cons.injEq, and_true] at em
      subst em
      have h1c : v1.oneCell' = true := by
        obtain ⟨_, _, _, rfl, _⟩ := hcap
        rfl
      obtain ⟨o, rfl⟩ : ∃ o : Nat, a2 = o := ⟨a2.toNat, by have := (lf_u64 w2).1; omega⟩
      exact ⟨⟨a0, l, ⟨v1, h1c⟩, o, a3, a4⟩, rfl, ⟨⟨hv, hz⟩, hcap, (lf_i64 w3).2⟩⟩

end Go.Proofs.YtadgdikijdmceaaGreat
