import Derived.Test.YtadgdikijdmceaaGreatTrA
set_option linter.unusedSimpArgs false
set_option linter.unusedVariables false
set_option maxRecDepth 100000
namespace Go.Proofs.YtadgdikijdmceaaGreat
open Go Go.Fx Go.Proofs Go.Pl

def TsR (A : HProp) (x : Ts) : Prop := Vw A 1 x.v.1 (x.l.map strV) ∧ ∀ s ∈ x.l, s.size ≤ 140737488355328
structure TsG (A : HProp) (x : Ts) : Prop where
  r : TsR A x
  cap : capOk x.v.1
  n : x.n ≤ 9223372036854775807
theorem i64_nat {x : Int} (h0 : 0 ≤ x) (h1 : x ≤ 9223372036854775807) : IntKind.i64.wrap x = x := by
  unfold IntKind.wrap
  have e4 : (2 : Int) ^ IntKind.i64.bits = 18446744073709551616 := rfl
  have e5 : (2 : Int) ^ (IntKind.i64.bits - 1) = 9223372036854775808 := rfl
  simp only [e4, e5]
  split
  · rename_i h; simp only [IntKind.signed, Bool.true_and, decide_eq_true_eq] at h; omega
  · omega
theorem rem20 (sg : Nat) (h : sg ≤ 65535) : (1 : Int) + (sg : Int).tmod 20 = ((1 + sg % 20 : Nat) : Int) := by
  have : (sg : Int).tmod 20 = ((sg % 20 : Nat) : Int) := (Int.ofNat_tmod sg 20).symm
  rw [this]; omega
set_option maxHeartbeats 4000000 in
theorem TopicFull_spec (ro sg : Nat) (u : Value) (A : HProp) (xs : List Ts) (hro : ro ≤ 65535) (hsg : sg ≤ 65535) (hA : Vw A 5 u (xs.map tsV)) (hv : ∀ x ∈ xs, TsR A x) :
    FSpec Tryz.prog 7 [.int .u16 (ro : Int), .int .u16 (sg : Int), u] [A] HProp (fun P' => Ext A P') (fun _ => .bool true) (fun P' => [P']) := by
  have hH := HeavyT_spec u A xs hA hv
  have hr := rem20 sg hsg
  have hw1 : IntKind.i64.wrap (sg : Int) = (sg : Int) := i64_nat (by omega) (by omega)
  have hw2 : IntKind.i64.wrap (ro : Int) = (ro : Int) := i64_nat (by omega) (by omega)
  have hb0 : 0 ≤ (sg : Int).tmod 20 := by rw [show (sg : Int).tmod 20 = ((sg % 20 : Nat) : Int) from (Int.ofNat_tmod sg 20).symm]; omega
  have hb1 : (sg : Int).tmod 20 ≤ 19 := by rw [show (sg : Int).tmod 20 = ((sg % 20 : Nat) : Int) from (Int.ofNat_tmod sg 20).symm]; omega
  refine spec_intro [] _ Tryz.func7 rfl Tryz.ntmps7 (by rfl) (fun w0 R => ?_)
  repeat' (first | (refine go_Y ?_; intros) | (refine gs_Y ?_ ?_ <;> (intro hgd; try (simp only [Bool.not_true, Bool.not_false] at hgd))) | (refine gc_Y ?_ ?_ <;> intro _) | fail)
  refine cl_Y (hH) ?_
  intro y hy
  cases y with
  | true =>
    repeat' (first | (refine go_Y ?_; intros) | (refine gs_Y ?_ ?_ <;> (intro hgd; try (simp only [Bool.not_true, Bool.not_false] at hgd))) | (refine gc_Y ?_ ?_ <;> intro _) | fail)
    (refine rt_Y (y := A) (hrs := Tryz.results7) (hv := ?_) (hφ := ?_))
    · rfl
    · exact .refl _
  | false =>
    obtain ⟨h1, h2, h3⟩ := hy rfl
    have hP := plays_spec (ro : Int) (1 + sg % 20) u true A xs hA (fun x hx => (hv x hx).1) (by omega) (by omega) (by omega) (by omega) (.inl rfl) h1 h2 h3
    rw [← hr] at hP
    repeat' (first | (refine go_Y ?_; intros) | (refine gs_Y ?_ ?_ <;> (intro hgd; try (simp only [Bool.not_true, Bool.not_false] at hgd))) | (refine gc_Y ?_ ?_ <;> intro _) | fail)
    refine cl_Y (hP) ?_
    intro P1 k1
    repeat' (first | (refine go_Y ?_; intros) | (refine gs_Y ?_ ?_ <;> (intro hgd; try (simp only [Bool.not_true, Bool.not_false] at hgd))) | (refine gc_Y ?_ ?_ <;> intro _) | fail)
    refine cl_Y (alive18_spec) ?_
    intro _ _
    repeat' (first | (refine go_Y ?_; intros) | (refine gs_Y ?_ ?_ <;> (intro hgd; try (simp only [Bool.not_true, Bool.not_false] at hgd))) | (refine gc_Y ?_ ?_ <;> intro _) | fail)
    (refine rt_Y (y := P1) (hrs := Tryz.results7) (hv := ?_) (hφ := ?_))
    · rfl
    · exact k1
end Go.Proofs.YtadgdikijdmceaaGreat
