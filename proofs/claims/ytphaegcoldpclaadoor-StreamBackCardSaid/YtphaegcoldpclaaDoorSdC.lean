import Derived.Test.YtphaegcoldpclaaDoorG1
import Derived.Test.YtphaegcoldpclaaDoorFwY
set_option linter.unusedSimpArgs false
set_option linter.unusedVariables false
set_option maxRecDepth 100000
namespace Go.Proofs.YtphaegcoldpclaaDoor
open Go Go.Fx Go.Proofs Go.Pl

structure Tb where
  name : BA
  cols : List Co
  cv : { v : Value // v.oneCell' = true }
  key : Int
  ref : Int
  par : Int
def tbV (t : Tb) : List Value := [.string t.name, t.cv.1, .int .i64 t.key, .int .i64 t.ref, .int .i64 t.par]
def Tb.c (t : Tb) : Tc := ⟨t.name, t.cols, t.key, t.ref, t.par⟩
structure TbOk (A : HProp) (t : Tb) : Prop where
  vw : Vw A 3 t.cv.1 (t.cols.map coV)
  len : t.cols.length ≤ 5864062014805
  nm : t.name.size ≤ 140737488355328
  cnm : ∀ c ∈ t.cols, c.name.size ≤ 140737488355328
structure SV (A : HProp) (vs : Value) (ts : List Tb) : Prop where
  vw : Vw A 5 vs (ts.map tbV)
  tab : ∀ t ∈ ts, TbOk A t
  len : ts.length ≤ 140737488355328
  cap : capOk vs
def dpV (d : Int) : List Value := [.int .i64 d]

section tS
variable {ahead : Sc} {ds : List Int} {t : Tc}
theorem tS_a (h : (t.cols.any fun c => decide (c.kind < 1) || decide (5 < c.kind)) = true) : tableS ahead ds t = none := by unfold tableS; rw [if_pos h]
theorem tS_b (h : t.cols.length < 1 ∨ 8 < t.cols.length ∨ namedS (t.cols.map (·.name)) = false ∨ hasC t.cols t.key = false ∨ (colAt t.cols t.key).null = true) : tableS ahead ds t = none := by
  unfold tableS
  split
  · rfl
  · first | rfl | rw [if_pos h]
theorem tS_c (h1 : (t.cols.any fun c => decide (c.kind < 1) || decide (5 < c.kind)) = false) (h2 : ¬ (t.cols.length < 1 ∨ 8 < t.cols.length ∨ namedS (t.cols.map (·.name)) = false ∨ hasC t.cols t.key = false ∨ (colAt t.cols t.key).null = true))
    (h3 : t.ref = -1 ∧ t.par = -1) : tableS ahead ds t = some 1 := by
  unfold tableS
  rw [if_neg (by rw [h1]; decide), if_neg h2, if_pos h3]
theorem tS_d (h3 : ¬ (t.ref = -1 ∧ t.par = -1)) (h4 : hasC t.cols t.ref = false ∨ t.ref = t.key ∨ t.par < 0 ∨ (ahead.length : Int) ≤ t.par) : tableS ahead ds t = none := by
  unfold tableS
  split
  · rfl
  split
  · rfl
  first | rfl | rw [if_neg h3, if_pos h4]
theorem tS_e (h1 : (t.cols.any fun c => decide (c.kind < 1) || decide (5 < c.kind)) = false) (h2 : ¬ (t.cols.length < 1 ∨ 8 < t.cols.length ∨ namedS (t.cols.map (·.name)) = false ∨ hasC t.cols t.key = false ∨ (colAt t.cols t.key).null = true))
    (h3 : ¬ (t.ref = -1 ∧ t.par = -1)) (h4 : ¬ (hasC t.cols t.ref = false ∨ t.ref = t.key ∨ t.par < 0 ∨ (ahead.length : Int) ≤ t.par)) :
    tableS ahead ds t = if (colAt (tabAt ahead t.par).cols (tabAt ahead t.par).key).kind = (colAt t.cols t.ref).kind ∧ (ds[t.par.toNat]?).getD 0 + 1 ≤ 8 then some ((ds[t.par.toNat]?).getD 0 + 1) else none := by
  unfold tableS
  rw [if_neg (by rw [h1]; decide), if_neg h2, if_neg h3, if_neg h4]
end tS

theorem has1_spec (k : Int) (t : Tb) (b : Nat) (A : HProp) (hA : Vw A 3 t.cv.1 (t.cols.map coV)) :
    FSpec Tryd.prog 117 [.int .i64 k, .pointer (some ⟨b, 0, none⟩)] [pts b (.cells (tbV t).toArray 84), A] Unit (fun _ => True) (fun _ => .bool (hasC t.cols k)) (fun _ => [pts b (.cells (tbV t).toArray 84), A]) := by
  have hlm : ((t.cols.map coV).length : Int) = (t.cols.length : Int) := by simp
  unfold hasC
  rw [← hlm]
  dsimp only [tbV]
  cases t1 : decide ((0 : Int) ≤ k) with
  | false =>
    rw [Bool.false_and]
    refine spec_intro [] _ Tryd.func117 rfl Tryd.ntmps117 (by rfl) (fun w0 R => ?_)
    repeat' (first | (refine go_Y ?_; intros) | (refine gs_Y ?_ ?_ <;> (intro hgd; try (simp only [Bool.not_true, Bool.not_false] at hgd))) | (refine gc_Y ?_ ?_ <;> intro _) | fail)
    (refine rt_Y (y := ()) (hrs := Tryd.results117) (hv := ?_) (hφ := ?_))
    · rfl
    · trivial
  | true =>
    rw [Bool.true_and]
    refine spec_intro [] _ Tryd.func117 rfl Tryd.ntmps117 (by rfl) (fun w0 R => ?_)
    repeat' (first | (refine go_Y ?_; intros) | (refine gs_Y ?_ ?_ <;> (intro hgd; try (simp only [Bool.not_true, Bool.not_false] at hgd))) | (refine gc_Y ?_ ?_ <;> intro _) | fail)
    (refine rt_Y (y := ()) (hrs := Tryd.results117) (hv := ?_) (hφ := ?_))
    · rfl
    · trivial
end Go.Proofs.YtphaegcoldpclaaDoor
