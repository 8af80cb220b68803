import Derived.Test.YtadgdikijdmceaaGreatRfP
set_option linter.unusedSimpArgs false
set_option linter.unusedVariables false
set_option maxRecDepth 4000
namespace Go.Proofs.YtadgdikijdmceaaGreat
open Go Go.Fx Go.Proofs Go.Pl

theorem mayC_iff (c : UInt8) : mayC c = true ↔ (97 ≤ (c.toNat : Int) ∧ (c.toNat : Int) ≤ 122) ∨ (48 ≤ (c.toNat : Int) ∧ (c.toNat : Int) ≤ 57) ∨ (c.toNat : Int) = 46 ∨ (c.toNat : Int) = 45 := by
  unfold mayC
  simp only [Bool.not_eq_true', Bool.and_eq_false_iff, Bool.or_eq_false_iff, decide_eq_false_iff_not, Bool.not_eq_false', decide_eq_true_eq]
  omega
def nameB (c : UInt8) : Bool := !(decide (97 ≤ (c.toNat : Int)) && decide ((c.toNat : Int) ≤ 122) || decide (48 ≤ (c.toNat : Int)) && decide ((c.toNat : Int) ≤ 57) || decide ((c.toNat : Int) = 46) || decide ((c.toNat : Int) = 45))
theorem refName_spec (s : BA) (hs : s.size ≤ 4611686018427387904) : FSpec Tryz.prog 41 [.string s] [] Unit (fun _ => True) (fun _ => .bool (mayN s)) (fun _ => []) := by
  have hl : s.data.toList.length = s.size := by simp
  refine spec_intro [] _ Tryz.func41 rfl Tryz.ntmps41 (by rfl) (fun w0 R => ?_)
  repeat' (first | (refine go_Y ?_; intros) | (refine gs_Y ?_ ?_ <;> (intro hgd; try (simp only [Bool.not_true, Bool.not_false] at hgd))) | (refine gc_Y ?_ ?_ <;> intro _) | fail)
  refine ok_loop' (γ := Nat) (fun i ρ L => i ≤ s.size ∧ (s.data.toList.take i).all mayC = true ∧ Knows ρ [(0, .string s), (3, .int .i64 i)] ∧ L = R) (fun i => s.size - i) 0 ⟨by omega, by simp, ⟨rfl, rfl, trivial⟩, rfl⟩ ?_
  rintro i ρ L ⟨hi, hall, hk, rfl⟩
  refine ok_regs hk ?_
  cases t1 : decide ((i : Int) < (s.size : Int)) with
  | false =>
    have hie : i = s.size := by have := of_decide_eq_false t1; omega
    have hfull : s.data.toList.all mayC = true := by rw [hie, List.take_of_length_le (by omega)] at hall; exact hall
    have hm : mayN s = (decide ((1 : Int) ≤ (s.size : Int)) && decide ((s.size : Int) ≤ 64)) := by
      unfold mayN; rw [hfull, Bool.true_and]
      congr 1 <;> (rw [Bool.eq_iff_iff]; simp; try omega)
    rw [hm]
    cases u1 : decide ((1 : Int) ≤ (s.size : Int)) with
    | true =>
      repeat' (first | (refine go_Y ?_; intros) | (refine gs_Y ?_ ?_ <;> (intro hgd; try (simp only [Bool.not_true, Bool.not_false] at hgd))) | (refine gc_Y ?_ ?_ <;> intro _) | fail)
      (refine rt_Y (y := ()) (hrs := Tryz.results41) (hv := ?_) (hφ := ?_))
      · rfl
      · trivial
    | false =>
      repeat' (first | (refine go_Y ?_; intros) | (refine gs_Y ?_ ?_ <;> (intro hgd; try (simp only [Bool.not_true, Bool.not_false] at hgd))) | (refine gc_Y ?_ ?_ <;> intro _) | fail)
      (refine rt_Y (y := ()) (hrs := Tryz.results41) (hv := ?_) (hφ := ?_))
      · rfl
      · trivial
  | true =>
    have h : i < s.size := of_decide_eq_true t1 |> fun h => by omega
    have hx : s.data.toList[i]? = some (s.data.toList[i]'(by omega)) := List.getElem?_eq_getElem _
    have htk : s.data.toList.take (i + 1) = s.data.toList.take i ++ [s.data.toList[i]'(by omega)] := List.take_succ_eq_append_getElem (by omega)
    have hin : (s.data.toList[i]'(by omega)) ∈ s.data.toList := List.getElem_mem _
    generalize s.data.toList[i]'(by omega) = c at hx htk hin
    have hno : mayC c = false → mayN s = false := fun hm => by
      have : s.data.toList.all mayC = false := List.all_eq_false.2 ⟨c, hin, by simp [hm]⟩
      simp only [mayN, this, Bool.false_and]
    have hyes : mayC c = true → (s.data.toList.take (i + 1)).all mayC = true := fun hm => by rw [htk, List.all_append, hall]; simp [hm]
    have hi1 : i + 1 ≤ s.size := h
    have hmi := mayC_iff c
    clear htk hin hall hl
    cases a1 : decide (97 ≤ (c.toNat : Int)) <;> cases a2 : decide ((c.toNat : Int) ≤ 122) <;> cases a3 : decide (48 ≤ (c.toNat : Int)) <;> cases a4 : decide ((c.toNat : Int) ≤ 57) <;> cases a5 : decide ((c.toNat : Int) = 46) <;> cases a6 : decide ((c.toNat : Int) = 45)
    all_goals (have a7 := congrArg not a6; simp only [Bool.not_true, Bool.not_false] at a7)
    all_goals first
      | (exfalso; simp only [decide_eq_true_eq, decide_eq_false_iff_not] at a1 a2 a3 a4 a5 a6; omega)
      | (have hm : mayC c = true := by (rw [hmi]; simp only [decide_eq_true_eq, decide_eq_false_iff_not] at a1 a2 a3 a4 a5 a6; omega)
         repeat' (first | (refine go_Y ?_; intros) | (refine gs_Y ?_ ?_ <;> (intro hgd; try (simp only [Bool.not_true, Bool.not_false] at hgd))) | (refine gc_Y ?_ ?_ <;> intro _) | fail)
         refine cont_back (i + 1) ⟨hi1, hyes hm, ⟨rfl, rfl, trivial⟩, rfl⟩ (by omega))
      | (have hm : mayC c = false := by (rw [Bool.eq_false_iff, ne_eq, hmi]; simp only [decide_eq_true_eq, decide_eq_false_iff_not] at a1 a2 a3 a4 a5 a6; omega)
         rw [hno hm]
         repeat' (first | (refine go_Y ?_; intros) | (refine gs_Y ?_ ?_ <;> (intro hgd; try (simp only [Bool.not_true, Bool.not_false] at hgd))) | (refine gc_Y ?_ ?_ <;> intro _) | fail)
         (refine rt_Y (y := ()) (hrs := Tryz.results41) (hv := ?_) (hφ := ?_))
         · rfl
         · trivial
        )
end Go.Proofs.YtadgdikijdmceaaGreat
