import Derived.Test.YtphaegcoldpclaaDoorG5
set_option linter.unusedSimpArgs false
set_option linter.unusedVariables false
set_option maxRecDepth 100000
namespace Go.Proofs.YtphaegcoldpclaaDoor
open Go Go.Fx Go.Proofs Go.Pl

def sqV (n : Int) : List Value := [.int .u64 n]
theorem samePlace_spec (m1 m2 : Int) (l1 l2 : List Int) (u w : Value) (A B : HProp) (hu : u.oneCell' = true) (hw : w.oneCell' = true) (hA : Vw A 1 u (l1.map sqV)) (hB : Vw B 1 w (l2.map sqV)) (hz : l1.length ≤ 140737488355328) :
    FSpec Tryd.prog 12 [.agg #[.int .u64 m1, u], .agg #[.int .u64 m2, w]] [A, B] Bool (fun y => y = true ↔ (m1 = m2 ∧ l1 = l2)) (fun y => .bool y) (fun _ => [A, B]) := by
  have la : (l1.map sqV).length = l1.length := by simp
  have lc : (l2.map sqV).length = l2.length := by simp
  refine spec_intro [] _ Tryd.func12 rfl Tryd.ntmps12 (by rfl) (fun w0 R => ?_)
  refine ok_learn (VwIn.slice (VwIn.here hA)) ?_
  rintro ⟨pu, cu, rfl⟩
  refine ok_learn (VwIn.slice (VwIn.there (VwIn.here hB))) ?_
  rintro ⟨pw, cw, rfl⟩
  cases t0 : (!decide (m1 = m2)) with
  | true =>
    repeat' (first | (refine go_Y ?_; intros) | (refine gs_Y ?_ ?_ <;> (intro hgd; try (simp only [Bool.not_true, Bool.not_false] at hgd))) | (refine gc_Y ?_ ?_ <;> intro _) | fail)
    (refine rt_Y (y := false) (hrs := Tryd.results12) (hv := ?_) (hφ := ?_))
    · rfl
    · exact ⟨fun e => (by cases e), fun e => by simp [e.1] at t0⟩
  | false =>
    cases t1 : (!decide (((l1.map sqV).length : Int) = ((l2.map sqV).length : Int))) with
    | true =>
      repeat' (first | (refine go_Y ?_; intros) | (refine gs_Y ?_ ?_ <;> (intro hgd; try (simp only [Bool.not_true, Bool.not_false] at hgd))) | (refine gc_Y ?_ ?_ <;> intro _) | fail)
      (refine rt_Y (y := false) (hrs := Tryd.results12) (hv := ?_) (hφ := ?_))
      · rfl
      · exact ⟨fun e => (by cases e), fun e => by simp [e.2] at t1⟩
    | false =>
      have hlen : l1.length = l2.length := by simp at t1; omega
      repeat' (first | (refine go_Y ?_; intros) | (refine gs_Y ?_ ?_ <;> (intro hgd; try (simp only [Bool.not_true, Bool.not_false] at hgd))) | (refine gc_Y ?_ ?_ <;> intro _) | fail)
      rename_i b2 b3
      obtain rfl : m1 = m2 := by simpa using t0
      refine ok_map (L' := [pts b3 (.cells [.int .u64 m1, .slice pw (l2.map sqV).length cw].toArray 28), pts b2 (.cells [.int .u64 m1, .slice pu (l1.map sqV).length cu].toArray 28), A, B] ++ R) entD ?_
      refine ok_loop' (γ := Nat) (fun i ρ L => i ≤ l1.length ∧ l1.take i = l2.take i ∧ Knows ρ [(2, .pointer (some ⟨b2, 0, none⟩)), (3, .pointer (some ⟨b3, 0, none⟩)), (5, .int .i64 i)] ∧ L = [pts b3 (.cells [.int .u64 m1, .slice pw (l2.map sqV).length cw].toArray 28), pts b2 (.cells [.int .u64 m1, .slice pu (l1.map sqV).length cu].toArray 28), A, B] ++ R) (fun i => l1.length - i) 0 ⟨by omega, by simp, ⟨rfl, rfl, rfl, trivial⟩, rfl⟩ ?_
      rintro i ρ L ⟨hi, he, hk, rfl⟩
      refine ok_regs hk ?_
      cases t2 : decide ((i : Int) < ((l1.map sqV).length : Int)) with
      | false =>
        have hie : i = l1.length := by have := of_decide_eq_false t2; omega
        have hac : l1 = l2 := by
          rw [hie, List.take_length] at he
          rw [hlen, List.take_length] at he
          exact he
        repeat' (first | (refine go_Y ?_; intros) | (refine gs_Y ?_ ?_ <;> (intro hgd; try (simp only [Bool.not_true, Bool.not_false] at hgd))) | (refine gc_Y ?_ ?_ <;> intro _) | fail)
        (refine rt_Y (y := true) (hrs := Tryd.results12) (hv := ?_) (hφ := ?_))
        · rfl
        · exact ⟨fun _ => ⟨rfl, hac⟩, fun _ => rfl⟩
      | true =>
        have h : i < l1.length := by have := of_decide_eq_true t2; omega
        have hc' : i < l2.length := by omega
        have hx : (l1.map sqV)[i]? = some (sqV l1[i]) := by rw [List.getElem?_map, List.getElem?_eq_getElem h]; rfl
        have hy : (l2.map sqV)[i]? = some (sqV l2[i]) := by rw [List.getElem?_map, List.getElem?_eq_getElem hc']; rfl
        have hn1 : i < (l1.map sqV).length := by omega
        have hn2 : i < (l2.map sqV).length := by omega
        have t1a : l1.take (i + 1) = l1.take i ++ [l1[i]] := List.take_succ_eq_append_getElem h
        have t1c : l2.take (i + 1) = l2.take i ++ [l2[i]] := List.take_succ_eq_append_getElem hc'
        have hdiff : l1[i] ≠ l2[i] → l1 ≠ l2 := fun hn e => by subst e; exact hn rfl
        refine ok_learn (VwIn.base (VwIn.there (VwIn.there (VwIn.here hA))) (by intro e; rw [e] at hn1; simp at hn1)) ?_
        rintro ⟨bu, ou, rfl⟩
        refine ok_learn (VwIn.base (VwIn.there (VwIn.there (VwIn.there (VwIn.here hB)))) (by intro e; rw [e] at hn2; simp at hn2)) ?_
        rintro ⟨bw, ow, rfl⟩
        generalize l1[i] = x at hx hdiff t1a
        generalize l2[i] = y at hy hdiff t1c
        dsimp only [sqV] at hx hy
        cases v1 : (!decide (x = y)) with
        | true =>
          have hn := hdiff (by simpa using v1)
          repeat' (first | (refine go_Y ?_; intros) | (refine gs_Y ?_ ?_ <;> (intro hgd; try (simp only [Bool.not_true, Bool.not_false] at hgd))) | (refine gc_Y ?_ ?_ <;> intro _) | fail)
          (refine rt_Y (y := false) (hrs := Tryd.results12) (hv := ?_) (hφ := ?_))
          · rfl
          · exact ⟨fun e => (by cases e), fun e => absurd e.2 hn⟩
        | false =>
          obtain rfl : x = y := by simpa using v1
          repeat' (first | (refine go_Y ?_; intros) | (refine gs_Y ?_ ?_ <;> (intro hgd; try (simp only [Bool.not_true, Bool.not_false] at hgd))) | (refine gc_Y ?_ ?_ <;> intro _) | fail)
          refine cont_map (L' := [pts b3 (.cells [.int .u64 m1, .slice (some ⟨bw, ow, none⟩) (l2.map sqV).length cw].toArray 28), pts b2 (.cells [.int .u64 m1, .slice (some ⟨bu, ou, none⟩) (l1.map sqV).length cu].toArray 28), A, B] ++ R) entD ?_
          refine cont_back (i + 1) ⟨h, by rw [t1a, t1c, he], ⟨rfl, rfl, rfl, trivial⟩, rfl⟩ (by omega)
end Go.Proofs.YtphaegcoldpclaaDoor
