import Derived.Test.YtphaegcoldpclaaDoorSdE
set_option linter.unusedSimpArgs false
set_option linter.unusedVariables false
set_option maxRecDepth 100000
namespace Go.Proofs.YtphaegcoldpclaaDoor
open Go Go.Fx Go.Proofs Go.Pl

theorem nameC_ref (c : UInt8) : nameC c = ((decide ((97 : Int) ≤ (c.toNat : Int)) && decide ((c.toNat : Int) ≤ 122)) || (decide ((48 : Int) ≤ (c.toNat : Int)) && decide ((c.toNat : Int) ≤ 57))) := by
  unfold nameC
  rw [Bool.eq_iff_iff]
  simp only [Bool.not_eq_true', Bool.and_eq_false_iff, Bool.or_eq_false_iff, decide_eq_false_iff_not, Bool.or_eq_true, Bool.and_eq_true, decide_eq_true_eq]
  omega
theorem nameS_ref (s : BA) : nameS s = (s.data.toList.all nameC && (decide ((1 : Int) ≤ (s.size : Int)) && decide ((s.size : Int) ≤ 16))) := by
  have hem : (!(s.toList == (⟨#[]⟩ : BA).toList)) = decide ((1 : Int) ≤ (s.size : Int)) := by
    have e1 : s.toList.length = s.size := by rw [ByteArray.toList_eq]; simp
    have e2 : (⟨#[]⟩ : BA).toList = [] := by rw [ByteArray.toList_eq]
    rw [Bool.eq_iff_iff, e2]
    cases h : s.toList with
    | nil => rw [h] at e1; simp at e1; simp; omega
    | cons a l => rw [h] at e1; simp at e1; simp; omega
  have t3 : decide ((s.size : Int) ≤ 16) = decide (s.size ≤ 16) := by rw [Bool.eq_iff_iff]; simp; omega
  unfold nameS
  rw [hem, t3]
theorem rName_spec (s : ByteArray) (hs : s.size ≤ 4611686018427387904) : FSpec Tryd.prog 39 [.string s] [] Unit (fun _ => True) (fun _ => .bool (nameS s)) (fun _ => []) := by
  refine spec_intro [] _ Tryd.func39 rfl Tryd.ntmps39 (by rfl) (fun w0 R => ?_)
  repeat' (first | (refine go_Y ?_; intros) | (refine gs_Y ?_ ?_ <;> (intro hgd; try (simp only [Bool.not_true, Bool.not_false] at hgd))) | (refine gc_Y ?_ ?_ <;> intro _) | fail)
  refine ok_loop' (γ := Nat) (fun n ρ L => n ≤ s.size ∧ (s.data.toList.take n).all nameC = true ∧ Knows ρ [(0, .string s), (3, .int .i64 n)] ∧ L = R) (fun n => s.size - n) 0 ⟨by omega, rfl, ⟨rfl, rfl, trivial⟩, rfl⟩ ?_
  rintro n ρ L ⟨hn, hall, hk, rfl⟩
  refine ok_regs hk ?_
  cases t1 : decide ((n : Int) < (s.size : Int)) with
  | false =>
    have hn' : n = s.size := by simp at t1; omega
    have hfull : s.data.toList.all nameC = true := by rw [hn', List.take_of_length_le (by simp)] at hall; exact hall
    rw [nameS_ref, hfull, Bool.true_and]
    cases t2 : decide ((1 : Int) ≤ (s.size : Int)) with
    | false =>
      repeat' (first | (refine go_Y ?_; intros) | (refine gs_Y ?_ ?_ <;> (intro hgd; try (simp only [Bool.not_true, Bool.not_false] at hgd))) | (refine gc_Y ?_ ?_ <;> intro _) | fail)
      (refine rt_Y (y := ()) (hrs := Tryd.results39) (hv := ?_) (hφ := ?_))
      · rfl
      · trivial
    | true =>
      rw [Bool.true_and]
      repeat' (first | (refine go_Y ?_; intros) | (refine gs_Y ?_ ?_ <;> (intro hgd; try (simp only [Bool.not_true, Bool.not_false] at hgd))) | (refine gc_Y ?_ ?_ <;> intro _) | fail)
      (refine rt_Y (y := ()) (hrs := Tryd.results39) (hv := ?_) (hφ := ?_))
      · rfl
      · trivial
  | true =>
    have h : n < s.data.toList.length := by simp at t1; simpa using t1
    have hnt : n + 1 ≤ s.size := by have h' := h; simp at h'; omega
    have hin : s.data.toList[n] ∈ s.data.toList := List.getElem_mem h
    have hx : s.data.toList[n]? = some s.data.toList[n] := List.getElem?_eq_getElem h
    have htk : s.data.toList.take (n + 1) = s.data.toList.take n ++ [s.data.toList[n]] := List.take_succ_eq_append_getElem h
    generalize hc : s.data.toList[n] = c at hx htk hin
    clear hc
    have hgo : nameC c = true → ((s.data.toList.take (n + 1)).all nameC = true) := fun hm => by rw [htk, List.all_append, hall]; simp [hm]
    have hno : nameC c = false → nameS s = false := fun hm => by
      have : s.data.toList.all nameC = false := List.all_eq_false.2 ⟨c, hin, by simp [hm]⟩
      simp only [nameS, this, Bool.false_and]
    rw [nameC_ref] at hgo hno
    cases u1 : decide ((97 : Int) ≤ (c.toNat : Int)) <;> cases u2 : decide ((c.toNat : Int) ≤ 122) <;> cases u3 : decide ((48 : Int) ≤ (c.toNat : Int)) <;> cases u4 : decide ((c.toNat : Int) ≤ 57) <;> rw [u1, u2, u3, u4] at hgo hno
    all_goals clear hk
    all_goals (have v2 := congrArg Bool.not u2; have v4 := congrArg Bool.not u4; simp only [Bool.not_true, Bool.not_false] at v2 v4)
    all_goals repeat' (first | (refine go_Y ?_; intros) | (refine gs_Y ?_ ?_ <;> (intro hgd; try (simp only [Bool.not_true, Bool.not_false] at hgd))) | (refine gc_Y ?_ ?_ <;> intro _) | fail)
    all_goals first
      | (refine cont_back (n + 1) ⟨hnt, hgo rfl, ⟨rfl, rfl, trivial⟩, rfl⟩ (by omega))
      | (rw [hno rfl]
         (refine rt_Y (y := ()) (hrs := Tryd.results39) (hv := ?_) (hφ := ?_))
         · rfl
         · trivial)
end Go.Proofs.YtphaegcoldpclaaDoor
