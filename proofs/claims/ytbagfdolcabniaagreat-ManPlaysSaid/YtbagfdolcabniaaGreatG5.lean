/- Texts merged: RfD RfE RfF RfG. -/
import Derived.Test.YtbagfdolcabniaaGreatG4
/- The walk of the document's disk (fascicleref02): Name. -/
-- @DEFS Y
set_option linter.unusedSimpArgs false
set_option linter.unusedVariables false
set_option maxRecDepth 4000
namespace Go.Proofs.YtbagfdolcabniaaGreat
open Go Go.Fx Go.Proofs Go.Pl

theorem mayC_iff (c : UInt8) : mayC c = true ↔ (97 ≤ (c.toNat : Int) ∧ (c.toNat : Int) ≤ 122) ∨ (48 ≤ (c.toNat : Int) ∧ (c.toNat : Int) ≤ 57) ∨ (c.toNat : Int) = 46 ∨ (c.toNat : Int) = 45 := by
  unfold mayC
  simp only [Bool.not_eq_true', Bool.and_eq_false_iff, Bool.or_eq_false_iff, decide_eq_false_iff_not, Bool.not_eq_false', decide_eq_true_eq]
  omega
def nameB (c : UInt8) : Bool := !(decide (97 ≤ (c.toNat : Int)) && decide ((c.toNat : Int) ≤ 122) || decide (48 ≤ (c.toNat : Int)) && decide ((c.toNat : Int) ≤ 57) || decide ((c.toNat : Int) = 46) || decide ((c.toNat : Int) = 45))
theorem nameB_eq (c : UInt8) : nameB c = !mayC c := by
  unfold nameB
  congr 1
  rw [Bool.eq_iff_iff, mayC_iff]
  simp only [Bool.or_eq_true, Bool.and_eq_true, decide_eq_true_eq]
  omega
theorem refName_spec (s : BA) (hs : s.size ≤ 4611686018427387904) : FSpec Tryz.prog 72 [.string s] [] Unit (fun _ => True) (fun _ => .bool (mayN s)) (fun _ => []) := by
  have hl : s.data.toList.length = s.size := by simp
  refine spec_intro [] _ Tryz.func72 rfl Tryz.ntmps72 (by rfl) (fun w0 R => ?_)
  repeat' (first | (refine go_Y ?_; intros) | (refine gs_Y ?_ ?_ <;> (intro hgd; try (simp only [Bool.not_true, Bool.not_false] at hgd))) | (refine gc_Y ?_ ?_ <;> intro _) | fail)
  refine ok_loop' (γ := Nat) (fun i ρ L => i ≤ s.size ∧ (s.data.toList.take i).all mayC = true ∧ Knows ρ [(0, .string s), (3, .int .i64 i)] ∧ L = R) (fun i => s.size - i) 0 ⟨by omega, by simp, ⟨rfl, rfl, trivial⟩, rfl⟩ ?_
  rintro i ρ L ⟨hi, hall, hk, rfl⟩
  refine ok_regs hk ?_
  cases t1 : decide ((i : Int) < (s.size : Int)) with
  | false =>
    have hie : i = s.size := by have := of_decide_eq_false t1; omega
    have hfull : s.data.toList.all mayC = true := by rw [hie, List.take_of_length_le (by omega)] at hall; exact hall
    have hm : mayN s = (decide ((1 : Int) ≤ (s.size : Int)) && decide ((s.size : Int) ≤ 64)) := by
      unfold mayN; rw [hfull, Bool.true_and]
      congr 1 <;> (rw [Bool.eq_iff_iff]; simp; try omega)
    rw [hm]
    cases u1 : decide ((1 : Int) ≤ (s.size : Int)) with
    | true =>
      repeat' (first | (refine go_Y ?_; intros) | (refine gs_Y ?_ ?_ <;> (intro hgd; try (simp only [Bool.not_true, Bool.not_false] at hgd))) | (refine gc_Y ?_ ?_ <;> intro _) | fail)
      (refine rt_Y (y := ()) (hrs := Tryz.results72) (hv := ?_) (hφ := ?_))
      · rfl
      · trivial
    | false =>
      repeat' (first | (refine go_Y ?_; intros) | (refine gs_Y ?_ ?_ <;> (intro hgd; try (simp only [Bool.not_true, Bool.not_false] at hgd))) | (refine gc_Y ?_ ?_ <;> intro _) | fail)
      (refine rt_Y (y := ()) (hrs := Tryz.results72) (hv := ?_) (hφ := ?_))
      · rfl
      · trivial
  | true =>
    have h : i < s.size := of_decide_eq_true t1 |> fun h => by omega
    have hx : s.data.toList[i]? = some (s.data.toList[i]'(by omega)) := List.getElem?_eq_getElem _
    have htk : s.data.toList.take (i + 1) = s.data.toList.take i ++ [s.data.toList[i]'(by omega)] := List.take_succ_eq_append_getElem (by omega)
    have hin : (s.data.toList[i]'(by omega)) ∈ s.data.toList := List.getElem_mem _
    generalize s.data.toList[i]'(by omega) = c at hx htk hin
    have hno : mayC c = false → mayN s = false := fun hm => by
      have : s.data.toList.all mayC = false := List.all_eq_false.2 ⟨c, hin, by simp [hm]⟩
      simp only [mayN, this, Bool.false_and]
    have hyes : mayC c = true → (s.data.toList.take (i + 1)).all mayC = true := fun hm => by rw [htk, List.all_append, hall]; simp [hm]
    have hi1 : i + 1 ≤ s.size := h
    have hmi := mayC_iff c
    clear htk hin hall hl
    cases a1 : decide (97 ≤ (c.toNat : Int)) <;> cases a2 : decide ((c.toNat : Int) ≤ 122) <;> cases a3 : decide (48 ≤ (c.toNat : Int)) <;> cases a4 : decide ((c.toNat : Int) ≤ 57) <;> cases a5 : decide ((c.toNat : Int) = 46) <;> cases a6 : decide ((c.toNat : Int) = 45)
    all_goals (have a7 := congrArg not a6; simp only [Bool.not_true, Bool.not_false] at a7)
    all_goals first
      | (exfalso; simp only [decide_eq_true_eq, decide_eq_false_iff_not] at a1 a2 a3 a4 a5 a6; omega)
      | (have hm : mayC c = true := by (rw [hmi]; simp only [decide_eq_true_eq, decide_eq_false_iff_not] at a1 a2 a3 a4 a5 a6; omega)
         repeat' (first | (refine go_Y ?_; intros) | (refine gs_Y ?_ ?_ <;> (intro hgd; try (simp only [Bool.not_true, Bool.not_false] at hgd))) | (refine gc_Y ?_ ?_ <;> intro _) | fail)
         refine cont_back (i + 1) ⟨hi1, hyes hm, ⟨rfl, rfl, trivial⟩, rfl⟩ (by omega))
      | (have hm : mayC c = false := by (rw [Bool.eq_false_iff, ne_eq, hmi]; simp only [decide_eq_true_eq, decide_eq_false_iff_not] at a1 a2 a3 a4 a5 a6; omega)
         rw [hno hm]
         repeat' (first | (refine go_Y ?_; intros) | (refine gs_Y ?_ ?_ <;> (intro hgd; try (simp only [Bool.not_true, Bool.not_false] at hgd))) | (refine gc_Y ?_ ?_ <;> intro _) | fail)
         (refine rt_Y (y := ()) (hrs := Tryz.results72) (hv := ?_) (hφ := ?_))
         · rfl
         · trivial
        )
end Go.Proofs.YtbagfdolcabniaaGreat
/- The walks of the document's disk (fascicleref02): may. -/
-- @DEFS Y
set_option linter.unusedSimpArgs false
set_option linter.unusedVariables false
set_option maxRecDepth 4000
namespace Go.Proofs.YtbagfdolcabniaaGreat
open Go Go.Fx Go.Proofs Go.Pl

/-- The error of a call, but for the fuse. -/
def mayR (st : Bool) (most : Int) (l : FS) : Cl → Int
  | .app n s => if st then 20 else if !mayN n then 2 else if (!(s.toList == (⟨#[]⟩ : BA).toList)) && decide (most < (fused l : Int) + (s.size : Int)) then 4 else 0
  | .ren a b => if st then 20 else if !mayN a || (!mayN b || (b.toList == a.toList)) then 2 else if (fget a l).isSome then 0 else 3
  | .rem a => if st then 20 else if !mayN a then 2 else if (fget a l).isSome then 0 else 3
  | .trunc _ _ => 0
abbrev rdC (b : Nat) (vL vS vC : Value) (most fuse : Int) (st : Bool) : HProp := pts b (.cells [vL, vS, vC, .int .i64 most, .int .i64 fuse, .bool st].toArray 43)

set_option maxHeartbeats 1000000 in
theorem refMayApp_spec (b : Nat) (vL vS vC : Value) (most fuse : Int) (st : Bool) (P : HProp) (l : FS) (n s : BA) (hP : Vw P 2 vL (l.map fileV)) (hl : l.length ≤ 900000) (hu : fused l ≤ 16777216) (hn : n.size ≤ 1099511627776) (hz : s.size ≤ 1099511627776) :
    FSpec Tryz.prog 51 [.pointer (some ⟨b, 0, none⟩), .agg (callV (.app n s)).toArray] [rdC b vL vS vC most fuse st, P] Unit (fun _ => True) (fun _ => .int .i64 (mayR st most l (.app n s))) (fun _ => [rdC b vL vS vC most fuse st, P]) := by
  have hN := refName_spec n (by omega)
  have hF := refFind_spec vL P l n hP (by omega)
  have hU := refUsed_spec b vL vS vC most fuse false P l hP (by omega) (by omega)
  dsimp only [callV, mayR]
  unfold rdC
  cases st with
  | true =>
    rw [if_pos rfl]
    refine spec_intro [] _ Tryz.func51 rfl Tryz.ntmps51 (by rfl) (fun w0 R => ?_)
    repeat' (first | (refine go_Y ?_; intros) | (refine gs_Y ?_ ?_ <;> (intro hgd; try (simp only [Bool.not_true, Bool.not_false] at hgd))) | (refine gc_Y ?_ ?_ <;> intro _) | fail)
    (refine rt_Y (y := ()) (hrs := Tryz.results51) (hv := ?_) (hφ := ?_))
    · rfl
    · trivial
  | false =>
  rw [if_neg (by simp)]
  cases hm : mayN n with
  | false =>
    rw [hm] at hN
    rw [if_pos (by rfl)]
    refine spec_intro [] _ Tryz.func51 rfl Tryz.ntmps51 (by rfl) (fun w0 R => ?_)
    repeat' (first | (refine go_Y ?_; intros) | (refine gs_Y ?_ ?_ <;> (intro hgd; try (simp only [Bool.not_true, Bool.not_false] at hgd))) | (refine gc_Y ?_ ?_ <;> intro _) | fail)
    refine cl_Y (hN) ?_
    intro _ _
    repeat' (first | (refine go_Y ?_; intros) | (refine gs_Y ?_ ?_ <;> (intro hgd; try (simp only [Bool.not_true, Bool.not_false] at hgd))) | (refine gc_Y ?_ ?_ <;> intro _) | fail)
    (refine rt_Y (y := ()) (hrs := Tryz.results51) (hv := ?_) (hφ := ?_))
    · rfl
    · trivial
  | true =>
  rw [hm] at hN
  rw [if_neg (by simp)]
  generalize (fget n l).isSome = is at hF
  cases c1 : (!(s.toList == (⟨#[]⟩ : BA).toList)) with
  | false =>
    rw [if_neg (by simp)]
    cases is with
    | true =>
      refine spec_intro [] _ Tryz.func51 rfl Tryz.ntmps51 (by rfl) (fun w0 R => ?_)
      repeat' (first | (refine go_Y ?_; intros) | (refine gs_Y ?_ ?_ <;> (intro hgd; try (simp only [Bool.not_true, Bool.not_false] at hgd))) | (refine gc_Y ?_ ?_ <;> intro _) | fail)
      refine cl_Y (hN) ?_
      intro _ _
      repeat' (first | (refine go_Y ?_; intros) | (refine gs_Y ?_ ?_ <;> (intro hgd; try (simp only [Bool.not_true, Bool.not_false] at hgd))) | (refine gc_Y ?_ ?_ <;> intro _) | fail)
      refine cl_Y (hF) ?_
      intro i _
      repeat' (first | (refine go_Y ?_; intros) | (refine gs_Y ?_ ?_ <;> (intro hgd; try (simp only [Bool.not_true, Bool.not_false] at hgd))) | (refine gc_Y ?_ ?_ <;> intro _) | fail)
      (apply ok_draw [12]; (focus (kernel_rfl)); (focus ((conv => lhs; whnf); first | done | rfl)); (focus (decide +kernel)); (focus (exact (fun _ h => h))))
      repeat' (first | (refine go_Y ?_; intros) | (refine gs_Y ?_ ?_ <;> (intro hgd; try (simp only [Bool.not_true, Bool.not_false] at hgd))) | (refine gc_Y ?_ ?_ <;> intro _) | fail)
      (apply ok_draw [10]; (focus (kernel_rfl)); (focus ((conv => lhs; whnf); first | done | rfl)); (focus (decide +kernel)); (focus (exact (fun _ h => h))))
      repeat' (first | (refine go_Y ?_; intros) | (refine gs_Y ?_ ?_ <;> (intro hgd; try (simp only [Bool.not_true, Bool.not_false] at hgd))) | (refine gc_Y ?_ ?_ <;> intro _) | fail)
      (refine rt_Y (y := ()) (hrs := Tryz.results51) (hv := ?_) (hφ := ?_))
      · rfl
      · trivial
    | false =>
      refine spec_intro [] _ Tryz.func51 rfl Tryz.ntmps51 (by rfl) (fun w0 R => ?_)
      repeat' (first | (refine go_Y ?_; intros) | (refine gs_Y ?_ ?_ <;> (intro hgd; try (simp only [Bool.not_true, Bool.not_false] at hgd))) | (refine gc_Y ?_ ?_ <;> intro _) | fail)
      refine cl_Y (hN) ?_
      intro _ _
      repeat' (first | (refine go_Y ?_; intros) | (refine gs_Y ?_ ?_ <;> (intro hgd; try (simp only [Bool.not_true, Bool.not_false] at hgd))) | (refine gc_Y ?_ ?_ <;> intro _) | fail)
      refine cl_Y (hF) ?_
      intro i _
      repeat' (first | (refine go_Y ?_; intros) | (refine gs_Y ?_ ?_ <;> (intro hgd; try (simp only [Bool.not_true, Bool.not_false] at hgd))) | (refine gc_Y ?_ ?_ <;> intro _) | fail)
      (apply ok_draw [12]; (focus (kernel_rfl)); (focus ((conv => lhs; whnf); first | done | rfl)); (focus (decide +kernel)); (focus (exact (fun _ h => h))))
      repeat' (first | (refine go_Y ?_; intros) | (refine gs_Y ?_ ?_ <;> (intro hgd; try (simp only [Bool.not_true, Bool.not_false] at hgd))) | (refine gc_Y ?_ ?_ <;> intro _) | fail)
      (apply ok_draw [10]; (focus (kernel_rfl)); (focus ((conv => lhs; whnf); first | done | rfl)); (focus (decide +kernel)); (focus (exact (fun _ h => h))))
      repeat' (first | (refine go_Y ?_; intros) | (refine gs_Y ?_ ?_ <;> (intro hgd; try (simp only [Bool.not_true, Bool.not_false] at hgd))) | (refine gc_Y ?_ ?_ <;> intro _) | fail)
      (refine rt_Y (y := ()) (hrs := Tryz.results51) (hv := ?_) (hφ := ?_))
      · rfl
      · trivial
  | true =>
    cases c2 : decide (most < (fused l : Int) + (s.size : Int)) with
    | true =>
      rw [if_pos (by rfl)]
      cases is with
      | true =>
        refine spec_intro [] _ Tryz.func51 rfl Tryz.ntmps51 (by rfl) (fun w0 R => ?_)
        repeat' (first | (refine go_Y ?_; intros) | (refine gs_Y ?_ ?_ <;> (intro hgd; try (simp only [Bool.not_true, Bool.not_false] at hgd))) | (refine gc_Y ?_ ?_ <;> intro _) | fail)
        rename_i b3
        refine cl_Y (hN) ?_
        intro _ _
        repeat' (first | (refine go_Y ?_; intros) | (refine gs_Y ?_ ?_ <;> (intro hgd; try (simp only [Bool.not_true, Bool.not_false] at hgd))) | (refine gc_Y ?_ ?_ <;> intro _) | fail)
        refine cl_Y (hF) ?_
        intro i _
        repeat' (first | (refine go_Y ?_; intros) | (refine gs_Y ?_ ?_ <;> (intro hgd; try (simp only [Bool.not_true, Bool.not_false] at hgd))) | (refine gc_Y ?_ ?_ <;> intro _) | fail)
        (apply ok_draw [12]; (focus (kernel_rfl)); (focus ((conv => lhs; whnf); first | done | rfl)); (focus (decide +kernel)); (focus (exact (fun _ h => h))))
        repeat' (first | (refine go_Y ?_; intros) | (refine gs_Y ?_ ?_ <;> (intro hgd; try (simp only [Bool.not_true, Bool.not_false] at hgd))) | (refine gc_Y ?_ ?_ <;> intro _) | fail)
        refine ok_drawL (cv := []) [10] ([pts b3 (.cells [.int .i64 1, .string n, .string s, .int .i64 0].toArray 65), pts b (.cells [vL, vS, vC, .int .i64 most, .int .i64 fuse, .bool false].toArray 43)]) (takeD) (by kernel_rfl) rfl (by decide +kernel) ?_
        repeat' (first | (refine ro_Y ?_; intros) | fail)
        refine clN_Y (hU) ?_
        intro _ _
        repeat' (first | (refine go_Y ?_; intros) | (refine gs_Y ?_ ?_ <;> (intro hgd; try (simp only [Bool.not_true, Bool.not_false] at hgd))) | (refine gc_Y ?_ ?_ <;> intro _) | fail)
        (refine rt_Y (y := ()) (hrs := Tryz.results51) (hv := ?_) (hφ := ?_))
        · rfl
        · trivial
      | false =>
        refine spec_intro [] _ Tryz.func51 rfl Tryz.ntmps51 (by rfl) (fun w0 R => ?_)
        repeat' (first | (refine go_Y ?_; intros) | (refine gs_Y ?_ ?_ <;> (intro hgd; try (simp only [Bool.not_true, Bool.not_false] at hgd))) | (refine gc_Y ?_ ?_ <;> intro _) | fail)
        rename_i b3
        refine cl_Y (hN) ?_
        intro _ _
        repeat' (first | (refine go_Y ?_; intros) | (refine gs_Y ?_ ?_ <;> (intro hgd; try (simp only [Bool.not_true, Bool.not_false] at hgd))) | (refine gc_Y ?_ ?_ <;> intro _) | fail)
        refine cl_Y (hF) ?_
        intro i _
        repeat' (first | (refine go_Y ?_; intros) | (refine gs_Y ?_ ?_ <;> (intro hgd; try (simp only [Bool.not_true, Bool.not_false] at hgd))) | (refine gc_Y ?_ ?_ <;> intro _) | fail)
        (apply ok_draw [12]; (focus (kernel_rfl)); (focus ((conv => lhs; whnf); first | done | rfl)); (focus (decide +kernel)); (focus (exact (fun _ h => h))))
        repeat' (first | (refine go_Y ?_; intros) | (refine gs_Y ?_ ?_ <;> (intro hgd; try (simp only [Bool.not_true, Bool.not_false] at hgd))) | (refine gc_Y ?_ ?_ <;> intro _) | fail)
        refine ok_drawL (cv := []) [10] ([pts b3 (.cells [.int .i64 1, .string n, .string s, .int .i64 0].toArray 65), pts b (.cells [vL, vS, vC, .int .i64 most, .int .i64 fuse, .bool false].toArray 43)]) (takeD) (by kernel_rfl) rfl (by decide +kernel) ?_
        repeat' (first | (refine ro_Y ?_; intros) | fail)
        refine clN_Y (hU) ?_
        intro _ _
        repeat' (first | (refine go_Y ?_; intros) | (refine gs_Y ?_ ?_ <;> (intro hgd; try (simp only [Bool.not_true, Bool.not_false] at hgd))) | (refine gc_Y ?_ ?_ <;> intro _) | fail)
        (refine rt_Y (y := ()) (hrs := Tryz.results51) (hv := ?_) (hφ := ?_))
        · rfl
        · trivial
    | false =>
      rw [if_neg (by simp)]
      cases is with
      | true =>
        refine spec_intro [] _ Tryz.func51 rfl Tryz.ntmps51 (by rfl) (fun w0 R => ?_)
        repeat' (first | (refine go_Y ?_; intros) | (refine gs_Y ?_ ?_ <;> (intro hgd; try (simp only [Bool.not_true, Bool.not_false] at hgd))) | (refine gc_Y ?_ ?_ <;> intro _) | fail)
        rename_i b3
        refine cl_Y (hN) ?_
        intro _ _
        repeat' (first | (refine go_Y ?_; intros) | (refine gs_Y ?_ ?_ <;> (intro hgd; try (simp only [Bool.not_true, Bool.not_false] at hgd))) | (refine gc_Y ?_ ?_ <;> intro _) | fail)
        refine cl_Y (hF) ?_
        intro i _
        repeat' (first | (refine go_Y ?_; intros) | (refine gs_Y ?_ ?_ <;> (intro hgd; try (simp only [Bool.not_true, Bool.not_false] at hgd))) | (refine gc_Y ?_ ?_ <;> intro _) | fail)
        (apply ok_draw [12]; (focus (kernel_rfl)); (focus ((conv => lhs; whnf); first | done | rfl)); (focus (decide +kernel)); (focus (exact (fun _ h => h))))
        repeat' (first | (refine go_Y ?_; intros) | (refine gs_Y ?_ ?_ <;> (intro hgd; try (simp only [Bool.not_true, Bool.not_false] at hgd))) | (refine gc_Y ?_ ?_ <;> intro _) | fail)
        refine ok_drawL (cv := []) [10] ([pts b3 (.cells [.int .i64 1, .string n, .string s, .int .i64 0].toArray 65), pts b (.cells [vL, vS, vC, .int .i64 most, .int .i64 fuse, .bool false].toArray 43)]) (takeD) (by kernel_rfl) rfl (by decide +kernel) ?_
        repeat' (first | (refine ro_Y ?_; intros) | fail)
        refine clN_Y (hU) ?_
        intro _ _
        repeat' (first | (refine go_Y ?_; intros) | (refine gs_Y ?_ ?_ <;> (intro hgd; try (simp only [Bool.not_true, Bool.not_false] at hgd))) | (refine gc_Y ?_ ?_ <;> intro _) | fail)
        (refine rt_Y (y := ()) (hrs := Tryz.results51) (hv := ?_) (hφ := ?_))
        · rfl
        · trivial
      | false =>
        refine spec_intro [] _ Tryz.func51 rfl Tryz.ntmps51 (by rfl) (fun w0 R => ?_)
        repeat' (first | (refine go_Y ?_; intros) | (refine gs_Y ?_ ?_ <;> (intro hgd; try (simp only [Bool.not_true, Bool.not_false] at hgd))) | (refine gc_Y ?_ ?_ <;> intro _) | fail)
        rename_i b3
        refine cl_Y (hN) ?_
        intro _ _
        repeat' (first | (refine go_Y ?_; intros) | (refine gs_Y ?_ ?_ <;> (intro hgd; try (simp only [Bool.not_true, Bool.not_false] at hgd))) | (refine gc_Y ?_ ?_ <;> intro _) | fail)
        refine cl_Y (hF) ?_
        intro i _
        repeat' (first | (refine go_Y ?_; intros) | (refine gs_Y ?_ ?_ <;> (intro hgd; try (simp only [Bool.not_true, Bool.not_false] at hgd))) | (refine gc_Y ?_ ?_ <;> intro _) | fail)
        (apply ok_draw [12]; (focus (kernel_rfl)); (focus ((conv => lhs; whnf); first | done | rfl)); (focus (decide +kernel)); (focus (exact (fun _ h => h))))
        repeat' (first | (refine go_Y ?_; intros) | (refine gs_Y ?_ ?_ <;> (intro hgd; try (simp only [Bool.not_true, Bool.not_false] at hgd))) | (refine gc_Y ?_ ?_ <;> intro _) | fail)
        refine ok_drawL (cv := []) [10] ([pts b3 (.cells [.int .i64 1, .string n, .string s, .int .i64 0].toArray 65), pts b (.cells [vL, vS, vC, .int .i64 most, .int .i64 fuse, .bool false].toArray 43)]) (takeD) (by kernel_rfl) rfl (by decide +kernel) ?_
        repeat' (first | (refine ro_Y ?_; intros) | fail)
        refine clN_Y (hU) ?_
        intro _ _
        repeat' (first | (refine go_Y ?_; intros) | (refine gs_Y ?_ ?_ <;> (intro hgd; try (simp only [Bool.not_true, Bool.not_false] at hgd))) | (refine gc_Y ?_ ?_ <;> intro _) | fail)
        (refine rt_Y (y := ()) (hrs := Tryz.results51) (hv := ?_) (hφ := ?_))
        · rfl
        · trivial

set_option maxHeartbeats 1000000 in
theorem refMayRem_spec (b : Nat) (vL vS vC : Value) (most fuse : Int) (st : Bool) (P : HProp) (l : FS) (n : BA) (hP : Vw P 2 vL (l.map fileV)) (hl : l.length ≤ 900000) (hn : n.size ≤ 1099511627776) :
    FSpec Tryz.prog 51 [.pointer (some ⟨b, 0, none⟩), .agg (callV (.rem n)).toArray] [rdC b vL vS vC most fuse st, P] Unit (fun _ => True) (fun _ => .int .i64 (mayR st most l (.rem n))) (fun _ => [rdC b vL vS vC most fuse st, P]) := by
  have hN := refName_spec n (by omega)
  have hF := refFind_spec vL P l n hP (by omega)
  dsimp only [callV, mayR]
  unfold rdC
  cases st with
  | true =>
    rw [if_pos rfl]
    refine spec_intro [] _ Tryz.func51 rfl Tryz.ntmps51 (by rfl) (fun w0 R => ?_)
    repeat' (first | (refine go_Y ?_; intros) | (refine gs_Y ?_ ?_ <;> (intro hgd; try (simp only [Bool.not_true, Bool.not_false] at hgd))) | (refine gc_Y ?_ ?_ <;> intro _) | fail)
    (refine rt_Y (y := ()) (hrs := Tryz.results51) (hv := ?_) (hφ := ?_))
    · rfl
    · trivial
  | false =>
  rw [if_neg (by simp)]
  cases hm : mayN n with
  | false =>
    rw [hm] at hN
    rw [if_pos (by rfl)]
    refine spec_intro [] _ Tryz.func51 rfl Tryz.ntmps51 (by rfl) (fun w0 R => ?_)
    repeat' (first | (refine go_Y ?_; intros) | (refine gs_Y ?_ ?_ <;> (intro hgd; try (simp only [Bool.not_true, Bool.not_false] at hgd))) | (refine gc_Y ?_ ?_ <;> intro _) | fail)
    refine cl_Y (hN) ?_
    intro _ _
    repeat' (first | (refine go_Y ?_; intros) | (refine gs_Y ?_ ?_ <;> (intro hgd; try (simp only [Bool.not_true, Bool.not_false] at hgd))) | (refine gc_Y ?_ ?_ <;> intro _) | fail)
    (refine rt_Y (y := ()) (hrs := Tryz.results51) (hv := ?_) (hφ := ?_))
    · rfl
    · trivial
  | true =>
  rw [hm] at hN
  rw [if_neg (by simp)]
  generalize (fget n l).isSome = is at hF
  cases is with
  | false =>
    rw [if_neg (by simp)]
    refine spec_intro [] _ Tryz.func51 rfl Tryz.ntmps51 (by rfl) (fun w0 R => ?_)
    repeat' (first | (refine go_Y ?_; intros) | (refine gs_Y ?_ ?_ <;> (intro hgd; try (simp only [Bool.not_true, Bool.not_false] at hgd))) | (refine gc_Y ?_ ?_ <;> intro _) | fail)
    refine cl_Y (hN) ?_
    intro _ _
    repeat' (first | (refine go_Y ?_; intros) | (refine gs_Y ?_ ?_ <;> (intro hgd; try (simp only [Bool.not_true, Bool.not_false] at hgd))) | (refine gc_Y ?_ ?_ <;> intro _) | fail)
    refine cl_Y (hF) ?_
    intro i _
    repeat' (first | (refine go_Y ?_; intros) | (refine gs_Y ?_ ?_ <;> (intro hgd; try (simp only [Bool.not_true, Bool.not_false] at hgd))) | (refine gc_Y ?_ ?_ <;> intro _) | fail)
    (refine rt_Y (y := ()) (hrs := Tryz.results51) (hv := ?_) (hφ := ?_))
    · rfl
    · trivial
  | true =>
    rw [if_pos rfl]
    refine spec_intro [] _ Tryz.func51 rfl Tryz.ntmps51 (by rfl) (fun w0 R => ?_)
    repeat' (first | (refine go_Y ?_; intros) | (refine gs_Y ?_ ?_ <;> (intro hgd; try (simp only [Bool.not_true, Bool.not_false] at hgd))) | (refine gc_Y ?_ ?_ <;> intro _) | fail)
    refine cl_Y (hN) ?_
    intro _ _
    repeat' (first | (refine go_Y ?_; intros) | (refine gs_Y ?_ ?_ <;> (intro hgd; try (simp only [Bool.not_true, Bool.not_false] at hgd))) | (refine gc_Y ?_ ?_ <;> intro _) | fail)
    refine cl_Y (hF) ?_
    intro i _
    repeat' (first | (refine go_Y ?_; intros) | (refine gs_Y ?_ ?_ <;> (intro hgd; try (simp only [Bool.not_true, Bool.not_false] at hgd))) | (refine gc_Y ?_ ?_ <;> intro _) | fail)
    (apply ok_draw [12]; (focus (kernel_rfl)); (focus ((conv => lhs; whnf); first | done | rfl)); (focus (decide +kernel)); (focus (exact (fun _ h => h))))
    repeat' (first | (refine go_Y ?_; intros) | (refine gs_Y ?_ ?_ <;> (intro hgd; try (simp only [Bool.not_true, Bool.not_false] at hgd))) | (refine gc_Y ?_ ?_ <;> intro _) | fail)
    (apply ok_draw [10]; (focus (kernel_rfl)); (focus ((conv => lhs; whnf); first | done | rfl)); (focus (decide +kernel)); (focus (exact (fun _ h => h))))
    repeat' (first | (refine go_Y ?_; intros) | (refine gs_Y ?_ ?_ <;> (intro hgd; try (simp only [Bool.not_true, Bool.not_false] at hgd))) | (refine gc_Y ?_ ?_ <;> intro _) | fail)
    (refine rt_Y (y := ()) (hrs := Tryz.results51) (hv := ?_) (hφ := ?_))
    · rfl
    · trivial
end Go.Proofs.YtbagfdolcabniaaGreat
/- The walks of the document's disk (fascicleref02): may of a Rename. -/
-- @DEFS Y
set_option linter.unusedSimpArgs false
set_option linter.unusedVariables false
set_option maxRecDepth 4000
namespace Go.Proofs.YtbagfdolcabniaaGreat
open Go Go.Fx Go.Proofs Go.Pl

set_option maxHeartbeats 1000000 in
theorem refMayRen_spec (b : Nat) (vL vS vC : Value) (most fuse : Int) (st : Bool) (P : HProp) (l : FS) (n m : BA) (hP : Vw P 2 vL (l.map fileV)) (hl : l.length ≤ 900000) (hn : n.size ≤ 1099511627776) (hm : m.size ≤ 1099511627776) :
    FSpec Tryz.prog 51 [.pointer (some ⟨b, 0, none⟩), .agg (callV (.ren n m)).toArray] [rdC b vL vS vC most fuse st, P] Unit (fun _ => True) (fun _ => .int .i64 (mayR st most l (.ren n m))) (fun _ => [rdC b vL vS vC most fuse st, P]) := by
  have hN := refName_spec n (by omega)
  have hM := refName_spec m (by omega)
  have hF := refFind_spec vL P l n hP (by omega)
  dsimp only [callV, mayR]
  unfold rdC
  cases st with
  | true =>
    rw [if_pos rfl]
    refine spec_intro [] _ Tryz.func51 rfl Tryz.ntmps51 (by rfl) (fun w0 R => ?_)
    repeat' (first | (refine go_Y ?_; intros) | (refine gs_Y ?_ ?_ <;> (intro hgd; try (simp only [Bool.not_true, Bool.not_false] at hgd))) | (refine gc_Y ?_ ?_ <;> intro _) | fail)
    (refine rt_Y (y := ()) (hrs := Tryz.results51) (hv := ?_) (hφ := ?_))
    · rfl
    · trivial
  | false =>
  rw [if_neg (by simp)]
  cases h1 : mayN n with
  | false =>
    rw [h1] at hN
    rw [if_pos (by rfl)]
    refine spec_intro [] _ Tryz.func51 rfl Tryz.ntmps51 (by rfl) (fun w0 R => ?_)
    repeat' (first | (refine go_Y ?_; intros) | (refine gs_Y ?_ ?_ <;> (intro hgd; try (simp only [Bool.not_true, Bool.not_false] at hgd))) | (refine gc_Y ?_ ?_ <;> intro _) | fail)
    refine cl_Y (hN) ?_
    intro _ _
    repeat' (first | (refine go_Y ?_; intros) | (refine gs_Y ?_ ?_ <;> (intro hgd; try (simp only [Bool.not_true, Bool.not_false] at hgd))) | (refine gc_Y ?_ ?_ <;> intro _) | fail)
    (refine rt_Y (y := ()) (hrs := Tryz.results51) (hv := ?_) (hφ := ?_))
    · rfl
    · trivial
  | true =>
  rw [h1] at hN
  cases h2 : mayN m with
  | false =>
    rw [h2] at hM
    rw [if_pos (by rfl)]
    refine spec_intro [] _ Tryz.func51 rfl Tryz.ntmps51 (by rfl) (fun w0 R => ?_)
    repeat' (first | (refine go_Y ?_; intros) | (refine gs_Y ?_ ?_ <;> (intro hgd; try (simp only [Bool.not_true, Bool.not_false] at hgd))) | (refine gc_Y ?_ ?_ <;> intro _) | fail)
    refine cl_Y (hN) ?_
    intro _ _
    repeat' (first | (refine go_Y ?_; intros) | (refine gs_Y ?_ ?_ <;> (intro hgd; try (simp only [Bool.not_true, Bool.not_false] at hgd))) | (refine gc_Y ?_ ?_ <;> intro _) | fail)
    refine cl_Y (hM) ?_
    intro _ _
    repeat' (first | (refine go_Y ?_; intros) | (refine gs_Y ?_ ?_ <;> (intro hgd; try (simp only [Bool.not_true, Bool.not_false] at hgd))) | (refine gc_Y ?_ ?_ <;> intro _) | fail)
    (refine rt_Y (y := ()) (hrs := Tryz.results51) (hv := ?_) (hφ := ?_))
    · rfl
    · trivial
  | true =>
  rw [h2] at hM
  cases h3 : (m.toList == n.toList) with
  | true =>
    rw [if_pos (by rfl)]
    refine spec_intro [] _ Tryz.func51 rfl Tryz.ntmps51 (by rfl) (fun w0 R => ?_)
    repeat' (first | (refine go_Y ?_; intros) | (refine gs_Y ?_ ?_ <;> (intro hgd; try (simp only [Bool.not_true, Bool.not_false] at hgd))) | (refine gc_Y ?_ ?_ <;> intro _) | fail)
    refine cl_Y (hN) ?_
    intro _ _
    repeat' (first | (refine go_Y ?_; intros) | (refine gs_Y ?_ ?_ <;> (intro hgd; try (simp only [Bool.not_true, Bool.not_false] at hgd))) | (refine gc_Y ?_ ?_ <;> intro _) | fail)
    refine cl_Y (hM) ?_
    intro _ _
    repeat' (first | (refine go_Y ?_; intros) | (refine gs_Y ?_ ?_ <;> (intro hgd; try (simp only [Bool.not_true, Bool.not_false] at hgd))) | (refine gc_Y ?_ ?_ <;> intro _) | fail)
    (refine rt_Y (y := ()) (hrs := Tryz.results51) (hv := ?_) (hφ := ?_))
    · rfl
    · trivial
  | false =>
  rw [if_neg (by simp)]
  generalize (fget n l).isSome = is at hF
  cases is with
  | false =>
    rw [if_neg (by simp)]
    refine spec_intro [] _ Tryz.func51 rfl Tryz.ntmps51 (by rfl) (fun w0 R => ?_)
    repeat' (first | (refine go_Y ?_; intros) | (refine gs_Y ?_ ?_ <;> (intro hgd; try (simp only [Bool.not_true, Bool.not_false] at hgd))) | (refine gc_Y ?_ ?_ <;> intro _) | fail)
    refine cl_Y (hN) ?_
    intro _ _
    repeat' (first | (refine go_Y ?_; intros) | (refine gs_Y ?_ ?_ <;> (intro hgd; try (simp only [Bool.not_true, Bool.not_false] at hgd))) | (refine gc_Y ?_ ?_ <;> intro _) | fail)
    refine cl_Y (hM) ?_
    intro _ _
    repeat' (first | (refine go_Y ?_; intros) | (refine gs_Y ?_ ?_ <;> (intro hgd; try (simp only [Bool.not_true, Bool.not_false] at hgd))) | (refine gc_Y ?_ ?_ <;> intro _) | fail)
    refine cl_Y (hF) ?_
    intro i _
    repeat' (first | (refine go_Y ?_; intros) | (refine gs_Y ?_ ?_ <;> (intro hgd; try (simp only [Bool.not_true, Bool.not_false] at hgd))) | (refine gc_Y ?_ ?_ <;> intro _) | fail)
    (refine rt_Y (y := ()) (hrs := Tryz.results51) (hv := ?_) (hφ := ?_))
    · rfl
    · trivial
  | true =>
    rw [if_pos rfl]
    refine spec_intro [] _ Tryz.func51 rfl Tryz.ntmps51 (by rfl) (fun w0 R => ?_)
    repeat' (first | (refine go_Y ?_; intros) | (refine gs_Y ?_ ?_ <;> (intro hgd; try (simp only [Bool.not_true, Bool.not_false] at hgd))) | (refine gc_Y ?_ ?_ <;> intro _) | fail)
    refine cl_Y (hN) ?_
    intro _ _
    repeat' (first | (refine go_Y ?_; intros) | (refine gs_Y ?_ ?_ <;> (intro hgd; try (simp only [Bool.not_true, Bool.not_false] at hgd))) | (refine gc_Y ?_ ?_ <;> intro _) | fail)
    refine cl_Y (hM) ?_
    intro _ _
    repeat' (first | (refine go_Y ?_; intros) | (refine gs_Y ?_ ?_ <;> (intro hgd; try (simp only [Bool.not_true, Bool.not_false] at hgd))) | (refine gc_Y ?_ ?_ <;> intro _) | fail)
    refine cl_Y (hF) ?_
    intro i _
    repeat' (first | (refine go_Y ?_; intros) | (refine gs_Y ?_ ?_ <;> (intro hgd; try (simp only [Bool.not_true, Bool.not_false] at hgd))) | (refine gc_Y ?_ ?_ <;> intro _) | fail)
    (apply ok_draw [12]; (focus (kernel_rfl)); (focus ((conv => lhs; whnf); first | done | rfl)); (focus (decide +kernel)); (focus (exact (fun _ h => h))))
    repeat' (first | (refine go_Y ?_; intros) | (refine gs_Y ?_ ?_ <;> (intro hgd; try (simp only [Bool.not_true, Bool.not_false] at hgd))) | (refine gc_Y ?_ ?_ <;> intro _) | fail)
    (apply ok_draw [10]; (focus (kernel_rfl)); (focus ((conv => lhs; whnf); first | done | rfl)); (focus (decide +kernel)); (focus (exact (fun _ h => h))))
    repeat' (first | (refine go_Y ?_; intros) | (refine gs_Y ?_ ?_ <;> (intro hgd; try (simp only [Bool.not_true, Bool.not_false] at hgd))) | (refine gc_Y ?_ ?_ <;> intro _) | fail)
    (refine rt_Y (y := ()) (hrs := Tryz.results51) (hv := ?_) (hφ := ?_))
    · rfl
    · trivial

/-- What the document's may says is what a disk's calls say. -/
theorem mayR_app {d : Dk} {l : FS} (h : RelF d.files l) (hd : (d.files.map (·.1)).Nodup) (n s : BA) : d.append n s = (if mayR d.still d.room l (.app n s) ≠ 0 then (d, mayR d.still d.room l (.app n s)) else d.doC (.app n s)) := by
  have hnil : (⟨#[]⟩ : BA).toList = [] := by decide +kernel
  have e : mayR d.still d.room l (.app n s) = (if d.still then 20 else if !mayN n then 2 else if ((!(s.toList == [])) && decide (d.room < (fused d.files : Int) + (s.size : Int))) then 4 else 0) := by
    rw [← h.used hd]
    show (if d.still then 20 else if !mayN n then 2 else if ((!(s.toList == (⟨#[]⟩ : BA).toList)) && decide (d.room < (fused l : Int) + (s.size : Int))) then 4 else 0) = _
    rw [hnil]
  rw [e]
  unfold Dk.append Dk.live
  generalize ((!(s.toList == [])) && decide (d.room < (fused d.files : Int) + (s.size : Int))) = q
  cases hs : d.still with
  | true => simp
  | false =>
    cases hm : mayN n with
    | false => simp [hm]
    | true => cases q <;> simp [hm]
theorem mayR_rem {d : Dk} {l : FS} (h : RelF d.files l) (n : BA) : d.remove n = (if mayR d.still d.room l (.rem n) ≠ 0 then (d, mayR d.still d.room l (.rem n)) else d.doC (.rem n)) := by
  have e : mayR d.still d.room l (.rem n) = (if d.still then 20 else if !mayN n then 2 else if (fget n d.files).isSome then 0 else 3) := by rw [← h.get n]; rfl
  rw [e]
  unfold Dk.remove Dk.live Dk.has
  cases hs : d.still with
  | true => simp
  | false =>
    cases hm : mayN n with
    | false => simp [hm]
    | true => cases (fget n d.files).isSome <;> simp [hm]
theorem mayR_ren {d : Dk} {l : FS} (h : RelF d.files l) (n m : BA) : d.rename n m = (if mayR d.still d.room l (.ren n m) ≠ 0 then (d, mayR d.still d.room l (.ren n m)) else d.doC (.ren n m)) := by
  have e : mayR d.still d.room l (.ren n m) = (if d.still then 20 else if !mayN n || (!mayN m || (m.toList == n.toList)) then 2 else if (fget n d.files).isSome then 0 else 3) := by rw [← h.get n]; rfl
  rw [e]
  unfold Dk.rename Dk.live Dk.has
  have hsym : (n.toList == m.toList) = (m.toList == n.toList) := by rw [Bool.eq_iff_iff, eqS_iff, eqS_iff]; exact eq_comm
  rw [hsym]
  generalize (m.toList == n.toList) = q
  cases hs : d.still with
  | true => simp
  | false =>
    cases h1 : mayN n with
    | false => simp [h1]
    | true =>
      cases h2 : mayN m with
      | false => simp [h1, h2]
      | true => cases q <;> cases (fget n d.files).isSome <;> simp [h1, h2]
end Go.Proofs.YtbagfdolcabniaaGreat
/- The document's disk in memory; its Do. -/
-- @DEFS Y
set_option linter.unusedSimpArgs false
set_option linter.unusedVariables false
set_option maxRecDepth 4000
namespace Go.Proofs.YtbagfdolcabniaaGreat
open Go Go.Fx Go.Proofs Go.Pl

structure RY where
  vL : Value
  vS : Value
  vC : Value
  P : HProp
  lL : FS
  lS : FS
structure RkOK (d : Dk) (y : RY) : Prop where
  cL : y.vL.oneCell' = true
  cS : y.vS.oneCell' = true
  cC : y.vC.oneCell' = true
  wL : Vw y.P 2 y.vL (y.lL.map fileV)
  wS : Vw y.P 2 y.vS (y.lS.map fileV)
  rL : RelF d.files y.lL
  rS : RelF d.sure y.lS
/-- The document's disk, in memory, as a disk's twin. -/
def rkL (b : Nat) (d : Dk) (y : { y : RY // RkOK d y }) : List HProp := [rdC b y.1.vL y.1.vS y.1.vC d.room d.fuse d.still, y.1.P, row 65 4 y.1.vC (d.loose.map callV)]
def rkP (b : Nat) (d : Dk) : HProp := exP (rkL b d)
theorem rk_in {b : Nat} {d : Dk} {y : RY} (hy : RkOK d y) {L : List HProp} {h : Frag} (s : SatL ([rdC b y.vL y.vS y.vC d.room d.fuse d.still, y.P, row 65 4 y.vC (d.loose.map callV)] ++ L) h) : SatL (rkP b d :: L) h :=
  ex_in (M := rkL b d) ⟨y, hy⟩ rfl s
/-- What holds of a twin. -/
structure Dm (n : Nat) (d : Dk) : Prop where
  ok : d.Ok
  cnt : d.files.length ≤ n
  lcnt : d.loose.length ≤ n
  scnt : d.sure.length ≤ n
  tr : ∀ c ∈ d.loose, okR c ∧ ∀ a k, c ≠ .trunc a k
theorem vw_pack {A B : HProp} {n : Nat} {v : Value} {xs : List (List Value)} (h : Vw B n v xs) : Vw (fun h => SatL [A, B] h) n v xs := fun f hf => by
  obtain ⟨_, h2, _, _, l2, _, h3, _, _, l3, _, hB, _⟩ := hf
  exact (h h3 hB).mono (l3.trans l2)
theorem vw_packL {A B : HProp} {n : Nat} {v : Value} {xs : List (List Value)} (h : Vw A n v xs) : Vw (fun h => SatL [A, B] h) n v xs := fun f hf => by
  obtain ⟨h1, _, _, l1, _, hA, _⟩ := hf
  exact (h h1 hA).mono l1

set_option maxHeartbeats 1000000 in
theorem refDo_spec (b n : Nat) (d : Dk) (c : Cl) (r : Dk × Int) (hD : Dm n d) (hn : n ≤ 800000) (hc : okR c) (ht : ∀ a k, c ≠ .trunc a k)
    (hr : ∀ l, RelF d.files l → r = (if mayR d.still d.room l c ≠ 0 then (d, mayR d.still d.room l c) else d.doC c))
    (hok : ∀ l, RelF d.files l → mayR d.still d.room l c = 0 → clG l c)
    (hm : ∀ (vL vS vC : Value) (P : HProp) (l : FS), Vw P 2 vL (l.map fileV) → RelF d.files l → FSpec Tryz.prog 51 [.pointer (some ⟨b, 0, none⟩), .agg (callV c).toArray] [rdC b vL vS vC d.room d.fuse d.still, P] Unit (fun _ => True) (fun _ => .int .i64 (mayR d.still d.room l c)) (fun _ => [rdC b vL vS vC d.room d.fuse d.still, P])) :
    FSpec Tryz.prog 25 [.pointer (some ⟨b, 0, none⟩), .agg (callV c).toArray] [rkP b d] Unit (fun _ => True) (fun _ => .int .i64 r.2) (fun _ => [rkP b r.1]) := by
  refine fspec_ex ?_
  rintro ⟨⟨vL, vS, vC, P, lL, lS⟩, hy⟩
  have hy' := hy
  obtain ⟨cL, cS, cC, wL, wS, rL, rS⟩ := hy
  dsimp only at cL cS cC wL wS rL rS
  unfold rkL
  dsimp only
  have hmay := hm vL vS vC P lL wL rL
  have hlen : lL.length ≤ 900000 := by have h1 := (rL.perm hD.ok.nd).length_eq; have := hD.cnt; omega
  have f0 := hD.ok.fuse0
  have fM := hD.ok.fuseM
  have hlc := hD.lcnt
  have hbu := refBurn_spec b vL vS vC d.room d.fuse d.still f0 fM
  rw [hr lL rL]
  obtain ⟨e0, e1, e2, e3, ecv, hgB, hone⟩ : ∃ e0 e1 e2 e3, callV c = [e0, e1, e2, e3] ∧ goodB 4 [[e0, e1, e2, e3]] = true ∧ oneCells [e0, e1, e2, e3] = true := by cases c <;> exact ⟨_, _, _, _, rfl, rfl, rfl⟩
  cases t1 : (!decide (mayR d.still d.room lL c = 0)) with
  | true =>
    have h1 : mayR d.still d.room lL c ≠ 0 := by simpa using t1
    rw [if_pos h1]
    rw [ecv] at hmay ⊢
    dsimp only
    refine spec_intro [] _ Tryz.func25 rfl Tryz.ntmps25 (by rfl) (fun w0 R => ?_)
    repeat' (first | (refine go_Y ?_; intros) | (refine gs_Y ?_ ?_ <;> (intro hgd; try (simp only [Bool.not_true, Bool.not_false] at hgd))) | (refine gc_Y ?_ ?_ <;> intro _) | fail)
    refine cl_Y (hmay) ?_
    intro _ _
    repeat' (first | (refine go_Y ?_; intros) | (refine gs_Y ?_ ?_ <;> (intro hgd; try (simp only [Bool.not_true, Bool.not_false] at hgd))) | (refine gc_Y ?_ ?_ <;> intro _) | fail)
    refine cont_map (fun _ h => rk_in (b := b) (y := ⟨vL, vS, vC, P, lL, lS⟩) hy' (Take.out takeD h)) ?_
    (refine rt_Y (y := ()) (hrs := Tryz.results25) (hv := ?_) (hφ := ?_))
    · rfl
    · trivial
  | false =>
    have h1 : ¬ mayR d.still d.room lL c ≠ 0 := by simpa using t1
    rw [if_neg h1]
    have hg := hok lL rL (by simpa using t1)
    have hdn := refDone_spec vL P lL c wL hlen rL.srt hg
    have h0 : mayR d.still d.room lL c = 0 := by simpa using t1
    rw [h0] at hmay
    have hmv : (d.loose ++ [c]).map callV = d.loose.map callV ++ [callV c] := by simp
    have hml : (d.loose.map callV).length = d.loose.length := by simp
    have rD := rL.done hD.ok.nd hc
    cases tf : decide (d.fuse = 0) with
    | true =>
      have hf : d.fuse = 0 := of_decide_eq_true tf
      rw [if_pos hf, if_pos hf, tf] at hbu
      have e : d.doC c = ({ d with still := true }, 20) := by unfold Dk.doC; rw [if_pos hf]
      rw [e]
      dsimp only
      rw [ecv] at hmay ⊢
      refine spec_intro [] _ Tryz.func25 rfl Tryz.ntmps25 (by rfl) (fun w0 R => ?_)
      repeat' (first | (refine go_Y ?_; intros) | (refine gs_Y ?_ ?_ <;> (intro hgd; try (simp only [Bool.not_true, Bool.not_false] at hgd))) | (refine gc_Y ?_ ?_ <;> intro _) | fail)
      refine cl_Y (hmay) ?_
      intro _ _
      repeat' (first | (refine go_Y ?_; intros) | (refine gs_Y ?_ ?_ <;> (intro hgd; try (simp only [Bool.not_true, Bool.not_false] at hgd))) | (refine gc_Y ?_ ?_ <;> intro _) | fail)
      refine cl_Y (hbu) ?_
      intro _ _
      repeat' (first | (refine go_Y ?_; intros) | (refine gs_Y ?_ ?_ <;> (intro hgd; try (simp only [Bool.not_true, Bool.not_false] at hgd))) | (refine gc_Y ?_ ?_ <;> intro _) | fail)
      refine cont_map (fun _ h => rk_in (b := b) (d := { d with still := true }) (y := ⟨vL, vS, vC, P, lL, lS⟩) ⟨cL, cS, cC, wL, wS, rL, rS⟩ (Take.out takeD h)) ?_
      (refine rt_Y (y := ()) (hrs := Tryz.results25) (hv := ?_) (hφ := ?_))
      · rfl
      · trivial
    | false =>
      have hf : ¬ d.fuse = 0 := of_decide_eq_false tf
      rw [if_neg hf, if_neg hf, tf] at hbu
      have e : d.doC c = ({ d with fuse := if (-1 : Int) > d.fuse - 1 then -1 else d.fuse - 1, files := c.run d.files, loose := d.loose ++ [c] }, 0) := by unfold Dk.doC; rw [if_neg hf]
      rw [e]
      dsimp only
      generalize (if (-1 : Int) > d.fuse - 1 then -1 else d.fuse - 1) = fz at hbu
      rw [ecv] at hmay hdn hmv ⊢
      refine spec_intro [] _ Tryz.func25 rfl Tryz.ntmps25 (by rfl) (fun w0 R => ?_)
      repeat' (first | (refine go_Y ?_; intros) | (refine gs_Y ?_ ?_ <;> (intro hgd; try (simp only [Bool.not_true, Bool.not_false] at hgd))) | (refine gc_Y ?_ ?_ <;> intro _) | fail)
      refine cl_Y (hmay) ?_
      intro _ _
      repeat' (first | (refine go_Y ?_; intros) | (refine gs_Y ?_ ?_ <;> (intro hgd; try (simp only [Bool.not_true, Bool.not_false] at hgd))) | (refine gc_Y ?_ ?_ <;> intro _) | fail)
      refine cl_Y (hbu) ?_
      intro _ _
      repeat' (first | (refine go_Y ?_; intros) | (refine gs_Y ?_ ?_ <;> (intro hgd; try (simp only [Bool.not_true, Bool.not_false] at hgd))) | (refine gc_Y ?_ ?_ <;> intro _) | fail)
      refine cl_Y (hdn) ?_
      rintro ⟨vN, hvN⟩ _
      repeat' (first | (refine go_Y ?_; intros) | (refine gs_Y ?_ ?_ <;> (intro hgd; try (simp only [Bool.not_true, Bool.not_false] at hgd))) | (refine gc_Y ?_ ?_ <;> intro _) | fail)
      (apply ok_draw [6]; (focus (kernel_rfl)); (focus ((conv => lhs; whnf); first | done | rfl)); (focus (decide +kernel)); (focus (exact (fun _ h => h))))
      repeat' (first | (refine go_Y ?_; intros) | (refine gs_Y ?_ ?_ <;> (intro hgd; try (simp only [Bool.not_true, Bool.not_false] at hgd))) | (refine gc_Y ?_ ?_ <;> intro _) | fail)
      rename_i v1 hv1 v2 hv2
      refine cont_map (fun _ h => SatL.unflat (M := [row 67 2 vN ((doneR lL c).map fileV), P]) (Take.out2 takeD h)) ?_
      refine cont_map (fun _ h => rk_in (b := b) (d := { d with fuse := fz, files := c.run d.files, loose := d.loose ++ [c] }) (y := ⟨vN, vS, v2, _, doneR lL c, lS⟩) ⟨hvN, cS, hv2, vw_packL Vw.row, vw_pack wS, rD, rS⟩ (by dsimp only; rw [hmv]; exact Take.out takeD h)) ?_
      (refine rt_Y (y := ()) (hrs := Tryz.results25) (hv := ?_) (hφ := ?_))
      · rfl
      · trivial
end Go.Proofs.YtbagfdolcabniaaGreat
