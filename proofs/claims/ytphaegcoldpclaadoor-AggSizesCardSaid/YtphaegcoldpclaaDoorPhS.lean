/- The law AggSizes (layer 24). -/
import Derived.Test.YtphaegcoldpclaaDoorPhI
-- @DEFS Y
set_option linter.unusedSimpArgs false
set_option linter.unusedVariables false
set_option maxRecDepth 100000
namespace Go.Proofs.YtphaegcoldpclaaDoor
open Go Go.Fx Go.Proofs Go.Pl

set_option maxHeartbeats 8000000 in
theorem long24_spec {P : HProp} {d : Dm} (h : DocR P d) : ∀ (deep most : Int), 0 ≤ deep → deep ≤ 1000000 → -1000000 ≤ most → most ≤ 1000000 →
    FSpec Tryd.prog 54 [.agg (docV d).toArray, .int .i64 deep, .int .i64 most] [P] Int (fun y => y = -1 ∨ (0 ≤ y ∧ y < most ∧ 1 ≤ most)) (fun y => .int .i64 y) (fun _ => [P]) := by
  induction h with
  | @mk t lv kv row kids h1 h2 h3 h4 h5 h6 ih =>
  obtain ⟨lv, hlv⟩ := lv
  obtain ⟨kv, hkv⟩ := kv
  intro deep most hd0 hd hm0 hm1
  have hl4 := long_spec lv P row h1 h4 h6
  dsimp only [docV] at h1 h2 hl4 ⊢
  have lk : (kids.map docV).length = kids.length := by simp
  cases f1 : decide (deep = 0) with
  | true =>
    refine spec_intro [] _ Tryd.func54 rfl Tryd.ntmps54 (by rfl) (fun w0 R => ?_)
    repeat' (first | (refine go_Y ?_; intros) | (refine gs_Y ?_ ?_ <;> (intro hgd; try (simp only [Bool.not_true, Bool.not_false] at hgd))) | (refine gc_Y ?_ ?_ <;> intro _) | fail)
    (refine rt_Y (y := -1) (hrs := Tryd.results54) (hv := ?_) (hφ := ?_))
    · rfl
    · exact .inl rfl
  | false =>
    have hdn := of_decide_eq_false f1
    cases u1 : decide (most - 1 < 0) with
    | true =>
      refine spec_intro [] _ Tryd.func54 rfl Tryd.ntmps54 (by rfl) (fun w0 R => ?_)
      repeat' (first | (refine go_Y ?_; intros) | (refine gs_Y ?_ ?_ <;> (intro hgd; try (simp only [Bool.not_true, Bool.not_false] at hgd))) | (refine gc_Y ?_ ?_ <;> intro _) | fail)
      (refine rt_Y (y := -1) (hrs := Tryd.results54) (hv := ?_) (hφ := ?_))
      · rfl
      · exact .inl rfl
    | false =>
      have hm2 := of_decide_eq_false u1
      refine spec_intro [] _ Tryd.func54 rfl Tryd.ntmps54 (by rfl) (fun w0 R => ?_)
      refine ok_learn (VwIn.slice (VwIn.here h2)) ?_
      rintro ⟨pk, ck, rfl⟩
      repeat' (first | (refine go_Y ?_; intros) | (refine gs_Y ?_ ?_ <;> (intro hgd; try (simp only [Bool.not_true, Bool.not_false] at hgd))) | (refine gc_Y ?_ ?_ <;> intro _) | fail)
      rename_i b3
      refine cl_Y (hl4) ?_
      intro yl _
      cases yl with
      | true =>
        repeat' (first | (refine go_Y ?_; intros) | (refine gs_Y ?_ ?_ <;> (intro hgd; try (simp only [Bool.not_true, Bool.not_false] at hgd))) | (refine gc_Y ?_ ?_ <;> intro _) | fail)
        (refine rt_Y (y := -1) (hrs := Tryd.results54) (hv := ?_) (hφ := ?_))
        · rfl
        · exact .inl rfl
      | false =>
      cases u2 : decide (most - 1 < ((kids.map docV).length : Int)) with
      | true =>
        repeat' (first | (refine go_Y ?_; intros) | (refine gs_Y ?_ ?_ <;> (intro hgd; try (simp only [Bool.not_true, Bool.not_false] at hgd))) | (refine gc_Y ?_ ?_ <;> intro _) | fail)
        (refine rt_Y (y := -1) (hrs := Tryd.results54) (hv := ?_) (hφ := ?_))
        · rfl
        · exact .inl rfl
      | false =>
      repeat' (first | (refine go_Y ?_; intros) | (refine gs_Y ?_ ?_ <;> (intro hgd; try (simp only [Bool.not_true, Bool.not_false] at hgd))) | (refine gc_Y ?_ ?_ <;> intro _) | fail)
      refine ok_map (L' := [P, pts b3 (.cells [.int .i64 t, lv, .slice pk (kids.map docV).length ck].toArray 64)] ++ R) entD ?_
      refine ok_loop' (γ := Nat × Int) (fun g ρ L => g.1 ≤ kids.length ∧ 0 ≤ g.2 ∧ g.2 < most ∧ Knows ρ [(1, .int .i64 deep), (2, .int .i64 g.2), (3, .pointer (some ⟨b3, 0, none⟩)), (7, .int .i64 g.1)] ∧
          L = [P, pts b3 (.cells [.int .i64 t, lv, .slice pk (kids.map docV).length ck].toArray 64)] ++ R) (fun g => kids.length - g.1)
        (0, most - 1) ⟨by simp, by dsimp only; omega, by dsimp only; omega, ⟨rfl, rfl, rfl, rfl, trivial⟩, rfl⟩ ?_
      rintro ⟨i, m⟩ ρ L ⟨hi, m0, m1, hk, rfl⟩
      dsimp only at hi m0 m1 hk ⊢
      refine ok_regs hk ?_
      cases t1 : decide ((i : Int) < ((kids.map docV).length : Int)) with
      | false =>
        repeat' (first | (refine go_Y ?_; intros) | (refine gs_Y ?_ ?_ <;> (intro hgd; try (simp only [Bool.not_true, Bool.not_false] at hgd))) | (refine gc_Y ?_ ?_ <;> intro _) | fail)
        (refine rt_Y (y := m) (hrs := Tryd.results54) (hv := ?_) (hφ := ?_))
        · rfl
        · exact .inr ⟨m0, m1, by omega⟩
      | true =>
        have h0 : i < kids.length := by have := of_decide_eq_true t1; omega
        have hx : (kids.map docV)[i]? = some (docV kids[i]) := by rw [List.getElem?_map, List.getElem?_eq_getElem h0]; rfl
        have hn1 : i < (kids.map docV).length := by omega
        have hs := ih _ (List.getElem_mem h0) (deep - 1) m (by omega) (by omega) (by omega) (by omega)
        generalize kids[i] = k at hx hs
        obtain ⟨kt, ⟨klv, hklv⟩, krow, ⟨kkv, hkkv⟩, kkids⟩ := k
        dsimp only [docV] at hx hs
        refine ok_learn (VwIn.base (n := 3) (xs := kids.map docV) (VwIn.here h2) (by intro e; rw [e] at hn1; simp at hn1)) ?_
        rintro ⟨bu, ou, rfl⟩
        repeat' (first | (refine go_Y ?_; intros) | (refine gs_Y ?_ ?_ <;> (intro hgd; try (simp only [Bool.not_true, Bool.not_false] at hgd))) | (refine gc_Y ?_ ?_ <;> intro _) | fail)
        refine cl_Y (hs) ?_
        intro y hy
        cases t2 : decide (y < 0) with
        | true =>
          repeat' (first | (refine go_Y ?_; intros) | (refine gs_Y ?_ ?_ <;> (intro hgd; try (simp only [Bool.not_true, Bool.not_false] at hgd))) | (refine gc_Y ?_ ?_ <;> intro _) | fail)
          (refine rt_Y (y := -1) (hrs := Tryd.results54) (hv := ?_) (hφ := ?_))
          · rfl
          · exact .inl rfl
        | false =>
          have hy0 := of_decide_eq_false t2
          repeat' (first | (refine go_Y ?_; intros) | (refine gs_Y ?_ ?_ <;> (intro hgd; try (simp only [Bool.not_true, Bool.not_false] at hgd))) | (refine gc_Y ?_ ?_ <;> intro _) | fail)
          refine cont_map (L' := [P, pts b3 (.cells [.int .i64 t, lv, .slice (some ⟨bu, ou, none⟩) (kids.map docV).length ck].toArray 64)] ++ R) entD ?_
          refine cont_back (i + 1, y) ⟨h0, by dsimp only; omega, by dsimp only; omega, ⟨rfl, rfl, rfl, rfl, trivial⟩, rfl⟩ (by dsimp only; omega)
theorem Long24_spec {P : HProp} {d : Dm} (h : DocR P d) : FSpec Tryd.prog 22 [.agg (docV d).toArray] [P] Bool (fun _ => True) (fun y => .bool y) (fun _ => [P]) := by
  have hs := long24_spec h 12 400 (by omega) (by omega) (by omega) (by omega)
  obtain ⟨t, ⟨lv, hlv⟩, row, ⟨kv, hkv⟩, kids⟩ := d
  dsimp only [docV] at hs ⊢
  refine spec_intro [] _ Tryd.func22 rfl Tryd.ntmps22 (by rfl) (fun w0 R => ?_)
  repeat' (first | (refine go_Y ?_; intros) | (refine gs_Y ?_ ?_ <;> (intro hgd; try (simp only [Bool.not_true, Bool.not_false] at hgd))) | (refine gc_Y ?_ ?_ <;> intro _) | fail)
  refine cl_Y (hs) ?_
  intro y _
  repeat' (first | (refine go_Y ?_; intros) | (refine gs_Y ?_ ?_ <;> (intro hgd; try (simp only [Bool.not_true, Bool.not_false] at hgd))) | (refine gc_Y ?_ ?_ <;> intro _) | fail)
  (refine rt_Y (y := decide (y < 0)) (hrs := Tryd.results22) (hv := ?_) (hφ := ?_))
  · rfl
  · trivial
set_option maxHeartbeats 8000000 in
theorem AggSizes_spec (a c : Dm) (A : HProp) (hU : UT A) (ha : DocR A a) (hc : DocR A c) :
    FSpec Tryd.prog 5 [.agg (docV a).toArray, .agg (docV c).toArray] [A] HProp (fun P' => Ext A P') (fun _ => .bool true) (fun P' => [P']) := by
  have l1 := Long24_spec ha
  have l2 := Long24_spec hc
  have s1 := aSize_spec ha
  have s2 := Size24_spec ha
  have s3 := aSame_spec ha hc
  have s4 := Same24_spec ha hc
  have s5 := aSame_spec ha ha
  have hal := alive24_spec A hU
  have e5 : (decide (0 < sizeS a.c) && (decide (0 < sizeS a.c) && sameD a.c a.c)) = decide (0 < sizeS a.c) := by
    rw [(sameD_iff _ _).2 rfl]
    cases decide (0 < sizeS a.c) <;> rfl
  rw [e5] at s5
  generalize (decide (0 < sizeS a.c) && (decide (0 < sizeS c.c) && sameD a.c c.c)) = x1 at s3 s4
  generalize sizeS a.c = n at s1 s2 s5
  have f1 : decide (n = n) = true := by simp
  have f2 : (x1 == x1) = true := by simp
  have f3 : (decide (0 < n) == decide (0 < n)) = true := by simp
  obtain ⟨t, ⟨lv, hlv⟩, row, ⟨kv, hkv⟩, kids⟩ := a
  obtain ⟨t', ⟨lv', hlv'⟩, row', ⟨kv', hkv'⟩, kids'⟩ := c
  dsimp only [docV] at l1 l2 s1 s2 s3 s4 s5 ⊢
  refine spec_intro [] _ Tryd.func5 rfl Tryd.ntmps5 (by rfl) (fun w0 R => ?_)
  repeat' (first | (refine go_Y ?_; intros) | (refine gs_Y ?_ ?_ <;> (intro hgd; try (simp only [Bool.not_true, Bool.not_false] at hgd))) | (refine gc_Y ?_ ?_ <;> intro _) | fail)
  refine cl_Y (l1) ?_
  intro y1 _
  cases y1 with
  | true =>
    repeat' (first | (refine go_Y ?_; intros) | (refine gs_Y ?_ ?_ <;> (intro hgd; try (simp only [Bool.not_true, Bool.not_false] at hgd))) | (refine gc_Y ?_ ?_ <;> intro _) | fail)
    refine cl_Y (hal) ?_
    intro _ _
    repeat' (first | (refine go_Y ?_; intros) | (refine gs_Y ?_ ?_ <;> (intro hgd; try (simp only [Bool.not_true, Bool.not_false] at hgd))) | (refine gc_Y ?_ ?_ <;> intro _) | fail)
    (refine rt_Y (y := A) (hrs := Tryd.results5) (hv := ?_) (hφ := ?_))
    · rfl
    · exact Ext.refl A
  | false =>
  repeat' (first | (refine go_Y ?_; intros) | (refine gs_Y ?_ ?_ <;> (intro hgd; try (simp only [Bool.not_true, Bool.not_false] at hgd))) | (refine gc_Y ?_ ?_ <;> intro _) | fail)
  refine cl_Y (l2) ?_
  intro y2 _
  cases y2 with
  | true =>
    repeat' (first | (refine go_Y ?_; intros) | (refine gs_Y ?_ ?_ <;> (intro hgd; try (simp only [Bool.not_true, Bool.not_false] at hgd))) | (refine gc_Y ?_ ?_ <;> intro _) | fail)
    refine cl_Y (hal) ?_
    intro _ _
    repeat' (first | (refine go_Y ?_; intros) | (refine gs_Y ?_ ?_ <;> (intro hgd; try (simp only [Bool.not_true, Bool.not_false] at hgd))) | (refine gc_Y ?_ ?_ <;> intro _) | fail)
    (refine rt_Y (y := A) (hrs := Tryd.results5) (hv := ?_) (hφ := ?_))
    · rfl
    · exact Ext.refl A
  | false =>
  repeat' (first | (refine go_Y ?_; intros) | (refine gs_Y ?_ ?_ <;> (intro hgd; try (simp only [Bool.not_true, Bool.not_false] at hgd))) | (refine gc_Y ?_ ?_ <;> intro _) | fail)
  (apply ok_draw [1, 8, 17]; (focus (kernel_rfl)); (focus ((conv => lhs; whnf); first | done | rfl)); (focus (decide +kernel)); (focus (exact (fun _ h => h))))
  repeat' (first | (refine go_Y ?_; intros) | (refine gs_Y ?_ ?_ <;> (intro hgd; try (simp only [Bool.not_true, Bool.not_false] at hgd))) | (refine gc_Y ?_ ?_ <;> intro _) | fail)
  refine clN_Y (s1) ?_
  intro _ _
  repeat' (first | (refine go_Y ?_; intros) | (refine gs_Y ?_ ?_ <;> (intro hgd; try (simp only [Bool.not_true, Bool.not_false] at hgd))) | (refine gc_Y ?_ ?_ <;> intro _) | fail)
  refine cl_Y (s2) ?_
  intro _ _
  repeat' (first | (refine go_Y ?_; intros) | (refine gs_Y ?_ ?_ <;> (intro hgd; try (simp only [Bool.not_true, Bool.not_false] at hgd))) | (refine gc_Y ?_ ?_ <;> intro _) | fail)
  refine clN_Y (s3) ?_
  intro _ _
  repeat' (first | (refine go_Y ?_; intros) | (refine gs_Y ?_ ?_ <;> (intro hgd; try (simp only [Bool.not_true, Bool.not_false] at hgd))) | (refine gc_Y ?_ ?_ <;> intro _) | fail)
  refine cl_Y (s4) ?_
  intro _ _
  repeat' (first | (refine go_Y ?_; intros) | (refine gs_Y ?_ ?_ <;> (intro hgd; try (simp only [Bool.not_true, Bool.not_false] at hgd))) | (refine gc_Y ?_ ?_ <;> intro _) | fail)
  refine clN_Y (s5) ?_
  intro _ _
  repeat' (first | (refine go_Y ?_; intros) | (refine gs_Y ?_ ?_ <;> (intro hgd; try (simp only [Bool.not_true, Bool.not_false] at hgd))) | (refine gc_Y ?_ ?_ <;> intro _) | fail)
  refine cl_Y (s2) ?_
  intro _ _
  repeat' (first | (refine go_Y ?_; intros) | (refine gs_Y ?_ ?_ <;> (intro hgd; try (simp only [Bool.not_true, Bool.not_false] at hgd))) | (refine gc_Y ?_ ?_ <;> intro _) | fail)
  refine cl_Y (hal) ?_
  intro _ _
  repeat' (first | (refine go_Y ?_; intros) | (refine gs_Y ?_ ?_ <;> (intro hgd; try (simp only [Bool.not_true, Bool.not_false] at hgd))) | (refine gc_Y ?_ ?_ <;> intro _) | fail)
  (refine rt_Y (y := A) (hrs := Tryd.results5) (hv := ?_) (hφ := ?_))
  · rfl
  · exact Ext.refl A
end Go.Proofs.YtphaegcoldpclaaDoor
