import Derived.Test.YtadgdikijdmceaaGreatTqV
import Derived.Test.YtadgdikijdmceaaGreatG8
set_option linter.unusedSimpArgs false
set_option linter.unusedVariables false
set_option maxRecDepth 100000
namespace Go.Proofs.YtadgdikijdmceaaGreat
open Go Go.Fx Go.Proofs Go.Pl

abbrev rtP (rb : Nat) (v : Value) (f sg : Nat) : HProp := pts rb (.cells [v, .int .u64 (f : Int), .int .u64 (sg : Int)].toArray 55)
abbrev rwS (v : Value) (l : List BA) : HProp := row 9 1 v (l.map strV)
theorem rNext_spec (rb : Nat) (v : Value) (f sg : Nat) (all : List BA) (hl : all.length ≤ 1000000000) :
    FSpec Tryz.prog 25 [.pointer (some ⟨rb, 0, none⟩)] [rtP rb v f sg, rwS v all] Unit (fun _ => True) (fun _ => .int .u64 (all.length : Int)) (fun _ => [rtP rb v f sg, rwS v all]) := by
  have la : (all.map strV).length = all.length := by simp
  have hw : IntKind.u64.wrap ((all.map strV).length : Int) = ((all.map strV).length : Int) := tp_wrap64 _ (by omega)
  refine spec_intro [] _ Tryz.func25 rfl Tryz.ntmps25 (by rfl) (fun w0 R => ?_)
  refine ok_learn (rowShapeS (e := 9) (n := 1) (v := v) (xs := all.map strV) (by decide) takeD) ?_
  rintro ⟨p, c, rfl, hc, _⟩
  rw [← la]
  repeat' (first | (refine go_Y ?_; intros) | (refine gs_Y ?_ ?_ <;> (intro hgd; try (simp only [Bool.not_true, Bool.not_false] at hgd))) | (refine gc_Y ?_ ?_ <;> intro _) | fail)
  (refine rt_Y (y := ()) (hrs := Tryz.results25) (hv := ?_) (hφ := ?_))
  · rfl
  · trivial
theorem rAppend_spec (rb : Nat) (v u : Value) (f sg : Nat) (all rs : List BA) (A : HProp) (hl : all.length ≤ 1000000000) (hr : rs.length ≤ 1000000000) (hu : Vw A 1 u (rs.map strV)) :
    FSpec Tryz.prog 24 [.pointer (some ⟨rb, 0, none⟩), u] [rtP rb v f sg, rwS v all, A] V1s (fun _ => True) (fun _ => .int .u64 (all.length : Int)) (fun y => [rtP rb y.1 f sg, rwS y.1 (all ++ rs), A]) := by
  have la : (all.map strV).length = all.length := by simp
  have lr : (rs.map strV).length = rs.length := by simp
  have hN := rNext_spec rb v f sg all hl
  have e1 : (all ++ rs).map strV = all.map strV ++ rs.map strV := List.map_append
  refine spec_intro [] _ Tryz.func24 rfl Tryz.ntmps24 (by rfl) (fun w0 R => ?_)
  refine ok_learn (rowShapeS (e := 9) (n := 1) (v := v) (xs := all.map strV) (by decide) takeD) ?_
  rintro ⟨p, c, rfl, hc, _⟩
  refine ok_learn (VwIn.slice (VwIn.there (VwIn.there (VwIn.here hu)))) ?_
  rintro ⟨pu, cu, rfl⟩
  repeat' (first | (refine go_Y ?_; intros) | (refine gs_Y ?_ ?_ <;> (intro hgd; try (simp only [Bool.not_true, Bool.not_false] at hgd))) | (refine gc_Y ?_ ?_ <;> intro _) | fail)
  refine cl_Y (hN) ?_
  intro _ _
  refine opsL_mapL (fun _ h => nilRow (e := 9) (n := 1) h) ?_
  repeat' (first | (refine go_Y ?_; intros) | (refine gs_Y ?_ ?_ <;> (intro hgd; try (simp only [Bool.not_true, Bool.not_false] at hgd))) | (refine gc_Y ?_ ?_ <;> intro _) | fail)
  rename_i w1 hw1 w2 hw2
  refine cont_map (L' := [rtP rb w2 f sg, rwS w2 (all ++ rs), A] ++ R) (by unfold rwS; rw [e1]; exact entD) ?_
  (refine rt_Y (y := ⟨w2, hw2⟩) (hrs := Tryz.results24) (hv := ?_) (hφ := ?_))
  · rfl
  · trivial
def rReadL (f : Nat) (all : List BA) (off : Nat) (most : Int) : List BA := if off < f ∨ all.length < off then [] else (all.drop off).take most.toNat
def rReadE (f : Nat) (all : List BA) (off : Nat) : Int := if off < f ∨ all.length < off then 3 else 0
set_option maxHeartbeats 4000000 in
theorem rRead_spec (rb : Nat) (v : Value) (f sg off : Nat) (most : Int) (all : List BA) (hl : all.length ≤ 1000000000) :
    FSpec Tryz.prog 51 [.pointer (some ⟨rb, 0, none⟩), .int .u64 (off : Int), .int .i64 most] [rtP rb v f sg, rwS v all] V1s (fun _ => True) (fun y => .tuple #[y.1, .int .i64 (rReadE f all off)]) (fun y => [rwS y.1 (rReadL f all off most), rtP rb v f sg, rwS v all]) := by
  have la : (all.map strV).length = all.length := by simp
  have hN := rNext_spec rb v f sg all hl
  unfold rReadL rReadE
  cases t1 : decide ((off : Int) < (f : Int)) with
  | true =>
    have h1 : off < f ∨ all.length < off := .inl (by have := of_decide_eq_true t1; omega)
    rw [if_pos h1, if_pos h1]
    refine spec_intro [] _ Tryz.func51 rfl Tryz.ntmps51 (by rfl) (fun w0 R => ?_)
    refine ok_map (fun _ h => nilRow (e := 9) (n := 1) h) ?_
    repeat' (first | (refine go_Y ?_; intros) | (refine gs_Y ?_ ?_ <;> (intro hgd; try (simp only [Bool.not_true, Bool.not_false] at hgd))) | (refine gc_Y ?_ ?_ <;> intro _) | fail)
    (refine rt_Y (y := ⟨.slice none 0 0, rfl⟩) (hrs := Tryz.results51) (hv := ?_) (hφ := ?_))
    · rfl
    · trivial
  | false =>
    cases t2 : decide ((all.length : Int) < (off : Int)) with
    | true =>
      have h1 : off < f ∨ all.length < off := .inr (by have := of_decide_eq_true t2; omega)
      rw [if_pos h1, if_pos h1]
      refine spec_intro [] _ Tryz.func51 rfl Tryz.ntmps51 (by rfl) (fun w0 R => ?_)
      refine ok_map (fun _ h => nilRow (e := 9) (n := 1) h) ?_
      repeat' (first | (refine go_Y ?_; intros) | (refine gs_Y ?_ ?_ <;> (intro hgd; try (simp only [Bool.not_true, Bool.not_false] at hgd))) | (refine gc_Y ?_ ?_ <;> intro _) | fail)
      refine cl_Y (hN) ?_
      intro _ _
      repeat' (first | (refine go_Y ?_; intros) | (refine gs_Y ?_ ?_ <;> (intro hgd; try (simp only [Bool.not_true, Bool.not_false] at hgd))) | (refine gc_Y ?_ ?_ <;> intro _) | fail)
      (refine rt_Y (y := ⟨.slice none 0 0, rfl⟩) (hrs := Tryz.results51) (hv := ?_) (hφ := ?_))
      · rfl
      · trivial
    | false =>
      have h1 : ¬ (off < f ∨ all.length < off) := by have := of_decide_eq_false t1; have := of_decide_eq_false t2; omega
      have h2 : off ≤ all.length := by omega
      rw [if_neg h1, if_neg h1]
      refine spec_intro [] _ Tryz.func51 rfl Tryz.ntmps51 (by rfl) (fun w0 R => ?_)
      refine ok_learn (rowShapeS (e := 9) (n := 1) (v := v) (xs := all.map strV) (by decide) takeD) ?_
      rintro ⟨p, c, rfl, hc, _⟩
      refine ok_map (fun _ h => nilRow (e := 9) (n := 1) h) ?_
      repeat' (first | (refine go_Y ?_; intros) | (refine gs_Y ?_ ?_ <;> (intro hgd; try (simp only [Bool.not_true, Bool.not_false] at hgd))) | (refine gc_Y ?_ ?_ <;> intro _) | fail)
      refine cl_Y (hN) ?_
      intro _ _
      repeat' (first | (refine go_Y ?_; intros) | (refine gs_Y ?_ ?_ <;> (intro hgd; try (simp only [Bool.not_true, Bool.not_false] at hgd))) | (refine gc_Y ?_ ?_ <;> intro _) | fail)
      refine ok_map (L' := [row 9 1 (.slice none 0 0) (((all.drop off).take 0).map strV), rtP rb (.slice p (all.map strV).length c) f sg, rwS (.slice p (all.map strV).length c) all] ++ R) (by rw [List.take_zero]; exact entD) ?_
      refine ok_loop' (γ := Nat × V1s) (fun g ρ L => off + g.1 ≤ all.length ∧ (g.1 : Int) ≤ (if most < 0 then 0 else most) ∧ Knows ρ [(0, .pointer (some ⟨rb, 0, none⟩)), (2, .int .i64 most), (8, g.2.1), (9, .int .u64 ((off + g.1 : Nat) : Int))] ∧
          L = [row 9 1 g.2.1 (((all.drop off).take g.1).map strV), rtP rb (.slice p (all.map strV).length c) f sg, rwS (.slice p (all.map strV).length c) all] ++ R) (fun g => all.length - (off + g.1)) (0, ⟨.slice none 0 0, rfl⟩) ⟨by simpa using h2, by dsimp only; split <;> omega, ⟨rfl, rfl, rfl, rfl, trivial⟩, rfl⟩ ?_
      rintro ⟨k, ⟨w, hw⟩⟩ ρ L ⟨hk1, hk2, hk, rfl⟩
      dsimp only at hk1 hk2 hk ⊢
      refine ok_regs hk ?_
      have lt0 : ((all.drop off).take k).length = k := by rw [List.length_take, List.length_drop]; omega
      have lt : (((all.drop off).take k).map strV).length = k := by rw [List.length_map, lt0]
      cases t3 : decide (((off + k : Nat) : Int) < (all.length : Int)) with
      | false =>
        have e1 : (all.drop off).take most.toNat = (all.drop off).take k := by
          have := of_decide_eq_false t3
          rw [List.take_of_length_le (by rw [List.length_drop]; split at hk2 <;> omega), List.take_of_length_le (by rw [List.length_drop]; omega)]
        rw [e1]
        repeat' (first | (refine go_Y ?_; intros) | (refine gs_Y ?_ ?_ <;> (intro hgd; try (simp only [Bool.not_true, Bool.not_false] at hgd))) | (refine gc_Y ?_ ?_ <;> intro _) | fail)
        refine cl_Y (hN) ?_
        intro _ _
        repeat' (first | (refine go_Y ?_; intros) | (refine gs_Y ?_ ?_ <;> (intro hgd; try (simp only [Bool.not_true, Bool.not_false] at hgd))) | (refine gc_Y ?_ ?_ <;> intro _) | fail)
        (refine rt_Y (y := ⟨w, hw⟩) (hrs := Tryz.results51) (hv := ?_) (hφ := ?_))
        · rfl
        · trivial
      | true =>
        have h3 : off + k < all.length := by have := of_decide_eq_true t3; omega
        cases t4 : decide (((((all.drop off).take k).map strV).length : Int) < most) with
        | false =>
          have e1 : (all.drop off).take most.toNat = (all.drop off).take k := by
            have := of_decide_eq_false t4
            rw [lt] at this
            congr 1
            split at hk2 <;> omega
          rw [e1]
          repeat' (first | (refine go_Y ?_; intros) | (refine gs_Y ?_ ?_ <;> (intro hgd; try (simp only [Bool.not_true, Bool.not_false] at hgd))) | (refine gc_Y ?_ ?_ <;> intro _) | fail)
          refine cl_Y (hN) ?_
          intro _ _
          repeat' (first | (refine go_Y ?_; intros) | (refine gs_Y ?_ ?_ <;> (intro hgd; try (simp only [Bool.not_true, Bool.not_false] at hgd))) | (refine gc_Y ?_ ?_ <;> intro _) | fail)
          (refine rt_Y (y := ⟨w, hw⟩) (hrs := Tryz.results51) (hv := ?_) (hφ := ?_))
          · rfl
          · trivial
        | true =>
          have h4 := of_decide_eq_true t4
          rw [lt] at h4
          have hx : (all.map strV)[off + k]? = some (strV all[off + k]) := by rw [List.getElem?_map, List.getElem?_eq_getElem h3]; rfl
          have hin : off + k < (all.map strV).length := by omega
          have htk : ((all.drop off).take (k + 1)).map strV = ((all.drop off).take k).map strV ++ [strV all[off + k]] := by
            rw [List.take_succ_eq_append_getElem (by rw [List.length_drop]; omega), List.map_append, List.getElem_drop]; rfl
          refine ok_learn (VwIn.base (n := 1) (p := p) (len := (all.map strV).length) (cap := c) (xs := all.map strV) (VwIn.there (VwIn.there (VwIn.here Vw.row))) (by intro e; rw [e] at hin; simp at hin)) ?_
          rintro ⟨bu, ou, rfl⟩
          have hw1 : IntKind.u64.wrap (arith BinOp.add ((off + k : Nat) : Int) 1) = ((off + (k + 1) : Nat) : Int) := tp_wrap64 (off + (k + 1)) (by omega)
          generalize all[off + k] = q at hx htk
          dsimp only [strV] at hx
          repeat' (first | (refine go_Y ?_; intros) | (refine gs_Y ?_ ?_ <;> (intro hgd; try (simp only [Bool.not_true, Bool.not_false] at hgd))) | (refine gc_Y ?_ ?_ <;> intro _) | fail)
          refine cl_Y (hN) ?_
          intro _ _
          repeat' (first | (refine go_Y ?_; intros) | (refine gs_Y ?_ ?_ <;> (intro hgd; try (simp only [Bool.not_true, Bool.not_false] at hgd))) | (refine gc_Y ?_ ?_ <;> intro _) | fail)
          rename_i w2 hw2
          refine cont_map (L' := [row 9 1 w2 (((all.drop off).take (k + 1)).map strV), rtP rb (.slice (some ⟨bu, ou, none⟩) (all.map strV).length c) f sg, rwS (.slice (some ⟨bu, ou, none⟩) (all.map strV).length c) all] ++ R) (by rw [htk]; exact entD) ?_
          exact cont_back (k + 1, ⟨w2, hw2⟩) ⟨by dsimp only; omega, by dsimp only; split at hk2 <;> split <;> omega, ⟨rfl, rfl, rfl, congrArg (Value.int .u64) hw1, trivial⟩, rfl⟩ (by dsimp only; omega)
def rDropF (sg off n : Nat) : Nat → Nat → Nat
  | 0, f => f
  | k + 1, f => if f + sg ≤ off ∧ f + sg < n then rDropF sg off n k (f + sg) else f
set_option maxHeartbeats 4000000 in
theorem rDrop_spec (rb : Nat) (v : Value) (f0 sg off : Nat) (all : List BA) (hl : all.length ≤ 1000000000) (ho : off ≤ all.length) (hs : 1 ≤ sg) (hs1 : sg ≤ 1000000) (hf : f0 ≤ 1000000000) :
    FSpec Tryz.prog 26 [.pointer (some ⟨rb, 0, none⟩), .int .u64 (off : Int)] [rtP rb v f0 sg, rwS v all] Unit (fun _ => True) (fun _ => .int .i64 0) (fun _ => [rtP rb v (rDropF sg off all.length all.length f0) sg, rwS v all]) := by
  have hN := fun f => rNext_spec rb v f sg all hl
  have t1 : decide ((all.length : Int) < (off : Int)) = false := decide_eq_false (by omega)
  generalize hres : rDropF sg off all.length all.length f0 = res
  refine spec_intro [] _ Tryz.func26 rfl Tryz.ntmps26 (by rfl) (fun w0 R => ?_)
  repeat' (first | (refine go_Y ?_; intros) | (refine gs_Y ?_ ?_ <;> (intro hgd; try (simp only [Bool.not_true, Bool.not_false] at hgd))) | (refine gc_Y ?_ ?_ <;> intro _) | fail)
  refine cl_Y (hN f0) ?_
  intro _ _
  repeat' (first | (refine go_Y ?_; intros) | (refine gs_Y ?_ ?_ <;> (intro hgd; try (simp only [Bool.not_true, Bool.not_false] at hgd))) | (refine gc_Y ?_ ?_ <;> intro _) | fail)
  refine ok_loop' (γ := Nat × Nat) (fun g ρ L => rDropF sg off all.length g.1 g.2 = res ∧ all.length ≤ g.1 + g.2 ∧ g.2 ≤ 1000000000 ∧ Knows ρ [(0, .pointer (some ⟨rb, 0, none⟩)), (1, .int .u64 (off : Int))] ∧ L = [rtP rb v g.2 sg, rwS v all] ++ R) (fun g => all.length - g.2) (all.length, f0) ⟨hres, by dsimp only; omega, hf, ⟨rfl, rfl, trivial⟩, rfl⟩ ?_
  rintro ⟨k, f⟩ ρ L ⟨hr, hkf, hfm, hk, rfl⟩
  dsimp only at hr hkf hfm hk ⊢
  refine ok_regs hk ?_
  have hw : IntKind.u64.wrap (arith BinOp.add (f : Int) (sg : Int)) = ((f + sg : Nat) : Int) := tp_wrap64 (f + sg) (by omega)
  cases t2 : decide (IntKind.u64.wrap (arith BinOp.add (f : Int) (sg : Int)) ≤ (off : Int)) with
  | false =>
    have h2 := of_decide_eq_false t2
    rw [hw] at h2
    have e1 : res = f := by
      rw [← hr]
      cases k with
      | zero => rfl
      | succ k => rw [rDropF, if_neg (by omega)]
    subst e1
    repeat' (first | (refine go_Y ?_; intros) | (refine gs_Y ?_ ?_ <;> (intro hgd; try (simp only [Bool.not_true, Bool.not_false] at hgd))) | (refine gc_Y ?_ ?_ <;> intro _) | fail)
    refine ok_drawL (cv := []) [22] ([rtP rb v res sg, rwS v all]) (takeD) (by kernel_rfl) rfl (by decide +kernel) ?_
    repeat' (first | (refine go_Y ?_; intros) | (refine gs_Y ?_ ?_ <;> (intro hgd; try (simp only [Bool.not_true, Bool.not_false] at hgd))) | (refine gc_Y ?_ ?_ <;> intro _) | fail)
    (refine rt_Y (y := ()) (hrs := Tryz.results26) (hv := ?_) (hφ := ?_))
    · rfl
    · trivial
  | true =>
    have h2 := of_decide_eq_true t2
    rw [hw] at h2
    cases t3 : decide (IntKind.u64.wrap (arith BinOp.add (f : Int) (sg : Int)) < (all.length : Int)) with
    | false =>
      have h3 := of_decide_eq_false t3
      rw [hw] at h3
      have e1 : res = f := by
        rw [← hr]
        cases k with
        | zero => rfl
        | succ k => rw [rDropF, if_neg (by omega)]
      subst e1
      repeat' (first | (refine go_Y ?_; intros) | (refine gs_Y ?_ ?_ <;> (intro hgd; try (simp only [Bool.not_true, Bool.not_false] at hgd))) | (refine gc_Y ?_ ?_ <;> intro _) | fail)
      refine ok_drawL (cv := []) [22] ([rtP rb v res sg, rwS v all]) (takeD) (by kernel_rfl) rfl (by decide +kernel) ?_
      repeat' (first | (refine go_Y ?_; intros) | (refine gs_Y ?_ ?_ <;> (intro hgd; try (simp only [Bool.not_true, Bool.not_false] at hgd))) | (refine gc_Y ?_ ?_ <;> intro _) | fail)
      refine clN_Y (hN res) ?_
      intro _ _
      repeat' (first | (refine go_Y ?_; intros) | (refine gs_Y ?_ ?_ <;> (intro hgd; try (simp only [Bool.not_true, Bool.not_false] at hgd))) | (refine gc_Y ?_ ?_ <;> intro _) | fail)
      (refine rt_Y (y := ()) (hrs := Tryz.results26) (hv := ?_) (hφ := ?_))
      · rfl
      · trivial
    | true =>
      have h3 := of_decide_eq_true t3
      rw [hw] at h3
      obtain ⟨k, rfl⟩ : ∃ j, k = j + 1 := ⟨k - 1, by omega⟩
      rw [rDropF, if_pos (by omega)] at hr
      repeat' (first | (refine go_Y ?_; intros) | (refine gs_Y ?_ ?_ <;> (intro hgd; try (simp only [Bool.not_true, Bool.not_false] at hgd))) | (refine gc_Y ?_ ?_ <;> intro _) | fail)
      refine ok_drawL (cv := []) [22] ([rtP rb v f sg, rwS v all]) (takeD) (by kernel_rfl) rfl (by decide +kernel) ?_
      repeat' (first | (refine go_Y ?_; intros) | (refine gs_Y ?_ ?_ <;> (intro hgd; try (simp only [Bool.not_true, Bool.not_false] at hgd))) | (refine gc_Y ?_ ?_ <;> intro _) | fail)
      refine clN_Y (hN f) ?_
      intro _ _
      repeat' (first | (refine go_Y ?_; intros) | (refine gs_Y ?_ ?_ <;> (intro hgd; try (simp only [Bool.not_true, Bool.not_false] at hgd))) | (refine gc_Y ?_ ?_ <;> intro _) | fail)
      refine cont_map (L' := [rtP rb v (f + sg) sg, rwS v all] ++ R) (by unfold rtP; rw [← hw]; exact entD) ?_
      exact cont_back (k, f + sg) ⟨hr, by dsimp only; omega, by dsimp only; omega, ⟨rfl, rfl, trivial⟩, rfl⟩ (by dsimp only; omega)
theorem rCopy_spec (rb : Nat) (v : Value) (f sg : Nat) (all : List BA) (hl : all.length ≤ 1000000000) :
    FSpec Tryz.prog 29 [.pointer (some ⟨rb, 0, none⟩)] [rtP rb v f sg, rwS v all] (Nat × V1s) (fun _ => True) (fun y => .pointer (some ⟨y.1, 0, none⟩)) (fun y => [rtP y.1 y.2.1 f sg, rwS y.2.1 all, rtP rb v f sg, rwS v all]) := by
  have la : (all.map strV).length = all.length := by simp
  refine spec_intro [] _ Tryz.func29 rfl Tryz.ntmps29 (by rfl) (fun w0 R => ?_)
  refine ok_learn (rowShapeS (e := 9) (n := 1) (v := v) (xs := all.map strV) (by decide) takeD) ?_
  rintro ⟨p, c, rfl, hc, _⟩
  refine ok_map (fun _ h => nilRow (e := 9) (n := 1) h) ?_
  repeat' (first | (refine go_Y ?_; intros) | (refine gs_Y ?_ ?_ <;> (intro hgd; try (simp only [Bool.not_true, Bool.not_false] at hgd))) | (refine gc_Y ?_ ?_ <;> intro _) | fail)
  refine ok_drawL (cv := []) [4] ([rtP rb (.slice p (all.map strV).length c) f sg, rwS (.slice p (all.map strV).length c) all]) (takeD) (by kernel_rfl) rfl (by decide +kernel) ?_
  repeat' (first | (refine go_Y ?_; intros) | (refine gs_Y ?_ ?_ <;> (intro hgd; try (simp only [Bool.not_true, Bool.not_false] at hgd))) | (refine gc_Y ?_ ?_ <;> intro _) | fail)
  rename_i w hw
  refine ops_learn (rowShapeS (e := 9) (n := 1) (v := w) (xs := [] ++ all.map strV) (by decide) takeD) ?_
  rintro ⟨p2, c2, rfl, hc2, _⟩
  rw [List.nil_append] at hw ⊢
  repeat' (first | (refine go_Y ?_; intros) | (refine gs_Y ?_ ?_ <;> (intro hgd; try (simp only [Bool.not_true, Bool.not_false] at hgd))) | (refine gc_Y ?_ ?_ <;> intro _) | fail)
  rename_i b2
  refine cont_map (L' := [rtP b2 (.slice p2 (all.map strV).length c2) f sg, rwS (.slice p2 (all.map strV).length c2) all, rtP rb (.slice p (all.map strV).length c) f sg, rwS (.slice p (all.map strV).length c) all] ++ R) entD ?_
  (refine rt_Y (y := (b2, ⟨.slice p2 (all.map strV).length c2, rfl⟩)) (hrs := Tryz.results29) (hv := ?_) (hφ := ?_))
  · rfl
  · trivial
structure Ts where
  op : Int
  l : List BA
  v : V1s
  off : Nat
  n : Int
  m : Int
def tsV (x : Ts) : List Value := [.int .i64 x.op, x.v.1, .int .u64 (x.off : Int), .int .i64 x.n, .int .i64 x.m]
def wtL (l : List BA) : Nat := 20 * l.length + sumZ l
def wtS (xs : List Ts) : Nat := (xs.map fun x => wtL x.l).sum
theorem wtS_take {xs : List Ts} {n : Nat} (h : n < xs.length) : wtS (xs.take (n + 1)) = wtS (xs.take n) + wtL xs[n].l := by
  unfold wtS
  rw [List.take_succ_eq_append_getElem h, List.map_append, List.sum_append]
  simp
theorem wtL_take {l : List BA} {n : Nat} (h : n < l.length) : wtL (l.take (n + 1)) = wtL (l.take n) + (20 + l[n].size) := by
  unfold wtL
  rw [sumZ_take h, List.length_take, List.length_take]
  omega
theorem wtL_lenT (l : List BA) : lenT l ≤ wtL l := by
  unfold wtL
  rw [lenT_sumZ]; omega
set_option maxHeartbeats 4000000 in
theorem HeavyT_spec (u : Value) (A : HProp) (xs : List Ts) (hA : Vw A 5 u (xs.map tsV)) (hv : ∀ x ∈ xs, Vw A 1 x.v.1 (x.l.map strV) ∧ ∀ s ∈ x.l, s.size ≤ 140737488355328) :
    FSpec Tryz.prog 8 [u] [A] Bool (fun y => y = false → xs.length ≤ 80 ∧ wtS xs ≤ 16384 ∧ ∀ x ∈ xs, x.l.length ≤ 200 ∧ sumZ x.l ≤ 32768) (fun y => .bool y) (fun _ => [A]) := by
  have hlen : (xs.map tsV).length = xs.length := by simp
  refine spec_intro [] _ Tryz.func8 rfl Tryz.ntmps8 (by rfl) (fun w0 R => ?_)
  refine ok_learn (VwIn.slice (VwIn.here hA)) ?_
  rintro ⟨pu, cu, rfl⟩
  repeat' (first | (refine go_Y ?_; intros) | (refine gs_Y ?_ ?_ <;> (intro hgd; try (simp only [Bool.not_true, Bool.not_false] at hgd))) | (refine gc_Y ?_ ?_ <;> intro _) | fail)
  refine ok_loop' (γ := Nat) (fun g ρ L => g ≤ xs.length ∧ g ≤ 200 ∧ (∀ x ∈ xs.take g, x.l.length ≤ 200 ∧ sumZ x.l ≤ 32768) ∧ wtS (xs.take g) ≤ g * 40000 ∧ Knows ρ [(0, .slice pu (xs.map tsV).length cu), (3, .int .i64 (wtS (xs.take g))), (4, .int .i64 g)] ∧ L = [A] ++ R) (fun g => xs.length - g) 0 ⟨by simp, by simp, by simp, by simp [wtS], ⟨rfl, rfl, rfl, trivial⟩, rfl⟩ ?_
  rintro i ρ L ⟨hi, hi1, hall, hs, hk, rfl⟩
  refine ok_regs hk ?_
  cases t1 : decide ((i : Int) < ((xs.map tsV).length : Int)) with
  | false =>
    have hie : i = xs.length := by have := of_decide_eq_false t1; omega
    have hfull : xs.take i = xs := by rw [hie]; exact List.take_length
    rw [hfull] at hall hs ⊢
    cases t5 : decide ((80 : Int) < ((xs.map tsV).length : Int)) with
    | true =>
      repeat' (first | (refine go_Y ?_; intros) | (refine gs_Y ?_ ?_ <;> (intro hgd; try (simp only [Bool.not_true, Bool.not_false] at hgd))) | (refine gc_Y ?_ ?_ <;> intro _) | fail)
      (refine rt_Y (y := true) (hrs := Tryz.results8) (hv := ?_) (hφ := ?_))
      · rfl
      · exact fun h => by cases h
    | false =>
      repeat' (first | (refine go_Y ?_; intros) | (refine gs_Y ?_ ?_ <;> (intro hgd; try (simp only [Bool.not_true, Bool.not_false] at hgd))) | (refine gc_Y ?_ ?_ <;> intro _) | fail)
      (refine rt_Y (y := decide ((16384 : Int) < (wtS xs : Int))) (hrs := Tryz.results8) (hv := ?_) (hφ := ?_))
      · rfl
      · exact fun h => ⟨by have := of_decide_eq_false t5; omega, by have := of_decide_eq_false h; omega, hall⟩
  | true =>
    have h : i < xs.length := by have := of_decide_eq_true t1; omega
    cases t2 : decide ((i : Int) < 200) with
    | false =>
      have hbig : decide ((80 : Int) < ((xs.map tsV).length : Int)) = true := decide_eq_true (by have := of_decide_eq_false t2; omega)
      repeat' (first | (refine go_Y ?_; intros) | (refine gs_Y ?_ ?_ <;> (intro hgd; try (simp only [Bool.not_true, Bool.not_false] at hgd))) | (refine gc_Y ?_ ?_ <;> intro _) | fail)
      (refine rt_Y (y := true) (hrs := Tryz.results8) (hv := ?_) (hφ := ?_))
      · rfl
      · exact fun h => by cases h
    | true =>
      have h3 : i < 200 := by have := of_decide_eq_true t2; omega
      have hn1 : i < (xs.map tsV).length := by omega
      have hx : (xs.map tsV)[i]? = some (tsV xs[i]) := by rw [List.getElem?_map, List.getElem?_eq_getElem h]; rfl
      have htk : xs.take (i + 1) = xs.take i ++ [xs[i]] := List.take_succ_eq_append_getElem h
      have hwt := wtS_take h
      obtain ⟨hvx, hzx⟩ := hv _ (List.getElem_mem h)
      refine ok_learn (VwIn.base (VwIn.here hA) (by intro e; rw [e] at hn1; simp at hn1)) ?_
      rintro ⟨bu, ou, rfl⟩
      generalize xs[i] = x at hx htk hvx hzx hwt
      obtain ⟨o, l, ⟨v, hvc⟩, off, n, k⟩ := x
      dsimp only at hvx hzx hwt
      dsimp only [tsV] at hx
      have hll : (l.map strV).length = l.length := by simp
      have hL := LargeT_spec v A l hvx hzx
      repeat' (first | (refine go_Y ?_; intros) | (refine gs_Y ?_ ?_ <;> (intro hgd; try (simp only [Bool.not_true, Bool.not_false] at hgd))) | (refine gc_Y ?_ ?_ <;> intro _) | fail)
      refine cl_Y (hL) ?_
      intro y hy
      cases y with
      | true =>
        repeat' (first | (refine go_Y ?_; intros) | (refine gs_Y ?_ ?_ <;> (intro hgd; try (simp only [Bool.not_true, Bool.not_false] at hgd))) | (refine gc_Y ?_ ?_ <;> intro _) | fail)
        (refine rt_Y (y := true) (hrs := Tryz.results8) (hv := ?_) (hφ := ?_))
        · rfl
        · exact fun h => by cases h
      | false =>
        obtain ⟨hl2, hz2⟩ := hy rfl
        refine ops_learn (VwIn.slice (VwIn.here hvx)) ?_
        rintro ⟨pv, cv, rfl⟩
        repeat' (first | (refine go_Y ?_; intros) | (refine gs_Y ?_ ?_ <;> (intro hgd; try (simp only [Bool.not_true, Bool.not_false] at hgd))) | (refine gc_Y ?_ ?_ <;> intro _) | fail)
        refine ok_loop' (γ := Nat) (fun k ρ L => k ≤ l.length ∧ Knows ρ [(0, .slice (some ⟨bu, ou, none⟩) (xs.map tsV).length cu), (3, .int .i64 ((wtS (xs.take i) + wtL (l.take k) : Nat) : Int)), (4, .int .i64 i), (5, .int .i64 k)] ∧ L = [A] ++ R) (fun k => l.length - k) 0 ⟨by simp, ⟨rfl, rfl, rfl, rfl, trivial⟩, rfl⟩ ?_
        rintro k ρ L ⟨hkl, hk, rfl⟩
        refine ok_regs hk ?_
        have hpre : wtL (l.take k) ≤ 37000 := by
          unfold wtL
          have h1 : sumZ (l.take k) ≤ sumZ l := by
            have := congrArg sumZ (List.take_append_drop k l)
            rw [sumZ_app] at this
            omega
          rw [List.length_take]
          omega
        cases t3 : decide ((k : Int) < ((l.map strV).length : Int)) with
        | false =>
          have hke : k = l.length := by have := of_decide_eq_false t3; omega
          subst hke
          rw [List.take_length] at hpre
          rw [List.take_length]
          repeat' (first | (refine go_Y ?_; intros) | (refine gs_Y ?_ ?_ <;> (intro hgd; try (simp only [Bool.not_true, Bool.not_false] at hgd))) | (refine gc_Y ?_ ?_ <;> intro _) | fail)
          refine cont_back (i + 1) ⟨h, by omega, ?_, by omega, ⟨rfl, by rw [hwt]; rfl, rfl, trivial⟩, rfl⟩ (by omega)
          intro x hxm
          rw [htk] at hxm
          rcases List.mem_append.1 hxm with hxm | hxm
          · exact hall x hxm
          · rw [List.mem_singleton] at hxm; subst hxm; exact ⟨hl2, hz2⟩
        | true =>
          have hk1 : k < l.length := by have := of_decide_eq_true t3; omega
          have hn2 : k < (l.map strV).length := by omega
          have hy : (l.map strV)[k]? = some (strV l[k]) := by rw [List.getElem?_map, List.getElem?_eq_getElem hk1]; rfl
          have hlk := wtL_take hk1
          have z2 := hzx _ (List.getElem_mem hk1)
          refine ok_learn (VwIn.base (VwIn.here hvx) (by intro e; rw [e] at hn2; simp at hn2)) ?_
          rintro ⟨bv, ov, rfl⟩
          generalize l[k] = t at hy hlk z2
          dsimp only [strV] at hy
          have hsum : (((wtS (xs.take i) + wtL (l.take k) : Nat) : Int) + 20) + (t.size : Int) = ((wtS (xs.take i) + wtL (l.take (k + 1)) : Nat) : Int) := by omega
          repeat' (first | (refine go_Y ?_; intros) | (refine gs_Y ?_ ?_ <;> (intro hgd; try (simp only [Bool.not_true, Bool.not_false] at hgd))) | (refine gc_Y ?_ ?_ <;> intro _) | fail)
          refine cont_back (k + 1) ⟨hk1, ⟨rfl, congrArg (Value.int .i64) hsum, rfl, rfl, trivial⟩, rfl⟩ (by omega)
end Go.Proofs.YtadgdikijdmceaaGreat
