/- The walks of fascicleref07: four, Put, Scan. -/
import Derived.Test.YtbagfdolcabniaaGreatR1C
import Derived.Test.YtbagfdolcabniaaGreatY
import Derived.Test.YtbagfdolcabniaaGreatG12
-- @DEFS Y
set_option linter.unusedSimpArgs false
set_option linter.unusedVariables false
set_option maxRecDepth 4000
namespace Go.Proofs.YtbagfdolcabniaaGreat
open Go Go.Fx Go.Proofs Go.Pl

theorem ref7four_spec (v : Nat) (h : v < 4294967296) : FSpec Tryz.prog 92 [.int .u32 (v : Int)] [] Unit (fun _ => True) (fun _ => .string (put4 v)) (fun _ => []) := by
  have w1 : IntKind.u64.wrap (v : Int) = (v : Int) := wrap_u64n v (by omega)
  refine spec_intro [] _ Tryz.func92 rfl Tryz.ntmps92 (by rfl) (fun w0 R => ?_)
  repeat' (first | (refine go_Y ?_; intros) | (refine gs_Y ?_ ?_ <;> (intro hgd; try (simp only [Bool.not_true, Bool.not_false] at hgd))) | (refine gc_Y ?_ ?_ <;> intro _) | fail)
  refine cl_Y (ref1Put_spec v 4 (by omega) (by omega) (by omega) (.inr (by simpa using h))) ?_
  intro _ _
  repeat' (first | (refine go_Y ?_; intros) | (refine gs_Y ?_ ?_ <;> (intro hgd; try (simp only [Bool.not_true, Bool.not_false] at hgd))) | (refine gc_Y ?_ ?_ <;> intro _) | fail)
  (refine rt_Y (y := ()) (hrs := Tryz.results92) (hv := ?_) (hφ := ?_))
  · rfl
  · trivial
theorem ref7sum_spec (s : BA) (hs : s.size ≤ 4611686018427387904) : FSpec Tryz.prog 93 [.string s] [] Unit (fun _ => True) (fun _ => .int .u32 (sumN s : Int)) (fun _ => []) := by
  have h := ref1Sum_spec s hs
  rw [(sumN_eq s).1] at h
  exact h
theorem ref7Put_spec (s : BA) (h : s.size ≤ 4194304) : FSpec Tryz.prog 71 [.string s] [] Unit (fun _ => True) (fun _ => .tuple #[.string (frameOf s), .int .i64 0]) (fun _ => []) := by
  have t1 : decide ((4194304 : Int) < (s.size : Int)) = false := by simp; omega
  have w1 : IntKind.u32.wrap (s.size : Int) = (s.size : Int) := wrap_u32n _ (by omega)
  have z1 := put4_size s.size
  have z2 := put4_size (sumN (put4 s.size))
  have z3 := put4_size (sumN s)
  have z4 : (put4 s.size ++ put4 (sumN (put4 s.size))).size = 8 := by rw [ByteArray.size_append]; omega
  have z5 : (put4 s.size ++ put4 (sumN (put4 s.size)) ++ put4 (sumN s)).size = 12 := by rw [ByteArray.size_append]; omega
  refine spec_intro [] _ Tryz.func71 rfl Tryz.ntmps71 (by rfl) (fun w0 R => ?_)
  repeat' (first | (refine go_Y ?_; intros) | (refine gs_Y ?_ ?_ <;> (intro hgd; try (simp only [Bool.not_true, Bool.not_false] at hgd))) | (refine gc_Y ?_ ?_ <;> intro _) | fail)
  refine cl_Y (ref7four_spec s.size (by omega)) ?_
  intro _ _
  repeat' (first | (refine go_Y ?_; intros) | (refine gs_Y ?_ ?_ <;> (intro hgd; try (simp only [Bool.not_true, Bool.not_false] at hgd))) | (refine gc_Y ?_ ?_ <;> intro _) | fail)
  refine cl_Y (ref7sum_spec (put4 s.size) (by omega)) ?_
  intro _ _
  repeat' (first | (refine go_Y ?_; intros) | (refine gs_Y ?_ ?_ <;> (intro hgd; try (simp only [Bool.not_true, Bool.not_false] at hgd))) | (refine gc_Y ?_ ?_ <;> intro _) | fail)
  refine cl_Y (ref7four_spec (sumN (put4 s.size)) (sumN_eq _).2) ?_
  intro _ _
  repeat' (first | (refine go_Y ?_; intros) | (refine gs_Y ?_ ?_ <;> (intro hgd; try (simp only [Bool.not_true, Bool.not_false] at hgd))) | (refine gc_Y ?_ ?_ <;> intro _) | fail)
  refine cl_Y (ref7sum_spec s (by omega)) ?_
  intro _ _
  repeat' (first | (refine go_Y ?_; intros) | (refine gs_Y ?_ ?_ <;> (intro hgd; try (simp only [Bool.not_true, Bool.not_false] at hgd))) | (refine gc_Y ?_ ?_ <;> intro _) | fail)
  refine cl_Y (ref7four_spec (sumN s) (sumN_eq _).2) ?_
  intro _ _
  repeat' (first | (refine go_Y ?_; intros) | (refine gs_Y ?_ ?_ <;> (intro hgd; try (simp only [Bool.not_true, Bool.not_false] at hgd))) | (refine gc_Y ?_ ?_ <;> intro _) | fail)
  (refine rt_Y (y := ()) (hrs := Tryz.results71) (hv := ?_) (hφ := ?_))
  · rfl
  · trivial

/-! ### Scan -/
theorem put4_eq (v : Nat) (h : v < 4294967296) (t : BA) (ht : t.size = 4) : (!((put4 v).toList == t.toList)) = !decide ((v : Int) = getU t) := by
  congr 1
  rw [Bool.eq_iff_iff, eqS_iff, decide_eq_true_eq, getU_nat4 t ht]
  constructor
  · rintro rfl
    have h1 := put4_get v h
    rw [getU_nat4 _ ht] at h1
    exact h1.symm
  · intro e
    have e' : v = nat4 (bl t) := by exact_mod_cast e
    subst e'
    have h2 := putL_nat4 (bl t)
    rw [bl_len, ht] at h2
    exact bl_inj (by show putL (nat4 (bl t)) 4 = bl t; exact h2)
theorem scanOf_step (r : BA) (h : r.size ≠ 0) : scanOf r = (if (nextF r).2 ≠ 0 then ([], 0, (nextF r).2) else
    ((nextF r).1 :: (scanOf (r.extract (12 + (nextF r).1.size) r.size)).1, 12 + (nextF r).1.size + (scanOf (r.extract (12 + (nextF r).1.size) r.size)).2.1, (scanOf (r.extract (12 + (nextF r).1.size) r.size)).2.2)) := by
  obtain ⟨k, hk⟩ : ∃ k, r.size = k + 1 := ⟨r.size - 1, by omega⟩
  have e : scanOf r = scanF (k + 1) r := by unfold scanOf; rw [hk]
  rw [e]
  unfold scanF
  rw [if_neg h]
  split
  · rfl
  · rw [scanF_fuel k _ (by rw [ByteArray.size_extract]; omega)]
theorem scan_stop {r : BA} {e : Int} (h : r.size ≠ 0) (hn : (nextF r).2 = e) (he : e ≠ 0) : scanOf r = ([], 0, e) := by
  rw [scanOf_step r h, hn, if_pos he]
theorem scan_go {r s : BA} (h : r.size ≠ 0) (hn : nextF r = (s, 0)) : scanOf r = (s :: (scanOf (r.extract (12 + s.size) r.size)).1, 12 + s.size + (scanOf (r.extract (12 + s.size) r.size)).2.1, (scanOf (r.extract (12 + s.size) r.size)).2.2) := by
  rw [scanOf_step r h, hn, if_neg (by simp)]

set_option maxHeartbeats 3000000 in
theorem ref7Scan_spec (b : BA) (hb : b.size ≤ 1099511627776) : FSpec Tryz.prog 75 [.string b] [] { v : Value // v.oneCell' = true } (fun _ => True) (fun v => .tuple #[v.1, .int .i64 (scanOf b).2.1, .int .i64 (scanOf b).2.2]) (fun v => [row 9 1 v.1 ((scanOf b).1.map strV)]) := by
  refine spec_intro [] _ Tryz.func75 rfl Tryz.ntmps75 (by rfl) (fun w0 R => ?_)
  repeat' (first | (refine go_Y ?_; intros) | (refine gs_Y ?_ ?_ <;> (intro hgd; try (simp only [Bool.not_true, Bool.not_false] at hgd))) | (refine gc_Y ?_ ?_ <;> intro _) | fail)
  refine ok_map (fun _ h => rowNil (e := 9) (n := 1) h) ?_
  refine ok_loop' (γ := List BA × Nat × { v : Value // v.oneCell' = true }) (fun g ρ L => g.2.1 ≤ b.size ∧ g.1.length ≤ g.2.1 ∧ scanOf b = (g.1 ++ (scanOf (b.extract g.2.1 b.size)).1, g.2.1 + (scanOf (b.extract g.2.1 b.size)).2.1, (scanOf (b.extract g.2.1 b.size)).2.2) ∧
    Knows ρ [(0, .string b), (5, g.2.2.1), (6, .int .i64 (g.2.1 : Int))] ∧ L = [row 9 1 g.2.2.1 (g.1.map strV)] ++ R) (fun g => b.size - g.2.1) ([], 0, ⟨.slice none 0 0, rfl⟩) ⟨by simp, by simp, by simp, ⟨rfl, rfl, rfl, trivial⟩, rfl⟩ ?_
  rintro ⟨l, at_, ⟨v, hv⟩⟩ ρ L ⟨hat, hll, hsc, hk, rfl⟩
  dsimp only at hat hll hsc hk ⊢
  refine ok_regs hk ?_
  have hlm : (l.map strV).length = l.length := by simp
  cases t1 : decide ((at_ : Int) < (b.size : Int)) with
  | false =>
    have hae : at_ = b.size := by simp at t1; omega
    subst hae
    have he : b.extract b.size b.size = ⟨#[]⟩ := by apply bl_inj; rw [bl_ext]; simp; rfl
    rw [he, scanOf_nil] at hsc
    rw [hsc]
    dsimp only
    rw [List.append_nil]
    repeat' (first | (refine go_Y ?_; intros) | (refine gs_Y ?_ ?_ <;> (intro hgd; try (simp only [Bool.not_true, Bool.not_false] at hgd))) | (refine gc_Y ?_ ?_ <;> intro _) | fail)
    (refine rt_Y (y := ⟨v, hv⟩) (hrs := Tryz.results75) (hv := ?_) (hφ := ?_))
    · rfl
    · trivial
  | true =>
    have ha : at_ < b.size := by simpa using t1
    have hrz : (b.extract at_ b.size).size = b.size - at_ := by rw [ByteArray.size_extract]; omega
    have hrr : ∀ n, (b.extract at_ b.size).extract n (b.extract at_ b.size).size = b.extract (at_ + n) b.size := by
      intro n
      apply bl_inj
      rw [bl_ext, bl_ext, bl_ext, hrz]
      rw [List.drop_take, List.drop_drop, List.take_take]
      congr 1
      omega
    have htn : (at_ : Int).toNat = at_ := by simp
    obtain ⟨r, hr⟩ : ∃ r, r = b.extract (at_ : Int).toNat b.size := ⟨_, rfl⟩
    have hre : b.extract at_ b.size = r := by rw [hr, htn]
    rw [hre] at hsc hrz hrr
    have hr0 : r.size ≠ 0 := by omega
    clear hre
    cases t2 : decide ((r.size : Int) < 8) with
    | true =>
      have hs := scan_stop (e := 70) hr0 (by unfold nextF; rw [if_pos (by have := of_decide_eq_true t2; omega)]) (by decide)
      rw [hs] at hsc
      rw [hsc]
      dsimp only
      rw [List.append_nil]
      subst hr
      repeat' (first | (refine go_Y ?_; intros) | (refine gs_Y ?_ ?_ <;> (intro hgd; try (simp only [Bool.not_true, Bool.not_false] at hgd))) | (refine gc_Y ?_ ?_ <;> intro _) | fail)
      (refine rt_Y (y := ⟨v, hv⟩) (hrs := Tryz.results75) (hv := ?_) (hφ := ?_))
      · rfl
      · trivial
    | false =>
      have h8 : ¬ r.size < 8 := by have := of_decide_eq_false t2; omega
      have z0 : (r.extract 0 4).size = 4 := by rw [ByteArray.size_extract]; omega
      have z1 : (r.extract 4 8).size = 4 := by rw [ByteArray.size_extract]; omega
      have hg := ref1Get_spec (r.extract 0 4) (by omega) (by omega)
      have hu := getU_nat4 (r.extract 0 4) z0
      have hn4 : nat4 (bl (r.extract 0 4)) < 4294967296 := by have := getU_range (r.extract 0 4); omega
      have hs := ref7sum_spec (r.extract 0 4) (by omega)
      have hf := ref7four_spec (sumN (r.extract 0 4)) (sumN_eq _).2
      have he4 := put4_eq (sumN (r.extract 0 4)) (sumN_eq _).2 (r.extract 4 8) z1
      have hsu := (sumN_eq (r.extract 0 4)).1
      generalize nat4 (bl (r.extract 0 4)) = n at hg hu hn4
      generalize sumN (r.extract 0 4) = c at hs hf he4 hsu
      generalize put4 c = p4 at hf he4
      have he4 : (!(p4.toList == (r.extract (4 : Int).toNat (8 : Int).toNat).toList)) = !decide ((c : Int) = getU (r.extract 4 8)) := he4
      have hnext : nextF r = if sumS (r.extract 0 4) ≠ getU (r.extract 4 8) ∨ 4194304 < getU (r.extract 0 4) then (⟨#[]⟩, 71) else
        if (r.size : Int) < 12 + getU (r.extract 0 4) then (⟨#[]⟩, 70) else
        if sumS (r.extract 12 (12 + getU (r.extract 0 4)).toNat) ≠ getU (r.extract 8 12) then (⟨#[]⟩, 71) else
        (r.extract 12 (12 + getU (r.extract 0 4)).toNat, 0) := by rw [nextF, if_neg h8]
      rw [hu, hsu] at hnext
      cases t3 : (!(p4.toList == (r.extract (4 : Int).toNat (8 : Int).toNat).toList)) with
      | true =>
        have h3 : (c : Int) ≠ getU (r.extract 4 8) := by rw [he4] at t3; simpa using t3
        have hs' := scan_stop (e := 71) hr0 (by rw [hnext, if_pos (.inl h3)]) (by decide)
        rw [hs'] at hsc
        rw [hsc]
        dsimp only
        rw [List.append_nil]
        subst hr
        repeat' (first | (refine go_Y ?_; intros) | (refine gs_Y ?_ ?_ <;> (intro hgd; try (simp only [Bool.not_true, Bool.not_false] at hgd))) | (refine gc_Y ?_ ?_ <;> intro _) | fail)
        refine cl_Y (hg) ?_
        intro _ _
        repeat' (first | (refine go_Y ?_; intros) | (refine gs_Y ?_ ?_ <;> (intro hgd; try (simp only [Bool.not_true, Bool.not_false] at hgd))) | (refine gc_Y ?_ ?_ <;> intro _) | fail)
        refine cl_Y (hs) ?_
        intro _ _
        repeat' (first | (refine go_Y ?_; intros) | (refine gs_Y ?_ ?_ <;> (intro hgd; try (simp only [Bool.not_true, Bool.not_false] at hgd))) | (refine gc_Y ?_ ?_ <;> intro _) | fail)
        refine cl_Y (hf) ?_
        intro _ _
        repeat' (first | (refine go_Y ?_; intros) | (refine gs_Y ?_ ?_ <;> (intro hgd; try (simp only [Bool.not_true, Bool.not_false] at hgd))) | (refine gc_Y ?_ ?_ <;> intro _) | fail)
        (refine rt_Y (y := ⟨v, hv⟩) (hrs := Tryz.results75) (hv := ?_) (hφ := ?_))
        · rfl
        · trivial
      | false =>
        have h3 : (c : Int) = getU (r.extract 4 8) := by rw [he4] at t3; simpa using t3
        cases t4 : decide ((4194304 : Int) < (n : Int)) with
        | true =>
          have hs' := scan_stop (e := 71) hr0 (by rw [hnext, if_pos (.inr (by simpa using t4))]) (by decide)
          rw [hs'] at hsc
          rw [hsc]
          dsimp only
          rw [List.append_nil]
          subst hr
          repeat' (first | (refine go_Y ?_; intros) | (refine gs_Y ?_ ?_ <;> (intro hgd; try (simp only [Bool.not_true, Bool.not_false] at hgd))) | (refine gc_Y ?_ ?_ <;> intro _) | fail)
          refine cl_Y (hg) ?_
          intro _ _
          repeat' (first | (refine go_Y ?_; intros) | (refine gs_Y ?_ ?_ <;> (intro hgd; try (simp only [Bool.not_true, Bool.not_false] at hgd))) | (refine gc_Y ?_ ?_ <;> intro _) | fail)
          refine cl_Y (hs) ?_
          intro _ _
          repeat' (first | (refine go_Y ?_; intros) | (refine gs_Y ?_ ?_ <;> (intro hgd; try (simp only [Bool.not_true, Bool.not_false] at hgd))) | (refine gc_Y ?_ ?_ <;> intro _) | fail)
          refine cl_Y (hf) ?_
          intro _ _
          repeat' (first | (refine go_Y ?_; intros) | (refine gs_Y ?_ ?_ <;> (intro hgd; try (simp only [Bool.not_true, Bool.not_false] at hgd))) | (refine gc_Y ?_ ?_ <;> intro _) | fail)
          (refine rt_Y (y := ⟨v, hv⟩) (hrs := Tryz.results75) (hv := ?_) (hφ := ?_))
          · rfl
          · trivial
        | false =>
          rw [if_neg (fun h => h.elim (fun h => h h3) (fun h => of_decide_eq_false t4 h))] at hnext
          have w1 : IntKind.i64.wrap (n : Int) = (n : Int) := wrap_i64 (by omega) (by omega)
          clear hu hsu h3 he4
          cases t5 : decide ((r.size : Int) < 12 + (n : Int)) with
          | true =>
            have hs' := scan_stop (e := 70) hr0 (by rw [hnext, if_pos (by simpa using t5)]) (by decide)
            rw [hs'] at hsc
            rw [hsc]
            dsimp only
            rw [List.append_nil]
            subst hr
            repeat' (first | (refine go_Y ?_; intros) | (refine gs_Y ?_ ?_ <;> (intro hgd; try (simp only [Bool.not_true, Bool.not_false] at hgd))) | (refine gc_Y ?_ ?_ <;> intro _) | fail)
            refine cl_Y (hg) ?_
            intro _ _
            repeat' (first | (refine go_Y ?_; intros) | (refine gs_Y ?_ ?_ <;> (intro hgd; try (simp only [Bool.not_true, Bool.not_false] at hgd))) | (refine gc_Y ?_ ?_ <;> intro _) | fail)
            refine cl_Y (hs) ?_
            intro _ _
            repeat' (first | (refine go_Y ?_; intros) | (refine gs_Y ?_ ?_ <;> (intro hgd; try (simp only [Bool.not_true, Bool.not_false] at hgd))) | (refine gc_Y ?_ ?_ <;> intro _) | fail)
            refine cl_Y (hf) ?_
            intro _ _
            repeat' (first | (refine go_Y ?_; intros) | (refine gs_Y ?_ ?_ <;> (intro hgd; try (simp only [Bool.not_true, Bool.not_false] at hgd))) | (refine gc_Y ?_ ?_ <;> intro _) | fail)
            (refine rt_Y (y := ⟨v, hv⟩) (hrs := Tryz.results75) (hv := ?_) (hφ := ?_))
            · rfl
            · trivial
          | false =>
            have h5 : ¬ (r.size : Int) < 12 + (n : Int) := by simpa using t5
            rw [if_neg h5] at hnext
            have z2 : (r.extract 8 12).size = 4 := by rw [ByteArray.size_extract]; omega
            have z3 : (r.extract 12 (12 + (n : Int)).toNat).size = n := by rw [ByteArray.size_extract]; omega
            have hs2 := ref7sum_spec (r.extract 12 (12 + (n : Int)).toNat) (by omega)
            have hf2 := ref7four_spec (sumN (r.extract 12 (12 + (n : Int)).toNat)) (sumN_eq _).2
            have he2 := put4_eq (sumN (r.extract 12 (12 + (n : Int)).toNat)) (sumN_eq _).2 (r.extract 8 12) z2
            rw [(sumN_eq (r.extract 12 (12 + (n : Int)).toNat)).1] at hnext
            generalize sumN (r.extract 12 (12 + (n : Int)).toNat) = c2 at hs2 hf2 he2 hnext
            generalize put4 c2 = p5 at hf2 he2
            have he2 : (!(p5.toList == (r.extract (8 : Int).toNat (12 : Int).toNat).toList)) = !decide ((c2 : Int) = getU (r.extract 8 12)) := he2
            cases t6 : (!(p5.toList == (r.extract (8 : Int).toNat (12 : Int).toNat).toList)) with
            | true =>
              have h6 : (c2 : Int) ≠ getU (r.extract 8 12) := by rw [he2] at t6; simpa using t6
              have hs' := scan_stop (e := 71) hr0 (by rw [hnext, if_pos h6]) (by decide)
              clear h6 he2
              rw [hs'] at hsc
              rw [hsc]
              dsimp only
              rw [List.append_nil]
              subst hr
              repeat' (first | (refine go_Y ?_; intros) | (refine gs_Y ?_ ?_ <;> (intro hgd; try (simp only [Bool.not_true, Bool.not_false] at hgd))) | (refine gc_Y ?_ ?_ <;> intro _) | fail)
              refine cl_Y (hg) ?_
              intro _ _
              repeat' (first | (refine go_Y ?_; intros) | (refine gs_Y ?_ ?_ <;> (intro hgd; try (simp only [Bool.not_true, Bool.not_false] at hgd))) | (refine gc_Y ?_ ?_ <;> intro _) | fail)
              refine cl_Y (hs) ?_
              intro _ _
              repeat' (first | (refine go_Y ?_; intros) | (refine gs_Y ?_ ?_ <;> (intro hgd; try (simp only [Bool.not_true, Bool.not_false] at hgd))) | (refine gc_Y ?_ ?_ <;> intro _) | fail)
              refine cl_Y (hf) ?_
              intro _ _
              repeat' (first | (refine go_Y ?_; intros) | (refine gs_Y ?_ ?_ <;> (intro hgd; try (simp only [Bool.not_true, Bool.not_false] at hgd))) | (refine gc_Y ?_ ?_ <;> intro _) | fail)
              refine cl_Y (hs2) ?_
              intro _ _
              repeat' (first | (refine go_Y ?_; intros) | (refine gs_Y ?_ ?_ <;> (intro hgd; try (simp only [Bool.not_true, Bool.not_false] at hgd))) | (refine gc_Y ?_ ?_ <;> intro _) | fail)
              refine cl_Y (hf2) ?_
              intro _ _
              repeat' (first | (refine go_Y ?_; intros) | (refine gs_Y ?_ ?_ <;> (intro hgd; try (simp only [Bool.not_true, Bool.not_false] at hgd))) | (refine gc_Y ?_ ?_ <;> intro _) | fail)
              (refine rt_Y (y := ⟨v, hv⟩) (hrs := Tryz.results75) (hv := ?_) (hφ := ?_))
              · rfl
              · trivial
            | false =>
              have h6 : (c2 : Int) = getU (r.extract 8 12) := by rw [he2] at t6; simpa using t6
              rw [if_neg (by simpa using h6)] at hnext
              clear h6 he2
              have hs' := scan_go hr0 hnext
              rw [z3, hrr] at hs'
              rw [hs'] at hsc
              dsimp only at hsc
              subst hr
              repeat' (first | (refine go_Y ?_; intros) | (refine gs_Y ?_ ?_ <;> (intro hgd; try (simp only [Bool.not_true, Bool.not_false] at hgd))) | (refine gc_Y ?_ ?_ <;> intro _) | fail)
              refine cl_Y (hg) ?_
              intro _ _
              repeat' (first | (refine go_Y ?_; intros) | (refine gs_Y ?_ ?_ <;> (intro hgd; try (simp only [Bool.not_true, Bool.not_false] at hgd))) | (refine gc_Y ?_ ?_ <;> intro _) | fail)
              refine cl_Y (hs) ?_
              intro _ _
              repeat' (first | (refine go_Y ?_; intros) | (refine gs_Y ?_ ?_ <;> (intro hgd; try (simp only [Bool.not_true, Bool.not_false] at hgd))) | (refine gc_Y ?_ ?_ <;> intro _) | fail)
              refine cl_Y (hf) ?_
              intro _ _
              repeat' (first | (refine go_Y ?_; intros) | (refine gs_Y ?_ ?_ <;> (intro hgd; try (simp only [Bool.not_true, Bool.not_false] at hgd))) | (refine gc_Y ?_ ?_ <;> intro _) | fail)
              refine cl_Y (hs2) ?_
              intro _ _
              repeat' (first | (refine go_Y ?_; intros) | (refine gs_Y ?_ ?_ <;> (intro hgd; try (simp only [Bool.not_true, Bool.not_false] at hgd))) | (refine gc_Y ?_ ?_ <;> intro _) | fail)
              refine cl_Y (hf2) ?_
              intro _ _
              repeat' (first | (refine go_Y ?_; intros) | (refine gs_Y ?_ ?_ <;> (intro hgd; try (simp only [Bool.not_true, Bool.not_false] at hgd))) | (refine gc_Y ?_ ?_ <;> intro _) | fail)
              rename_i v' hv'
              refine cont_map (L' := [row 9 1 v' ((l ++ [(b.extract (at_ : Int).toNat b.size).extract 12 (12 + (n : Int)).toNat]).map strV)] ++ R) (by rw [List.map_append]; exact entD) ?_
              refine cont_back (l ++ [(b.extract (at_ : Int).toNat b.size).extract 12 (12 + (n : Int)).toNat], at_ + 12 + n, ⟨v', hv'⟩) ⟨by dsimp only; omega, by simp; omega, ?_, ⟨rfl, rfl, by show Value.int IntKind.i64 ((at_ : Int) + 12 + (n : Int)) = Value.int IntKind.i64 ((at_ + 12 + n : Nat) : Int); congr 1, trivial⟩, rfl⟩ (by dsimp only; omega)
              dsimp only
              rw [hsc, Nat.add_assoc]
              simp only [List.append_assoc, List.singleton_append, Nat.add_assoc]
end Go.Proofs.YtbagfdolcabniaaGreat
