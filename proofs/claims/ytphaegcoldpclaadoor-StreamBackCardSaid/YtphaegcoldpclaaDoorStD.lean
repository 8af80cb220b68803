import Derived.Test.YtphaegcoldpclaaDoorG7
set_option linter.unusedSimpArgs false
set_option linter.unusedVariables false
set_option maxRecDepth 100000
namespace Go.Proofs.YtphaegcoldpclaaDoor
open Go Go.Fx Go.Proofs Go.Pl

theorem get64_spec (s : BA) (h1 : 1 ≤ s.size) (h8 : s.size ≤ 8) : FSpec Tryd.prog 47 [.string s] [] Unit (fun _ => True) (fun _ => .int .u64 (valB s)) (fun _ => []) := by
  have hg := wget_spec s h1 h8
  rw [getL_valB s h8] at hg
  refine spec_intro [] _ Tryd.func47 rfl Tryd.ntmps47 (by rfl) (fun w0 R => ?_)
  repeat' (first | (refine go_Y ?_; intros) | (refine gs_Y ?_ ?_ <;> (intro hgd; try (simp only [Bool.not_true, Bool.not_false] at hgd))) | (refine gc_Y ?_ ?_ <;> intro _) | fail)
  refine cl_Y (hg) ?_
  intro _ _
  repeat' (first | (refine go_Y ?_; intros) | (refine gs_Y ?_ ?_ <;> (intro hgd; try (simp only [Bool.not_true, Bool.not_false] at hgd))) | (refine gc_Y ?_ ?_ <;> intro _) | fail)
  (refine rt_Y (y := ()) (hrs := Tryd.results47) (hv := ?_) (hφ := ?_))
  · rfl
  · trivial
theorem i64_small {x : Int} (h0 : 0 ≤ x) (h1 : x ≤ 9223372036854775807) : IntKind.i64.wrap x = x := by
  exact wrap_i64 (by omega) h1
theorem getI_spec (s : BA) (h2 : s.size = 2) : FSpec Tryd.prog 48 [.string s] [] Unit (fun _ => True) (fun _ => .int .i64 (valB s)) (fun _ => []) := by
  have hg := wget_spec s (by omega) (by omega)
  rw [getL_valB s (by omega)] at hg
  obtain ⟨r1, r2⟩ := valB_rng s 2 h2
  have hw : IntKind.i64.wrap (valB s) = valB s := i64_small r1 (by omega)
  refine spec_intro [] _ Tryd.func48 rfl Tryd.ntmps48 (by rfl) (fun w0 R => ?_)
  repeat' (first | (refine go_Y ?_; intros) | (refine gs_Y ?_ ?_ <;> (intro hgd; try (simp only [Bool.not_true, Bool.not_false] at hgd))) | (refine gc_Y ?_ ?_ <;> intro _) | fail)
  refine cl_Y (hg) ?_
  intro _ _
  repeat' (first | (refine go_Y ?_; intros) | (refine gs_Y ?_ ?_ <;> (intro hgd; try (simp only [Bool.not_true, Bool.not_false] at hgd))) | (refine gc_Y ?_ ?_ <;> intro _) | fail)
  (refine rt_Y (y := ()) (hrs := Tryd.results48) (hv := ?_) (hφ := ?_))
  · rfl
  · trivial
theorem emp_size (b : BA) : (b.toList == (⟨#[]⟩ : ByteArray).toList) = decide (b.size = 0) := by
  rw [eqS_decide, decide_eq_decide]
  constructor
  · rintro rfl; rfl
  · intro h
    apply ByteArray.ext
    exact Array.eq_empty_of_size_eq_zero h
set_option maxHeartbeats 8000000 in
theorem getMark_spec (s : BA) (hs : s.size ≤ 1000000) :
    FSpec Tryd.prog 52 [.string s] [] (V1s × V1s) (fun _ => True) (fun y => .tuple #[.agg #[.int .u8 (getMK s).1.kind, .int .u64 (getMK s).1.tx, y.1.1, y.2.1], .int .i64 (getMK s).2])
      (fun y => [row 3 1 y.1.1 ((getMK s).1.counts.map dpV), row 25 1 y.2.1 ((getMK s).1.seqs.map sqV)]) := by
  cases hsz : decide ((s.size : Int) < 10) with
  | true =>
    rw [getMK_short (by have := of_decide_eq_true hsz; omega)]
    dsimp only [mk0, List.map_nil]
    refine spec_intro [] _ Tryd.func52 rfl Tryd.ntmps52 (by rfl) (fun w0 R => ?_)
    refine ok_map (fun _ h => nilRow (e := 3) (n := 1) (nilRow (e := 25) (n := 1) h)) ?_
    repeat' (first | (refine go_Y ?_; intros) | (refine gs_Y ?_ ?_ <;> (intro hgd; try (simp only [Bool.not_true, Bool.not_false] at hgd))) | (refine gc_Y ?_ ?_ <;> intro _) | fail)
    (refine rt_Y (y := (⟨.slice none 0 0, rfl⟩, ⟨.slice none 0 0, rfl⟩)) (hrs := Tryd.results52) (hv := ?_) (hφ := ?_))
    · rfl
    · trivial
  | false =>
  have hs10 : 10 ≤ s.size := by have := of_decide_eq_false hsz; omega
  have hll : s.data.toList.length = s.size := by rw [Array.length_toList]; rfl
  obtain ⟨c0, hc0⟩ : ∃ c, s.data.toList[0]? = some c := ⟨_, List.getElem?_eq_getElem (by omega)⟩
  obtain ⟨c9, hc9⟩ : ∃ c, s.data.toList[9]? = some c := ⟨_, List.getElem?_eq_getElem (by omega)⟩
  have hb0 : bI s 0 = (c0.toNat : Int) := by unfold bI; rw [hc0]; rfl
  have hn : nM s = c9.toNat := by unfold nM bI; rw [hc9]; rfl
  have hw9 : IntKind.i64.wrap (c9.toNat : Int) = (c9.toNat : Int) := i64_small (by omega) (by have := c9.toNat_lt; omega)
  have hr1 : (0 : Int) ≤ 1 ∧ (1 : Int) ≤ 9 ∧ (9 : Int) ≤ (s.size : Int) := ⟨by omega, by omega, by omega⟩
  have hr2 : (0 : Int) ≤ 10 ∧ (10 : Int) ≤ (s.size : Int) := ⟨by omega, by omega⟩
  have hg0 := get64_spec (s.extract 1 9) (by rw [ByteArray.size_extract]; omega) (by rw [ByteArray.size_extract]; omega)
  have e0 : (!decide ((0 : Int) = (0 : Int))) = false := by decide
  have e2 : (!decide ((2 : Int) = (0 : Int))) = true := by decide
  refine spec_intro [] _ Tryd.func52 rfl Tryd.ntmps52 (by rfl) (fun w0 R => ?_)
  refine ok_map (fun _ h => nilRow (e := 3) (n := 1) (nilRow (e := 25) (n := 1) (nilRow (e := 3) (n := 1) (nilRow (e := 25) (n := 1) h)))) ?_
  repeat' (first | (refine go_Y ?_; intros) | (refine gs_Y ?_ ?_ <;> (intro hgd; try (simp only [Bool.not_true, Bool.not_false] at hgd))) | (refine gc_Y ?_ ?_ <;> intro _) | fail)
  rename_i b2
  refine ok_meetE (γ := Nat) (fun b4 ρ L => Knows ρ [(0, .string s), (2, .pointer (some ⟨b2, 0, none⟩)), (4, .pointer (some ⟨b4, 0, none⟩))] ∧
      L = [pts b4 (.cells [.int .u8 (c0.toNat : Int), .int .u64 (valB (s.extract 1 9)), .slice none 0 0, .slice none 0 0].toArray 59), pts b2 (.cells [.int .u8 0, .int .u64 0, .slice none 0 0, .slice none 0 0].toArray 59), row 3 1 (.slice none 0 0) [], row 25 1 (.slice none 0 0) [], row 3 1 (.slice none 0 0) [], row 25 1 (.slice none 0 0) []] ++ R) ?_ ?_
  · refine ok_draw_node (cv := []) 3 [4, 6, 7] [] (by kernel_rfl) rfl (by decide +kernel) (by decide +kernel) (by decide +kernel) (takePre takeD) _ rfl ?_
    refine cont_node [] [(4, [2, 3, 4], [0, 1, 5, 6, 7]), (6, [6], [0, 1, 2, 3, 4, 5, 7])] rfl (by decide +kernel) ?_
    intro x hx
    simp only [List.mem_cons, List.not_mem_nil, or_false] at hx
    rcases hx with rfl | rfl
    · dsimp only [List.length_cons, List.length_nil]
      repeat' (first | (refine go_Y ?_; intros) | (refine gs_Y ?_ ?_ <;> (intro hgd; try (simp only [Bool.not_true, Bool.not_false] at hgd))) | (refine gc_Y ?_ ?_ <;> intro _) | fail)
      refine clN_Y (hg0) ?_
      intro _ _
      repeat' (first | (refine go_Y ?_; intros) | (refine gs_Y ?_ ?_ <;> (intro hgd; try (simp only [Bool.not_true, Bool.not_false] at hgd))) | (refine gc_Y ?_ ?_ <;> intro _) | fail)
      refine cont_node [] [(6, [6], [0, 1, 5, 7])] rfl (by decide +kernel) ?_
      intro x hx
      simp only [List.mem_cons, List.not_mem_nil, or_false] at hx
      subst hx
      · dsimp only [List.length_cons, List.length_nil]
        repeat' (first | (refine go_Y ?_; intros) | (refine gs_Y ?_ ?_ <;> (intro hgd; try (simp only [Bool.not_true, Bool.not_false] at hgd))) | (refine gc_Y ?_ ?_ <;> intro _) | fail)
        rename_i b4
        refine cont_node [] [(7, [0, 1, 5, 7], [])] rfl (by decide +kernel) ?_
        intro x hx
        simp only [List.mem_cons, List.not_mem_nil, or_false] at hx
        subst hx
        · dsimp only [List.length_cons, List.length_nil]
          repeat' (first | (refine go_Y ?_; intros) | (refine gs_Y ?_ ?_ <;> (intro hgd; try (simp only [Bool.not_true, Bool.not_false] at hgd))) | (refine gc_Y ?_ ?_ <;> intro _) | fail)
          refine cont_node0 (by decide +kernel) ?_
          repeat' (first | (refine go_Y ?_; intros) | (refine gs_Y ?_ ?_ <;> (intro hgd; try (simp only [Bool.not_true, Bool.not_false] at hgd))) | (refine gc_Y ?_ ?_ <;> intro _) | fail)
          refine cont_map (L' := [pts b4 (.cells [.int .u8 (c0.toNat : Int), .int .u64 (valB (s.extract 1 9)), .slice none 0 0, .slice none 0 0].toArray 59), pts b2 (.cells [.int .u8 0, .int .u64 0, .slice none 0 0, .slice none 0 0].toArray 59), row 3 1 (.slice none 0 0) [], row 25 1 (.slice none 0 0) [], row 3 1 (.slice none 0 0) [], row 25 1 (.slice none 0 0) []] ++ R) entD ?_
          exact cont_meet b4 ⟨⟨rfl, rfl, rfl, trivial⟩, rfl⟩
    · dsimp only [List.length_cons, List.length_nil]
      repeat' (first | (refine go_Y ?_; intros) | (refine gs_Y ?_ ?_ <;> (intro hgd; try (simp only [Bool.not_true, Bool.not_false] at hgd))) | (refine gc_Y ?_ ?_ <;> intro _) | fail)
      rename_i b4
      refine cont_node [] [(4, [2, 3, 4], [0, 1, 5, 7])] rfl (by decide +kernel) ?_
      intro x hx
      simp only [List.mem_cons, List.not_mem_nil, or_false] at hx
      subst hx
      · dsimp only [List.length_cons, List.length_nil]
        repeat' (first | (refine go_Y ?_; intros) | (refine gs_Y ?_ ?_ <;> (intro hgd; try (simp only [Bool.not_true, Bool.not_false] at hgd))) | (refine gc_Y ?_ ?_ <;> intro _) | fail)
        refine clN_Y (hg0) ?_
        intro _ _
        repeat' (first | (refine go_Y ?_; intros) | (refine gs_Y ?_ ?_ <;> (intro hgd; try (simp only [Bool.not_true, Bool.not_false] at hgd))) | (refine gc_Y ?_ ?_ <;> intro _) | fail)
        refine cont_node [] [(7, [0, 1, 5, 7], [])] rfl (by decide +kernel) ?_
        intro x hx
        simp only [List.mem_cons, List.not_mem_nil, or_false] at hx
        subst hx
        · dsimp only [List.length_cons, List.length_nil]
          repeat' (first | (refine go_Y ?_; intros) | (refine gs_Y ?_ ?_ <;> (intro hgd; try (simp only [Bool.not_true, Bool.not_false] at hgd))) | (refine gc_Y ?_ ?_ <;> intro _) | fail)
          refine cont_node0 (by decide +kernel) ?_
          repeat' (first | (refine go_Y ?_; intros) | (refine gs_Y ?_ ?_ <;> (intro hgd; try (simp only [Bool.not_true, Bool.not_false] at hgd))) | (refine gc_Y ?_ ?_ <;> intro _) | fail)
          refine cont_map (L' := [pts b4 (.cells [.int .u8 (c0.toNat : Int), .int .u64 (valB (s.extract 1 9)), .slice none 0 0, .slice none 0 0].toArray 59), pts b2 (.cells [.int .u8 0, .int .u64 0, .slice none 0 0, .slice none 0 0].toArray 59), row 3 1 (.slice none 0 0) [], row 25 1 (.slice none 0 0) [], row 3 1 (.slice none 0 0) [], row 25 1 (.slice none 0 0) []] ++ R) entD ?_
          exact cont_meet b4 ⟨⟨rfl, rfl, rfl, trivial⟩, rfl⟩
  rintro b4 ρ L ⟨hk, rfl⟩
  refine cont_regs hk ?_
  repeat' (first | (refine go_Y ?_; intros) | (refine gs_Y ?_ ?_ <;> (intro hgd; try (simp only [Bool.not_true, Bool.not_false] at hgd))) | (refine gc_Y ?_ ?_ <;> intro _) | fail)
  have hn9 : c9.toNat ≤ 255 := by have := c9.toNat_lt; omega
  refine ok_map (L' := [pts b4 (.cells [.int .u8 (c0.toNat : Int), .int .u64 (valB (s.extract 1 9)), .slice none 0 0, .slice none 0 0].toArray 59), row 25 1 (.slice none 0 0) [], pts b2 (.cells [.int .u8 0, .int .u64 0, .slice none 0 0, .slice none 0 0].toArray 59), row 3 1 (.slice none 0 0) [], row 3 1 (.slice none 0 0) [], row 25 1 (.slice none 0 0) []] ++ R) entD ?_
  refine ok_loop' (γ := Nat × V1s) (fun g ρ L => g.1 ≤ c9.toNat ∧ 10 + 8 * g.1 ≤ s.size ∧ Knows ρ [(2, .pointer (some ⟨b2, 0, none⟩)), (4, .pointer (some ⟨b4, 0, none⟩)), (5, .int .i64 (c9.toNat : Int)), (6, .string (s.extract (10 + 8 * g.1) s.size)), (22, .int .i64 (c9.toNat : Int)), (23, .int .i64 (g.1 : Int))] ∧
      L = [pts b4 (.cells [.int .u8 (c0.toNat : Int), .int .u64 (valB (s.extract 1 9)), .slice none 0 0, g.2.1].toArray 59), row 25 1 g.2.1 ((qsM s g.1).map sqV), pts b2 (.cells [.int .u8 0, .int .u64 0, .slice none 0 0, .slice none 0 0].toArray 59), row 3 1 (.slice none 0 0) [], row 3 1 (.slice none 0 0) [], row 25 1 (.slice none 0 0) []] ++ R) (fun g => c9.toNat - g.1) (0, ⟨.slice none 0 0, rfl⟩) ⟨Nat.zero_le _, by omega, ⟨rfl, rfl, rfl, rfl, rfl, rfl, trivial⟩, rfl⟩ ?_
  rintro ⟨j, u, hu⟩ ρ L ⟨hj, hjs, hk, rfl⟩
  dsimp only at hj hjs hk ⊢
  refine ok_regs hk ?_
  have hes : (s.extract (10 + 8 * j) s.size).size = s.size - (10 + 8 * j) := by rw [ByteArray.size_extract]; omega
  cases v1 : decide ((j : Int) < (c9.toNat : Int)) with
  | true =>
    have hj0 : j < c9.toNat := by rw [decide_eq_true_eq] at v1; omega
    cases v2 : decide (((s.extract (10 + 8 * j) s.size).size : Int) < 8) with
    | true =>
      rw [getMK_seq (by rw [decide_eq_true_eq] at v2; omega)]
      dsimp only [mk0, List.map_nil]
      repeat' (first | (refine go_Y ?_; intros) | (refine gs_Y ?_ ?_ <;> (intro hgd; try (simp only [Bool.not_true, Bool.not_false] at hgd))) | (refine gc_Y ?_ ?_ <;> intro _) | fail)
      (refine rt_Y (y := (⟨.slice none 0 0, rfl⟩, ⟨.slice none 0 0, rfl⟩)) (hrs := Tryd.results52) (hv := ?_) (hφ := ?_))
      · rfl
      · trivial
    | false =>
      have h8 : 10 + 8 * j + 8 ≤ s.size := by rw [decide_eq_false_iff_not] at v2; omega
      have hr3 : (0 : Int) ≤ 8 ∧ (8 : Int) ≤ ((s.extract (10 + 8 * j) s.size).size : Int) := ⟨by omega, by omega⟩
      have hx8 : (s.extract (10 + 8 * j) s.size).extract 0 (8 : Int).toNat = s.extract (10 + 8 * j) (10 + 8 * j + 8) := ext_ext s _ 8 h8
      have htl : (s.extract (10 + 8 * j) s.size).extract (8 : Int).toNat (s.extract (10 + 8 * j) s.size).size = s.extract (10 + 8 * (j + 1)) s.size := by rw [hes]; exact ext_tail s _ 8 h8
      have hg := get64_spec ((s.extract (10 + 8 * j) s.size).extract 0 (8 : Int).toNat) (by rw [hx8, ByteArray.size_extract]; omega) (by rw [hx8, ByteArray.size_extract]; omega)
      have hap : (qsM s j).map sqV ++ [(Value.int .u64 (valB ((s.extract (10 + 8 * j) s.size).extract 0 (8 : Int).toNat))).cells.toList] = (qsM s (j + 1)).map sqV := by rw [qsM_succ, List.map_append, hx8]; rfl
      have hql : (qsM s j).length ≤ 255 := by rw [qsM_len]; omega
      repeat' (first | (refine go_Y ?_; intros) | (refine gs_Y ?_ ?_ <;> (intro hgd; try (simp only [Bool.not_true, Bool.not_false] at hgd))) | (refine gc_Y ?_ ?_ <;> intro _) | fail)
      (apply ok_draw [4, 5]; (focus (kernel_rfl)); (focus ((conv => lhs; whnf); first | done | rfl)); (focus (decide +kernel)); (focus (exact (fun _ h => h))))
      repeat' (first | (refine go_Y ?_; intros) | (refine gs_Y ?_ ?_ <;> (intro hgd; try (simp only [Bool.not_true, Bool.not_false] at hgd))) | (refine gc_Y ?_ ?_ <;> intro _) | fail)
      refine clN_Y (hg) ?_
      intro _ _
      repeat' (first | (refine go_Y ?_; intros) | (refine gs_Y ?_ ?_ <;> (intro hgd; try (simp only [Bool.not_true, Bool.not_false] at hgd))) | (refine gc_Y ?_ ?_ <;> intro _) | fail)
      rename_i v3 hv3 v4 hv4
      rw [hap, htl]
      refine cont_map (L' := [pts b4 (.cells [.int .u8 (c0.toNat : Int), .int .u64 (valB (s.extract 1 9)), .slice none 0 0, v4].toArray 59), row 25 1 v4 ((qsM s (j + 1)).map sqV), pts b2 (.cells [.int .u8 0, .int .u64 0, .slice none 0 0, .slice none 0 0].toArray 59), row 3 1 (.slice none 0 0) [], row 3 1 (.slice none 0 0) [], row 25 1 (.slice none 0 0) []] ++ R) entD ?_
      refine cont_back (j + 1, ⟨v4, hv4⟩) ⟨hj0, by omega, ⟨rfl, rfl, rfl, rfl, rfl, rfl, trivial⟩, rfl⟩ (by dsimp only; omega)
  | false =>
  have hje : j = c9.toNat := by rw [decide_eq_false_iff_not] at v1; omega
  subst hje
  repeat' (first | (refine go_Y ?_; intros) | (refine gs_Y ?_ ?_ <;> (intro hgd; try (simp only [Bool.not_true, Bool.not_false] at hgd))) | (refine gc_Y ?_ ?_ <;> intro _) | fail)
  refine ok_map (L' := [pts b4 (.cells [.int .u8 (c0.toNat : Int), .int .u64 (valB (s.extract 1 9)), .slice none 0 0, u].toArray 59), row 3 1 (.slice none 0 0) [], row 25 1 u ((qsM s c9.toNat).map sqV), pts b2 (.cells [.int .u8 0, .int .u64 0, .slice none 0 0, .slice none 0 0].toArray 59), row 3 1 (.slice none 0 0) [], row 25 1 (.slice none 0 0) []] ++ R) entD ?_
  refine ok_loop' (γ := Nat × V1s) (fun g ρ L => g.1 ≤ c9.toNat ∧ 10 + 8 * c9.toNat + 2 * g.1 ≤ s.size ∧ Knows ρ [(2, .pointer (some ⟨b2, 0, none⟩)), (4, .pointer (some ⟨b4, 0, none⟩)), (5, .int .i64 (c9.toNat : Int)), (6, .string (s.extract (10 + 8 * c9.toNat + 2 * g.1) s.size))] ∧
      L = [pts b4 (.cells [.int .u8 (c0.toNat : Int), .int .u64 (valB (s.extract 1 9)), g.2.1, u].toArray 59), row 3 1 g.2.1 ((csM s g.1).map dpV), row 25 1 u ((qsM s c9.toNat).map sqV), pts b2 (.cells [.int .u8 0, .int .u64 0, .slice none 0 0, .slice none 0 0].toArray 59), row 3 1 (.slice none 0 0) [], row 25 1 (.slice none 0 0) []] ++ R) (fun g => c9.toNat - g.1) (0, ⟨.slice none 0 0, rfl⟩) ⟨Nat.zero_le _, by omega, ⟨rfl, rfl, rfl, rfl, trivial⟩, rfl⟩ ?_
  rintro ⟨i, c, hc⟩ ρ L ⟨hi, his, hk, rfl⟩
  dsimp only at hi his hk ⊢
  refine ok_regs hk ?_
  clear hes v1
  have hes : (s.extract (10 + 8 * c9.toNat + 2 * i) s.size).size = s.size - (10 + 8 * c9.toNat + 2 * i) := by rw [ByteArray.size_extract]; omega
  have hcl : ((csM s i).map dpV).length = i := by rw [List.length_map, csM_len]
  cases v2 : decide ((2 : Int) ≤ ((s.extract (10 + 8 * c9.toNat + 2 * i) s.size).size : Int)) with
  | false =>
    have hxt : s.size - (10 + 8 * c9.toNat + 2 * i) < 2 ∨ c9.toNat ≤ i := .inl (by rw [decide_eq_false_iff_not] at v2; omega)
    cases v4 : (!((s.extract (10 + 8 * c9.toNat + 2 * i) s.size).toList == (⟨#[]⟩ : ByteArray).toList)) with
    | true =>
      have hne : 10 + 8 * c9.toNat + 2 * i < s.size := by
        rw [emp_size, Bool.not_eq_true', decide_eq_false_iff_not] at v4
        omega
      rw [getMK_rest (j := i) (by omega) (by rw [hn]; exact hne) (by rw [hn]; exact hxt)]
      dsimp only [mk0, List.map_nil]
      repeat' (first | (refine go_Y ?_; intros) | (refine gs_Y ?_ ?_ <;> (intro hgd; try (simp only [Bool.not_true, Bool.not_false] at hgd))) | (refine gc_Y ?_ ?_ <;> intro _) | fail)
      (refine rt_Y (y := (⟨.slice none 0 0, rfl⟩, ⟨.slice none 0 0, rfl⟩)) (hrs := Tryd.results52) (hv := ?_) (hφ := ?_))
      · rfl
      · trivial
    | false =>
      have heq : s.size = 10 + 8 * c9.toNat + 2 * i := by
        have v5 := v4
        rw [emp_size, Bool.not_eq_false', decide_eq_true_eq] at v5
        omega
      have hme := getMK_end (s := s) (j := i) (by omega) (by rw [hn]; exact heq)
      rw [hb0, hn] at hme
      have hck := ckMark_spec (c0.toNat : Int) (valB (s.extract 1 9)) (csM s i) (qsM s c9.toNat) c u (row 3 1 c ((csM s i).map dpV)) (row 25 1 u ((qsM s c9.toNat).map sqV)) Vw.row Vw.row (by rw [csM_len]; omega) (by rw [qsM_len]; omega)
      cases hmm : mayMk (c0.toNat : Int) (csM s i) (qsM s c9.toNat) with
      | true =>
        rw [hmm, if_pos rfl] at hme
        rw [hmm, cond_true] at hck
        rw [hme]
        dsimp only
        clear hme
        generalize csM s i = CS at hck hcl ⊢
        generalize qsM s c9.toNat = QS at hck ⊢
        generalize valB (s.extract 1 9) = TX at hck ⊢
        refine ok_learn (rowShapeS (e := 3) (n := 1) (v := c) (xs := CS.map dpV) (by decide) takeD) ?_
        rintro ⟨pc, cc, rfl, _, _⟩
        refine ok_learn (rowShapeS (e := 25) (n := 1) (v := u) (xs := QS.map sqV) (by decide) takeD) ?_
        rintro ⟨pu, cu, rfl, _, _⟩
        repeat' (first | (refine go_Y ?_; intros) | (refine gs_Y ?_ ?_ <;> (intro hgd; try (simp only [Bool.not_true, Bool.not_false] at hgd))) | (refine gc_Y ?_ ?_ <;> intro _) | fail)
        refine cl_Y (hck) ?_
        intro _ _
        repeat' (first | (refine go_Y ?_; intros) | (refine gs_Y ?_ ?_ <;> (intro hgd; try (simp only [Bool.not_true, Bool.not_false] at hgd))) | (refine gc_Y ?_ ?_ <;> intro _) | fail)
        (refine rt_Y (y := (⟨_, hc⟩, ⟨_, hu⟩)) (hrs := Tryd.results52) (hv := ?_) (hφ := ?_))
        · rfl
        · trivial
      | false =>
        rw [hmm, if_neg Bool.false_ne_true] at hme
        rw [hmm, cond_false] at hck
        rw [hme]
        dsimp only [mk0, List.map_nil]
        repeat' (first | (refine go_Y ?_; intros) | (refine gs_Y ?_ ?_ <;> (intro hgd; try (simp only [Bool.not_true, Bool.not_false] at hgd))) | (refine gc_Y ?_ ?_ <;> intro _) | fail)
        refine cl_Y (hck) ?_
        intro _ _
        repeat' (first | (refine go_Y ?_; intros) | (refine gs_Y ?_ ?_ <;> (intro hgd; try (simp only [Bool.not_true, Bool.not_false] at hgd))) | (refine gc_Y ?_ ?_ <;> intro _) | fail)
        (refine rt_Y (y := (⟨.slice none 0 0, rfl⟩, ⟨.slice none 0 0, rfl⟩)) (hrs := Tryd.results52) (hv := ?_) (hφ := ?_))
        · rfl
        · trivial
  | true =>
    cases v3 : decide ((((csM s i).map dpV).length : Int) < (c9.toNat : Int)) with
    | false =>
      have hxt : s.size - (10 + 8 * c9.toNat + 2 * i) < 2 ∨ c9.toNat ≤ i := .inr (by rw [decide_eq_false_iff_not] at v3; omega)
      cases v4 : (!((s.extract (10 + 8 * c9.toNat + 2 * i) s.size).toList == (⟨#[]⟩ : ByteArray).toList)) with
      | true =>
        have hne : 10 + 8 * c9.toNat + 2 * i < s.size := by
          rw [emp_size, Bool.not_eq_true', decide_eq_false_iff_not] at v4
          omega
        rw [getMK_rest (j := i) (by omega) (by rw [hn]; exact hne) (by rw [hn]; exact hxt)]
        dsimp only [mk0, List.map_nil]
        repeat' (first | (refine go_Y ?_; intros) | (refine gs_Y ?_ ?_ <;> (intro hgd; try (simp only [Bool.not_true, Bool.not_false] at hgd))) | (refine gc_Y ?_ ?_ <;> intro _) | fail)
        (refine rt_Y (y := (⟨.slice none 0 0, rfl⟩, ⟨.slice none 0 0, rfl⟩)) (hrs := Tryd.results52) (hv := ?_) (hφ := ?_))
        · rfl
        · trivial
      | false =>
        have heq : s.size = 10 + 8 * c9.toNat + 2 * i := by
          have v5 := v4
          rw [emp_size, Bool.not_eq_false', decide_eq_true_eq] at v5
          omega
        have hme := getMK_end (s := s) (j := i) (by omega) (by rw [hn]; exact heq)
        rw [hb0, hn] at hme
        have hck := ckMark_spec (c0.toNat : Int) (valB (s.extract 1 9)) (csM s i) (qsM s c9.toNat) c u (row 3 1 c ((csM s i).map dpV)) (row 25 1 u ((qsM s c9.toNat).map sqV)) Vw.row Vw.row (by rw [csM_len]; omega) (by rw [qsM_len]; omega)
        cases hmm : mayMk (c0.toNat : Int) (csM s i) (qsM s c9.toNat) with
        | true =>
          rw [hmm, if_pos rfl] at hme
          rw [hmm, cond_true] at hck
          rw [hme]
          dsimp only
          clear hme
          generalize csM s i = CS at hck hcl v3 ⊢
          generalize qsM s c9.toNat = QS at hck ⊢
          generalize valB (s.extract 1 9) = TX at hck ⊢
          refine ok_learn (rowShapeS (e := 3) (n := 1) (v := c) (xs := CS.map dpV) (by decide) takeD) ?_
          rintro ⟨pc, cc, rfl, _, _⟩
          refine ok_learn (rowShapeS (e := 25) (n := 1) (v := u) (xs := QS.map sqV) (by decide) takeD) ?_
          rintro ⟨pu, cu, rfl, _, _⟩
          repeat' (first | (refine go_Y ?_; intros) | (refine gs_Y ?_ ?_ <;> (intro hgd; try (simp only [Bool.not_true, Bool.not_false] at hgd))) | (refine gc_Y ?_ ?_ <;> intro _) | fail)
          refine cl_Y (hck) ?_
          intro _ _
          repeat' (first | (refine go_Y ?_; intros) | (refine gs_Y ?_ ?_ <;> (intro hgd; try (simp only [Bool.not_true, Bool.not_false] at hgd))) | (refine gc_Y ?_ ?_ <;> intro _) | fail)
          (refine rt_Y (y := (⟨_, hc⟩, ⟨_, hu⟩)) (hrs := Tryd.results52) (hv := ?_) (hφ := ?_))
          · rfl
          · trivial
        | false =>
          rw [hmm, if_neg Bool.false_ne_true] at hme
          rw [hmm, cond_false] at hck
          rw [hme]
          dsimp only [mk0, List.map_nil]
          repeat' (first | (refine go_Y ?_; intros) | (refine gs_Y ?_ ?_ <;> (intro hgd; try (simp only [Bool.not_true, Bool.not_false] at hgd))) | (refine gc_Y ?_ ?_ <;> intro _) | fail)
          refine cl_Y (hck) ?_
          intro _ _
          repeat' (first | (refine go_Y ?_; intros) | (refine gs_Y ?_ ?_ <;> (intro hgd; try (simp only [Bool.not_true, Bool.not_false] at hgd))) | (refine gc_Y ?_ ?_ <;> intro _) | fail)
          (refine rt_Y (y := (⟨.slice none 0 0, rfl⟩, ⟨.slice none 0 0, rfl⟩)) (hrs := Tryd.results52) (hv := ?_) (hφ := ?_))
          · rfl
          · trivial
    | true =>
      have hi0 : i < c9.toNat := by rw [decide_eq_true_eq] at v3; omega
      have h8 : 10 + 8 * c9.toNat + 2 * i + 2 ≤ s.size := by rw [decide_eq_true_eq] at v2; omega
      have hr3 : (0 : Int) ≤ 2 ∧ (2 : Int) ≤ ((s.extract (10 + 8 * c9.toNat + 2 * i) s.size).size : Int) := ⟨by omega, by omega⟩
      have hx8 : (s.extract (10 + 8 * c9.toNat + 2 * i) s.size).extract 0 (2 : Int).toNat = s.extract (10 + 8 * c9.toNat + 2 * i) (10 + 8 * c9.toNat + 2 * i + 2) := ext_ext s _ 2 h8
      have htl : (s.extract (10 + 8 * c9.toNat + 2 * i) s.size).extract (2 : Int).toNat (s.extract (10 + 8 * c9.toNat + 2 * i) s.size).size = s.extract (10 + 8 * c9.toNat + 2 * (i + 1)) s.size := by rw [hes]; exact ext_tail s _ 2 h8
      have hg := getI_spec ((s.extract (10 + 8 * c9.toNat + 2 * i) s.size).extract 0 (2 : Int).toNat) (by rw [hx8, ByteArray.size_extract]; omega)
      have hap : (csM s i).map dpV ++ [(Value.int .i64 (valB ((s.extract (10 + 8 * c9.toNat + 2 * i) s.size).extract 0 (2 : Int).toNat))).cells.toList] = (csM s (i + 1)).map dpV := by rw [csM_succ, List.map_append, hx8, hn]; rfl
      have hql : (csM s i).length ≤ 255 := by rw [csM_len]; omega
      repeat' (first | (refine go_Y ?_; intros) | (refine gs_Y ?_ ?_ <;> (intro hgd; try (simp only [Bool.not_true, Bool.not_false] at hgd))) | (refine gc_Y ?_ ?_ <;> intro _) | fail)
      (apply ok_draw [4, 5]; (focus (kernel_rfl)); (focus ((conv => lhs; whnf); first | done | rfl)); (focus (decide +kernel)); (focus (exact (fun _ h => h))))
      repeat' (first | (refine go_Y ?_; intros) | (refine gs_Y ?_ ?_ <;> (intro hgd; try (simp only [Bool.not_true, Bool.not_false] at hgd))) | (refine gc_Y ?_ ?_ <;> intro _) | fail)
      refine clN_Y (hg) ?_
      intro _ _
      repeat' (first | (refine go_Y ?_; intros) | (refine gs_Y ?_ ?_ <;> (intro hgd; try (simp only [Bool.not_true, Bool.not_false] at hgd))) | (refine gc_Y ?_ ?_ <;> intro _) | fail)
      rename_i v5 hv5 v4 hv4
      rw [hap, htl]
      refine cont_map (L' := [pts b4 (.cells [.int .u8 (c0.toNat : Int), .int .u64 (valB (s.extract 1 9)), v4, u].toArray 59), row 3 1 v4 ((csM s (i + 1)).map dpV), row 25 1 u ((qsM s c9.toNat).map sqV), pts b2 (.cells [.int .u8 0, .int .u64 0, .slice none 0 0, .slice none 0 0].toArray 59), row 3 1 (.slice none 0 0) [], row 25 1 (.slice none 0 0) []] ++ R) entD ?_
      refine cont_back (i + 1, ⟨v4, hv4⟩) ⟨hi0, by omega, ⟨rfl, rfl, rfl, rfl, trivial⟩, rfl⟩ (by dsimp only; omega)
end Go.Proofs.YtphaegcoldpclaaDoor
