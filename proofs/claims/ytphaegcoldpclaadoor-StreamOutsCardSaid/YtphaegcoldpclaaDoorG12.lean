/- Texts merged: StD StA StB StC. -/
import Derived.Test.YtphaegcoldpclaaDoorG9
import Derived.Test.YtphaegcoldpclaaDoorG11
import Derived.Test.YtphaegcoldpclaaDoorG0
set_option linter.unusedSimpArgs false
set_option linter.unusedVariables false
set_option maxRecDepth 100000
namespace Go.Proofs.YtphaegcoldpclaaDoor
open Go Go.Fx Go.Proofs Go.Pl

theorem get64_spec (s : BA) (h1 : 1 ≤ s.size) (h8 : s.size ≤ 8) : FSpec Tryd.prog 47 [.string s] [] Unit (fun _ => True) (fun _ => .int .u64 (valB s)) (fun _ => []) := by
  have hg := wget_spec s h1 h8
  rw [getL_valB s h8] at hg
  refine spec_intro [] _ Tryd.func47 rfl Tryd.ntmps47 (by rfl) (fun w0 R => ?_)
  repeat' (first | (refine go_Y ?_; intros) | (refine gs_Y ?_ ?_ <;> (intro hgd; try (simp only [Bool.not_true, Bool.not_false] at hgd))) | (refine gc_Y ?_ ?_ <;> intro _) | fail)
  refine cl_Y (hg) ?_
  intro _ _
  repeat' (first | (refine go_Y ?_; intros) | (refine gs_Y ?_ ?_ <;> (intro hgd; try (simp only [Bool.not_true, Bool.not_false] at hgd))) | (refine gc_Y ?_ ?_ <;> intro _) | fail)
  (refine rt_Y (y := ()) (hrs := Tryd.results47) (hv := ?_) (hφ := ?_))
  · rfl
  · trivial
theorem i64_small {x : Int} (h0 : 0 ≤ x) (h1 : x ≤ 9223372036854775807) : IntKind.i64.wrap x = x := by
  exact wrap_i64 (by omega) h1
theorem getI_spec (s : BA) (h2 : s.size = 2) : FSpec Tryd.prog 48 [.string s] [] Unit (fun _ => True) (fun _ => .int .i64 (valB s)) (fun _ => []) := by
  have hg := wget_spec s (by omega) (by omega)
  rw [getL_valB s (by omega)] at hg
  obtain ⟨r1, r2⟩ := valB_rng s 2 h2
  have hw : IntKind.i64.wrap (valB s) = valB s := i64_small r1 (by omega)
  refine spec_intro [] _ Tryd.func48 rfl Tryd.ntmps48 (by rfl) (fun w0 R => ?_)
  repeat' (first | (refine go_Y ?_; intros) | (refine gs_Y ?_ ?_ <;> (intro hgd; try (simp only [Bool.not_true, Bool.not_false] at hgd))) | (refine gc_Y ?_ ?_ <;> intro _) | fail)
  refine cl_Y (hg) ?_
  intro _ _
  repeat' (first | (refine go_Y ?_; intros) | (refine gs_Y ?_ ?_ <;> (intro hgd; try (simp only [Bool.not_true, Bool.not_false] at hgd))) | (refine gc_Y ?_ ?_ <;> intro _) | fail)
  (refine rt_Y (y := ()) (hrs := Tryd.results48) (hv := ?_) (hφ := ?_))
  · rfl
  · trivial
theorem emp_size (b : BA) : (b.toList == (⟨#[]⟩ : ByteArray).toList) = decide (b.size = 0) := by
  rw [eqS_decide, decide_eq_decide]
  constructor
  · rintro rfl; rfl
  · intro h
    apply ByteArray.ext
    exact Array.eq_empty_of_size_eq_zero h
set_option maxHeartbeats 8000000 in
theorem getMark_spec (s : BA) (hs : s.size ≤ 1000000) :
    FSpec Tryd.prog 52 [.string s] [] (V1s × V1s) (fun _ => True) (fun y => .tuple #[.agg #[.int .u8 (getMK s).1.kind, .int .u64 (getMK s).1.tx, y.1.1, y.2.1], .int .i64 (getMK s).2])
      (fun y => [row 3 1 y.1.1 ((getMK s).1.counts.map dpV), row 25 1 y.2.1 ((getMK s).1.seqs.map sqV)]) := by
  cases hsz : decide ((s.size : Int) < 10) with
  | true =>
    rw [getMK_short (by have := of_decide_eq_true hsz; omega)]
    dsimp only [mk0, List.map_nil]
    refine spec_intro [] _ Tryd.func52 rfl Tryd.ntmps52 (by rfl) (fun w0 R => ?_)
    refine ok_map (fun _ h => nilRow (e := 3) (n := 1) (nilRow (e := 25) (n := 1) h)) ?_
    repeat' (first | (refine go_Y ?_; intros) | (refine gs_Y ?_ ?_ <;> (intro hgd; try (simp only [Bool.not_true, Bool.not_false] at hgd))) | (refine gc_Y ?_ ?_ <;> intro _) | fail)
    (refine rt_Y (y := (⟨.slice none 0 0, rfl⟩, ⟨.slice none 0 0, rfl⟩)) (hrs := Tryd.results52) (hv := ?_) (hφ := ?_))
    · rfl
    · trivial
  | false =>
  have hs10 : 10 ≤ s.size := by have := of_decide_eq_false hsz; omega
  have hll : s.data.toList.length = s.size := by rw [Array.length_toList]; rfl
  obtain ⟨c0, hc0⟩ : ∃ c, s.data.toList[0]? = some c := ⟨_, List.getElem?_eq_getElem (by omega)⟩
  obtain ⟨c9, hc9⟩ : ∃ c, s.data.toList[9]? = some c := ⟨_, List.getElem?_eq_getElem (by omega)⟩
  have hb0 : bI s 0 = (c0.toNat : Int) := by unfold bI; rw [hc0]; rfl
  have hn : nM s = c9.toNat := by unfold nM bI; rw [hc9]; rfl
  have hw9 : IntKind.i64.wrap (c9.toNat : Int) = (c9.toNat : Int) := i64_small (by omega) (by have := c9.toNat_lt; omega)
  have hr1 : (0 : Int) ≤ 1 ∧ (1 : Int) ≤ 9 ∧ (9 : Int) ≤ (s.size : Int) := ⟨by omega, by omega, by omega⟩
  have hr2 : (0 : Int) ≤ 10 ∧ (10 : Int) ≤ (s.size : Int) := ⟨by omega, by omega⟩
  have hg0 := get64_spec (s.extract 1 9) (by rw [ByteArray.size_extract]; omega) (by rw [ByteArray.size_extract]; omega)
  have e0 : (!decide ((0 : Int) = (0 : Int))) = false := by decide
  have e2 : (!decide ((2 : Int) = (0 : Int))) = true := by decide
  refine spec_intro [] _ Tryd.func52 rfl Tryd.ntmps52 (by rfl) (fun w0 R => ?_)
  refine ok_map (fun _ h => nilRow (e := 3) (n := 1) (nilRow (e := 25) (n := 1) (nilRow (e := 3) (n := 1) (nilRow (e := 25) (n := 1) h)))) ?_
  repeat' (first | (refine go_Y ?_; intros) | (refine gs_Y ?_ ?_ <;> (intro hgd; try (simp only [Bool.not_true, Bool.not_false] at hgd))) | (refine gc_Y ?_ ?_ <;> intro _) | fail)
  rename_i b2
  refine ok_meetE (γ := Nat) (fun b4 ρ L => Knows ρ [(0, .string s), (2, .pointer (some ⟨b2, 0, none⟩)), (4, .pointer (some ⟨b4, 0, none⟩))] ∧
      L = [pts b4 (.cells [.int .u8 (c0.toNat : Int), .int .u64 (valB (s.extract 1 9)), .slice none 0 0, .slice none 0 0].toArray 59), pts b2 (.cells [.int .u8 0, .int .u64 0, .slice none 0 0, .slice none 0 0].toArray 59), row 3 1 (.slice none 0 0) [], row 25 1 (.slice none 0 0) [], row 3 1 (.slice none 0 0) [], row 25 1 (.slice none 0 0) []] ++ R) ?_ ?_
  · refine ok_draw_node (cv := []) 3 [4, 6, 7] [] (by kernel_rfl) rfl (by decide +kernel) (by decide +kernel) (by decide +kernel) (takePre takeD) _ rfl ?_
    refine cont_node [] [(4, [2, 3, 4], [0, 1, 5, 6, 7]), (6, [6], [0, 1, 2, 3, 4, 5, 7])] rfl (by decide +kernel) ?_
    intro x hx
    simp only [List.mem_cons, List.not_mem_nil, or_false] at hx
    rcases hx with rfl | rfl
    · dsimp only [List.length_cons, List.length_nil]
      repeat' (first | (refine go_Y ?_; intros) | (refine gs_Y ?_ ?_ <;> (intro hgd; try (simp only [Bool.not_true, Bool.not_false] at hgd))) | (refine gc_Y ?_ ?_ <;> intro _) | fail)
      refine clN_Y (hg0) ?_
      intro _ _
      repeat' (first | (refine go_Y ?_; intros) | (refine gs_Y ?_ ?_ <;> (intro hgd; try (simp only [Bool.not_true, Bool.not_false] at hgd))) | (refine gc_Y ?_ ?_ <;> intro _) | fail)
      refine cont_node [] [(6, [6], [0, 1, 5, 7])] rfl (by decide +kernel) ?_
      intro x hx
      simp only [List.mem_cons, List.not_mem_nil, or_false] at hx
      subst hx
      · dsimp only [List.length_cons, List.length_nil]
        repeat' (first | (refine go_Y ?_; intros) | (refine gs_Y ?_ ?_ <;> (intro hgd; try (simp only [Bool.not_true, Bool.not_false] at hgd))) | (refine gc_Y ?_ ?_ <;> intro _) | fail)
        rename_i b4
        refine cont_node [] [(7, [0, 1, 5, 7], [])] rfl (by decide +kernel) ?_
        intro x hx
        simp only [List.mem_cons, List.not_mem_nil, or_false] at hx
        subst hx
        · dsimp only [List.length_cons, List.length_nil]
          repeat' (first | (refine go_Y ?_; intros) | (refine gs_Y ?_ ?_ <;> (intro hgd; try (simp only [Bool.not_true, Bool.not_false] at hgd))) | (refine gc_Y ?_ ?_ <;> intro _) | fail)
          refine cont_node0 (by decide +kernel) ?_
          repeat' (first | (refine go_Y ?_; intros) | (refine gs_Y ?_ ?_ <;> (intro hgd; try (simp only [Bool.not_true, Bool.not_false] at hgd))) | (refine gc_Y ?_ ?_ <;> intro _) | fail)
          refine cont_map (L' := [pts b4 (.cells [.int .u8 (c0.toNat : Int), .int .u64 (valB (s.extract 1 9)), .slice none 0 0, .slice none 0 0].toArray 59), pts b2 (.cells [.int .u8 0, .int .u64 0, .slice none 0 0, .slice none 0 0].toArray 59), row 3 1 (.slice none 0 0) [], row 25 1 (.slice none 0 0) [], row 3 1 (.slice none 0 0) [], row 25 1 (.slice none 0 0) []] ++ R) entD ?_
          exact cont_meet b4 ⟨⟨rfl, rfl, rfl, trivial⟩, rfl⟩
    · dsimp only [List.length_cons, List.length_nil]
      repeat' (first | (refine go_Y ?_; intros) | (refine gs_Y ?_ ?_ <;> (intro hgd; try (simp only [Bool.not_true, Bool.not_false] at hgd))) | (refine gc_Y ?_ ?_ <;> intro _) | fail)
      rename_i b4
      refine cont_node [] [(4, [2, 3, 4], [0, 1, 5, 7])] rfl (by decide +kernel) ?_
      intro x hx
      simp only [List.mem_cons, List.not_mem_nil, or_false] at hx
      subst hx
      · dsimp only [List.length_cons, List.length_nil]
        repeat' (first | (refine go_Y ?_; intros) | (refine gs_Y ?_ ?_ <;> (intro hgd; try (simp only [Bool.not_true, Bool.not_false] at hgd))) | (refine gc_Y ?_ ?_ <;> intro _) | fail)
        refine clN_Y (hg0) ?_
        intro _ _
        repeat' (first | (refine go_Y ?_; intros) | (refine gs_Y ?_ ?_ <;> (intro hgd; try (simp only [Bool.not_true, Bool.not_false] at hgd))) | (refine gc_Y ?_ ?_ <;> intro _) | fail)
        refine cont_node [] [(7, [0, 1, 5, 7], [])] rfl (by decide +kernel) ?_
        intro x hx
        simp only [List.mem_cons, List.not_mem_nil, or_false] at hx
        subst hx
        · dsimp only [List.length_cons, List.length_nil]
          repeat' (first | (refine go_Y ?_; intros) | (refine gs_Y ?_ ?_ <;> (intro hgd; try (simp only [Bool.not_true, Bool.not_false] at hgd))) | (refine gc_Y ?_ ?_ <;> intro _) | fail)
          refine cont_node0 (by decide +kernel) ?_
          repeat' (first | (refine go_Y ?_; intros) | (refine gs_Y ?_ ?_ <;> (intro hgd; try (simp only [Bool.not_true, Bool.not_false] at hgd))) | (refine gc_Y ?_ ?_ <;> intro _) | fail)
          refine cont_map (L' := [pts b4 (.cells [.int .u8 (c0.toNat : Int), .int .u64 (valB (s.extract 1 9)), .slice none 0 0, .slice none 0 0].toArray 59), pts b2 (.cells [.int .u8 0, .int .u64 0, .slice none 0 0, .slice none 0 0].toArray 59), row 3 1 (.slice none 0 0) [], row 25 1 (.slice none 0 0) [], row 3 1 (.slice none 0 0) [], row 25 1 (.slice none 0 0) []] ++ R) entD ?_
          exact cont_meet b4 ⟨⟨rfl, rfl, rfl, trivial⟩, rfl⟩
  rintro b4 ρ L ⟨hk, rfl⟩
  refine cont_regs hk ?_
  repeat' (first | (refine go_Y ?_; intros) | (refine gs_Y ?_ ?_ <;> (intro hgd; try (simp only [Bool.not_true, Bool.not_false] at hgd))) | (refine gc_Y ?_ ?_ <;> intro _) | fail)
  have hn9 : c9.toNat ≤ 255 := by have := c9.toNat_lt; omega
  refine ok_map (L' := [pts b4 (.cells [.int .u8 (c0.toNat : Int), .int .u64 (valB (s.extract 1 9)), .slice none 0 0, .slice none 0 0].toArray 59), row 25 1 (.slice none 0 0) [], pts b2 (.cells [.int .u8 0, .int .u64 0, .slice none 0 0, .slice none 0 0].toArray 59), row 3 1 (.slice none 0 0) [], row 3 1 (.slice none 0 0) [], row 25 1 (.slice none 0 0) []] ++ R) entD ?_
  refine ok_loop' (γ := Nat × V1s) (fun g ρ L => g.1 ≤ c9.toNat ∧ 10 + 8 * g.1 ≤ s.size ∧ Knows ρ [(2, .pointer (some ⟨b2, 0, none⟩)), (4, .pointer (some ⟨b4, 0, none⟩)), (5, .int .i64 (c9.toNat : Int)), (6, .string (s.extract (10 + 8 * g.1) s.size)), (22, .int .i64 (c9.toNat : Int)), (23, .int .i64 (g.1 : Int))] ∧
      L = [pts b4 (.cells [.int .u8 (c0.toNat : Int), .int .u64 (valB (s.extract 1 9)), .slice none 0 0, g.2.1].toArray 59), row 25 1 g.2.1 ((qsM s g.1).map sqV), pts b2 (.cells [.int .u8 0, .int .u64 0, .slice none 0 0, .slice none 0 0].toArray 59), row 3 1 (.slice none 0 0) [], row 3 1 (.slice none 0 0) [], row 25 1 (.slice none 0 0) []] ++ R) (fun g => c9.toNat - g.1) (0, ⟨.slice none 0 0, rfl⟩) ⟨Nat.zero_le _, by omega, ⟨rfl, rfl, rfl, rfl, rfl, rfl, trivial⟩, rfl⟩ ?_
  rintro ⟨j, u, hu⟩ ρ L ⟨hj, hjs, hk, rfl⟩
  dsimp only at hj hjs hk ⊢
  refine ok_regs hk ?_
  have hes : (s.extract (10 + 8 * j) s.size).size = s.size - (10 + 8 * j) := by rw [ByteArray.size_extract]; omega
  cases v1 : decide ((j : Int) < (c9.toNat : Int)) with
  | true =>
    have hj0 : j < c9.toNat := by rw [decide_eq_true_eq] at v1; omega
    cases v2 : decide (((s.extract (10 + 8 * j) s.size).size : Int) < 8) with
    | true =>
      rw [getMK_seq (by rw [decide_eq_true_eq] at v2; omega)]
      dsimp only [mk0, List.map_nil]
      repeat' (first | (refine go_Y ?_; intros) | (refine gs_Y ?_ ?_ <;> (intro hgd; try (simp only [Bool.not_true, Bool.not_false] at hgd))) | (refine gc_Y ?_ ?_ <;> intro _) | fail)
      (refine rt_Y (y := (⟨.slice none 0 0, rfl⟩, ⟨.slice none 0 0, rfl⟩)) (hrs := Tryd.results52) (hv := ?_) (hφ := ?_))
      · rfl
      · trivial
    | false =>
      have h8 : 10 + 8 * j + 8 ≤ s.size := by rw [decide_eq_false_iff_not] at v2; omega
      have hr3 : (0 : Int) ≤ 8 ∧ (8 : Int) ≤ ((s.extract (10 + 8 * j) s.size).size : Int) := ⟨by omega, by omega⟩
      have hx8 : (s.extract (10 + 8 * j) s.size).extract 0 (8 : Int).toNat = s.extract (10 + 8 * j) (10 + 8 * j + 8) := ext_ext s _ 8 h8
      have htl : (s.extract (10 + 8 * j) s.size).extract (8 : Int).toNat (s.extract (10 + 8 * j) s.size).size = s.extract (10 + 8 * (j + 1)) s.size := by rw [hes]; exact ext_tail s _ 8 h8
      have hg := get64_spec ((s.extract (10 + 8 * j) s.size).extract 0 (8 : Int).toNat) (by rw [hx8, ByteArray.size_extract]; omega) (by rw [hx8, ByteArray.size_extract]; omega)
      have hap : (qsM s j).map sqV ++ [(Value.int .u64 (valB ((s.extract (10 + 8 * j) s.size).extract 0 (8 : Int).toNat))).cells.toList] = (qsM s (j + 1)).map sqV := by rw [qsM_succ, List.map_append, hx8]; rfl
      have hql : (qsM s j).length ≤ 255 := by rw [qsM_len]; omega
      repeat' (first | (refine go_Y ?_; intros) | (refine gs_Y ?_ ?_ <;> (intro hgd; try (simp only [Bool.not_true, Bool.not_false] at hgd))) | (refine gc_Y ?_ ?_ <;> intro _) | fail)
      (apply ok_draw [4, 5]; (focus (kernel_rfl)); (focus ((conv => lhs; whnf); first | done | rfl)); (focus (decide +kernel)); (focus (exact (fun _ h => h))))
      repeat' (first | (refine go_Y ?_; intros) | (refine gs_Y ?_ ?_ <;> (intro hgd; try (simp only [Bool.not_true, Bool.not_false] at hgd))) | (refine gc_Y ?_ ?_ <;> intro _) | fail)
      refine clN_Y (hg) ?_
      intro _ _
      repeat' (first | (refine go_Y ?_; intros) | (refine gs_Y ?_ ?_ <;> (intro hgd; try (simp only [Bool.not_true, Bool.not_false] at hgd))) | (refine gc_Y ?_ ?_ <;> intro _) | fail)
      rename_i v3 hv3 v4 hv4
      rw [hap, htl]
      refine cont_map (L' := [pts b4 (.cells [.int .u8 (c0.toNat : Int), .int .u64 (valB (s.extract 1 9)), .slice none 0 0, v4].toArray 59), row 25 1 v4 ((qsM s (j + 1)).map sqV), pts b2 (.cells [.int .u8 0, .int .u64 0, .slice none 0 0, .slice none 0 0].toArray 59), row 3 1 (.slice none 0 0) [], row 3 1 (.slice none 0 0) [], row 25 1 (.slice none 0 0) []] ++ R) entD ?_
      refine cont_back (j + 1, ⟨v4, hv4⟩) ⟨hj0, by omega, ⟨rfl, rfl, rfl, rfl, rfl, rfl, trivial⟩, rfl⟩ (by dsimp only; omega)
  | false =>
  have hje : j = c9.toNat := by rw [decide_eq_false_iff_not] at v1; omega
  subst hje
  repeat' (first | (refine go_Y ?_; intros) | (refine gs_Y ?_ ?_ <;> (intro hgd; try (simp only [Bool.not_true, Bool.not_false] at hgd))) | (refine gc_Y ?_ ?_ <;> intro _) | fail)
  refine ok_map (L' := [pts b4 (.cells [.int .u8 (c0.toNat : Int), .int .u64 (valB (s.extract 1 9)), .slice none 0 0, u].toArray 59), row 3 1 (.slice none 0 0) [], row 25 1 u ((qsM s c9.toNat).map sqV), pts b2 (.cells [.int .u8 0, .int .u64 0, .slice none 0 0, .slice none 0 0].toArray 59), row 3 1 (.slice none 0 0) [], row 25 1 (.slice none 0 0) []] ++ R) entD ?_
  refine ok_loop' (γ := Nat × V1s) (fun g ρ L => g.1 ≤ c9.toNat ∧ 10 + 8 * c9.toNat + 2 * g.1 ≤ s.size ∧ Knows ρ [(2, .pointer (some ⟨b2, 0, none⟩)), (4, .pointer (some ⟨b4, 0, none⟩)), (5, .int .i64 (c9.toNat : Int)), (6, .string (s.extract (10 + 8 * c9.toNat + 2 * g.1) s.size))] ∧
      L = [pts b4 (.cells [.int .u8 (c0.toNat : Int), .int .u64 (valB (s.extract 1 9)), g.2.1, u].toArray 59), row 3 1 g.2.1 ((csM s g.1).map dpV), row 25 1 u ((qsM s c9.toNat).map sqV), pts b2 (.cells [.int .u8 0, .int .u64 0, .slice none 0 0, .slice none 0 0].toArray 59), row 3 1 (.slice none 0 0) [], row 25 1 (.slice none 0 0) []] ++ R) (fun g => c9.toNat - g.1) (0, ⟨.slice none 0 0, rfl⟩) ⟨Nat.zero_le _, by omega, ⟨rfl, rfl, rfl, rfl, trivial⟩, rfl⟩ ?_
  rintro ⟨i, c, hc⟩ ρ L ⟨hi, his, hk, rfl⟩
  dsimp only at hi his hk ⊢
  refine ok_regs hk ?_
  clear hes v1
  have hes : (s.extract (10 + 8 * c9.toNat + 2 * i) s.size).size = s.size - (10 + 8 * c9.toNat + 2 * i) := by rw [ByteArray.size_extract]; omega
  have hcl : ((csM s i).map dpV).length = i := by rw [List.length_map, csM_len]
  cases v2 : decide ((2 : Int) ≤ ((s.extract (10 + 8 * c9.toNat + 2 * i) s.size).size : Int)) with
  | false =>
    have hxt : s.size - (10 + 8 * c9.toNat + 2 * i) < 2 ∨ c9.toNat ≤ i := .inl (by rw [decide_eq_false_iff_not] at v2; omega)
    cases v4 : (!((s.extract (10 + 8 * c9.toNat + 2 * i) s.size).toList == (⟨#[]⟩ : ByteArray).toList)) with
    | true =>
      have hne : 10 + 8 * c9.toNat + 2 * i < s.size := by
        rw [emp_size, Bool.not_eq_true', decide_eq_false_iff_not] at v4
        omega
      rw [getMK_rest (j := i) (by omega) (by rw [hn]; exact hne) (by rw [hn]; exact hxt)]
      dsimp only [mk0, List.map_nil]
      repeat' (first | (refine go_Y ?_; intros) | (refine gs_Y ?_ ?_ <;> (intro hgd; try (simp only [Bool.not_true, Bool.not_false] at hgd))) | (refine gc_Y ?_ ?_ <;> intro _) | fail)
      (refine rt_Y (y := (⟨.slice none 0 0, rfl⟩, ⟨.slice none 0 0, rfl⟩)) (hrs := Tryd.results52) (hv := ?_) (hφ := ?_))
      · rfl
      · trivial
    | false =>
      have heq : s.size = 10 + 8 * c9.toNat + 2 * i := by
        have v5 := v4
        rw [emp_size, Bool.not_eq_false', decide_eq_true_eq] at v5
        omega
      have hme := getMK_end (s := s) (j := i) (by omega) (by rw [hn]; exact heq)
      rw [hb0, hn] at hme
      have hck := ckMark_spec (c0.toNat : Int) (valB (s.extract 1 9)) (csM s i) (qsM s c9.toNat) c u (row 3 1 c ((csM s i).map dpV)) (row 25 1 u ((qsM s c9.toNat).map sqV)) Vw.row Vw.row (by rw [csM_len]; omega) (by rw [qsM_len]; omega)
      cases hmm : mayMk (c0.toNat : Int) (csM s i) (qsM s c9.toNat) with
      | true =>
        rw [hmm, if_pos rfl] at hme
        rw [hmm, cond_true] at hck
        rw [hme]
        dsimp only
        clear hme
        generalize csM s i = CS at hck hcl ⊢
        generalize qsM s c9.toNat = QS at hck ⊢
        generalize valB (s.extract 1 9) = TX at hck ⊢
        refine ok_learn (rowShapeS (e := 3) (n := 1) (v := c) (xs := CS.map dpV) (by decide) takeD) ?_
        rintro ⟨pc, cc, rfl, _, _⟩
        refine ok_learn (rowShapeS (e := 25) (n := 1) (v := u) (xs := QS.map sqV) (by decide) takeD) ?_
        rintro ⟨pu, cu, rfl, _, _⟩
        repeat' (first | (refine go_Y ?_; intros) | (refine gs_Y ?_ ?_ <;> (intro hgd; try (simp only [Bool.not_true, Bool.not_false] at hgd))) | (refine gc_Y ?_ ?_ <;> intro _) | fail)
        refine cl_Y (hck) ?_
        intro _ _
        repeat' (first | (refine go_Y ?_; intros) | (refine gs_Y ?_ ?_ <;> (intro hgd; try (simp only [Bool.not_true, Bool.not_false] at hgd))) | (refine gc_Y ?_ ?_ <;> intro _) | fail)
        (refine rt_Y (y := (⟨_, hc⟩, ⟨_, hu⟩)) (hrs := Tryd.results52) (hv := ?_) (hφ := ?_))
        · rfl
        · trivial
      | false =>
        rw [hmm, if_neg Bool.false_ne_true] at hme
        rw [hmm, cond_false] at hck
        rw [hme]
        dsimp only [mk0, List.map_nil]
        repeat' (first | (refine go_Y ?_; intros) | (refine gs_Y ?_ ?_ <;> (intro hgd; try (simp only [Bool.not_true, Bool.not_false] at hgd))) | (refine gc_Y ?_ ?_ <;> intro _) | fail)
        refine cl_Y (hck) ?_
        intro _ _
        repeat' (first | (refine go_Y ?_; intros) | (refine gs_Y ?_ ?_ <;> (intro hgd; try (simp only [Bool.not_true, Bool.not_false] at hgd))) | (refine gc_Y ?_ ?_ <;> intro _) | fail)
        (refine rt_Y (y := (⟨.slice none 0 0, rfl⟩, ⟨.slice none 0 0, rfl⟩)) (hrs := Tryd.results52) (hv := ?_) (hφ := ?_))
        · rfl
        · trivial
  | true =>
    cases v3 : decide ((((csM s i).map dpV).length : Int) < (c9.toNat : Int)) with
    | false =>
      have hxt : s.size - (10 + 8 * c9.toNat + 2 * i) < 2 ∨ c9.toNat ≤ i := .inr (by rw [decide_eq_false_iff_not] at v3; omega)
      cases v4 : (!((s.extract (10 + 8 * c9.toNat + 2 * i) s.size).toList == (⟨#[]⟩ : ByteArray).toList)) with
      | true =>
        have hne : 10 + 8 * c9.toNat + 2 * i < s.size := by
          rw [emp_size, Bool.not_eq_true', decide_eq_false_iff_not] at v4
          omega
        rw [getMK_rest (j := i) (by omega) (by rw [hn]; exact hne) (by rw [hn]; exact hxt)]
        dsimp only [mk0, List.map_nil]
        repeat' (first | (refine go_Y ?_; intros) | (refine gs_Y ?_ ?_ <;> (intro hgd; try (simp only [Bool.not_true, Bool.not_false] at hgd))) | (refine gc_Y ?_ ?_ <;> intro _) | fail)
        (refine rt_Y (y := (⟨.slice none 0 0, rfl⟩, ⟨.slice none 0 0, rfl⟩)) (hrs := Tryd.results52) (hv := ?_) (hφ := ?_))
        · rfl
        · trivial
      | false =>
        have heq : s.size = 10 + 8 * c9.toNat + 2 * i := by
          have v5 := v4
          rw [emp_size, Bool.not_eq_false', decide_eq_true_eq] at v5
          omega
        have hme := getMK_end (s := s) (j := i) (by omega) (by rw [hn]; exact heq)
        rw [hb0, hn] at hme
        have hck := ckMark_spec (c0.toNat : Int) (valB (s.extract 1 9)) (csM s i) (qsM s c9.toNat) c u (row 3 1 c ((csM s i).map dpV)) (row 25 1 u ((qsM s c9.toNat).map sqV)) Vw.row Vw.row (by rw [csM_len]; omega) (by rw [qsM_len]; omega)
        cases hmm : mayMk (c0.toNat : Int) (csM s i) (qsM s c9.toNat) with
        | true =>
          rw [hmm, if_pos rfl] at hme
          rw [hmm, cond_true] at hck
          rw [hme]
          dsimp only
          clear hme
          generalize csM s i = CS at hck hcl v3 ⊢
          generalize qsM s c9.toNat = QS at hck ⊢
          generalize valB (s.extract 1 9) = TX at hck ⊢
          refine ok_learn (rowShapeS (e := 3) (n := 1) (v := c) (xs := CS.map dpV) (by decide) takeD) ?_
          rintro ⟨pc, cc, rfl, _, _⟩
          refine ok_learn (rowShapeS (e := 25) (n := 1) (v := u) (xs := QS.map sqV) (by decide) takeD) ?_
          rintro ⟨pu, cu, rfl, _, _⟩
          repeat' (first | (refine go_Y ?_; intros) | (refine gs_Y ?_ ?_ <;> (intro hgd; try (simp only [Bool.not_true, Bool.not_false] at hgd))) | (refine gc_Y ?_ ?_ <;> intro _) | fail)
          refine cl_Y (hck) ?_
          intro _ _
          repeat' (first | (refine go_Y ?_; intros) | (refine gs_Y ?_ ?_ <;> (intro hgd; try (simp only [Bool.not_true, Bool.not_false] at hgd))) | (refine gc_Y ?_ ?_ <;> intro _) | fail)
          (refine rt_Y (y := (⟨_, hc⟩, ⟨_, hu⟩)) (hrs := Tryd.results52) (hv := ?_) (hφ := ?_))
          · rfl
          · trivial
        | false =>
          rw [hmm, if_neg Bool.false_ne_true] at hme
          rw [hmm, cond_false] at hck
          rw [hme]
          dsimp only [mk0, List.map_nil]
          repeat' (first | (refine go_Y ?_; intros) | (refine gs_Y ?_ ?_ <;> (intro hgd; try (simp only [Bool.not_true, Bool.not_false] at hgd))) | (refine gc_Y ?_ ?_ <;> intro _) | fail)
          refine cl_Y (hck) ?_
          intro _ _
          repeat' (first | (refine go_Y ?_; intros) | (refine gs_Y ?_ ?_ <;> (intro hgd; try (simp only [Bool.not_true, Bool.not_false] at hgd))) | (refine gc_Y ?_ ?_ <;> intro _) | fail)
          (refine rt_Y (y := (⟨.slice none 0 0, rfl⟩, ⟨.slice none 0 0, rfl⟩)) (hrs := Tryd.results52) (hv := ?_) (hφ := ?_))
          · rfl
          · trivial
    | true =>
      have hi0 : i < c9.toNat := by rw [decide_eq_true_eq] at v3; omega
      have h8 : 10 + 8 * c9.toNat + 2 * i + 2 ≤ s.size := by rw [decide_eq_true_eq] at v2; omega
      have hr3 : (0 : Int) ≤ 2 ∧ (2 : Int) ≤ ((s.extract (10 + 8 * c9.toNat + 2 * i) s.size).size : Int) := ⟨by omega, by omega⟩
      have hx8 : (s.extract (10 + 8 * c9.toNat + 2 * i) s.size).extract 0 (2 : Int).toNat = s.extract (10 + 8 * c9.toNat + 2 * i) (10 + 8 * c9.toNat + 2 * i + 2) := ext_ext s _ 2 h8
      have htl : (s.extract (10 + 8 * c9.toNat + 2 * i) s.size).extract (2 : Int).toNat (s.extract (10 + 8 * c9.toNat + 2 * i) s.size).size = s.extract (10 + 8 * c9.toNat + 2 * (i + 1)) s.size := by rw [hes]; exact ext_tail s _ 2 h8
      have hg := getI_spec ((s.extract (10 + 8 * c9.toNat + 2 * i) s.size).extract 0 (2 : Int).toNat) (by rw [hx8, ByteArray.size_extract]; omega)
      have hap : (csM s i).map dpV ++ [(Value.int .i64 (valB ((s.extract (10 + 8 * c9.toNat + 2 * i) s.size).extract 0 (2 : Int).toNat))).cells.toList] = (csM s (i + 1)).map dpV := by rw [csM_succ, List.map_append, hx8, hn]; rfl
      have hql : (csM s i).length ≤ 255 := by rw [csM_len]; omega
      repeat' (first | (refine go_Y ?_; intros) | (refine gs_Y ?_ ?_ <;> (intro hgd; try (simp only [Bool.not_true, Bool.not_false] at hgd))) | (refine gc_Y ?_ ?_ <;> intro _) | fail)
      (apply ok_draw [4, 5]; (focus (kernel_rfl)); (focus ((conv => lhs; whnf); first | done | rfl)); (focus (decide +kernel)); (focus (exact (fun _ h => h))))
      repeat' (first | (refine go_Y ?_; intros) | (refine gs_Y ?_ ?_ <;> (intro hgd; try (simp only [Bool.not_true, Bool.not_false] at hgd))) | (refine gc_Y ?_ ?_ <;> intro _) | fail)
      refine clN_Y (hg) ?_
      intro _ _
      repeat' (first | (refine go_Y ?_; intros) | (refine gs_Y ?_ ?_ <;> (intro hgd; try (simp only [Bool.not_true, Bool.not_false] at hgd))) | (refine gc_Y ?_ ?_ <;> intro _) | fail)
      rename_i v5 hv5 v4 hv4
      rw [hap, htl]
      refine cont_map (L' := [pts b4 (.cells [.int .u8 (c0.toNat : Int), .int .u64 (valB (s.extract 1 9)), v4, u].toArray 59), row 3 1 v4 ((csM s (i + 1)).map dpV), row 25 1 u ((qsM s c9.toNat).map sqV), pts b2 (.cells [.int .u8 0, .int .u64 0, .slice none 0 0, .slice none 0 0].toArray 59), row 3 1 (.slice none 0 0) [], row 25 1 (.slice none 0 0) []] ++ R) entD ?_
      refine cont_back (i + 1, ⟨v4, hv4⟩) ⟨hi0, by omega, ⟨rfl, rfl, rfl, rfl, trivial⟩, rfl⟩ (by dsimp only; omega)
end Go.Proofs.YtphaegcoldpclaaDoor
set_option linter.unusedSimpArgs false
set_option linter.unusedVariables false
set_option maxRecDepth 100000
namespace Go.Proofs.YtphaegcoldpclaaDoor
open Go Go.Fx Go.Proofs Go.Pl

theorem fits1_spec (x : Int) (A : HProp) : FSpec Tryd.prog 66 [.int .u64 x] [A] Unit (fun _ => True) (fun _ => .bool (decide (4611686018427387904 < x))) (fun _ => [A]) := by
  refine spec_intro [] _ Tryd.func66 rfl Tryd.ntmps66 (by rfl) (fun w0 R => ?_)
  repeat' (first | (refine go_Y ?_; intros) | (refine gs_Y ?_ ?_ <;> (intro hgd; try (simp only [Bool.not_true, Bool.not_false] at hgd))) | (refine gc_Y ?_ ?_ <;> intro _) | fail)
  (refine rt_Y (y := ()) (hrs := Tryd.results66) (hv := ?_) (hφ := ?_))
  · rfl
  · trivial
theorem idxQ_spec (fv u : Value) (A : HProp) (p : Int → Bool) (l : List Int) (hA : Vw A 1 u (l.map sqV)) (hf : ∀ s ∈ l, VSpec Tryd.prog fv [.int .u64 s] [A] Unit (fun _ => True) (fun _ => .bool (p s)) (fun _ => [A])) (hl : l.length ≤ 4611686018427387904) :
    FSpec Tryd.prog 91 [u, fv] [A] Int (fun y => decide (0 ≤ y) = l.any p) (fun y => .int .i64 y) (fun _ => [A]) := by
  refine spec_intro [] _ Tryd.func91 rfl Tryd.ntmps91 (by rfl) (fun w0 R => ?_)
  refine ok_learn (VwIn.slice (VwIn.here hA)) ?_
  rintro ⟨pu, cu, rfl⟩
  repeat' (first | (refine go_Y ?_; intros) | (refine gs_Y ?_ ?_ <;> (intro hgd; try (simp only [Bool.not_true, Bool.not_false] at hgd))) | (refine gc_Y ?_ ?_ <;> intro _) | fail)
  refine ok_loop' (γ := Nat) (fun n ρ L => n ≤ l.length ∧ (l.take n).any p = false ∧ Knows ρ [(0, .slice pu (l.map sqV).length cu), (1, fv), (7, .int .i64 (l.map sqV).length), (8, .int .i64 n)] ∧ L = [A] ++ R) (fun n => l.length - n) 0 ⟨by omega, rfl, ⟨rfl, rfl, rfl, rfl, trivial⟩, rfl⟩ ?_
  rintro n ρ L ⟨hn, hall, hk, rfl⟩
  refine ok_regs hk ?_
  have hlen : (l.map sqV).length = l.length := by simp
  cases t1 : decide ((n : Int) < ((l.map sqV).length : Int)) with
  | false =>
    have hn' : n = l.length := by simp at t1; omega
    have hfull : l.any p = false := by rw [hn', List.take_of_length_le (Nat.le_refl _)] at hall; exact hall
    repeat' (first | (refine go_Y ?_; intros) | (refine gs_Y ?_ ?_ <;> (intro hgd; try (simp only [Bool.not_true, Bool.not_false] at hgd))) | (refine gc_Y ?_ ?_ <;> intro _) | fail)
    (refine rt_Y (y := (-1)) (hrs := Tryd.results91) (hv := ?_) (hφ := ?_))
    · rfl
    · rw [hfull]; rfl
  | true =>
    have h : n < l.length := by simp at t1; omega
    have hx : (l.map sqV)[n]? = some (sqV l[n]) := by rw [List.getElem?_map, List.getElem?_eq_getElem h]; rfl
    have hn1 : n < (l.map sqV).length := by omega
    have htk : l.take (n + 1) = l.take n ++ [l[n]] := List.take_succ_eq_append_getElem h
    have hin : l[n] ∈ l := List.getElem_mem h
    have hfs := hf l[n] hin
    refine ok_learn (VwIn.base (VwIn.here hA) (by intro e; rw [e] at hn1; simp at hn1)) ?_
    rintro ⟨bu, ou, rfl⟩
    generalize l[n] = c at hx htk hin hfs
    dsimp only [sqV] at hx hfs
    repeat' (first | (refine go_Y ?_; intros) | (refine gs_Y ?_ ?_ <;> (intro hgd; try (simp only [Bool.not_true, Bool.not_false] at hgd))) | (refine gc_Y ?_ ?_ <;> intro _) | fail)
    refine clV_Y (hfs) ?_
    intro _ _
    cases hp : p c with
    | true =>
      repeat' (first | (refine go_Y ?_; intros) | (refine gs_Y ?_ ?_ <;> (intro hgd; try (simp only [Bool.not_true, Bool.not_false] at hgd))) | (refine gc_Y ?_ ?_ <;> intro _) | fail)
      (refine rt_Y (y := (n : Int)) (hrs := Tryd.results91) (hv := ?_) (hφ := ?_))
      · rfl
      · rw [List.any_eq_true.2 ⟨_, hin, hp⟩]; simp
    | false =>
      repeat' (first | (refine go_Y ?_; intros) | (refine gs_Y ?_ ?_ <;> (intro hgd; try (simp only [Bool.not_true, Bool.not_false] at hgd))) | (refine gc_Y ?_ ?_ <;> intro _) | fail)
      refine cont_back (n + 1) ⟨h, by rw [htk, List.any_append, hall]; simp [hp], ⟨rfl, rfl, rfl, rfl, trivial⟩, rfl⟩ (by omega)
theorem hasQ_spec (fv u : Value) (A : HProp) (p : Int → Bool) (l : List Int) (hA : Vw A 1 u (l.map sqV)) (hf : ∀ s ∈ l, VSpec Tryd.prog fv [.int .u64 s] [A] Unit (fun _ => True) (fun _ => .bool (p s)) (fun _ => [A])) (hl : l.length ≤ 4611686018427387904) :
    FSpec Tryd.prog 65 [u, fv] [A] Unit (fun _ => True) (fun _ => .bool (l.any p)) (fun _ => [A]) := by
  refine spec_intro [] _ Tryd.func65 rfl Tryd.ntmps65 (by rfl) (fun w0 R => ?_)
  repeat' (first | (refine go_Y ?_; intros) | (refine gs_Y ?_ ?_ <;> (intro hgd; try (simp only [Bool.not_true, Bool.not_false] at hgd))) | (refine gc_Y ?_ ?_ <;> intro _) | fail)
  refine cl_Y (idxQ_spec fv u A p l hA hf hl) ?_
  intro y hy
  repeat' (first | (refine go_Y ?_; intros) | (refine gs_Y ?_ ?_ <;> (intro hgd; try (simp only [Bool.not_true, Bool.not_false] at hgd))) | (refine gc_Y ?_ ?_ <;> intro _) | fail)
  rw [← hy]
  (refine rt_Y (y := ()) (hrs := Tryd.results65) (hv := ?_) (hφ := ?_))
  · rfl
  · trivial
theorem stFits_spec (m : Int) (qs : List Int) (vs uq : Value) (ts : List Tb) (A B : HProp) (hA : Vw A 5 vs (ts.map tbV)) (hB : Vw B 1 uq (qs.map sqV)) (hl : qs.length ≤ 4611686018427387904) :
    FSpec Tryd.prog 33 [.agg #[vs], .agg #[.int .u64 m, uq]] [A, B] Unit (fun _ => True) (fun _ => .bool (fitsP ts.length m qs)) (fun _ => [A, B]) := by
  have l1 : (ts.map tbV).length = ts.length := by simp
  have l2 : (qs.map sqV).length = qs.length := by simp
  have hfp : fitsP ts.length m qs = (decide (((qs.map sqV).length : Int) = ((ts.map tbV).length : Int)) && (decide (m ≤ 4611686018427387904) && !qs.any fun x => decide (4611686018427387904 < x))) := by
    unfold fitsP
    congr 1
    rw [l1, l2, decide_eq_decide]; omega
  rw [hfp]
  clear hfp
  refine fspec_lrn (fun R hh s => (VwIn.slice (VwIn.here hA)) hh s) ?_
  rintro ⟨pv, cv, rfl⟩
  refine fspec_lrn (fun R hh s => (VwIn.slice (VwIn.there (VwIn.here hB))) hh s) ?_
  rintro ⟨pq, cq, rfl⟩
  have hc := hasQ_spec (.func (.func 66) #[] #[]) (.slice pq (qs.map sqV).length cq) B (fun x => decide (4611686018427387904 < x)) qs hB (fun x _ => vspec_fn (fits1_spec x B)) hl
  generalize (qs.any fun x => decide (4611686018427387904 < x)) = q at hc
  cases c1 : decide (((qs.map sqV).length : Int) = ((ts.map tbV).length : Int)) with
  | false =>
    rw [Bool.false_and]
    refine spec_intro [] _ Tryd.func33 rfl Tryd.ntmps33 (by rfl) (fun w0 R => ?_)
    repeat' (first | (refine go_Y ?_; intros) | (refine gs_Y ?_ ?_ <;> (intro hgd; try (simp only [Bool.not_true, Bool.not_false] at hgd))) | (refine gc_Y ?_ ?_ <;> intro _) | fail)
    (refine rt_Y (y := ()) (hrs := Tryd.results33) (hv := ?_) (hφ := ?_))
    · rfl
    · trivial
  | true =>
  rw [Bool.true_and]
  cases c2 : decide (m ≤ 4611686018427387904) with
  | false =>
    rw [Bool.false_and]
    refine spec_intro [] _ Tryd.func33 rfl Tryd.ntmps33 (by rfl) (fun w0 R => ?_)
    repeat' (first | (refine go_Y ?_; intros) | (refine gs_Y ?_ ?_ <;> (intro hgd; try (simp only [Bool.not_true, Bool.not_false] at hgd))) | (refine gc_Y ?_ ?_ <;> intro _) | fail)
    (refine rt_Y (y := ()) (hrs := Tryd.results33) (hv := ?_) (hφ := ?_))
    · rfl
    · trivial
  | true =>
  rw [Bool.true_and]
  refine spec_intro [] _ Tryd.func33 rfl Tryd.ntmps33 (by rfl) (fun w0 R => ?_)
  repeat' (first | (refine go_Y ?_; intros) | (refine gs_Y ?_ ?_ <;> (intro hgd; try (simp only [Bool.not_true, Bool.not_false] at hgd))) | (refine gc_Y ?_ ?_ <;> intro _) | fail)
  refine cl_Y (hc) ?_
  intro _ _
  repeat' (first | (refine go_Y ?_; intros) | (refine gs_Y ?_ ?_ <;> (intro hgd; try (simp only [Bool.not_true, Bool.not_false] at hgd))) | (refine gc_Y ?_ ?_ <;> intro _) | fail)
  (refine rt_Y (y := ()) (hrs := Tryd.results33) (hv := ?_) (hφ := ?_))
  · rfl
  · trivial
def tpR (l : List BA) (j : Nat) : List (List Value) := (List.range l.length).map fun i => [.string (if i < j then gT l i else ⟨#[]⟩)]
theorem tpR_0 (l : List BA) : tpR l 0 = List.replicate l.length [.string ⟨#[]⟩] := by
  apply List.ext_getElem
  · simp [tpR]
  · intro i h1 h2
    simp [tpR]
theorem tpR_set (l : List BA) (k : Nat) (h : k < l.length) : (tpR l k).set k [.string (gT l k)] = tpR l (k + 1) := by
  apply List.ext_getElem
  · simp [tpR]
  · intro i h1 h2
    simp only [tpR, List.getElem_set, List.getElem_map, List.getElem_range]
    by_cases e : k = i
    · subst e; rw [if_pos rfl, if_pos (by omega)]
    · rw [if_neg e]
      by_cases c : i < k
      · rw [if_pos c, if_pos (by omega)]
      · rw [if_neg c, if_neg (by omega)]
theorem tpR_n (l : List BA) : tpR l l.length = l.map fun s => [.string s] := by
  apply List.ext_getElem
  · simp [tpR]
  · intro i h1 h2
    have : i < l.length := by simpa [tpR] using h1
    simp [tpR, this, gT]
theorem topics_bad (vs : Value) (ts : List Tb) (A : HProp) (h : SV A vs ts) (hc : checkS (ts.map Tb.c) = false) :
    FSpec Tryd.prog 13 [.agg #[vs]] [A] Unit (fun _ => True) (fun _ => .slice none 0 0) (fun _ => [A]) := by
  have e0 : (!decide ((2 : Int) = (0 : Int))) = true := by decide
  have hA := h.vw
  refine fspec_lrn (fun R hh s => (VwIn.slice (VwIn.here hA)) hh s) ?_
  rintro ⟨pv, cv, rfl⟩
  have hs := sCheck_spec _ ts A h
  rw [hc, if_neg (by decide)] at hs
  refine spec_intro [] _ Tryd.func13 rfl Tryd.ntmps13 (by rfl) (fun w0 R => ?_)
  repeat' (first | (refine go_Y ?_; intros) | (refine gs_Y ?_ ?_ <;> (intro hgd; try (simp only [Bool.not_true, Bool.not_false] at hgd))) | (refine gc_Y ?_ ?_ <;> intro _) | fail)
  refine cl_Y (hs) ?_
  intro _ _
  repeat' (first | (refine go_Y ?_; intros) | (refine gs_Y ?_ ?_ <;> (intro hgd; try (simp only [Bool.not_true, Bool.not_false] at hgd))) | (refine gc_Y ?_ ?_ <;> intro _) | fail)
  (refine rt_Y (y := ()) (hrs := Tryd.results13) (hv := ?_) (hφ := ?_))
  · rfl
  · trivial
theorem topics_ok (vs : Value) (ts : List Tb) (A : HProp) (h : SV A vs ts) (hc : checkS (ts.map Tb.c) = true) :
    FSpec Tryd.prog 13 [.agg #[vs]] [A] Nat (fun _ => True) (fun b => .slice (some ⟨b, 0, none⟩) (ts.length + 1) (ts.length + 1)) (fun b => [row 9 1 (.slice (some ⟨b, 0, none⟩) (ts.length + 1) (ts.length + 1)) ((topicsS (ts.map Tb.c)).map fun s => [.string s]), A]) := by
  have e0 : (!decide ((0 : Int) = (0 : Int))) = false := by decide
  obtain ⟨_, _, _, hl1, hl2⟩ := checkS_ok hc
  rw [List.length_map] at hl1 hl2
  have l1 : (ts.map tbV).length = ts.length := by simp
  have lt : (topicsS (ts.map Tb.c)).length = ts.length + 1 := by simp [topicsS]
  have g0 : gT (topicsS (ts.map Tb.c)) 0 = ⟨#[109, 97, 114, 107, 115]⟩ := rfl
  have gk : ∀ (k : Nat) (hk : k < ts.length), gT (topicsS (ts.map Tb.c)) (k + 1) = ⟨#[116, 45]⟩ ++ ts[k].name := by
    intro k hk
    unfold gT topicsS
    rw [List.getElem?_cons_succ, List.getElem?_map, List.getElem?_map, List.getElem?_eq_getElem hk]; rfl
  have hn := fun t ht => (h.tab t ht).nm
  have hA := h.vw
  generalize topicsS (ts.map Tb.c) = tp at lt g0 gk
  refine fspec_lrn (fun R hh s => (VwIn.slice (VwIn.here hA)) hh s) ?_
  rintro ⟨pv, cv, rfl⟩
  have hs := sCheck_spec _ ts A h
  rw [hc, if_pos rfl] at hs
  refine spec_intro [] _ Tryd.func13 rfl Tryd.ntmps13 (by rfl) (fun w0 R => ?_)
  repeat' (first | (refine go_Y ?_; intros) | (refine gs_Y ?_ ?_ <;> (intro hgd; try (simp only [Bool.not_true, Bool.not_false] at hgd))) | (refine gc_Y ?_ ?_ <;> intro _) | fail)
  rename_i b1
  refine cl_Y (hs) ?_
  intro _ _
  rw [← l1] at lt ⊢
  have hb0 : 0 < (ts.map tbV).length + 1 := by omega
  repeat' (first | (refine go_Y ?_; intros) | (refine gs_Y ?_ ?_ <;> (intro hgd; try (simp only [Bool.not_true, Bool.not_false] at hgd))) | (refine gc_Y ?_ ?_ <;> intro _) | fail)
  rename_i b2
  have hset : (List.replicate ((ts.map tbV).length + 1) [Value.string ⟨#[]⟩]).set 0 [.string ⟨#[109, 97, 114, 107, 115]⟩] = tpR tp 1 := by rw [← lt, ← tpR_0, ← g0]; exact tpR_set tp 0 (by omega)
  rw [hset]
  refine ok_map (L' := [row 9 1 (.slice (some ⟨b2, 0, none⟩) ((ts.map tbV).length + 1) ((ts.map tbV).length + 1)) (tpR tp 1), A, pts b1 (.cells [.slice pv (ts.map tbV).length cv].toArray 24)] ++ R) entD ?_
  refine ok_loop' (γ := Nat) (fun k ρ L => k ≤ ts.length ∧ Knows ρ [(1, .pointer (some ⟨b1, 0, none⟩)), (3, .slice (some ⟨b2, 0, none⟩) ((ts.map tbV).length + 1) ((ts.map tbV).length + 1)), (17, .int .i64 ((ts.map tbV).length : Int)), (18, .int .i64 (k : Int))] ∧
      L = [row 9 1 (.slice (some ⟨b2, 0, none⟩) ((ts.map tbV).length + 1) ((ts.map tbV).length + 1)) (tpR tp (k + 1)), A, pts b1 (.cells [.slice pv (ts.map tbV).length cv].toArray 24)] ++ R) (fun k => ts.length - k) 0 ⟨by omega, ⟨rfl, rfl, rfl, rfl, trivial⟩, rfl⟩ ?_
  rintro k ρ L ⟨hk0, hk, rfl⟩
  refine ok_regs hk ?_
  cases t1 : decide ((k : Int) < ((ts.map tbV).length : Int)) with
  | false =>
    have hje : k = ts.length := by rw [decide_eq_false_iff_not] at t1; omega
    subst hje
    rw [show ts.length + 1 = tp.length by omega, tpR_n]
    repeat' (first | (refine go_Y ?_; intros) | (refine gs_Y ?_ ?_ <;> (intro hgd; try (simp only [Bool.not_true, Bool.not_false] at hgd))) | (refine gc_Y ?_ ?_ <;> intro _) | fail)
    (refine rt_Y (y := b2) (hrs := Tryd.results13) (hv := ?_) (hφ := ?_))
    · rfl
    · trivial
  | true =>
    have hj0 : k < ts.length := by rw [decide_eq_true_eq] at t1; omega
    have hx : (ts.map tbV)[k]? = some (tbV ts[k]) := by rw [List.getElem?_map, List.getElem?_eq_getElem hj0]; rfl
    have hjn : k < (ts.map tbV).length := by omega
    have hkn : k + 1 < (ts.map tbV).length + 1 := by omega
    have he1 : ((k : Int) + 1) = ((k + 1 : Nat) : Int) := rfl
    have hst := tpR_set tp (k + 1) (by omega)
    rw [gk k hj0] at hst
    have hnm := hn _ (List.getElem_mem hj0)
    have hz : (⟨#[116, 45]⟩ : BA).size = 2 := rfl
    refine ok_learn (VwIn.base (VwIn.there (VwIn.here hA)) (by intro e; rw [e] at hjn; simp at hjn)) ?_
    rintro ⟨bu, ou, rfl⟩
    generalize ts[k] = x at hx hst hnm
    obtain ⟨nm, cols, ⟨xc, hxc⟩, ky, rf, pr⟩ := x
    dsimp only [tbV] at hx hst hnm
    repeat' (first | (refine go_Y ?_; intros) | (refine gs_Y ?_ ?_ <;> (intro hgd; try (simp only [Bool.not_true, Bool.not_false] at hgd))) | (refine gc_Y ?_ ?_ <;> intro _) | fail)
    rw [hst]
    refine cont_map (L' := [row 9 1 (.slice (some ⟨b2, 0, none⟩) ((ts.map tbV).length + 1) ((ts.map tbV).length + 1)) (tpR tp (k + 1 + 1)), A, pts b1 (.cells [.slice (some ⟨bu, ou, none⟩) (ts.map tbV).length cv].toArray 24)] ++ R) entD ?_
    refine cont_back (k + 1) ⟨hj0, ⟨rfl, rfl, rfl, rfl, trivial⟩, rfl⟩ (by omega)
end Go.Proofs.YtphaegcoldpclaaDoor
set_option linter.unusedSimpArgs false
set_option linter.unusedVariables false
set_option maxRecDepth 100000
namespace Go.Proofs.YtphaegcoldpclaaDoor
open Go Go.Fx Go.Proofs Go.Pl

def outV (o : BA × Int × BA) : List Value := [.string o.1, .int .u64 o.2.1, .string o.2.2]
theorem outV_app (l : List (BA × Int × BA)) (a : BA) (n : Int) (b : BA) : l.map outV ++ [[.string a, .int .u64 n, .string b]] = (l ++ [(a, n, b)]).map outV := by rw [List.map_append]; rfl
theorem outPutM_spec (tp tx : BA) (m : Int) (bp bo : Nat) (u vq : Value) (outs : List (BA × Int × BA)) (h0 : 0 ≤ m) (h1 : m ≤ 4611686018427388904) (hl : outs.length ≤ 1000) :
    FSpec Tryd.prog 34 [.string tp, .pointer (some ⟨bp, 0, none⟩), .string tx, .pointer (some ⟨bo, 0, none⟩)]
      [pts bo (.cells [u].toArray 34), row 57 3 u (outs.map outV), pts bp (.cells [.int .u64 m, vq].toArray 28)] V1s (fun _ => True) (fun _ => .tuple #[])
      (fun y => [pts bo (.cells [y.1].toArray 34), row 57 3 y.1 ((outs ++ [(tp, m + 1, tx)]).map outV), pts bp (.cells [.int .u64 (m + 1), vq].toArray 28)]) := by
  have hw : IntKind.u64.wrap (arith BinOp.add m 1) = m + 1 := u64_eq (x := m + 1) (by omega) (by omega)
  have ll : (outs.map outV).length = outs.length := by simp
  refine spec_intro [] _ Tryd.func34 rfl Tryd.ntmps34 (by rfl) (fun w0 R => ?_)
  refine ok_learn (rowShapeS (e := 57) (n := 3) (v := u) (xs := outs.map outV) (by decide) takeD) ?_
  rintro ⟨pu, cu, rfl, hcu, hsu⟩
  repeat' (first | (refine go_Y ?_; intros) | (refine gs_Y ?_ ?_ <;> (intro hgd; try (simp only [Bool.not_true, Bool.not_false] at hgd))) | (refine gc_Y ?_ ?_ <;> intro _) | fail)
  rw [hw]
  (apply ok_draw [7]; (focus (kernel_rfl)); (focus ((conv => lhs; whnf); first | done | rfl)); (focus (decide +kernel)); (focus (exact (fun _ h => h))))
  repeat' (first | (refine go_Y ?_; intros) | (refine gs_Y ?_ ?_ <;> (intro hgd; try (simp only [Bool.not_true, Bool.not_false] at hgd))) | (refine gc_Y ?_ ?_ <;> intro _) | fail)
  rename_i v1 hv1 v2 hv2
  rw [outV_app]
  (refine rt_Y (y := ⟨v2, hv2⟩) (hrs := Tryd.results34) (hv := ?_) (hφ := ?_))
  · rfl
  · trivial
theorem outPutS_spec (tp tx : BA) (qs : List Int) (t bs n bo : Nat) (u : Value) (outs : List (BA × Int × BA)) (ht : t < qs.length) (hn : qs.length = n) (h0 : 0 ≤ gI qs t) (h1 : gI qs t ≤ 4611686018427388904) (hl : outs.length ≤ 1000) :
    FSpec Tryd.prog 34 [.string tp, .pointer (some ⟨bs, slot 0 1 t 0, none⟩), .string tx, .pointer (some ⟨bo, 0, none⟩)]
      [pts bo (.cells [u].toArray 34), row 57 3 u (outs.map outV), row 25 1 (.slice (some ⟨bs, 0, none⟩) n n) (qs.map sqV)] V1s (fun _ => True) (fun _ => .tuple #[])
      (fun y => [pts bo (.cells [y.1].toArray 34), row 57 3 y.1 ((outs ++ [(tp, gI qs t + 1, tx)]).map outV), row 25 1 (.slice (some ⟨bs, 0, none⟩) n n) ((qs.set t (gI qs t + 1)).map sqV)]) := by
  have ll : (outs.map outV).length = outs.length := by simp
  have hx : (qs.map sqV)[t]? = some [.int .u64 (gI qs t)] := by rw [List.getElem?_map, List.getElem?_eq_getElem ht, gI_get ht]; rfl
  have hset : (qs.map sqV).set t [.int .u64 (gI qs t + 1)] = (qs.set t (gI qs t + 1)).map sqV := by rw [List.map_set]; rfl
  have hy : ((qs.set t (gI qs t + 1)).map sqV)[t]? = some [.int .u64 (gI qs t + 1)] := by rw [← hset, List.getElem?_set_self (by simpa using ht)]
  have htn : t < n := by omega
  have hw : IntKind.u64.wrap (arith BinOp.add (gI qs t) 1) = gI qs t + 1 := u64_eq (x := gI qs t + 1) (by omega) (by omega)
  generalize gI qs t = x at *
  refine spec_intro [] _ Tryd.func34 rfl Tryd.ntmps34 (by rfl) (fun w0 R => ?_)
  refine ok_learn (rowShapeS (e := 57) (n := 3) (v := u) (xs := outs.map outV) (by decide) takeD) ?_
  rintro ⟨pu, cu, rfl, hcu, hsu⟩
  repeat' (first | (refine go_Y ?_; intros) | (refine gs_Y ?_ ?_ <;> (intro hgd; try (simp only [Bool.not_true, Bool.not_false] at hgd))) | (refine gc_Y ?_ ?_ <;> intro _) | fail)
  rw [hw, hset]
  (apply ok_draw [7]; (focus (kernel_rfl)); (focus ((conv => lhs; whnf); first | done | rfl)); (focus (decide +kernel)); (focus (exact (fun _ h => h))))
  repeat' (first | (refine go_Y ?_; intros) | (refine gs_Y ?_ ?_ <;> (intro hgd; try (simp only [Bool.not_true, Bool.not_false] at hgd))) | (refine gc_Y ?_ ?_ <;> intro _) | fail)
  rename_i v1 hv1 v2 hv2
  rw [outV_app]
  (refine rt_Y (y := ⟨v2, hv2⟩) (hrs := Tryd.results34) (hv := ?_) (hφ := ?_))
  · rfl
  · trivial
end Go.Proofs.YtphaegcoldpclaaDoor
set_option linter.unusedSimpArgs false
set_option linter.unusedVariables false
set_option maxRecDepth 100000
namespace Go.Proofs.YtphaegcoldpclaaDoor
open Go Go.Fx Go.Proofs Go.Pl

theorem mayOf_cm (ts : List Tb) (m : Int) (qs : List Int) (cs : List Cm) : mayOf (ts.map Tb.c) m qs (cs.map Cm.c) = (checkS (ts.map Tb.c) && (fitsP ts.length m qs && (decide (cs.length ≤ 200) && cs.all fun c => decide (c.table < (ts.length : Int)) && mayE 0 0 c.c))) := by
  unfold mayOf
  rw [List.length_map, List.length_map, List.all_map]
  rfl
theorem mayMk_begin {qs : List Int} (h1 : 1 ≤ qs.length) (h2 : qs.length ≤ 12) : mayMk 1 [] qs = true := by
  unfold mayMk wantM
  simp [h1, h2, sumOk]
theorem mayMk_end {n k : Nat} {z : Ot} (h : OtOk n k z) (h1 : 1 ≤ n) (h2 : n ≤ 12) (hk : k ≤ 200) : mayMk 2 z.counts z.seqs = true := by
  unfold mayMk wantM
  rw [sumOk_of 0 (fun x hx => (h.cs x hx).1) (by rw [h.sum]; omega)]
  simp [h.sl, h.cl, h1, h2]
set_option maxHeartbeats 8000000 in
theorem of_spec (vs uq ul : Value) (ts : List Tb) (m tx : Int) (qs : List Int) (cs : List Cm) (A B : HProp) (h : SV A vs ts) (hU : UT A) (hB : Vw B 1 uq (qs.map sqV)) (hL : Vw A 4 ul (cs.map cmV)) (hR : ∀ x ∈ cs, CmR A x)
    (hwf : ∀ x ∈ cs, (∀ v ∈ x.bef, v.wf) ∧ (∀ v ∈ x.aft, v.wf) ∧ x.bef.length ≤ 1000000 ∧ x.aft.length ≤ 1000000) (m0 : 0 ≤ m) (t0 : 0 ≤ tx) (t1 : tx ≤ 18446744073709551615) (hq : ∀ x ∈ qs, 0 ≤ x) (hql : qs.length ≤ 4611686018427387904) (hcl : cs.length ≤ 4611686018427387904) :
    FSpec Tryd.prog 10 [.agg #[vs], .agg #[.int .u64 m, uq], .int .u64 tx, ul] [A, B] (V1s × V1s) (fun _ => True)
      (fun y => .tuple #[y.1.1, .agg #[.int .u64 (bif mayOf (ts.map Tb.c) m qs (cs.map Cm.c) then m + 2 else 0), y.2.1], .int .i64 (bif mayOf (ts.map Tb.c) m qs (cs.map Cm.c) then 0 else 2)])
      (fun y => [row 57 3 y.1.1 ((bif mayOf (ts.map Tb.c) m qs (cs.map Cm.c) then ofOuts (ts.map Tb.c) tx m qs (cs.map Cm.c) else []).map outV),
        row 25 1 y.2.1 ((bif mayOf (ts.map Tb.c) m qs (cs.map Cm.c) then ofSeqs (ts.map Tb.c) tx m qs (cs.map Cm.c) else []).map sqV), A, B]) := by
  have hm := mayOf_cm ts m qs cs
  generalize mayOf (ts.map Tb.c) m qs (cs.map Cm.c) = T at hm
  have hA := h.vw
  have l1 : (ts.map tbV).length = ts.length := by simp
  have l2 : (qs.map sqV).length = qs.length := by simp
  have l3 : (cs.map cmV).length = cs.length := by simp
  refine fspec_lrn (fun R hh s => (VwIn.slice (VwIn.here hA)) hh s) ?_
  rintro ⟨pv, cv, rfl⟩
  refine fspec_lrn (fun R hh s => (VwIn.slice (VwIn.there (VwIn.here hB))) hh s) ?_
  rintro ⟨pq, cq, rfl⟩
  refine fspec_lrn (fun R hh s => (VwIn.slice (VwIn.here hL)) hh s) ?_
  rintro ⟨pl, cl, rfl⟩
  cases hc : checkS (ts.map Tb.c) with
  | false =>
    obtain rfl : T = false := by rw [hm, hc]; rfl
    dsimp only [cond_false]
    have htop := topics_bad _ ts A h hc
    refine spec_intro [] _ Tryd.func10 rfl Tryd.ntmps10 (by rfl) (fun w0 R => ?_)
    refine ok_map (fun _ h => nilRow (e := 57) (n := 3) (nilRow (e := 25) (n := 1) h)) ?_
    repeat' (first | (refine go_Y ?_; intros) | (refine gs_Y ?_ ?_ <;> (intro hgd; try (simp only [Bool.not_true, Bool.not_false] at hgd))) | (refine gc_Y ?_ ?_ <;> intro _) | fail)
    refine cl_Y (htop) ?_
    intro _ _
    repeat' (first | (refine go_Y ?_; intros) | (refine gs_Y ?_ ?_ <;> (intro hgd; try (simp only [Bool.not_true, Bool.not_false] at hgd))) | (refine gc_Y ?_ ?_ <;> intro _) | fail)
    (refine rt_Y (y := (⟨.slice none 0 0, rfl⟩, ⟨.slice none 0 0, rfl⟩)) (hrs := Tryd.results10) (hv := ?_) (hφ := ?_))
    · rfl
    · trivial
  | true =>
  have htop := topics_ok _ ts A h hc
  rw [hc, Bool.true_and] at hm
  obtain ⟨_, _, _, hl1, hl2⟩ := checkS_ok hc
  rw [List.length_map] at hl1 hl2
  have hfit := stFits_spec m qs (.slice pv (ts.map tbV).length cv) (.slice pq (qs.map sqV).length cq) ts A B hA hB hql
  cases hf : fitsP ts.length m qs with
  | false =>
    obtain rfl : T = false := by rw [hm, hf]; rfl
    rw [hf] at hfit
    dsimp only [cond_false]
    refine spec_intro [] _ Tryd.func10 rfl Tryd.ntmps10 (by rfl) (fun w0 R => ?_)
    refine ok_map (fun _ h => nilRow (e := 57) (n := 3) (nilRow (e := 25) (n := 1) h)) ?_
    repeat' (first | (refine go_Y ?_; intros) | (refine gs_Y ?_ ?_ <;> (intro hgd; try (simp only [Bool.not_true, Bool.not_false] at hgd))) | (refine gc_Y ?_ ?_ <;> intro _) | fail)
    refine cl_Y (htop) ?_
    intro bt _
    repeat' (first | (refine go_Y ?_; intros) | (refine gs_Y ?_ ?_ <;> (intro hgd; try (simp only [Bool.not_true, Bool.not_false] at hgd))) | (refine gc_Y ?_ ?_ <;> intro _) | fail)
    refine cl_Y (hfit) ?_
    intro _ _
    repeat' (first | (refine go_Y ?_; intros) | (refine gs_Y ?_ ?_ <;> (intro hgd; try (simp only [Bool.not_true, Bool.not_false] at hgd))) | (refine gc_Y ?_ ?_ <;> intro _) | fail)
    (refine rt_Y (y := (⟨.slice none 0 0, rfl⟩, ⟨.slice none 0 0, rfl⟩)) (hrs := Tryd.results10) (hv := ?_) (hφ := ?_))
    · rfl
    · trivial
  | true =>
  rw [hf] at hfit
  rw [hf, Bool.true_and] at hm
  cases c3 : decide ((200 : Int) < ((cs.map cmV).length : Int)) with
  | true =>
    obtain rfl : T = false := by rw [hm, show decide (cs.length ≤ 200) = false by rw [decide_eq_true_eq] at c3; rw [decide_eq_false_iff_not]; omega]; rfl
    dsimp only [cond_false]
    refine spec_intro [] _ Tryd.func10 rfl Tryd.ntmps10 (by rfl) (fun w0 R => ?_)
    refine ok_map (fun _ h => nilRow (e := 57) (n := 3) (nilRow (e := 25) (n := 1) h)) ?_
    repeat' (first | (refine go_Y ?_; intros) | (refine gs_Y ?_ ?_ <;> (intro hgd; try (simp only [Bool.not_true, Bool.not_false] at hgd))) | (refine gc_Y ?_ ?_ <;> intro _) | fail)
    refine cl_Y (htop) ?_
    intro bt _
    repeat' (first | (refine go_Y ?_; intros) | (refine gs_Y ?_ ?_ <;> (intro hgd; try (simp only [Bool.not_true, Bool.not_false] at hgd))) | (refine gc_Y ?_ ?_ <;> intro _) | fail)
    refine cl_Y (hfit) ?_
    intro _ _
    repeat' (first | (refine go_Y ?_; intros) | (refine gs_Y ?_ ?_ <;> (intro hgd; try (simp only [Bool.not_true, Bool.not_false] at hgd))) | (refine gc_Y ?_ ?_ <;> intro _) | fail)
    (refine rt_Y (y := (⟨.slice none 0 0, rfl⟩, ⟨.slice none 0 0, rfl⟩)) (hrs := Tryd.results10) (hv := ?_) (hφ := ?_))
    · rfl
    · trivial
  | false =>
  have hle : cs.length ≤ 200 := by rw [decide_eq_false_iff_not] at c3; omega
  rw [show decide (cs.length ≤ 200) = true by rw [decide_eq_true_eq]; exact hle, Bool.true_and] at hm
  have hz0 := of0_ok (tx := tx) hf hq
  have hqn : qs.length = ts.length := hz0.sl
  have hm1 : m ≤ 4611686018427387904 := by
    unfold fitsP at hf
    simp only [Bool.and_eq_true, decide_eq_true_eq] at hf
    exact hf.2.1
  have hpb := fun u B' hu => putMark_spec 1 tx [] qs (.slice none 0 0) u (row 3 1 (.slice none 0 0) []) B' Vw.row hu (mayMk_begin (by omega) (by omega)) t0 t1 (fun x hx => ⟨hq x hx, by have := (hz0.sq x hx).2; omega⟩)
  have lt : (topicsS (ts.map Tb.c)).length = ts.length + 1 := by simp [topicsS]
  rw [show ofOuts (ts.map Tb.c) tx m qs (cs.map Cm.c) = (ofGo tx (topicsS (ts.map Tb.c)) 0 (cs.map Cm.c) (of0 tx m qs)).outs ++ [(⟨#[109, 97, 114, 107, 115]⟩, m + 2, putMB 2 tx (ofGo tx (topicsS (ts.map Tb.c)) 0 (cs.map Cm.c) (of0 tx m qs)).counts (ofGo tx (topicsS (ts.map Tb.c)) 0 (cs.map Cm.c) (of0 tx m qs)).seqs)] from rfl,
    show ofSeqs (ts.map Tb.c) tx m qs (cs.map Cm.c) = (ofGo tx (topicsS (ts.map Tb.c)) 0 (cs.map Cm.c) (of0 tx m qs)).seqs from rfl]
  generalize topicsS (ts.map Tb.c) = tp at htop lt
  have e0 : (!decide ((0 : Int) = (0 : Int))) = false := by decide
  have e2 : (!decide ((2 : Int) = (0 : Int))) = true := by decide
  refine spec_intro [] _ Tryd.func10 rfl Tryd.ntmps10 (by rfl) (fun w0 R => ?_)
  refine ok_map (fun _ h => nilRow (e := 57) (n := 3) (nilRow (e := 25) (n := 1) (nilRow (e := 3) (n := 1) (nilRow (e := 57) (n := 3) h)))) ?_
  repeat' (first | (refine go_Y ?_; intros) | (refine gs_Y ?_ ?_ <;> (intro hgd; try (simp only [Bool.not_true, Bool.not_false] at hgd))) | (refine gc_Y ?_ ?_ <;> intro _) | fail)
  rename_i b4 b5 b9
  refine cl_Y (htop) ?_
  intro bt _
  repeat' (first | (refine go_Y ?_; intros) | (refine gs_Y ?_ ?_ <;> (intro hgd; try (simp only [Bool.not_true, Bool.not_false] at hgd))) | (refine gc_Y ?_ ?_ <;> intro _) | fail)
  refine cl_Y (hfit) ?_
  intro _ _
  repeat' (first | (refine go_Y ?_; intros) | (refine gs_Y ?_ ?_ <;> (intro hgd; try (simp only [Bool.not_true, Bool.not_false] at hgd))) | (refine gc_Y ?_ ?_ <;> intro _) | fail)
  rename_i bs
  refine ops_run (s_copy1 rfl rfl Sel.here (ys := qs.map sqV) (by repeat (first | exact VwIn.here hB | refine VwIn.there ?_)) rfl rfl rfl ?_)
  repeat' (first | (refine go_Y ?_; intros) | (refine gs_Y ?_ ?_ <;> (intro hgd; try (simp only [Bool.not_true, Bool.not_false] at hgd))) | (refine gc_Y ?_ ?_ <;> intro _) | fail)
  rename_i bc bo
  refine cl_Y (hpb (.slice (some ⟨bs, 0, none⟩) (qs.map sqV).length (qs.map sqV).length) (row 25 1 (.slice (some ⟨bs, 0, none⟩) (qs.map sqV).length (qs.map sqV).length) (qs.map sqV)) Vw.row) ?_
  intro _ _
  repeat' (first | (refine go_Y ?_; intros) | (refine gs_Y ?_ ?_ <;> (intro hgd; try (simp only [Bool.not_true, Bool.not_false] at hgd))) | (refine gc_Y ?_ ?_ <;> intro _) | fail)
  have hcnt : List.replicate (qs.map sqV).length [Value.int .i64 0] = (of0 tx m qs).counts.map dpV := by rw [l2]; show _ = (List.replicate _ _).map _; simp [dpV]
  rw [hcnt]
  refine clV_Y (vspec_func (args := [.string ⟨#[109, 97, 114, 107, 115]⟩, .pointer (some ⟨b5, 0, none⟩), .string (putMB 1 tx [] qs)]) (cap := [.pointer (some ⟨bo, 0, none⟩)]) (outPutM_spec ⟨#[109, 97, 114, 107, 115]⟩ (putMB 1 tx [] qs) m b5 bo (.slice none 0 0) (.slice (some ⟨bs, 0, none⟩) (qs.map sqV).length (qs.map sqV).length) [] m0 (by omega) (by decide))) ?_
  rintro ⟨u1, hu1⟩ _
  repeat' (first | (refine go_Y ?_; intros) | (refine gs_Y ?_ ?_ <;> (intro hgd; try (simp only [Bool.not_true, Bool.not_false] at hgd))) | (refine gc_Y ?_ ?_ <;> intro _) | fail)
  refine ok_map (L' := [pts bo (.cells [u1].toArray 34), row 57 3 u1 (([] ++ [(⟨#[109, 97, 114, 107, 115]⟩, m + 1, putMB 1 tx [] qs)] : List (BA × Int × BA)).map outV), pts b5 (.cells [.int .u64 (m + 1), .slice (some ⟨bs, 0, none⟩) (qs.map sqV).length (qs.map sqV).length].toArray 28), row 25 1 (.slice (some ⟨bs, 0, none⟩) (qs.map sqV).length (qs.map sqV).length) (qs.map sqV), row 3 1 (.slice (some ⟨bc, 0, none⟩) (qs.map sqV).length (qs.map sqV).length) ((of0 tx m qs).counts.map dpV), row 9 1 (.slice (some ⟨bt, 0, none⟩) (ts.length + 1) (ts.length + 1)) (tp.map fun s => [.string s]), pts b9 (.cells [.int .u64 0, .slice none 0 0].toArray 28), row 57 3 (.slice none 0 0) [], row 25 1 (.slice none 0 0) [], A, B] ++ R) entD ?_
  refine ok_loop' (γ := Nat × V1s) (fun g ρ L => g.1 ≤ cs.length ∧ ((cs.take g.1).all fun c => decide (c.table < (ts.length : Int)) && mayE 0 0 c.c) = true ∧ OtOk ts.length g.1 (ofGo tx tp 0 ((cs.map Cm.c).take g.1) (of0 tx m qs)) ∧
      Knows ρ [(2, .int .u64 tx), (5, .pointer (some ⟨b5, 0, none⟩)), (9, .pointer (some ⟨b9, 0, none⟩)), (11, .slice (some ⟨bt, 0, none⟩) (ts.length + 1) (ts.length + 1)), (12, .slice (some ⟨bs, 0, none⟩) (qs.map sqV).length (qs.map sqV).length), (13, .slice (some ⟨bc, 0, none⟩) (qs.map sqV).length (qs.map sqV).length), (14, .pointer (some ⟨bo, 0, none⟩)),
        (15, .func (.func 34) #[] #[.pointer (some ⟨bo, 0, none⟩)]), (65, .slice pl (cs.map cmV).length cl), (66, .int .i64 ((cs.map cmV).length : Int)), (67, .int .i64 (g.1 : Int))] ∧
      L = [pts bo (.cells [g.2.1].toArray 34), row 57 3 g.2.1 ((ofGo tx tp 0 ((cs.map Cm.c).take g.1) (of0 tx m qs)).outs.map outV), pts b5 (.cells [.int .u64 (m + 1), .slice (some ⟨bs, 0, none⟩) (qs.map sqV).length (qs.map sqV).length].toArray 28), row 25 1 (.slice (some ⟨bs, 0, none⟩) (qs.map sqV).length (qs.map sqV).length) ((ofGo tx tp 0 ((cs.map Cm.c).take g.1) (of0 tx m qs)).seqs.map sqV), row 3 1 (.slice (some ⟨bc, 0, none⟩) (qs.map sqV).length (qs.map sqV).length) ((ofGo tx tp 0 ((cs.map Cm.c).take g.1) (of0 tx m qs)).counts.map dpV), row 9 1 (.slice (some ⟨bt, 0, none⟩) (ts.length + 1) (ts.length + 1)) (tp.map fun s => [.string s]), pts b9 (.cells [.int .u64 0, .slice none 0 0].toArray 28), row 57 3 (.slice none 0 0) [], row 25 1 (.slice none 0 0) [], A, B] ++ R) (fun g => cs.length - g.1) (0, ⟨u1, hu1⟩) ⟨Nat.zero_le _, rfl, hz0, ⟨rfl, rfl, rfl, rfl, rfl, rfl, rfl, rfl, rfl, rfl, rfl, trivial⟩, rfl⟩ ?_
  rintro ⟨j, u, hu⟩ ρ L ⟨hj, hal, hok, hk, rfl⟩
  dsimp only at hj hal hok hk ⊢
  refine ok_regs hk ?_
  cases v1 : decide ((j : Int) < ((cs.map cmV).length : Int)) with
  | true =>
    have hj0 : j < cs.length := by rw [decide_eq_true_eq] at v1; omega
    have hx : (cs.map cmV)[j]? = some (cmV cs[j]) := by rw [List.getElem?_map, List.getElem?_eq_getElem hj0]; rfl
    have hjn : j < (cs.map cmV).length := by omega
    have hRj := hR _ (List.getElem_mem hj0)
    obtain ⟨hwb, hwa, hlb, hla⟩ := hwf _ (List.getElem_mem hj0)
    have hstep := ofGo_step tx tp (l := cs.map Cm.c) (j := j) (by simpa using hj0) (of0 tx m qs)
    rw [List.getElem_map] at hstep
    have hfl := all_false_of (p := fun c : Cm => decide (c.table < (ts.length : Int)) && mayE 0 0 c.c) hj0
    have hst := all_take_step (p := fun c : Cm => decide (c.table < (ts.length : Int)) && mayE 0 0 c.c) hj0 hal
    refine ok_learn (VwIn.base (n := 4) (p := pl) (len := (cs.map cmV).length) (cap := cl) (xs := cs.map cmV) (VwIn.there (VwIn.there (VwIn.there (VwIn.there (VwIn.there (VwIn.there (VwIn.there (VwIn.there (VwIn.there (VwIn.here hL)))))))))) (by intro e; rw [e] at hjn; simp at hjn)) ?_
    rintro ⟨bl, ol, rfl⟩
    generalize ofGo tx tp 0 ((cs.map Cm.c).take j) (of0 tx m qs) = z at hok hstep
    generalize cs[j] = c at hx hRj hwb hwa hlb hla hstep hfl hst
    obtain ⟨ck, ct, ⟨bv, hbv⟩, bef, ⟨av, hav⟩, aft⟩ := c
    dsimp only [cmV, Cm.c] at hx hwb hwa hlb hla hstep hfl hst
    have hvb : Vw A 4 bv (bef.map valV) := hRj.bv
    have hva : Vw A 4 av (aft.map valV) := hRj.av
    refine ok_learn (VwIn.slice (VwIn.there (VwIn.there (VwIn.there (VwIn.there (VwIn.there (VwIn.there (VwIn.there (VwIn.there (VwIn.there (VwIn.here hvb))))))))))) ?_
    rintro ⟨pb, cb, rfl⟩
    refine ok_learn (VwIn.slice (VwIn.there (VwIn.there (VwIn.there (VwIn.there (VwIn.there (VwIn.there (VwIn.there (VwIn.there (VwIn.there (VwIn.here hva))))))))))) ?_
    rintro ⟨pa, ca, rfl⟩
    cases c1 : decide (ct < 0) with
    | true =>
      obtain rfl : T = false := by
        rw [hm]
        refine hfl ?_
        have : mayE 0 0 ⟨ck, ct, bef, aft⟩ = false := by
          cases hh : mayE 0 0 ⟨ck, ct, bef, aft⟩ with
          | false => rfl
          | true => have := (mayE_all hh).2.2.1; have := of_decide_eq_true c1; dsimp only at *; omega
        rw [this, Bool.and_false]
      dsimp only [cond_false, List.map_nil]
      repeat' (first | (refine go_Y ?_; intros) | (refine gs_Y ?_ ?_ <;> (intro hgd; try (simp only [Bool.not_true, Bool.not_false] at hgd))) | (refine gc_Y ?_ ?_ <;> intro _) | fail)
      (refine rt_Y (y := (⟨.slice none 0 0, rfl⟩, ⟨.slice none 0 0, rfl⟩)) (hrs := Tryd.results10) (hv := ?_) (hφ := ?_))
      · rfl
      · trivial
    | false =>
    cases c2 : decide (((qs.map sqV).length : Int) ≤ ct) with
    | true =>
      obtain rfl : T = false := by
        rw [hm]
        refine hfl ?_
        rw [show decide (ct < (ts.length : Int)) = false by rw [decide_eq_true_eq] at c2; rw [decide_eq_false_iff_not]; omega, Bool.false_and]
      dsimp only [cond_false, List.map_nil]
      repeat' (first | (refine go_Y ?_; intros) | (refine gs_Y ?_ ?_ <;> (intro hgd; try (simp only [Bool.not_true, Bool.not_false] at hgd))) | (refine gc_Y ?_ ?_ <;> intro _) | fail)
      (refine rt_Y (y := (⟨.slice none 0 0, rfl⟩, ⟨.slice none 0 0, rfl⟩)) (hrs := Tryd.results10) (hv := ?_) (hφ := ?_))
      · rfl
      · trivial
    | false =>
    obtain ⟨tn, rfl⟩ : ∃ n : Nat, ct = n := ⟨ct.toNat, by rw [decide_eq_false_iff_not] at c1; omega⟩
    have htn : tn < ts.length := by rw [decide_eq_false_iff_not] at c2; omega
    have htq : tn < (qs.map sqV).length := by omega
    have hzc := hok.cl
    have hzs := hok.sl
    have hcx : (z.counts.map dpV)[tn]? = some [.int .i64 (gI z.counts tn)] := by rw [List.getElem?_map, List.getElem?_eq_getElem (by omega : tn < z.counts.length), gI_get (by omega : tn < z.counts.length)]; rfl
    have htx : (tp.map fun s => [Value.string s])[tn + 1]? = some [.string (gT tp (tn + 1))] := by rw [List.getElem?_map, List.getElem?_eq_getElem (by omega : tn + 1 < tp.length)]; unfold gT; rw [List.getElem?_eq_getElem (by omega : tn + 1 < tp.length)]; rfl
    have htb : tn + 1 < ts.length + 1 := by omega
    have hte : ((tn : Int) + 1) = ((tn + 1 : Nat) : Int) := rfl
    obtain ⟨g1, g2⟩ := hok.cs _ (gI_mem (by omega : tn < z.counts.length))
    obtain ⟨g3, g4⟩ := hok.sq _ (gI_mem (by omega : tn < z.seqs.length))
    have hmE := mayE_nth (c := ⟨ck, tn, bef, aft⟩) g1 g2 (by omega)
    have hset : (z.counts.map dpV).set tn [.int .i64 (gI z.counts tn + 1)] = (z.counts.set tn (gI z.counts tn + 1)).map dpV := by rw [List.map_set]; rfl
    cases hme : mayE 0 0 ⟨ck, tn, bef, aft⟩ with
    | false =>
      obtain rfl : T = false := by
        rw [hm]
        refine hfl ?_
        rw [hme, Bool.and_false]
      have hp := evPut_bad ⟨tx, j, gI z.counts tn, ⟨ck, tn, ⟨.slice pb (bef.map valV).length cb, hbv⟩, bef, ⟨.slice pa (aft.map valV).length ca, hav⟩, aft⟩⟩ A hU hRj hwb hwa hlb hla (hmE.trans hme)
      dsimp only [emV] at hp
      dsimp only [cond_false, List.map_nil]
      repeat' (first | (refine go_Y ?_; intros) | (refine gs_Y ?_ ?_ <;> (intro hgd; try (simp only [Bool.not_true, Bool.not_false] at hgd))) | (refine gc_Y ?_ ?_ <;> intro _) | fail)
      refine cl_Y (hp) ?_
      intro _ _
      repeat' (first | (refine go_Y ?_; intros) | (refine gs_Y ?_ ?_ <;> (intro hgd; try (simp only [Bool.not_true, Bool.not_false] at hgd))) | (refine gc_Y ?_ ?_ <;> intro _) | fail)
      (refine rt_Y (y := (⟨.slice none 0 0, rfl⟩, ⟨.slice none 0 0, rfl⟩)) (hrs := Tryd.results10) (hv := ?_) (hφ := ?_))
      · rfl
      · trivial
    | true =>
      have hp := evPut_spec ⟨tx, j, gI z.counts tn, ⟨ck, tn, ⟨.slice pb (bef.map valV).length cb, hbv⟩, bef, ⟨.slice pa (aft.map valV).length ca, hav⟩, aft⟩⟩ A hU hRj hwb hwa hlb hla (hmE.trans hme) t0 t1
      dsimp only [emV, Cm.c] at hp
      have hot := hok.step (tx := tx) (ts := tp) (c := ⟨ck, tn, bef, aft⟩) (by show (0 : Int) ≤ tn; omega) (by show (tn : Int) < ts.length; omega)
      have hol : z.outs.length ≤ 1000 := by have := hok.ol; omega
      repeat' (first | (refine go_Y ?_; intros) | (refine gs_Y ?_ ?_ <;> (intro hgd; try (simp only [Bool.not_true, Bool.not_false] at hgd))) | (refine gc_Y ?_ ?_ <;> intro _) | fail)
      refine cl_Y (hp) ?_
      intro _ _
      repeat' (first | (refine go_Y ?_; intros) | (refine gs_Y ?_ ?_ <;> (intro hgd; try (simp only [Bool.not_true, Bool.not_false] at hgd))) | (refine gc_Y ?_ ?_ <;> intro _) | fail)
      refine clV_Y (vspec_func (args := [.string (gT tp (tn + 1)), .pointer (some ⟨bs, slot 0 1 tn 0, none⟩), .string (putEB tx j (gI z.counts tn) ⟨ck, tn, bef, aft⟩)]) (cap := [.pointer (some ⟨bo, 0, none⟩)]) (outPutS_spec (gT tp (tn + 1)) (putEB tx j (gI z.counts tn) ⟨ck, tn, bef, aft⟩) z.seqs tn bs (qs.map sqV).length bo u z.outs (by omega) (by omega) g3 (by omega) hol)) ?_
      rintro ⟨u2, hu2⟩ _
      repeat' (first | (refine go_Y ?_; intros) | (refine gs_Y ?_ ?_ <;> (intro hgd; try (simp only [Bool.not_true, Bool.not_false] at hgd))) | (refine gc_Y ?_ ?_ <;> intro _) | fail)
      dsimp only
      rw [hset, show (z.outs ++ [(gT tp (tn + 1), gI z.seqs tn + 1, putEB tx (j : Int) (gI z.counts tn) ⟨ck, tn, bef, aft⟩)]) = (ofStep tx tp j ⟨ck, tn, bef, aft⟩ z).outs from rfl, show z.seqs.set tn (gI z.seqs tn + 1) = (ofStep tx tp j ⟨ck, tn, bef, aft⟩ z).seqs from rfl, show z.counts.set tn (gI z.counts tn + 1) = (ofStep tx tp j ⟨ck, tn, bef, aft⟩ z).counts from rfl, ← hstep]
      rw [← hstep] at hot
      refine cont_map (L' := [pts bo (.cells [u2].toArray 34), row 57 3 u2 ((ofGo tx tp 0 ((cs.map Cm.c).take (j + 1)) (of0 tx m qs)).outs.map outV), pts b5 (.cells [.int .u64 (m + 1), .slice (some ⟨bs, 0, none⟩) (qs.map sqV).length (qs.map sqV).length].toArray 28), row 25 1 (.slice (some ⟨bs, 0, none⟩) (qs.map sqV).length (qs.map sqV).length) ((ofGo tx tp 0 ((cs.map Cm.c).take (j + 1)) (of0 tx m qs)).seqs.map sqV), row 3 1 (.slice (some ⟨bc, 0, none⟩) (qs.map sqV).length (qs.map sqV).length) ((ofGo tx tp 0 ((cs.map Cm.c).take (j + 1)) (of0 tx m qs)).counts.map dpV), row 9 1 (.slice (some ⟨bt, 0, none⟩) (ts.length + 1) (ts.length + 1)) (tp.map fun s => [.string s]), pts b9 (.cells [.int .u64 0, .slice none 0 0].toArray 28), row 57 3 (.slice none 0 0) [], row 25 1 (.slice none 0 0) [], A, B] ++ R) entD ?_
      refine cont_back (j + 1, ⟨u2, hu2⟩) ⟨hj0, hst (by rw [hme, Bool.and_true, decide_eq_true_eq]; omega), hot, ⟨rfl, rfl, rfl, rfl, rfl, rfl, rfl, rfl, rfl, rfl, rfl, trivial⟩, rfl⟩ (by dsimp only; omega)
  | false =>
    have hje : j = cs.length := by rw [decide_eq_false_iff_not] at v1; omega
    subst hje
    rw [List.take_length] at hal
    obtain rfl : T = true := by rw [hm]; exact hal
    rw [List.take_of_length_le (by simp)] at hok
    rw [List.take_of_length_le (by simp)]
    dsimp only [cond_true]
    generalize ofGo tx tp 0 (cs.map Cm.c) (of0 tx m qs) = z at hok
    have hzq := hok.sq
    have hpe := putMark_spec 2 tx z.counts z.seqs (.slice (some ⟨bc, 0, none⟩) (qs.map sqV).length (qs.map sqV).length) (.slice (some ⟨bs, 0, none⟩) (qs.map sqV).length (qs.map sqV).length) (row 3 1 (.slice (some ⟨bc, 0, none⟩) (qs.map sqV).length (qs.map sqV).length) (z.counts.map dpV)) (row 25 1 (.slice (some ⟨bs, 0, none⟩) (qs.map sqV).length (qs.map sqV).length) (z.seqs.map sqV)) Vw.row Vw.row (mayMk_end hok hl1 hl2 hle) t0 t1 (fun x hx => ⟨(hzq x hx).1, by have := (hzq x hx).2; omega⟩)
    have hol : z.outs.length ≤ 1000 := by have := hok.ol; omega
    repeat' (first | (refine go_Y ?_; intros) | (refine gs_Y ?_ ?_ <;> (intro hgd; try (simp only [Bool.not_true, Bool.not_false] at hgd))) | (refine gc_Y ?_ ?_ <;> intro _) | fail)
    refine cl_Y (hpe) ?_
    intro _ _
    repeat' (first | (refine go_Y ?_; intros) | (refine gs_Y ?_ ?_ <;> (intro hgd; try (simp only [Bool.not_true, Bool.not_false] at hgd))) | (refine gc_Y ?_ ?_ <;> intro _) | fail)
    refine clV_Y (vspec_func (args := [.string ⟨#[109, 97, 114, 107, 115]⟩, .pointer (some ⟨b5, 0, none⟩), .string (putMB 2 tx z.counts z.seqs)]) (cap := [.pointer (some ⟨bo, 0, none⟩)]) (outPutM_spec ⟨#[109, 97, 114, 107, 115]⟩ (putMB 2 tx z.counts z.seqs) (m + 1) b5 bo u (.slice (some ⟨bs, 0, none⟩) (qs.map sqV).length (qs.map sqV).length) z.outs (by omega) (by omega) hol)) ?_
    rintro ⟨u3, hu3⟩ _
    rw [show m + 1 + 1 = m + 2 by omega]
    repeat' (first | (refine go_Y ?_; intros) | (refine gs_Y ?_ ?_ <;> (intro hgd; try (simp only [Bool.not_true, Bool.not_false] at hgd))) | (refine gc_Y ?_ ?_ <;> intro _) | fail)
    (refine rt_Y (y := (⟨u3, hu3⟩, ⟨.slice (some ⟨bs, 0, none⟩) (qs.map sqV).length (qs.map sqV).length, rfl⟩)) (hrs := Tryd.results10) (hv := ?_) (hφ := ?_))
    · rfl
    · trivial
end Go.Proofs.YtphaegcoldpclaaDoor
