/- Texts merged: TpA TpB TpC TpD. -/
import Derived.Test.YtadgdikijdmceaaGreatY
import Derived.Test.YtadgdikijdmceaaGreatTpP
import Derived.Test.YtadgdikijdmceaaGreatG2
import Derived.Test.YtadgdikijdmceaaGreatStr
import Derived.Test.YtadgdikijdmceaaGreatVone
import Derived.Test.YtadgdikijdmceaaGreatG5
import Derived.Test.YtadgdikijdmceaaGreatPool
import Derived.Test.YtadgdikijdmceaaGreatG8
import Derived.Test.YtadgdikijdmceaaGreatG7
import Derived.Test.YtadgdikijdmceaaGreatG9
set_option linter.unusedSimpArgs false
set_option linter.unusedVariables false
set_option maxRecDepth 100000
namespace Go.Proofs.YtadgdikijdmceaaGreat
open Go Go.Fx Go.Proofs Go.Pl

def ruV (n : Int) : List Value := [.int .i32 n]
set_option maxHeartbeats 4000000 in
theorem hex_spec (v n : Nat) (hv : v < 16 ^ n) (h1 : 1 ≤ n) (h16 : n ≤ 15) : FSpec Tryz.prog 77 [.int .u64 (v : Int), .int .i64 (n : Int)] [] Unit (fun _ => True) (fun _ => .tuple #[.string (hexS v n), .int .i64 0]) (fun _ => []) := by
  have hv64 : v < 18446744073709551616 := by
    have : (16 : Nat) ^ n ≤ 16 ^ 16 := Nat.pow_le_pow_right (by decide) (by omega)
    have e : (16 : Nat) ^ 16 = 18446744073709551616 := by decide
    omega
  have t1 : decide ((n : Int) < 1) = false := by simp; omega
  have t2 : decide ((16 : Int) < (n : Int)) = false := by simp; omega
  have hf : fitsB v n 4 = true := by
    unfold fitsB
    rw [Bool.or_eq_true]
    refine .inr ?_
    rw [decide_eq_true_eq]
    show (v : Int).fdiv (2 ^ (min ((n : Int) * 4).toNat IntKind.u64.bits)) = 0
    have e1 : min ((n : Int) * 4).toNat IntKind.u64.bits = 4 * n := by
      show min ((n : Int) * 4).toNat 64 = 4 * n
      omega
    rw [e1]
    have : ((2 : Int) ^ (4 * n)) = ((16 ^ n : Nat) : Int) := by rw [show (16 : Nat) ^ n = 2 ^ (4 * n) by rw [Nat.pow_mul]]; simp
    rw [this, Int.fdiv_eq_ediv_of_nonneg _ (Int.natCast_nonneg _), ← Int.natCast_ediv, Nat.div_eq_of_lt hv]
    rfl
  refine spec_intro [150] _ Tryz.func77 rfl Tryz.ntmps77 (by rfl) (fun w0 R => ?_)
  repeat' (first | (refine go_Y ?_; intros) | (refine gs_Y ?_ ?_ <;> (intro hgd; try (simp only [Bool.not_true, Bool.not_false] at hgd))) | (refine gc_Y ?_ ?_ <;> intro _) | fail)
  refine cl_Y (fits_spec v n 4 (by omega) (by omega)) ?_
  intro _ _
  rw [hf]
  repeat' (first | (refine go_Y ?_; intros) | (refine gs_Y ?_ ?_ <;> (intro hgd; try (simp only [Bool.not_true, Bool.not_false] at hgd))) | (refine gc_Y ?_ ?_ <;> intro _) | fail)
  refine ok_map (fun _ h => nilRow (e := 21) (n := 1) h) ?_
  refine ok_map (L' := [row 21 1 (.slice none 0 0) ((hexR v n 0).map ruV)] ++ R) entD ?_
  refine ok_loop' (γ := Nat × V1s) (fun g ρ L => g.1 ≤ n ∧ Knows ρ [(0, .int .u64 (v : Int)), (6, g.2.1), (7, .int .i64 ((n : Int) - 1 - (g.1 : Int)))] ∧ L = [row 21 1 g.2.1 ((hexR v n g.1).map ruV)] ++ R) (fun g => n - g.1)
    (0, ⟨.slice none 0 0, rfl⟩) ⟨by omega, ⟨rfl, rfl, by show Value.int .i64 _ = _; simp, trivial⟩, rfl⟩ ?_
  rintro ⟨j, ⟨u, hu⟩⟩ ρ L ⟨hj, hk, rfl⟩
  dsimp only at hj hk ⊢
  refine ok_regs hk ?_
  by_cases h0 : j < n
  · have hk0 : ((n : Int) - 1 - (j : Int)) = ((n - 1 - j : Nat) : Int) := by omega
    rw [hk0]
    have t3 : decide ((0 : Int) ≤ ((n - 1 - j : Nat) : Int)) = true := by rw [decide_eq_true_eq]; omega
    have hd := dig_shift v n j hv64 h0 (by omega)
    have hlt := digN_lt v n j
    have hsc := hexR_succ v n j
    have hrl := hexR_len v n j
    have hmi : ((n - 1 - j : Nat) : Int) - 1 = (n : Int) - 1 - ((j + 1 : Nat) : Int) := by omega
    unfold hexC at hsc
    generalize digN v n j = d at hd hlt hsc
    have hw1 : IntKind.i32.wrap (arith BinOp.add (d : Int) 39) = (d : Int) + 39 := i32_small (x := (d : Int) + 39) (by omega) (by omega)
    have hw2 : IntKind.i32.wrap (arith BinOp.add 48 ((d : Int) + 39)) = 87 + (d : Int) := (i32_small (x := 48 + ((d : Int) + 39)) (by omega) (by omega)).trans (by omega)
    have hw3 : IntKind.i32.wrap (arith BinOp.add 48 (d : Int)) = 48 + (d : Int) := i32_small (x := 48 + (d : Int)) (by omega) (by omega)
    have hmap : (hexR v n (j + 1)).map ruV = (hexR v n j).map ruV ++ [ruV (if 9 < d then 87 + (d : Int) else 48 + (d : Int))] := by rw [hsc, List.map_append]; rfl
    cases t4 : decide ((9 : Int) < (d : Int)) with
    | true =>
      rw [if_pos (by have := of_decide_eq_true t4; omega)] at hmap
      repeat' (first | (refine go_Y ?_; intros) | (refine gs_Y ?_ ?_ <;> (intro hgd; try (simp only [Bool.not_true, Bool.not_false] at hgd))) | (refine gc_Y ?_ ?_ <;> intro _) | fail)
      rename_i u1 hu1 u2 hu2
      rw [hw1, hw2]
      refine cont_map (L' := [row 21 1 u2 ((hexR v n (j + 1)).map ruV)] ++ R) (by rw [hmap]; exact entD) ?_
      refine cont_back (j + 1, ⟨u2, hu2⟩) ⟨h0, ⟨rfl, rfl, by show Value.int .i64 _ = _; rw [hmi], trivial⟩, rfl⟩ (by show n - (j + 1) < n - j; omega)
    | false =>
      rw [if_neg (by have := of_decide_eq_false t4; omega)] at hmap
      repeat' (first | (refine go_Y ?_; intros) | (refine gs_Y ?_ ?_ <;> (intro hgd; try (simp only [Bool.not_true, Bool.not_false] at hgd))) | (refine gc_Y ?_ ?_ <;> intro _) | fail)
      rename_i u1 hu1 u2 hu2
      rw [hw3]
      refine cont_map (L' := [row 21 1 u2 ((hexR v n (j + 1)).map ruV)] ++ R) (by rw [hmap]; exact entD) ?_
      refine cont_back (j + 1, ⟨u2, hu2⟩) ⟨h0, ⟨rfl, rfl, by show Value.int .i64 _ = _; rw [hmi], trivial⟩, rfl⟩ (by show n - (j + 1) < n - j; omega)
  · have hje : j = n := by omega
    subst hje
    have t3 : decide ((0 : Int) ≤ (j : Int) - 1 - (j : Int)) = false := by rw [decide_eq_false_iff_not]; omega
    repeat' (first | (refine go_Y ?_; intros) | (refine gs_Y ?_ ?_ <;> (intro hgd; try (simp only [Bool.not_true, Bool.not_false] at hgd))) | (refine gc_Y ?_ ?_ <;> intro _) | fail)
    refine ops_run (s_runes_string (e := 21) (l := hexR v j j) rfl rfl (VwIn.here Vw.row) (by intro e; have := congrArg List.length e; rw [hexR_len, List.length_nil] at this; omega) rfl rfl ?_)
    rw [runes_ascii _ (fun c hc => by have := hexR_rng hc; omega)]
    repeat' (first | (refine go_Y ?_; intros) | (refine gs_Y ?_ ?_ <;> (intro hgd; try (simp only [Bool.not_true, Bool.not_false] at hgd))) | (refine gc_Y ?_ ?_ <;> intro _) | fail)
    (refine rt_Y (y := ()) (hrs := Tryz.results77) (hv := ?_) (hφ := ?_))
    · rfl
    · trivial
theorem hasP_spec (s p : BA) (hs : s.size ≤ 4611686018427387904) (hp : p.size ≤ 4611686018427387904) : FSpec Tryz.prog 117 [.string s, .string p] [] Unit (fun _ => True) (fun _ => .bool (hasP s p)) (fun _ => []) := by
  unfold hasP
  cases t1 : decide ((p.size : Int) ≤ (s.size : Int)) with
  | true =>
    have hr : (0 : Int) ≤ (p.size : Int) ∧ (p.size : Int) ≤ (s.size : Int) := ⟨by omega, of_decide_eq_true t1⟩
    refine spec_intro [] _ Tryz.func117 rfl Tryz.ntmps117 (by rfl) (fun w0 R => ?_)
    repeat' (first | (refine go_Y ?_; intros) | (refine gs_Y ?_ ?_ <;> (intro hgd; try (simp only [Bool.not_true, Bool.not_false] at hgd))) | (refine gc_Y ?_ ?_ <;> intro _) | fail)
    (refine rt_Y (y := ()) (hrs := Tryz.results117) (hv := ?_) (hφ := ?_))
    · rw [Bool.true_and]; rfl
    · trivial
  | false =>
    rw [Bool.false_and]
    refine spec_intro [] _ Tryz.func117 rfl Tryz.ntmps117 (by rfl) (fun w0 R => ?_)
    repeat' (first | (refine go_Y ?_; intros) | (refine gs_Y ?_ ?_ <;> (intro hgd; try (simp only [Bool.not_true, Bool.not_false] at hgd))) | (refine gc_Y ?_ ?_ <;> intro _) | fail)
    (refine rt_Y (y := ()) (hrs := Tryz.results117) (hv := ?_) (hφ := ?_))
    · rfl
    · trivial
theorem cutP1_spec (s p : BA) (hs : s.size ≤ 4611686018427387904) (hp : p.size ≤ 4611686018427387904) : FSpec Tryz.prog 102 [.string s, .string p] [] Unit (fun _ => True) (fun _ => .tuple #[.string (cutP s p).1, .bool (cutP s p).2]) (fun _ => []) := by
  have hh := hasP_spec s p hs hp
  unfold cutP
  cases hc : hasP s p with
  | true =>
    have hle : (p.size : Int) ≤ (s.size : Int) := by
      unfold hasP at hc
      rw [Bool.and_eq_true] at hc
      exact of_decide_eq_true hc.1
    have hr : (0 : Int) ≤ (p.size : Int) ∧ (p.size : Int) ≤ (s.size : Int) := ⟨by omega, hle⟩
    rw [hc] at hh
    rw [if_pos rfl]
    refine spec_intro [] _ Tryz.func102 rfl Tryz.ntmps102 (by rfl) (fun w0 R => ?_)
    repeat' (first | (refine go_Y ?_; intros) | (refine gs_Y ?_ ?_ <;> (intro hgd; try (simp only [Bool.not_true, Bool.not_false] at hgd))) | (refine gc_Y ?_ ?_ <;> intro _) | fail)
    refine cl_Y (hh) ?_
    intro _ _
    repeat' (first | (refine go_Y ?_; intros) | (refine gs_Y ?_ ?_ <;> (intro hgd; try (simp only [Bool.not_true, Bool.not_false] at hgd))) | (refine gc_Y ?_ ?_ <;> intro _) | fail)
    (refine rt_Y (y := ()) (hrs := Tryz.results102) (hv := ?_) (hφ := ?_))
    · rfl
    · trivial
  | false =>
    rw [hc] at hh
    rw [if_neg (by simp)]
    refine spec_intro [] _ Tryz.func102 rfl Tryz.ntmps102 (by rfl) (fun w0 R => ?_)
    repeat' (first | (refine go_Y ?_; intros) | (refine gs_Y ?_ ?_ <;> (intro hgd; try (simp only [Bool.not_true, Bool.not_false] at hgd))) | (refine gc_Y ?_ ?_ <;> intro _) | fail)
    refine cl_Y (hh) ?_
    intro _ _
    repeat' (first | (refine go_Y ?_; intros) | (refine gs_Y ?_ ?_ <;> (intro hgd; try (simp only [Bool.not_true, Bool.not_false] at hgd))) | (refine gc_Y ?_ ?_ <;> intro _) | fail)
    (refine rt_Y (y := ()) (hrs := Tryz.results102) (hv := ?_) (hφ := ?_))
    · rfl
    · trivial
theorem cutP_spec (s p : BA) (hs : s.size ≤ 4611686018427387904) (hp : p.size ≤ 4611686018427387904) : FSpec Tryz.prog 90 [.string s, .string p] [] Unit (fun _ => True) (fun _ => .tuple #[.string (cutP s p).1, .bool (cutP s p).2]) (fun _ => []) := by
  have hh := cutP1_spec s p hs hp
  refine spec_intro [] _ Tryz.func90 rfl Tryz.ntmps90 (by rfl) (fun w0 R => ?_)
  repeat' (first | (refine go_Y ?_; intros) | (refine gs_Y ?_ ?_ <;> (intro hgd; try (simp only [Bool.not_true, Bool.not_false] at hgd))) | (refine gc_Y ?_ ?_ <;> intro _) | fail)
  refine cl_Y (hh) ?_
  intro _ _
  repeat' (first | (refine go_Y ?_; intros) | (refine gs_Y ?_ ?_ <;> (intro hgd; try (simp only [Bool.not_true, Bool.not_false] at hgd))) | (refine gc_Y ?_ ?_ <;> intro _) | fail)
  (refine rt_Y (y := ()) (hrs := Tryz.results90) (hv := ?_) (hφ := ?_))
  · rfl
  · trivial
set_option maxHeartbeats 4000000 in
theorem unhex_spec (s : BA) (hs : s.size ≤ 4611686018427387904) : FSpec Tryz.prog 91 [.string s] [] Unit (fun _ => True) (fun _ => .tuple #[.int .u64 (((unhexS s).getD 0 : Nat) : Int), .int .i64 (if (unhexS s).isSome then 0 else 2)]) (fun _ => []) := by
  unfold unhexS
  cases t1 : decide ((s.size : Int) < 1) with
  | true =>
    rw [if_neg (by have := of_decide_eq_true t1; omega)]
    refine spec_intro [93] _ Tryz.func91 rfl Tryz.ntmps91 (by rfl) (fun w0 R => ?_)
    repeat' (first | (refine go_Y ?_; intros) | (refine gs_Y ?_ ?_ <;> (intro hgd; try (simp only [Bool.not_true, Bool.not_false] at hgd))) | (refine gc_Y ?_ ?_ <;> intro _) | fail)
    (refine rt_Y (y := ()) (hrs := Tryz.results91) (hv := ?_) (hφ := ?_))
    · rfl
    · trivial
  | false =>
  cases t2 : decide ((16 : Int) < (s.size : Int)) with
  | true =>
    rw [if_neg (by have := of_decide_eq_true t2; omega)]
    refine spec_intro [93] _ Tryz.func91 rfl Tryz.ntmps91 (by rfl) (fun w0 R => ?_)
    repeat' (first | (refine go_Y ?_; intros) | (refine gs_Y ?_ ?_ <;> (intro hgd; try (simp only [Bool.not_true, Bool.not_false] at hgd))) | (refine gc_Y ?_ ?_ <;> intro _) | fail)
    (refine rt_Y (y := ()) (hrs := Tryz.results91) (hv := ?_) (hφ := ?_))
    · rfl
    · trivial
  | false =>
  have hz1 : 1 ≤ s.size := by have := of_decide_eq_false t1; omega
  have hz16 : s.size ≤ 16 := by have := of_decide_eq_false t2; omega
  rw [if_pos ⟨hz1, hz16⟩]
  refine spec_intro [93] _ Tryz.func91 rfl Tryz.ntmps91 (by rfl) (fun w0 R => ?_)
  repeat' (first | (refine go_Y ?_; intros) | (refine gs_Y ?_ ?_ <;> (intro hgd; try (simp only [Bool.not_true, Bool.not_false] at hgd))) | (refine gc_Y ?_ ?_ <;> intro _) | fail)
  rename_i bb cap
  refine ok_loop' (γ := Nat × Nat) (fun g ρ L => g.1 ≤ s.size ∧ g.2 < 16 ^ g.1 ∧ unL (s.data.toList.drop g.1) g.2 = unL s.data.toList 0 ∧ Knows ρ [(0, .string s), (2, .int .u64 (g.2 : Int)), (15, .slice (some ⟨bb, 0, none⟩) s.size cap), (16, .int .i64 s.size), (17, .int .i64 g.1)] ∧ L = [bytesR 5 (.slice (some ⟨bb, 0, none⟩) s.size cap) s] ++ R) (fun g => s.size - g.1)
    (0, 0) ⟨by omega, by simp, rfl, ⟨rfl, rfl, rfl, rfl, rfl, trivial⟩, rfl⟩ ?_
  rintro ⟨k, v⟩ ρ L ⟨hk0, hv, hun, hk, rfl⟩
  dsimp only at hk0 hv hun hk ⊢
  refine ok_regs hk ?_
  have hll : s.data.toList.length = s.size := by rw [Array.length_toList]; rfl
  cases t3 : decide ((k : Int) < (s.size : Int)) with
  | false =>
    have hke : k = s.size := by have := of_decide_eq_false t3; omega
    rw [hke, List.drop_of_length_le (by omega), unL] at hun
    rw [← hun]
    repeat' (first | (refine go_Y ?_; intros) | (refine gs_Y ?_ ?_ <;> (intro hgd; try (simp only [Bool.not_true, Bool.not_false] at hgd))) | (refine gc_Y ?_ ?_ <;> intro _) | fail)
    (refine rt_Y (y := ()) (hrs := Tryz.results91) (hv := ?_) (hφ := ?_))
    · rfl
    · trivial
  | true =>
    have h0 : k < s.size := by have := of_decide_eq_true t3; omega
    have h : k < s.data.toList.length := by omega
    have hx : (byteL s)[k]? = some [.int .u8 s.data.toList[k].toNat] := by unfold byteL; rw [List.getElem?_map, List.getElem?_eq_getElem h]; rfl
    have hdr := List.drop_eq_getElem_cons h
    have hvb : v < 1152921504606846976 := by
      have : (16 : Nat) ^ k ≤ 16 ^ 15 := Nat.pow_le_pow_right (by decide) (by omega)
      have e : (16 : Nat) ^ 15 = 1152921504606846976 := by decide
      omega
    have hvn : ∀ d, d < 16 → v * 16 + d < 16 ^ (k + 1) := fun d hd => by rw [Nat.pow_succ]; omega
    generalize s.data.toList[k] = c at hx hdr
    have hcl := c.toNat_lt
    have hbad : unD c = none → (unL s.data.toList 0) = none := fun hn => by rw [← hun, hdr, unL, hn]
    cases q1 : decide ((48 : Int) ≤ (c.toNat : Int)) with
    | false =>
      have q3 : decide ((97 : Int) ≤ (c.toNat : Int)) = false := by rw [decide_eq_false_iff_not]; have := of_decide_eq_false q1; omega
      have hN := hbad (by unfold unD; rw [if_neg (by have := of_decide_eq_false q1; omega), if_neg (by have := of_decide_eq_false q1; omega)])
      repeat' (first | (refine go_Y ?_; intros) | (refine gs_Y ?_ ?_ <;> (intro hgd; try (simp only [Bool.not_true, Bool.not_false] at hgd))) | (refine gc_Y ?_ ?_ <;> intro _) | fail)
      rw [hN]
      (refine rt_Y (y := ()) (hrs := Tryz.results91) (hv := ?_) (hφ := ?_))
      · rfl
      · trivial
    | true =>
    cases q2 : decide ((c.toNat : Int) ≤ 57) with
    | true =>
      have h1 : 48 ≤ c.toNat ∧ c.toNat ≤ 57 := ⟨by have := of_decide_eq_true q1; omega, by have := of_decide_eq_true q2; omega⟩
      have hud : unD c = some (c.toNat - 48) := by unfold unD; rw [if_pos h1]
      have hu8 := unD_u8 c h1.1
      repeat' (first | (refine go_Y ?_; intros) | (refine gs_Y ?_ ?_ <;> (intro hgd; try (simp only [Bool.not_true, Bool.not_false] at hgd))) | (refine gc_Y ?_ ?_ <;> intro _) | fail)
      rw [shl_or v (c.toNat - 48) hvb (by omega)]
      refine cont_back (k + 1, v * 16 + (c.toNat - 48)) ⟨by omega, hvn (c.toNat - 48) (by omega), by rw [← hun, hdr, unL, hud], ⟨rfl, rfl, rfl, rfl, rfl, trivial⟩, rfl⟩ (by show s.size - (k + 1) < s.size - k; omega)
    | false =>
    cases q3 : decide ((97 : Int) ≤ (c.toNat : Int)) with
    | false =>
      have hN := hbad (by unfold unD; rw [if_neg (by have := of_decide_eq_false q2; omega), if_neg (by have := of_decide_eq_false q3; omega)])
      repeat' (first | (refine go_Y ?_; intros) | (refine gs_Y ?_ ?_ <;> (intro hgd; try (simp only [Bool.not_true, Bool.not_false] at hgd))) | (refine gc_Y ?_ ?_ <;> intro _) | fail)
      rw [hN]
      (refine rt_Y (y := ()) (hrs := Tryz.results91) (hv := ?_) (hφ := ?_))
      · rfl
      · trivial
    | true =>
    cases q4 : decide ((c.toNat : Int) ≤ 102) with
    | true =>
      have h1 : 97 ≤ c.toNat ∧ c.toNat ≤ 102 := ⟨by have := of_decide_eq_true q3; omega, by have := of_decide_eq_true q4; omega⟩
      have hud : unD c = some (c.toNat - 97 + 10) := by unfold unD; rw [if_neg (by omega), if_pos h1]
      have hu8 := unD_u8' c h1.1 h1.2
      repeat' (first | (refine go_Y ?_; intros) | (refine gs_Y ?_ ?_ <;> (intro hgd; try (simp only [Bool.not_true, Bool.not_false] at hgd))) | (refine gc_Y ?_ ?_ <;> intro _) | fail)
      rw [shl_or v (c.toNat - 97 + 10) hvb (by omega)]
      refine cont_back (k + 1, v * 16 + (c.toNat - 97 + 10)) ⟨by omega, hvn (c.toNat - 97 + 10) (by omega), by rw [← hun, hdr, unL, hud], ⟨rfl, rfl, rfl, rfl, rfl, trivial⟩, rfl⟩ (by show s.size - (k + 1) < s.size - k; omega)
    | false =>
      have hN := hbad (by unfold unD; rw [if_neg (by have := of_decide_eq_false q2; omega), if_neg (by have := of_decide_eq_false q4; omega)])
      repeat' (first | (refine go_Y ?_; intros) | (refine gs_Y ?_ ?_ <;> (intro hgd; try (simp only [Bool.not_true, Bool.not_false] at hgd))) | (refine gc_Y ?_ ?_ <;> intro _) | fail)
      rw [hN]
      (refine rt_Y (y := ()) (hrs := Tryz.results91) (hv := ?_) (hφ := ?_))
      · rfl
      · trivial
end Go.Proofs.YtadgdikijdmceaaGreat
set_option linter.unusedSimpArgs false
set_option linter.unusedVariables false
set_option maxRecDepth 100000
namespace Go.Proofs.YtadgdikijdmceaaGreat
open Go Go.Fx Go.Proofs Go.Pl

theorem fspec_lrnT {P : Program} {f : FuncId} {args : List Value} {pre : List HProp} {Y : Type} {φ : Y → Prop} {ret : Y → Value} {post : Y → List HProp} {φ0 : Prop} (k : ∀ R h, SatL (pre ++ R) h → φ0) (h : φ0 → FSpec P f args pre Y φ ret post) : FSpec P f args pre Y φ ret post :=
  fun w0 w R hs => h (k R _ hs.heap) w0 w R hs
theorem cloneP_spec (u : Value) (A : HProp) (xs : List (List Value)) (hA : Vw A 2 u xs) (hl : xs.length ≤ 1000000000) :
    FSpec Tryz.prog 85 [u] [A] V1s (fun _ => True) (fun y => y.1) (fun y => [row 112 2 y.1 xs, A]) := by
  refine fspec_lrnT (fun R hh s => (VwIn.slice (VwIn.here hA)) hh s) ?_
  rintro ⟨pu, cu, rfl⟩
  cases pu with
  | none =>
    refine fspec_lrnT (φ0 := xs = []) (fun R hh s => ?_) ?_
    · obtain ⟨_, p', c', e, _, h3, _⟩ := (VwIn.here hA).satL s
      cases e
      exact h3 rfl
    intro hn
    subst hn
    refine spec_intro [] _ Tryz.func85 rfl Tryz.ntmps85 (by rfl) (fun w0 R => ?_)
    refine ok_map (fun _ h => nilRow (e := 112) (n := 2) h) ?_
    repeat' (first | (refine go_Y ?_; intros) | (refine gs_Y ?_ ?_ <;> (intro hgd; try (simp only [Bool.not_true, Bool.not_false] at hgd))) | (refine gc_Y ?_ ?_ <;> intro _) | fail)
    (refine rt_Y (y := ⟨.slice none 0 0, rfl⟩) (hrs := Tryz.results85) (hv := ?_) (hφ := ?_))
    · rfl
    · trivial
  | some p =>
    refine spec_intro [] _ Tryz.func85 rfl Tryz.ntmps85 (by rfl) (fun w0 R => ?_)
    repeat' (first | (refine go_Y ?_; intros) | (refine gs_Y ?_ ?_ <;> (intro hgd; try (simp only [Bool.not_true, Bool.not_false] at hgd))) | (refine gc_Y ?_ ?_ <;> intro _) | fail)
    rename_i v1 hv1 v2 hv2
    rw [List.nil_append]
    (refine rt_Y (y := ⟨v2, hv2⟩) (hrs := Tryz.results85) (hv := ?_) (hφ := ?_))
    · rfl
    · trivial
theorem cloneU_spec (u : Value) (A : HProp) (xs : List (List Value)) (hA : Vw A 1 u xs) (hl : xs.length ≤ 1000000000) :
    FSpec Tryz.prog 86 [u] [A] V1s (fun _ => True) (fun y => y.1) (fun y => [row 115 1 y.1 xs, A]) := by
  refine fspec_lrnT (fun R hh s => (VwIn.slice (VwIn.here hA)) hh s) ?_
  rintro ⟨pu, cu, rfl⟩
  cases pu with
  | none =>
    refine fspec_lrnT (φ0 := xs = []) (fun R hh s => ?_) ?_
    · obtain ⟨_, p', c', e, _, h3, _⟩ := (VwIn.here hA).satL s
      cases e
      exact h3 rfl
    intro hn
    subst hn
    refine spec_intro [] _ Tryz.func86 rfl Tryz.ntmps86 (by rfl) (fun w0 R => ?_)
    refine ok_map (fun _ h => nilRow (e := 115) (n := 1) h) ?_
    repeat' (first | (refine go_Y ?_; intros) | (refine gs_Y ?_ ?_ <;> (intro hgd; try (simp only [Bool.not_true, Bool.not_false] at hgd))) | (refine gc_Y ?_ ?_ <;> intro _) | fail)
    (refine rt_Y (y := ⟨.slice none 0 0, rfl⟩) (hrs := Tryz.results86) (hv := ?_) (hφ := ?_))
    · rfl
    · trivial
  | some p =>
    refine spec_intro [] _ Tryz.func86 rfl Tryz.ntmps86 (by rfl) (fun w0 R => ?_)
    repeat' (first | (refine go_Y ?_; intros) | (refine gs_Y ?_ ?_ <;> (intro hgd; try (simp only [Bool.not_true, Bool.not_false] at hgd))) | (refine gc_Y ?_ ?_ <;> intro _) | fail)
    rename_i v1 hv1 v2 hv2
    rw [List.nil_append]
    (refine rt_Y (y := ⟨v2, hv2⟩) (hrs := Tryz.results86) (hv := ?_) (hφ := ?_))
    · rfl
    · trivial
theorem cloneS_spec (u : Value) (A : HProp) (xs : List (List Value)) (hA : Vw A 5 u xs) (hl : xs.length ≤ 1000000000) :
    FSpec Tryz.prog 56 [u] [A] V1s (fun _ => True) (fun y => y.1) (fun y => [row 76 5 y.1 xs, A]) := by
  refine fspec_lrnT (fun R hh s => (VwIn.slice (VwIn.here hA)) hh s) ?_
  rintro ⟨pu, cu, rfl⟩
  cases pu with
  | none =>
    refine fspec_lrnT (φ0 := xs = []) (fun R hh s => ?_) ?_
    · obtain ⟨_, p', c', e, _, h3, _⟩ := (VwIn.here hA).satL s
      cases e
      exact h3 rfl
    intro hn
    subst hn
    refine spec_intro [] _ Tryz.func56 rfl Tryz.ntmps56 (by rfl) (fun w0 R => ?_)
    refine ok_map (fun _ h => nilRow (e := 76) (n := 5) h) ?_
    repeat' (first | (refine go_Y ?_; intros) | (refine gs_Y ?_ ?_ <;> (intro hgd; try (simp only [Bool.not_true, Bool.not_false] at hgd))) | (refine gc_Y ?_ ?_ <;> intro _) | fail)
    (refine rt_Y (y := ⟨.slice none 0 0, rfl⟩) (hrs := Tryz.results56) (hv := ?_) (hφ := ?_))
    · rfl
    · trivial
  | some p =>
    refine spec_intro [] _ Tryz.func56 rfl Tryz.ntmps56 (by rfl) (fun w0 R => ?_)
    repeat' (first | (refine go_Y ?_; intros) | (refine gs_Y ?_ ?_ <;> (intro hgd; try (simp only [Bool.not_true, Bool.not_false] at hgd))) | (refine gc_Y ?_ ?_ <;> intro _) | fail)
    rename_i v1 hv1 v2 hv2
    rw [List.nil_append]
    (refine rt_Y (y := ⟨v2, hv2⟩) (hrs := Tryz.results56) (hv := ?_) (hφ := ?_))
    · rfl
    · trivial
def plV : List BA → Nat → List (List Value)
  | [], _ => []
  | r :: l, a => [.int .i64 (a : Int), .int .i64 ((12 + r.size : Nat) : Int)] :: plV l (a + (12 + r.size))
theorem lenT_cat (a b : List BA) : lenT (a ++ b) = lenT a + lenT b := by unfold lenT; rw [List.map_append, List.sum_append]
def smV (l : List BA) : List (List Value) := l.map fun r => [.int .u32 (sumS r)]
theorem plV_len (l : List BA) (a : Nat) : (plV l a).length = l.length := by
  induction l generalizing a with
  | nil => rfl
  | cons r l ih => rw [plV, List.length_cons, ih, List.length_cons]
theorem plV_snoc (l : List BA) (r : BA) (a : Nat) : plV (l ++ [r]) a = plV l a ++ [[.int .i64 ((a + lenT l : Nat) : Int), .int .i64 ((12 + r.size : Nat) : Int)]] := by
  induction l generalizing a with
  | nil => simp [plV, lenT]
  | cons s l ih =>
    rw [List.cons_append, plV, ih, plV, List.cons_append]
    have : lenT (s :: l) = 12 + s.size + lenT l := by simp [lenT]
    rw [this, Nat.add_assoc]
theorem smV_snoc (l : List BA) (r : BA) : smV (l ++ [r]) = smV l ++ [[.int .u32 (sumS r)]] := by unfold smV; rw [List.map_append]; rfl
theorem smV_len (l : List BA) : (smV l).length = l.length := by simp [smV]
theorem len_lenT' : ∀ l : List BA, 12 * l.length ≤ lenT l
  | [] => by simp [lenT]
  | s :: l => by have := len_lenT' l; simp only [lenT, List.map_cons, List.sum_cons, List.length_cons] at this ⊢; omega
theorem lenT_take (l : List BA) (j : Nat) : lenT (l.take j) ≤ lenT l := by
  have h := congrArg lenT (List.take_append_drop j l)
  have e : lenT (l.take j ++ l.drop j) = lenT (l.take j) + lenT (l.drop j) := by unfold lenT; rw [List.map_append, List.sum_append]
  omega
structure Sg where
  file : BA
  first : Nat
  recs : List BA
structure Sm where
  s : Sg
  pv : V1s
  sv : V1s
def sgV (x : Sm) : List Value := [.string x.s.file, .int .u64 (x.s.first : Int), x.pv.1, .int .i64 (lenT x.s.recs : Int), x.sv.1]
structure SgR (P : HProp) (x : Sm) : Prop where
  pv : Vw P 2 x.pv.1 (plV x.s.recs 0)
  sv : Vw P 1 x.sv.1 (smV x.s.recs)
theorem SgR.ext {P P' : HProp} (a : Ext P P') {x : Sm} (h : SgR P x) : SgR P' x := ⟨a.vw h.pv, a.vw h.sv⟩
set_option maxHeartbeats 8000000 in
theorem with_spec (x : Sm) (u : Value) (l : List BA) (A : HProp) (hx : SgR A x) (hu : Vw A 1 u (l.map strV)) (hb : lenT x.s.recs + lenT l ≤ 1000000000) :
    FSpec Tryz.prog 62 [.agg (sgV x).toArray, u] [A] (Sm × HProp) (fun y => Ext A y.2 ∧ SgR y.2 y.1 ∧ y.1.s = ⟨x.s.file, x.s.first, x.s.recs ++ l⟩) (fun y => .agg (sgV y.1).toArray) (fun y => [y.2]) := by
  obtain ⟨⟨file, first, recs⟩, ⟨pv, hpv⟩, ⟨sv, hsv⟩⟩ := x
  obtain ⟨h1, h2⟩ := hx
  dsimp only at h1 h2 hb ⊢
  dsimp only [sgV]
  have hn1 := len_lenT' recs
  have hn2 := len_lenT' l
  have lp := plV_len recs 0
  have ls := smV_len recs
  have ll : (l.map strV).length = l.length := by simp
  have hc1 := cloneP_spec pv A (plV recs 0) h1 (by omega)
  have hc2 := cloneU_spec sv A (smV recs) h2 (by omega)
  refine fspec_lrnT (fun R hh s => (VwIn.slice (VwIn.here h1)) hh s) ?_
  rintro ⟨pp, cp, rfl⟩
  refine fspec_lrnT (fun R hh s => (VwIn.slice (VwIn.here h2)) hh s) ?_
  rintro ⟨ps, cs, rfl⟩
  refine fspec_lrnT (fun R hh s => (VwIn.slice (VwIn.here hu)) hh s) ?_
  rintro ⟨pl, cl, rfl⟩
  refine spec_intro [] _ Tryz.func62 rfl Tryz.ntmps62 (by rfl) (fun w0 R => ?_)
  repeat' (first | (refine go_Y ?_; intros) | (refine gs_Y ?_ ?_ <;> (intro hgd; try (simp only [Bool.not_true, Bool.not_false] at hgd))) | (refine gc_Y ?_ ?_ <;> intro _) | fail)
  rename_i b2 b4
  refine ok_drawL (cv := []) [2] ([pts b2 (.cells [.string file, .int .u64 (first : Int), .slice pp (plV recs 0).length cp, .int .i64 (lenT recs : Int), .slice ps (smV recs).length cs].toArray 76)]) (takeD) (by kernel_rfl) rfl (by decide +kernel) ?_
  repeat' (first | (refine go_Y ?_; intros) | (refine gs_Y ?_ ?_ <;> (intro hgd; try (simp only [Bool.not_true, Bool.not_false] at hgd))) | (refine gc_Y ?_ ?_ <;> intro _) | fail)
  refine clN_Y (hc1) ?_
  rintro ⟨v1, hv1⟩ _
  repeat' (first | (refine go_Y ?_; intros) | (refine gs_Y ?_ ?_ <;> (intro hgd; try (simp only [Bool.not_true, Bool.not_false] at hgd))) | (refine gc_Y ?_ ?_ <;> intro _) | fail)
  refine cl_Y (hc2) ?_
  rintro ⟨v2, hv2⟩ _
  repeat' (first | (refine go_Y ?_; intros) | (refine gs_Y ?_ ?_ <;> (intro hgd; try (simp only [Bool.not_true, Bool.not_false] at hgd))) | (refine gc_Y ?_ ?_ <;> intro _) | fail)
  refine ok_map (L' := [pts b2 (.cells [.string file, .int .u64 (first : Int), v1, .int .i64 (lenT (recs ++ l.take 0) : Int), v2].toArray 76), row 112 2 v1 (plV (recs ++ l.take 0) 0), row 115 1 v2 (smV (recs ++ l.take 0)), A, pts b4 (.cells [.string ⟨#[]⟩, .int .u64 0, .slice none 0 0, .int .i64 0, .slice none 0 0].toArray 76)] ++ R) (by rw [List.take_zero, List.append_nil]; exact entD) ?_
  refine ok_loop' (γ := Nat × V1s × V1s) (fun g ρ L => g.1 ≤ l.length ∧ Knows ρ [(2, .pointer (some ⟨b2, 0, none⟩)), (4, .pointer (some ⟨b4, 0, none⟩)), (16, .slice pl (l.map strV).length cl), (17, .int .i64 (l.map strV).length), (18, .int .i64 g.1)] ∧
      L = [pts b2 (.cells [.string file, .int .u64 (first : Int), g.2.1.1, .int .i64 (lenT (recs ++ l.take g.1) : Int), g.2.2.1].toArray 76), row 112 2 g.2.1.1 (plV (recs ++ l.take g.1) 0), row 115 1 g.2.2.1 (smV (recs ++ l.take g.1)), A, pts b4 (.cells [.string ⟨#[]⟩, .int .u64 0, .slice none 0 0, .int .i64 0, .slice none 0 0].toArray 76)] ++ R) (fun g => l.length - g.1) (0, ⟨v1, hv1⟩, ⟨v2, hv2⟩) ⟨by omega, ⟨rfl, rfl, rfl, rfl, rfl, trivial⟩, rfl⟩ ?_
  rintro ⟨j, ⟨u1, hu1⟩, ⟨u2, hu2⟩⟩ ρ L ⟨hj, hk, rfl⟩
  dsimp only at hj hk ⊢
  refine ok_regs hk ?_
  have hlt := lenT_take l j
  have hla := lenT_cat recs (l.take j)
  have hlp := plV_len (recs ++ l.take j) 0
  have hls := smV_len (recs ++ l.take j)
  have hll := len_lenT' (recs ++ l.take j)
  cases t1 : decide ((j : Int) < ((l.map strV).length : Int)) with
  | true =>
    have h0 : j < l.length := by have := of_decide_eq_true t1; omega
    have hxj : (l.map strV)[j]? = some (strV l[j]) := by rw [List.getElem?_map, List.getElem?_eq_getElem h0]; rfl
    have hjn : j < (l.map strV).length := by omega
    have htk : recs ++ l.take (j + 1) = (recs ++ l.take j) ++ [l[j]] := by rw [List.take_succ_eq_append_getElem h0, List.append_assoc]
    have hlt1 := lenT_take l (j + 1)
    have hla1 := lenT_cat recs (l.take (j + 1))
    have hs1 := lenT_snoc (recs ++ l.take j) l[j]
    have hpn := plV_snoc (recs ++ l.take j) l[j] 0
    have hsn := smV_snoc (recs ++ l.take j) l[j]
    rw [← htk] at hs1 hpn hsn
    rw [Nat.zero_add] at hpn
    refine ok_learn (VwIn.base (n := 1) (p := pl) (len := (l.map strV).length) (cap := cl) (xs := l.map strV) (VwIn.there (VwIn.there (VwIn.there (VwIn.here hu)))) (by intro e; rw [e] at hjn; simp at hjn)) ?_
    rintro ⟨bl, ol, rfl⟩
    generalize l[j] = r at hxj hs1 hpn hsn
    dsimp only [strV] at hxj
    have hsum := sum_spec r (by omega)
    rw [show ((12 + r.size : Nat) : Int) = 12 + (r.size : Int) from rfl] at hpn
    repeat' (first | (refine go_Y ?_; intros) | (refine gs_Y ?_ ?_ <;> (intro hgd; try (simp only [Bool.not_true, Bool.not_false] at hgd))) | (refine gc_Y ?_ ?_ <;> intro _) | fail)
    rename_i b7
    refine ok_drawL (cv := []) [3, 4, 8, 9] ([pts b2 (.cells [.string file, .int .u64 (first : Int), u1, .int .i64 (lenT (recs ++ l.take j) : Int), u2].toArray 76), pts b7 (.cells [.int .i64 (lenT (recs ++ l.take j) : Int), .int .i64 (12 + (r.size : Int))].toArray 112)]) (takeD) (by kernel_rfl) rfl (by decide +kernel) ?_
    repeat' (first | (refine go_Y ?_; intros) | (refine gs_Y ?_ ?_ <;> (intro hgd; try (simp only [Bool.not_true, Bool.not_false] at hgd))) | (refine gc_Y ?_ ?_ <;> intro _) | fail)
    refine clN_Y (hsum) ?_
    intro _ _
    repeat' (first | (refine go_Y ?_; intros) | (refine gs_Y ?_ ?_ <;> (intro hgd; try (simp only [Bool.not_true, Bool.not_false] at hgd))) | (refine gc_Y ?_ ?_ <;> intro _) | fail)
    rename_i w1 hw1 w2 hw2 yy hyy w3 hw3 w4 hw4
    have hs1' : ((lenT (recs ++ l.take (j + 1)) : Nat) : Int) = (lenT (recs ++ l.take j) : Int) + (12 + (r.size : Int)) := by rw [hs1]; rfl
    refine cont_map (L' := [pts b2 (.cells [.string file, .int .u64 (first : Int), w2, .int .i64 (lenT (recs ++ l.take (j + 1)) : Int), w4].toArray 76), row 112 2 w2 (plV (recs ++ l.take (j + 1)) 0), row 115 1 w4 (smV (recs ++ l.take (j + 1))), A, pts b4 (.cells [.string ⟨#[]⟩, .int .u64 0, .slice none 0 0, .int .i64 0, .slice none 0 0].toArray 76)] ++ R) (by rw [hpn, hsn, hs1']; exact entD) ?_
    refine cont_back (j + 1, ⟨w2, hw2⟩, ⟨w4, hw4⟩) ⟨h0, ⟨rfl, rfl, rfl, rfl, rfl, trivial⟩, rfl⟩ (by show l.length - (j + 1) < l.length - j; omega)
  | false =>
    have hje : j = l.length := by have := of_decide_eq_false t1; omega
    subst hje
    rw [List.take_length] at hlp hls hll hla ⊢
    refine ok_learn (rowShapeS (e := 112) (n := 2) (v := u1) (xs := plV (recs ++ l) 0) (by decide) takeD) ?_
    rintro ⟨q1, c1, rfl, _, _⟩
    refine ok_learn (rowShapeS (e := 115) (n := 1) (v := u2) (xs := smV (recs ++ l)) (by decide) takeD) ?_
    rintro ⟨q2, c2, rfl, _, _⟩
    repeat' (first | (refine go_Y ?_; intros) | (refine gs_Y ?_ ?_ <;> (intro hgd; try (simp only [Bool.not_true, Bool.not_false] at hgd))) | (refine gc_Y ?_ ?_ <;> intro _) | fail)
    refine cont_poolN (ty := 112) (n := 2) (v := .slice q1 (plV (recs ++ l) 0).length c1) (xs := plV (recs ++ l) 0) (P := A) takeD ?_
    intro P1 g1 w1
    refine cont_poolN (ty := 115) (n := 1) (v := .slice q2 (smV (recs ++ l)).length c2) (xs := smV (recs ++ l)) (P := P1) takeD ?_
    intro P2 g2 w2
    (refine rt_Y (y := (⟨⟨file, first, recs ++ l⟩, ⟨.slice q1 (plV (recs ++ l) 0).length c1, rfl⟩, ⟨.slice q2 (smV (recs ++ l)).length c2, rfl⟩⟩, P2)) (hrs := Tryz.results62) (hv := ?_) (hφ := ?_))
    · rfl
    · exact ⟨g1.trans g2, ⟨g2.vw w1, w2⟩, rfl⟩
end Go.Proofs.YtadgdikijdmceaaGreat
set_option linter.unusedSimpArgs false
set_option linter.unusedVariables false
set_option maxRecDepth 100000
namespace Go.Pl
open Go Go.Fx
def dotT : ByteArray := ⟨#[46]⟩
def fileT (name : ByteArray) (first : Nat) : ByteArray := name ++ dotT ++ hexS first 12
end Go.Pl
namespace Go.Proofs.YtadgdikijdmceaaGreat
open Go Go.Fx Go.Proofs Go.Pl

abbrev tpP (tb b : Nat) (name : BA) (seg : Int) (vs : Value) (fault : Int) : HProp := pts tb (.cells [.pointer (some ⟨b, 0, none⟩), .string name, .int .i64 seg, vs, .int .i64 fault].toArray 72)
structure SgsR (P : HProp) (vs : Value) (l : List Sm) : Prop where
  vw : Vw P 5 vs (l.map sgV)
  sg : ∀ x ∈ l, SgR P x
  cp : ∃ p c, vs = .slice p (l.map sgV).length c ∧ (l.map sgV).length ≤ c
theorem SgsR.ext {P P' : HProp} (a : Ext P P') {vs : Value} {l : List Sm} (h : SgsR P vs l) : SgsR P' vs l := ⟨a.vw h.vw, fun x hx => (h.sg x hx).ext a, h.cp⟩
def nextS (l : List Sg) : Nat := match l.getLast? with | some x => x.first + x.recs.length | none => 0
def firstS (l : List Sg) : Nat := match l with | x :: _ => x.first | [] => 0
theorem file_spec (tb b : Nat) (name : BA) (seg : Int) (vs : Value) (fault : Int) (n : Nat) (hn : n < 281474976710656) (hz : name.size ≤ 1000000) :
    FSpec Tryz.prog 57 [.pointer (some ⟨tb, 0, none⟩), .int .u64 (n : Int)] [tpP tb b name seg vs fault] Unit (fun _ => True) (fun _ => .string (fileT name n)) (fun _ => [tpP tb b name seg vs fault]) := by
  have h12 : n < 16 ^ 12 := by
    have : (16 : Nat) ^ 12 = 281474976710656 := by decide
    omega
  have hh : FSpec Tryz.prog 77 [.int .u64 (n : Int), .int .i64 12] [] Unit (fun _ => True) (fun _ => .tuple #[.string (hexS n 12), .int .i64 0]) (fun _ => []) := hex_spec n 12 h12 (by decide) (by decide)
  have hz2 := hexS_size n 12
  unfold fileT
  generalize hexS n 12 = hx at hh hz2
  have z1 : ByteArray.size ⟨#[46]⟩ = 1 := rfl
  have z2 : (name ++ (⟨#[46]⟩ : ByteArray)).size = name.size + 1 := by rw [ByteArray.size_append, z1]
  refine spec_intro [] _ Tryz.func57 rfl Tryz.ntmps57 (by rfl) (fun w0 R => ?_)
  repeat' (first | (refine go_Y ?_; intros) | (refine gs_Y ?_ ?_ <;> (intro hgd; try (simp only [Bool.not_true, Bool.not_false] at hgd))) | (refine gc_Y ?_ ?_ <;> intro _) | fail)
  refine cl_Y (hh) ?_
  intro _ _
  repeat' (first | (refine go_Y ?_; intros) | (refine gs_Y ?_ ?_ <;> (intro hgd; try (simp only [Bool.not_true, Bool.not_false] at hgd))) | (refine gc_Y ?_ ?_ <;> intro _) | fail)
  (refine rt_Y (y := ()) (hrs := Tryz.results57) (hv := ?_) (hφ := ?_))
  · rfl
  · trivial
theorem tnext_spec (u : Value) (l : List Sm) (A : HProp) (h : SgsR A u l) (hl : l.length ≤ 1000000000) (hb : nextS (l.map Sm.s) ≤ 1000000000000000) :
    FSpec Tryz.prog 43 [u] [A] Unit (fun _ => True) (fun _ => .int .u64 (nextS (l.map Sm.s) : Int)) (fun _ => [A]) := by
  have hv := h.vw
  have ll : (l.map sgV).length = l.length := by simp
  refine fspec_lrnT (fun R hh s => (VwIn.slice (VwIn.here hv)) hh s) ?_
  rintro ⟨pu, cu, rfl⟩
  cases t1 : decide (((l.map sgV).length : Int) = 0) with
  | true =>
    obtain rfl : l = [] := List.eq_nil_of_length_eq_zero (by have := of_decide_eq_true t1; omega)
    refine spec_intro [] _ Tryz.func43 rfl Tryz.ntmps43 (by rfl) (fun w0 R => ?_)
    repeat' (first | (refine go_Y ?_; intros) | (refine gs_Y ?_ ?_ <;> (intro hgd; try (simp only [Bool.not_true, Bool.not_false] at hgd))) | (refine gc_Y ?_ ?_ <;> intro _) | fail)
    (refine rt_Y (y := ()) (hrs := Tryz.results43) (hv := ?_) (hφ := ?_))
    · rfl
    · trivial
  | false =>
    have h0 : 0 < l.length := by have := of_decide_eq_false t1; omega
    have hi : ((l.map sgV).length : Int) - 1 = ((l.length - 1 : Nat) : Int) := by omega
    have hx : (l.map sgV)[l.length - 1]? = some (sgV l[l.length - 1]) := by rw [List.getElem?_map, List.getElem?_eq_getElem (by omega)]; rfl
    have hin : l.length - 1 < (l.map sgV).length := by omega
    have hsg := h.sg _ (List.getElem_mem (show l.length - 1 < l.length by omega))
    have hnx : nextS (l.map Sm.s) = l[l.length - 1].s.first + l[l.length - 1].s.recs.length := by
      unfold nextS
      rw [List.getLast?_eq_getElem?, List.length_map, List.getElem?_map, List.getElem?_eq_getElem (by omega)]
      rfl
    rw [hnx] at hb ⊢
    generalize l[l.length - 1] = x at hx hsg hb hnx
    obtain ⟨⟨file, first, recs⟩, ⟨pv, hpv⟩, ⟨sv, hsv⟩⟩ := x
    obtain ⟨h1, h2⟩ := hsg
    dsimp only at h1 h2 hb
    have lp := plV_len recs 0
    have ls := smV_len recs
    dsimp only [sgV] at hx
    refine fspec_lrnT (fun R hh s => (VwIn.base (n := 5) (p := pu) (len := (l.map sgV).length) (cap := cu) (xs := l.map sgV) (VwIn.here hv) (by intro e; rw [e] at hin; simp at hin)) hh s) ?_
    rintro ⟨bu, ou, rfl⟩
    refine fspec_lrnT (fun R hh s => (VwIn.slice (VwIn.here h1)) hh s) ?_
    rintro ⟨pp, cp, rfl⟩
    refine fspec_lrnT (fun R hh s => (VwIn.slice (VwIn.here h2)) hh s) ?_
    rintro ⟨ps, cs, rfl⟩
    have hw : IntKind.u64.wrap ((plV recs 0).length : Int) = ((plV recs 0).length : Int) := tp_wrap64 _ (by omega)
    have hw2 : IntKind.u64.wrap (arith BinOp.add (first : Int) ((plV recs 0).length : Int)) = ((first + recs.length : Nat) : Int) := by
      rw [lp]
      exact tp_wrap64 (first + recs.length) (by omega)
    refine spec_intro [] _ Tryz.func43 rfl Tryz.ntmps43 (by rfl) (fun w0 R => ?_)
    repeat' (first | (refine go_Y ?_; intros) | (refine gs_Y ?_ ?_ <;> (intro hgd; try (simp only [Bool.not_true, Bool.not_false] at hgd))) | (refine gc_Y ?_ ?_ <;> intro _) | fail)
    (refine rt_Y (y := ()) (hrs := Tryz.results43) (hv := ?_) (hφ := ?_))
    · show Value.int .u64 _ = Value.int .u64 _; rw [hw2]
    · trivial
theorem tFault_spec (tb b : Nat) (name : BA) (seg : Int) (vs : Value) (fault : Int) :
    FSpec Tryz.prog 18 [.pointer (some ⟨tb, 0, none⟩)] [tpP tb b name seg vs fault] Unit (fun _ => True) (fun _ => .int .i64 fault) (fun _ => [tpP tb b name seg vs fault]) := by
  refine spec_intro [] _ Tryz.func18 rfl Tryz.ntmps18 (by rfl) (fun w0 R => ?_)
  repeat' (first | (refine go_Y ?_; intros) | (refine gs_Y ?_ ?_ <;> (intro hgd; try (simp only [Bool.not_true, Bool.not_false] at hgd))) | (refine gc_Y ?_ ?_ <;> intro _) | fail)
  (refine rt_Y (y := ()) (hrs := Tryz.results18) (hv := ?_) (hφ := ?_))
  · rfl
  · trivial
theorem tNext_spec (tb b : Nat) (name : BA) (seg : Int) (vs : Value) (fault : Int) (l : List Sm) (A : HProp) (h : SgsR A vs l) (hl : l.length ≤ 1000000000) (hb : nextS (l.map Sm.s) ≤ 1000000000000000) :
    FSpec Tryz.prog 17 [.pointer (some ⟨tb, 0, none⟩)] [tpP tb b name seg vs fault, A] Unit (fun _ => True) (fun _ => .int .u64 (nextS (l.map Sm.s) : Int)) (fun _ => [tpP tb b name seg vs fault, A]) := by
  have hn := tnext_spec vs l A h hl hb
  refine spec_intro [] _ Tryz.func17 rfl Tryz.ntmps17 (by rfl) (fun w0 R => ?_)
  repeat' (first | (refine go_Y ?_; intros) | (refine gs_Y ?_ ?_ <;> (intro hgd; try (simp only [Bool.not_true, Bool.not_false] at hgd))) | (refine gc_Y ?_ ?_ <;> intro _) | fail)
  refine cl_Y (hn) ?_
  intro _ _
  repeat' (first | (refine go_Y ?_; intros) | (refine gs_Y ?_ ?_ <;> (intro hgd; try (simp only [Bool.not_true, Bool.not_false] at hgd))) | (refine gc_Y ?_ ?_ <;> intro _) | fail)
  (refine rt_Y (y := ()) (hrs := Tryz.results17) (hv := ?_) (hφ := ?_))
  · rfl
  · trivial
theorem tFirst_spec (tb b : Nat) (name : BA) (seg : Int) (vs : Value) (fault : Int) (l : List Sm) (A : HProp) (h : SgsR A vs l) (hl : l.length ≤ 1000000000) :
    FSpec Tryz.prog 16 [.pointer (some ⟨tb, 0, none⟩)] [tpP tb b name seg vs fault, A] Unit (fun _ => True) (fun _ => .int .u64 (firstS (l.map Sm.s) : Int)) (fun _ => [tpP tb b name seg vs fault, A]) := by
  have hv := h.vw
  refine fspec_lrnT (fun R hh s => (VwIn.slice (VwIn.there (VwIn.here hv))) hh s) ?_
  rintro ⟨pu, cu, rfl⟩
  cases l with
  | nil =>
    have t1 : decide (((([] : List Sm).map sgV).length : Int) = 0) = true := by decide
    refine spec_intro [] _ Tryz.func16 rfl Tryz.ntmps16 (by rfl) (fun w0 R => ?_)
    repeat' (first | (refine go_Y ?_; intros) | (refine gs_Y ?_ ?_ <;> (intro hgd; try (simp only [Bool.not_true, Bool.not_false] at hgd))) | (refine gc_Y ?_ ?_ <;> intro _) | fail)
    (refine rt_Y (y := ()) (hrs := Tryz.results16) (hv := ?_) (hφ := ?_))
    · rfl
    · trivial
  | cons x l =>
    have t1 : decide ((((x :: l).map sgV).length : Int) = 0) = false := by rw [decide_eq_false_iff_not, List.length_map, List.length_cons]; omega
    have hx : ((x :: l).map sgV)[0]? = some (sgV x) := rfl
    have hin : 0 < ((x :: l).map sgV).length := by simp
    obtain ⟨⟨file, first, recs⟩, ⟨pv, hpv⟩, ⟨sv, hsv⟩⟩ := x
    dsimp only [sgV] at hx
    refine fspec_lrnT (fun R hh s => (VwIn.base (n := 5) (p := pu) (cap := cu) (VwIn.there (VwIn.here hv)) (by intro e; rw [e] at hin; simp at hin)) hh s) ?_
    rintro ⟨bu, ou, rfl⟩
    refine spec_intro [] _ Tryz.func16 rfl Tryz.ntmps16 (by rfl) (fun w0 R => ?_)
    repeat' (first | (refine go_Y ?_; intros) | (refine gs_Y ?_ ?_ <;> (intro hgd; try (simp only [Bool.not_true, Bool.not_false] at hgd))) | (refine gc_Y ?_ ?_ <;> intro _) | fail)
    (refine rt_Y (y := ()) (hrs := Tryz.results16) (hv := ?_) (hφ := ?_))
    · rfl
    · trivial
theorem down_spec (tb b : Nat) (name : BA) (seg : Int) (vs : Value) (fault e : Int) :
    FSpec Tryz.prog 37 [.pointer (some ⟨tb, 0, none⟩), .int .i64 e] [tpP tb b name seg vs fault] Unit (fun _ => True) (fun _ => .int .i64 e) (fun _ => [tpP tb b name seg vs (if e = 0 ∨ e = 4 then fault else e)]) := by
  cases t1 : decide (e = 0) with
  | true =>
    have t2 : (!decide (e = 0)) = false := by rw [t1]; rfl
    rw [if_pos (.inl (of_decide_eq_true t1))]
    refine spec_intro [] _ Tryz.func37 rfl Tryz.ntmps37 (by rfl) (fun w0 R => ?_)
    repeat' (first | (refine go_Y ?_; intros) | (refine gs_Y ?_ ?_ <;> (intro hgd; try (simp only [Bool.not_true, Bool.not_false] at hgd))) | (refine gc_Y ?_ ?_ <;> intro _) | fail)
    (refine rt_Y (y := ()) (hrs := Tryz.results37) (hv := ?_) (hφ := ?_))
    · rfl
    · trivial
  | false =>
    have t2 : (!decide (e = 0)) = true := by rw [t1]; rfl
    cases t3 : decide (e = 4) with
    | true =>
      have t4 : (!decide (e = 4)) = false := by rw [t3]; rfl
      rw [if_pos (.inr (of_decide_eq_true t3))]
      refine spec_intro [] _ Tryz.func37 rfl Tryz.ntmps37 (by rfl) (fun w0 R => ?_)
      repeat' (first | (refine go_Y ?_; intros) | (refine gs_Y ?_ ?_ <;> (intro hgd; try (simp only [Bool.not_true, Bool.not_false] at hgd))) | (refine gc_Y ?_ ?_ <;> intro _) | fail)
      (refine rt_Y (y := ()) (hrs := Tryz.results37) (hv := ?_) (hφ := ?_))
      · rfl
      · trivial
    | false =>
      have t4 : (!decide (e = 4)) = true := by rw [t3]; rfl
      rw [if_neg (by intro h; rcases h with h | h; exact of_decide_eq_false t1 h; exact of_decide_eq_false t3 h)]
      refine spec_intro [] _ Tryz.func37 rfl Tryz.ntmps37 (by rfl) (fun w0 R => ?_)
      repeat' (first | (refine go_Y ?_; intros) | (refine gs_Y ?_ ?_ <;> (intro hgd; try (simp only [Bool.not_true, Bool.not_false] at hgd))) | (refine gc_Y ?_ ?_ <;> intro _) | fail)
      (refine rt_Y (y := ()) (hrs := Tryz.results37) (hv := ?_) (hφ := ?_))
      · rfl
      · trivial
def cutT (d : Dk) (s : Sg) : Dk × Int := match s.recs with | [] => d.remove s.file | _ :: _ => d.truncate s.file (lenT s.recs : Int)
theorem cut_spec (tb b : Nat) (name : BA) (seg : Int) (vs : Value) (fault : Int) (d : Dk) (x : Sm) (A : HProp) (hx : SgR A x) (hd : d.Ok) (hl : d.loose.length ≤ 1099511627776) (hn : x.s.file.size ≤ 4611686018427387904) :
    FSpec Tryz.prog 61 [.pointer (some ⟨tb, 0, none⟩), .agg (sgV x).toArray] [tpP tb b name seg vs fault, diskP b d, A] Unit (fun _ => True) (fun _ => .int .i64 (cutT d x.s).2) (fun _ => [tpP tb b name seg vs fault, diskP b (cutT d x.s).1, A]) := by
  obtain ⟨⟨file, first, recs⟩, ⟨pv, hpv⟩, ⟨sv, hsv⟩⟩ := x
  obtain ⟨h1, h2⟩ := hx
  dsimp only at h1 h2 hn
  have lp := plV_len recs 0
  refine fspec_lrnT (fun R hh s => (VwIn.slice (VwIn.there (VwIn.there (VwIn.here h1)))) hh s) ?_
  rintro ⟨pp, cp, rfl⟩
  refine fspec_lrnT (fun R hh s => (VwIn.slice (VwIn.there (VwIn.there (VwIn.here h2)))) hh s) ?_
  rintro ⟨ps, cs, rfl⟩
  dsimp only [sgV]
  unfold cutT
  dsimp only
  cases recs with
  | nil =>
    have t1 : decide (((plV [] 0).length : Int) = 0) = true := by decide
    refine spec_intro [] _ Tryz.func61 rfl Tryz.ntmps61 (by rfl) (fun w0 R => ?_)
    repeat' (first | (refine go_Y ?_; intros) | (refine gs_Y ?_ ?_ <;> (intro hgd; try (simp only [Bool.not_true, Bool.not_false] at hgd))) | (refine gc_Y ?_ ?_ <;> intro _) | fail)
    refine cl_Y (remove_spec b d file hd hl hn) ?_
    intro _ _
    repeat' (first | (refine go_Y ?_; intros) | (refine gs_Y ?_ ?_ <;> (intro hgd; try (simp only [Bool.not_true, Bool.not_false] at hgd))) | (refine gc_Y ?_ ?_ <;> intro _) | fail)
    (refine rt_Y (y := ()) (hrs := Tryz.results61) (hv := ?_) (hφ := ?_))
    · rfl
    · trivial
  | cons r recs =>
    have t1 : decide (((plV (r :: recs) 0).length : Int) = 0) = false := by rw [decide_eq_false_iff_not, lp, List.length_cons]; omega
    refine spec_intro [] _ Tryz.func61 rfl Tryz.ntmps61 (by rfl) (fun w0 R => ?_)
    repeat' (first | (refine go_Y ?_; intros) | (refine gs_Y ?_ ?_ <;> (intro hgd; try (simp only [Bool.not_true, Bool.not_false] at hgd))) | (refine gc_Y ?_ ?_ <;> intro _) | fail)
    refine cl_Y (truncate_spec b d file (lenT (r :: recs) : Int) hd hl hn) ?_
    intro _ _
    repeat' (first | (refine go_Y ?_; intros) | (refine gs_Y ?_ ?_ <;> (intro hgd; try (simp only [Bool.not_true, Bool.not_false] at hgd))) | (refine gc_Y ?_ ?_ <;> intro _) | fail)
    (refine rt_Y (y := ()) (hrs := Tryz.results61) (hv := ?_) (hφ := ?_))
    · rfl
    · trivial
end Go.Proofs.YtadgdikijdmceaaGreat
set_option linter.unusedSimpArgs false
set_option linter.unusedVariables false
set_option maxRecDepth 100000
namespace Go.Proofs.YtadgdikijdmceaaGreat
open Go Go.Fx Go.Proofs Go.Pl

theorem fspec_rowpool {P : Program} {f : FuncId} {args : List Value} {pre : List HProp} {Y : Type} {φ : Y → Prop} {ret vw : Y → Value} {post : Y → List HProp} {ty n : Nat} {xs : List (List Value)} (s : FSpec P f args pre Y φ ret (fun y => row ty n (vw y) xs :: post y)) (A : HProp) :
    FSpec P f args (A :: pre) (Y × HProp) (fun z => φ z.1 ∧ Ext A z.2 ∧ Vw z.2 n (vw z.1) xs) (fun z => ret z.1) (fun z => z.2 :: post z.1) := by
  intro w0 w R hs
  refine (s w0 w (A :: R) (hs.map (fun _ k => satL_comm [A] (B := pre) k))).mono ?_
  rintro e w' ⟨y, hy, rfl, hs'⟩
  exact ⟨(y, pool (row ty n (vw y) xs) A), ⟨hy, Ext.pool _ _, pool_row⟩, rfl, hs'.map (fun _ k => pool_in (k.consMono fun _ k' => satL_comm (post y) (B := [A]) k'))⟩
def readT (d : Dk) (x : Sg) (last : Bool) : Sg × Bool × Int :=
  if (d.read x.file 0 16777216).2 ≠ 0 then (x, false, (d.read x.file 0 16777216).2) else
  if (scanOf (d.read x.file 0 16777216).1).2.2 = 70 ∧ last = true then (⟨x.file, x.first, x.recs ++ (scanOf (d.read x.file 0 16777216).1).1⟩, true, 0) else
  if (scanOf (d.read x.file 0 16777216).1).2.2 ≠ 0 then (x, false, 71) else
  (⟨x.file, x.first, x.recs ++ (scanOf (d.read x.file 0 16777216).1).1⟩, decide (((scanOf (d.read x.file 0 16777216).1).2.1 : Int) = 0), 0)
set_option maxHeartbeats 4000000 in
theorem tread_spec (tb b : Nat) (name : BA) (seg : Int) (vs : Value) (fault : Int) (d : Dk) (x : Sm) (last : Bool) (A : HProp) (hx : SgR A x) (hb : lenT x.s.recs ≤ 900000000) (hn : x.s.file.size ≤ 4611686018427387904) :
    FSpec Tryz.prog 68 [.pointer (some ⟨tb, 0, none⟩), .agg (sgV x).toArray, .bool last] [tpP tb b name seg vs fault, diskP b d, A] (Sm × HProp) (fun y => Ext A y.2 ∧ SgR y.2 y.1 ∧ y.1.s = (readT d x.s last).1)
      (fun y => .tuple #[.agg (sgV y.1).toArray, .bool (readT d x.s last).2.1, .int .i64 (readT d x.s last).2.2]) (fun y => [tpP tb b name seg vs fault, diskP b d, y.2]) := by
  obtain ⟨⟨file, first, recs⟩, ⟨pv, hpv⟩, ⟨sv, hsv⟩⟩ := x
  dsimp only at hb hn
  have hx' := hx
  obtain ⟨h1, h2⟩ := hx'
  dsimp only at h1 h2
  refine fspec_lrnT (fun R hh s => (VwIn.slice (VwIn.there (VwIn.there (VwIn.here h1)))) hh s) ?_
  rintro ⟨pp, cp, rfl⟩
  refine fspec_lrnT (fun R hh s => (VwIn.slice (VwIn.there (VwIn.there (VwIn.here h2)))) hh s) ?_
  rintro ⟨ps, cs, rfl⟩
  have hr := read_spec b d file 0 16777216 hn
  have hz := read_size d file 16777216 (by decide)
  have hS := Scan_spec (d.read file 0 16777216).1 (by omega)
  have hS := fspec_rowpool (vw := fun v : V1s => v.1) hS A
  have hsl := scanF_len (d.read file 0 16777216).1.size (d.read file 0 16777216).1
  rw [show scanF (d.read file 0 16777216).1.size (d.read file 0 16777216).1 = scanOf (d.read file 0 16777216).1 from rfl] at hsl
  unfold readT
  dsimp only
  generalize d.read file 0 16777216 = rd at hr hz hS hsl ⊢
  obtain ⟨s, e⟩ := rd
  dsimp only at hr hz hS hsl ⊢
  generalize scanOf s = sc at hS hsl
  obtain ⟨l, good, es⟩ := sc
  dsimp only at hS hsl ⊢
  have hW : ∀ (v : V1s) (P1 : HProp), Ext A P1 → Vw P1 1 v.1 (l.map strV) → FSpec Tryz.prog 62 [.agg (sgV ⟨⟨file, first, recs⟩, ⟨.slice pp (plV recs 0).length cp, hpv⟩, ⟨.slice ps (smV recs).length cs, hsv⟩⟩).toArray, v.1] [P1] (Sm × HProp) (fun y => Ext P1 y.2 ∧ SgR y.2 y.1 ∧ y.1.s = ⟨file, first, recs ++ l⟩) (fun y => .agg (sgV y.1).toArray) (fun y => [y.2]) :=
    fun v P1 g hv => with_spec _ v.1 l P1 (hx.ext g) hv (by dsimp only; omega)
  cases t1 : decide (e = 0) with
  | false =>
    have t2 : (!decide (e = 0)) = true := by rw [t1]; rfl
    have t3 := of_decide_eq_false t1
    rw [if_pos t3]
    dsimp only [sgV]
    refine spec_intro [] _ Tryz.func68 rfl Tryz.ntmps68 (by rfl) (fun w0 R => ?_)
    repeat' (first | (refine go_Y ?_; intros) | (refine gs_Y ?_ ?_ <;> (intro hgd; try (simp only [Bool.not_true, Bool.not_false] at hgd))) | (refine gc_Y ?_ ?_ <;> intro _) | fail)
    refine cl_Y (hr) ?_
    intro _ _
    repeat' (first | (refine go_Y ?_; intros) | (refine gs_Y ?_ ?_ <;> (intro hgd; try (simp only [Bool.not_true, Bool.not_false] at hgd))) | (refine gc_Y ?_ ?_ <;> intro _) | fail)
    (refine rt_Y (y := (⟨⟨file, first, recs⟩, ⟨.slice pp (plV recs 0).length cp, hpv⟩, ⟨.slice ps (smV recs).length cs, hsv⟩⟩, A)) (hrs := Tryz.results68) (hv := ?_) (hφ := ?_))
    · rfl
    · exact ⟨.refl _, hx, rfl⟩
  | true =>
    have t2 : (!decide (e = 0)) = false := by rw [t1]; rfl
    obtain rfl := of_decide_eq_true t1
    rw [if_neg (fun h => h rfl)]
    cases t3 : decide (es = 70) with
    | true =>
      obtain rfl := of_decide_eq_true t3
      cases last with
      | true =>
        rw [if_pos ⟨rfl, rfl⟩]
        dsimp only [sgV]
        refine spec_intro [] _ Tryz.func68 rfl Tryz.ntmps68 (by rfl) (fun w0 R => ?_)
        repeat' (first | (refine go_Y ?_; intros) | (refine gs_Y ?_ ?_ <;> (intro hgd; try (simp only [Bool.not_true, Bool.not_false] at hgd))) | (refine gc_Y ?_ ?_ <;> intro _) | fail)
        refine cl_Y (hr) ?_
        intro _ _
        repeat' (first | (refine go_Y ?_; intros) | (refine gs_Y ?_ ?_ <;> (intro hgd; try (simp only [Bool.not_true, Bool.not_false] at hgd))) | (refine gc_Y ?_ ?_ <;> intro _) | fail)
        refine cl_Y (hS) ?_
        rintro ⟨⟨v, hv⟩, P1⟩ ⟨_, g1, w1⟩
        repeat' (first | (refine go_Y ?_; intros) | (refine gs_Y ?_ ?_ <;> (intro hgd; try (simp only [Bool.not_true, Bool.not_false] at hgd))) | (refine gc_Y ?_ ?_ <;> intro _) | fail)
        refine clW_Y ([]) (hW ⟨v, hv⟩ P1 g1 w1) ?_
        rintro ⟨⟨s', ⟨pv', hp'⟩, ⟨sv', hs'⟩⟩, P2⟩ ⟨g2, ⟨k1, k2⟩, he⟩
        dsimp only at he k1 k2
        subst he
        refine ops_learn (VwIn.slice (VwIn.here k1)) ?_
        rintro ⟨qp, dp, rfl⟩
        refine ops_learn (VwIn.slice (VwIn.here k2)) ?_
        rintro ⟨qs, ds, rfl⟩
        dsimp only [sgV]
        repeat' (first | (refine go_Y ?_; intros) | (refine gs_Y ?_ ?_ <;> (intro hgd; try (simp only [Bool.not_true, Bool.not_false] at hgd))) | (refine gc_Y ?_ ?_ <;> intro _) | fail)
        (refine rt_Y (y := (⟨⟨file, first, recs ++ l⟩, ⟨.slice qp (plV (recs ++ l) 0).length dp, rfl⟩, ⟨.slice qs (smV (recs ++ l)).length ds, rfl⟩⟩, P2)) (hrs := Tryz.results68) (hv := ?_) (hφ := ?_))
        · rfl
        · exact ⟨g1.trans g2, ⟨k1, k2⟩, rfl⟩
      | false =>
        rw [if_neg (fun h => by cases h.2), if_pos (by decide)]
        dsimp only [sgV]
        refine spec_intro [] _ Tryz.func68 rfl Tryz.ntmps68 (by rfl) (fun w0 R => ?_)
        repeat' (first | (refine go_Y ?_; intros) | (refine gs_Y ?_ ?_ <;> (intro hgd; try (simp only [Bool.not_true, Bool.not_false] at hgd))) | (refine gc_Y ?_ ?_ <;> intro _) | fail)
        refine cl_Y (hr) ?_
        intro _ _
        repeat' (first | (refine go_Y ?_; intros) | (refine gs_Y ?_ ?_ <;> (intro hgd; try (simp only [Bool.not_true, Bool.not_false] at hgd))) | (refine gc_Y ?_ ?_ <;> intro _) | fail)
        refine cl_Y (hS) ?_
        rintro ⟨⟨v, hv⟩, P1⟩ ⟨_, g1, w1⟩
        repeat' (first | (refine go_Y ?_; intros) | (refine gs_Y ?_ ?_ <;> (intro hgd; try (simp only [Bool.not_true, Bool.not_false] at hgd))) | (refine gc_Y ?_ ?_ <;> intro _) | fail)
        (refine rt_Y (y := (⟨⟨file, first, recs⟩, ⟨.slice pp (plV recs 0).length cp, hpv⟩, ⟨.slice ps (smV recs).length cs, hsv⟩⟩, P1)) (hrs := Tryz.results68) (hv := ?_) (hφ := ?_))
        · rfl
        · exact ⟨g1, hx.ext g1, rfl⟩
    | false =>
      rw [if_neg (fun h => (of_decide_eq_false t3) h.1)]
      cases t4 : decide (es = 0) with
      | false =>
        have t5 : (!decide (es = 0)) = true := by rw [t4]; rfl
        rw [if_pos (of_decide_eq_false t4)]
        dsimp only [sgV]
        refine spec_intro [] _ Tryz.func68 rfl Tryz.ntmps68 (by rfl) (fun w0 R => ?_)
        repeat' (first | (refine go_Y ?_; intros) | (refine gs_Y ?_ ?_ <;> (intro hgd; try (simp only [Bool.not_true, Bool.not_false] at hgd))) | (refine gc_Y ?_ ?_ <;> intro _) | fail)
        refine cl_Y (hr) ?_
        intro _ _
        repeat' (first | (refine go_Y ?_; intros) | (refine gs_Y ?_ ?_ <;> (intro hgd; try (simp only [Bool.not_true, Bool.not_false] at hgd))) | (refine gc_Y ?_ ?_ <;> intro _) | fail)
        refine cl_Y (hS) ?_
        rintro ⟨⟨v, hv⟩, P1⟩ ⟨_, g1, w1⟩
        repeat' (first | (refine go_Y ?_; intros) | (refine gs_Y ?_ ?_ <;> (intro hgd; try (simp only [Bool.not_true, Bool.not_false] at hgd))) | (refine gc_Y ?_ ?_ <;> intro _) | fail)
        (refine rt_Y (y := (⟨⟨file, first, recs⟩, ⟨.slice pp (plV recs 0).length cp, hpv⟩, ⟨.slice ps (smV recs).length cs, hsv⟩⟩, P1)) (hrs := Tryz.results68) (hv := ?_) (hφ := ?_))
        · rfl
        · exact ⟨g1, hx.ext g1, rfl⟩
      | true =>
        obtain rfl := of_decide_eq_true t4
        rw [if_neg (fun h => h rfl)]
        dsimp only [sgV]
        refine spec_intro [] _ Tryz.func68 rfl Tryz.ntmps68 (by rfl) (fun w0 R => ?_)
        repeat' (first | (refine go_Y ?_; intros) | (refine gs_Y ?_ ?_ <;> (intro hgd; try (simp only [Bool.not_true, Bool.not_false] at hgd))) | (refine gc_Y ?_ ?_ <;> intro _) | fail)
        refine cl_Y (hr) ?_
        intro _ _
        repeat' (first | (refine go_Y ?_; intros) | (refine gs_Y ?_ ?_ <;> (intro hgd; try (simp only [Bool.not_true, Bool.not_false] at hgd))) | (refine gc_Y ?_ ?_ <;> intro _) | fail)
        refine cl_Y (hS) ?_
        rintro ⟨⟨v, hv⟩, P1⟩ ⟨_, g1, w1⟩
        repeat' (first | (refine go_Y ?_; intros) | (refine gs_Y ?_ ?_ <;> (intro hgd; try (simp only [Bool.not_true, Bool.not_false] at hgd))) | (refine gc_Y ?_ ?_ <;> intro _) | fail)
        refine clW_Y ([]) (hW ⟨v, hv⟩ P1 g1 w1) ?_
        rintro ⟨⟨s', ⟨pv', hp'⟩, ⟨sv', hs'⟩⟩, P2⟩ ⟨g2, ⟨k1, k2⟩, he⟩
        dsimp only at he k1 k2
        subst he
        refine ops_learn (VwIn.slice (VwIn.here k1)) ?_
        rintro ⟨qp, dp, rfl⟩
        refine ops_learn (VwIn.slice (VwIn.here k2)) ?_
        rintro ⟨qs, ds, rfl⟩
        dsimp only [sgV]
        repeat' (first | (refine go_Y ?_; intros) | (refine gs_Y ?_ ?_ <;> (intro hgd; try (simp only [Bool.not_true, Bool.not_false] at hgd))) | (refine gc_Y ?_ ?_ <;> intro _) | fail)
        (refine rt_Y (y := (⟨⟨file, first, recs ++ l⟩, ⟨.slice qp (plV (recs ++ l) 0).length dp, rfl⟩, ⟨.slice qs (smV (recs ++ l)).length ds, rfl⟩⟩, P2)) (hrs := Tryz.results68) (hv := ?_) (hφ := ?_))
        · rfl
        · exact ⟨g1.trans g2, ⟨k1, k2⟩, rfl⟩
end Go.Proofs.YtadgdikijdmceaaGreat
