/- Texts merged: R1A R1B. -/
import Derived.Test.YtbagfdolcabniaaGreatR1P
import Derived.Test.YtbagfdolcabniaaGreatZ
/- The walk of fascicleref01: Sum. -/
-- @DEFS Z
set_option linter.unusedSimpArgs false
set_option linter.unusedVariables false
set_option maxRecDepth 4000
namespace Go.Proofs.YtbagfdolcabniaaGreat
open Go Go.Fx Go.Proofs Go.Pl

theorem ref1Sum_spec (s : ByteArray) (hs : s.size ≤ 4611686018427387904) : FSpec Tryz.prog 93 [.string s] [] Unit (fun _ => True) (fun _ => .int .u32 (sumS s)) (fun _ => []) := by
  refine spec_intro [] _ Tryz.func93 rfl Tryz.ntmps93 (by rfl) (fun w0 R => ?_)
  repeat' (first | (refine go_Z ?_; intros) | (refine gs_Z ?_ ?_ <;> (intro hgd; try (simp only [Bool.not_true, Bool.not_false] at hgd))) | (refine gc_Z ?_ ?_ <;> intro _) | fail)
  refine ok_loop' (γ := Nat) (fun i ρ L => i ≤ s.size ∧ Knows ρ [(0, .string s), (3, .int .u32 (sumL s.data.toList i)), (4, .int .i64 i)] ∧ L = R) (fun i => s.size - i) 0 ⟨by omega, ⟨rfl, rfl, rfl, trivial⟩, rfl⟩ ?_
  rintro i ρ L0 ⟨hi, hk, rfl⟩
  refine ok_regs hk ?_
  cases t1 : decide ((i : Int) < (s.size : Int)) with
  | false =>
    have hi' : i = s.size := by simp at t1; omega
    subst hi'
    repeat' (first | (refine go_Z ?_; intros) | (refine gs_Z ?_ ?_ <;> (intro hgd; try (simp only [Bool.not_true, Bool.not_false] at hgd))) | (refine gc_Z ?_ ?_ <;> intro _) | fail)
    (refine rt_Z (y := ()) (hrs := Tryz.results93) (hv := ?_) (hφ := ?_))
    · rfl
    · trivial
  | true =>
    have h : i < s.size := by simpa using t1
    have hl : s.data.toList.length = s.size := by simp
    obtain ⟨x, hx⟩ : ∃ x, s.data.toList[i]? = some x := ⟨_, List.getElem?_eq_getElem (by omega)⟩
    have hn := sumL_next s.data.toList i x hx
    repeat' (first | (refine go_Z ?_; intros) | (refine gs_Z ?_ ?_ <;> (intro hgd; try (simp only [Bool.not_true, Bool.not_false] at hgd))) | (refine gc_Z ?_ ?_ <;> intro _) | fail)
    refine ok_loop' (γ := Nat) (fun k ρ L => k ≤ 8 ∧ Knows ρ [(0, .string s), (3, .int .u32 (riter k (sumX (sumL s.data.toList i) x))), (4, .int .i64 i), (5, .int .i64 k)] ∧ L = L0) (fun k => 8 - k) 0 ⟨by omega, ⟨rfl, rfl, rfl, rfl, trivial⟩, rfl⟩ ?_
    rintro k ρ L ⟨hk8, hk, rfl⟩
    refine ok_regs hk ?_
    cases t2 : decide ((k : Int) < 8) with
    | false =>
      have hk' : k = 8 := by simp at t2; omega
      subst hk'
      rw [← hn]
      repeat' (first | (refine go_Z ?_; intros) | (refine gs_Z ?_ ?_ <;> (intro hgd; try (simp only [Bool.not_true, Bool.not_false] at hgd))) | (refine gc_Z ?_ ?_ <;> intro _) | fail)
      refine cont_back (i + 1) ⟨h, ⟨rfl, rfl, rfl, trivial⟩, rfl⟩ (by omega)
    | true =>
      have hk' : k < 8 := by simp at t2; omega
      have hr : riter (k + 1) (sumX (sumL s.data.toList i) x) = rstep (riter k (sumX (sumL s.data.toList i) x)) := rfl
      generalize riter k (sumX (sumL s.data.toList i) x) = c at hr
      cases t3 : decide (c.tmod 2 = 1) with
      | true =>
        have hr' : riter (k + 1) (sumX (sumL s.data.toList i) x) = bitsOf .xor .u32 (IntKind.u32.wrap (c.tdiv 2)) 3988292384 := by rw [hr]; unfold rstep; rw [if_pos (by simpa using t3)]
        repeat' (first | (refine go_Z ?_; intros) | (refine gs_Z ?_ ?_ <;> (intro hgd; try (simp only [Bool.not_true, Bool.not_false] at hgd))) | (refine gc_Z ?_ ?_ <;> intro _) | fail)
        refine cont_back (k + 1) ⟨hk', ⟨rfl, by rw [hr']; rfl, rfl, rfl, trivial⟩, rfl⟩ (by omega)
      | false =>
        have hr' : riter (k + 1) (sumX (sumL s.data.toList i) x) = IntKind.u32.wrap (c.tdiv 2) := by rw [hr]; unfold rstep; rw [if_neg (by simpa using t3)]
        repeat' (first | (refine go_Z ?_; intros) | (refine gs_Z ?_ ?_ <;> (intro hgd; try (simp only [Bool.not_true, Bool.not_false] at hgd))) | (refine gc_Z ?_ ?_ <;> intro _) | fail)
        refine cont_back (k + 1) ⟨hk', ⟨rfl, by rw [hr']; rfl, rfl, rfl, trivial⟩, rfl⟩ (by omega)
end Go.Proofs.YtbagfdolcabniaaGreat
/- The walk of fascicleref01: room, Put. -/
-- @DEFS Z
set_option linter.unusedSimpArgs false
set_option linter.unusedVariables false
set_option maxRecDepth 4000
namespace Go.Proofs.YtbagfdolcabniaaGreat
open Go Go.Fx Go.Proofs Go.Pl

theorem wrap_u64n (n : Nat) (h : n < 18446744073709551616) : IntKind.u64.wrap (n : Int) = (n : Int) := by
  have e4 : (2 : Int) ^ IntKind.u64.bits = 18446744073709551616 := rfl
  unfold IntKind.wrap
  simp only [e4]
  rw [if_neg (by simp [IntKind.signed])]
  omega
theorem shl_u64 (k : Nat) (h : k < 64) : shiftOf .shl .u64 1 (k : Int) = ((2 ^ k : Nat) : Int) := by
  show IntKind.u64.wrap (1 * 2 ^ (min (k : Int).toNat 64)) = _
  rw [show min (k : Int).toNat 64 = k by omega, Int.one_mul]
  have e : (2 : Int) ^ k = ((2 ^ k : Nat) : Int) := by simp
  rw [e]
  exact wrap_u64n _ (Nat.lt_of_lt_of_le (Nat.pow_lt_pow_right (by omega) h) (by decide))
theorem ref1room_spec (v n : Nat) (h1 : 1 ≤ n) (h8 : n ≤ 8) (hf : n = 8 ∨ v < 2 ^ (n * 8)) : FSpec Tryz.prog 91 [.int .u64 (v : Int), .int .i64 (n : Int), .int .u64 8] [] Unit (fun _ => True) (fun _ => .bool true) (fun _ => []) := by
  have w1 : IntKind.u64.wrap (n : Int) = (n : Int) := wrap_u64n n (by omega)
  have w2 : IntKind.u64.wrap (arith .mul (n : Int) 8) = ((n * 8 : Nat) : Int) := by
    show IntKind.u64.wrap ((n : Int) * 8) = _
    rw [show (n : Int) * 8 = ((n * 8 : Nat) : Int) by simp]
    exact wrap_u64n _ (by omega)
  have w3 : 0 ≤ IntKind.u64.wrap (arith .mul (n : Int) 8) := by rw [w2]; omega
  cases c1 : decide ((64 : Int) ≤ IntKind.u64.wrap (arith .mul (n : Int) 8)) with
  | true =>
    refine spec_intro [] _ Tryz.func91 rfl Tryz.ntmps91 (by rfl) (fun w0 R => ?_)
    repeat' (first | (refine go_Z ?_; intros) | (refine gs_Z ?_ ?_ <;> (intro hgd; try (simp only [Bool.not_true, Bool.not_false] at hgd))) | (refine gc_Z ?_ ?_ <;> intro _) | fail)
    (refine rt_Z (y := ()) (hrs := Tryz.results91) (hv := ?_) (hφ := ?_))
    · rfl
    · trivial
  | false =>
    have hn : n < 8 := by rw [w2] at c1; simp at c1; omega
    have c2 : decide ((v : Int) < shiftOf .shl .u64 1 (IntKind.u64.wrap (arith .mul (n : Int) 8))) = true := by
      rw [w2, shl_u64 _ (by omega), decide_eq_true_eq]
      rcases hf with h | h
      · omega
      · exact_mod_cast h
    refine spec_intro [] _ Tryz.func91 rfl Tryz.ntmps91 (by rfl) (fun w0 R => ?_)
    repeat' (first | (refine go_Z ?_; intros) | (refine gs_Z ?_ ?_ <;> (intro hgd; try (simp only [Bool.not_true, Bool.not_false] at hgd))) | (refine gc_Z ?_ ?_ <;> intro _) | fail)
    (refine rt_Z (y := ()) (hrs := Tryz.results91) (hv := ?_) (hφ := ?_))
    · first | rfl | (rw [← c2]; rfl)
    · trivial

theorem byte_rem (v i : Nat) : IntKind.u8.wrap (((v / 256 ^ i : Nat) : Int).tmod 256) = ((byteN v i).toNat : Int) := by
  have e3 : (byteN v i).toNat = (v / 256 ^ i) % 256 := by unfold byteN; rw [Nat.pow_mul]; simp
  rw [e3, Int.tmod_eq_emod_of_nonneg (Int.natCast_nonneg _)]
  have e4 : (2 : Int) ^ IntKind.u8.bits = 256 := rfl
  unfold IntKind.wrap
  simp only [e4]
  rw [if_neg (by simp [IntKind.signed])]
  generalize v / 256 ^ i = q
  omega
theorem byte_quo (v i : Nat) (hv : v < 18446744073709551616) : IntKind.u64.wrap (((v / 256 ^ i : Nat) : Int).tdiv 256) = ((v / 256 ^ (i + 1) : Nat) : Int) := by
  rw [Int.tdiv_eq_ediv_of_nonneg (Int.natCast_nonneg _)]
  have e : ((v / 256 ^ i : Nat) : Int) / 256 = ((v / 256 ^ i / 256 : Nat) : Int) := by generalize v / 256 ^ i = q; omega
  rw [e, Nat.div_div_eq_div_mul, ← Nat.pow_succ]
  exact wrap_u64n _ (Nat.lt_of_le_of_lt (Nat.div_le_self _ _) hv)
theorem rowNilR {e n : Nat} {L : List HProp} {h : Frag} (s : SatL L h) : SatL (row e n (.slice none 0 0) [] :: L) h := satL_emp (A := row e n (.slice none 0 0) []) ⟨fun _ hx => by simp at hx, .inl ⟨rfl, rfl⟩⟩ s
def putRow (v i : Nat) : List (List Value) := (putL v i).map fun b => [.int .u8 (b.toNat : Int)]
theorem putRow_next (v i : Nat) : putRow v (i + 1) = putRow v i ++ [[.int .u8 ((byteN v i).toNat : Int)]] := by simp [putRow, putL, List.range_succ]
theorem putRow_len (v i : Nat) : (putRow v i).length = i := by simp [putRow, putL]

theorem ref1Put_spec (v n : Nat) (hv : v < 18446744073709551616) (h1 : 1 ≤ n) (h8 : n ≤ 8) (hf : n = 8 ∨ v < 2 ^ (n * 8)) : FSpec Tryz.prog 70 [.int .u64 (v : Int), .int .i64 (n : Int)] [] Unit (fun _ => True) (fun _ => .tuple #[.string ⟨(putL v n).toArray⟩, .int .i64 0]) (fun _ => []) := by
  have t1 : decide ((n : Int) < 1) = false := by simp; omega
  have t2 : decide ((8 : Int) < (n : Int)) = false := by simp; omega
  have hr := ref1room_spec v n h1 h8 hf
  refine spec_intro [97] _ Tryz.func70 rfl Tryz.ntmps70 (by rfl) (fun w0 R => ?_)
  repeat' (first | (refine go_Z ?_; intros) | (refine gs_Z ?_ ?_ <;> (intro hgd; try (simp only [Bool.not_true, Bool.not_false] at hgd))) | (refine gc_Z ?_ ?_ <;> intro _) | fail)
  refine cl_Z (hr) ?_
  intro _ _
  repeat' (first | (refine go_Z ?_; intros) | (refine gs_Z ?_ ?_ <;> (intro hgd; try (simp only [Bool.not_true, Bool.not_false] at hgd))) | (refine gc_Z ?_ ?_ <;> intro _) | fail)
  refine ok_map (fun _ h => rowNilR (e := 5) (n := 1) h) ?_
  refine ok_map (L' := [row 5 1 (.slice none 0 0) (putRow v 0)] ++ R) entD ?_
  refine ok_loop' (γ := Nat × { v : Value // v.oneCell' = true }) (fun q ρ L => q.1 ≤ n ∧ Knows ρ [(0, .int .u64 ((v / 256 ^ q.1 : Nat) : Int)), (1, .int .i64 (n : Int)), (6, q.2.1), (7, .int .i64 (q.1 : Int))] ∧ L = [row 5 1 q.2.1 (putRow v q.1)] ++ R) (fun q => n - q.1) (0, ⟨.slice none 0 0, rfl⟩) ⟨by simp, ⟨by simp; rfl, rfl, rfl, rfl, trivial⟩, rfl⟩ ?_
  rintro ⟨i, ⟨vo, hvo⟩⟩ ρ L ⟨hi, hk, rfl⟩
  dsimp only at hi hk ⊢
  refine ok_regs hk ?_
  have hlen := putRow_len v i
  cases t3 : decide ((i : Int) < (n : Int)) with
  | true =>
    have h : i < n := by simpa using t3
    have b1 := byte_rem v i
    have b2 := byte_quo v i hv
    have b3 := putRow_next v i
    generalize v / 256 ^ i = vi at b1 b2
    repeat' (first | (refine go_Z ?_; intros) | (refine gs_Z ?_ ?_ <;> (intro hgd; try (simp only [Bool.not_true, Bool.not_false] at hgd))) | (refine gc_Z ?_ ?_ <;> intro _) | fail)
    rename_i vc hvc vd hvd
    refine cont_map (L' := [row 5 1 vd (putRow v (i + 1))] ++ R) (by rw [b3]; exact entD) ?_
    refine cont_back (i + 1, ⟨vd, hvd⟩) ⟨h, ⟨rfl, rfl, rfl, rfl, trivial⟩, rfl⟩ (by dsimp only; omega)
  | false =>
    have hi' : i = n := by simp at t3; omega
    subst hi'
    unfold putRow
    repeat' (first | (refine go_Z ?_; intros) | (refine gs_Z ?_ ?_ <;> (intro hgd; try (simp only [Bool.not_true, Bool.not_false] at hgd))) | (refine gc_Z ?_ ?_ <;> intro _) | fail)
    (refine rt_Z (y := ()) (hrs := Tryz.results70) (hv := ?_) (hφ := ?_))
    · rfl
    · trivial
end Go.Proofs.YtbagfdolcabniaaGreat
