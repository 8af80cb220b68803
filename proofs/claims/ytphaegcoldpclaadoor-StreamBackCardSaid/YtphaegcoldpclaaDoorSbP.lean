import Derived.Test.YtphaegcoldpclaaDoorG7
set_option linter.unusedSimpArgs false
set_option linter.unusedVariables false
namespace Go.Pl
open Go Go.Fx

abbrev tl (s : BA) : List UInt8 := s.data.toList
theorem tl_inj {a b : BA} (h : tl a = tl b) : a = b := ByteArray.ext (Array.ext' h)
theorem tl_app (a b : BA) : tl (a ++ b) = tl a ++ tl b := by unfold tl; rw [ByteArray.data_append, Array.toList_append]
theorem tl_ext (s : BA) (a b : Nat) : tl (s.extract a b) = ((tl s).drop a).take (b - a) := by
  unfold tl; rw [ByteArray.data_extract, Array.toList_extract, List.extract_eq_take_drop]
theorem tl_len (s : BA) : (tl s).length = s.size := by rw [Array.length_toList]; rfl
theorem tl_numB (v n : Nat) : tl (numB v n) = putL v n := rfl
theorem tl_oneB (k : Int) : tl (oneB k) = [b8 k] := rfl
theorem putL_len (v n : Nat) : (putL v n).length = n := by simp [putL]
theorem tl_numsB (l : List Int) (n : Nat) (s : BA) : tl (numsB l n s) = tl s ++ l.flatMap fun x => putL (u64N x) n := by
  induction l generalizing s with
  | nil => simp [numsB]
  | cons a l ih =>
    have h := ih (s ++ numB (u64N a) n)
    unfold numsB at h ⊢
    rw [List.foldl_cons, h, tl_app, tl_numB, List.flatMap_cons, List.append_assoc]
theorem chunk_at {α : Type} {f : Int → List α} {n : Nat} (hf : ∀ x, (f x).length = n) : ∀ (l : List Int) (i : Nat) (h : i < l.length) (r : List α), ((l.flatMap f ++ r).drop (n * i)).take n = f l[i]
  | a :: l, 0, h, r => by
    rw [List.flatMap_cons, Nat.mul_zero, List.drop_zero, List.append_assoc, List.take_append_of_le_length (by rw [hf]; omega), List.take_of_length_le (by rw [hf]; omega)]; rfl
  | a :: l, i + 1, h, r => by
    have ih := chunk_at hf l i (by simpa using h) r
    have e : List.drop (n * (i + 1)) (f a ++ (l.flatMap f ++ r)) = List.drop (n * i) (l.flatMap f ++ r) := by
      rw [List.drop_append, List.drop_of_length_le (by rw [hf, Nat.mul_add]; omega), List.nil_append, hf]
      congr 1
      rw [Nat.mul_add]; omega
    rw [List.flatMap_cons, List.append_assoc, e, ih]
    rfl
theorem flat_len {f : Int → List UInt8} {n : Nat} (hf : ∀ x, (f x).length = n) (l : List Int) : (l.flatMap f).length = n * l.length := by
  induction l with
  | nil => simp
  | cons a l ih => rw [List.flatMap_cons, List.length_append, hf, ih, List.length_cons, Nat.mul_add]; omega
theorem valN_putL (v : Nat) : ∀ n, valN (putL v n) = v % 256 ^ n
  | 0 => by rw [Nat.pow_zero, Nat.mod_one]; rfl
  | n + 1 => by
    have e : putL v (n + 1) = putL v n ++ [byteN v n] := by unfold putL; rw [List.range_succ, List.map_append]; rfl
    have hb : (byteN v n).toNat = v / 256 ^ n % 256 := by
      unfold byteN
      rw [show (2 : Nat) ^ (8 * n) = 256 ^ n by rw [Nat.pow_mul]]
      simp
    rw [e, valN_app, valN_putL v n, putL_len, Nat.pow_succ, Nat.mod_mul]
    simp [valN, hb]
theorem valB_numB {v n : Nat} (h : v < 256 ^ n) : valB (numB v n) = (v : Int) := by
  unfold valB
  rw [show (numB v n).data.toList = putL v n from rfl, valN_putL, Nat.mod_eq_of_lt h]
theorem u64N_ok {x : Int} (h0 : 0 ≤ x) (h1 : x ≤ 18446744073709551615) : ((u64N x : Nat) : Int) = x := by
  unfold u64N
  obtain ⟨n, rfl⟩ := Int.eq_ofNat_of_zero_le h0
  rw [wrap64 n (by omega)]
  simp
theorem b8_ok {x : Int} (h0 : 0 ≤ x) (h1 : x ≤ 255) : ((b8 x).toNat : Int) = x := by
  obtain ⟨n, rfl⟩ := Int.eq_ofNat_of_zero_le h0
  have hn : n < 256 := by omega
  unfold b8 IntKind.wrap
  rw [if_neg (by simp [IntKind.signed])]
  have e4 : (2 : Int) ^ IntKind.u8.bits = 256 := rfl
  rw [e4]
  have e5 : (((n : Nat) : Int) % 256) = ((n : Nat) : Int) := by omega
  rw [e5, Int.toNat_natCast]
  have : (UInt8.ofNat n).toNat = n % 256 := by simp
  rw [this, Nat.mod_eq_of_lt hn]
theorem num_back {x : Int} {n : Nat} (h0 : 0 ≤ x) (h1 : x < 256 ^ n) (hn : n ≤ 8) : valB (numB (u64N x) n) = x := by
  have hx : x < 256 ^ 8 := by
    have h2 : (256 : Nat) ^ n ≤ 256 ^ 8 := Nat.pow_le_pow_right (by decide) hn
    have h3 : ((256 : Int) ^ n) = ((256 ^ n : Nat) : Int) := by rw [Int.natCast_pow]; rfl
    have h4 : ((256 : Int) ^ 8) = ((256 ^ 8 : Nat) : Int) := by rw [Int.natCast_pow]; rfl
    omega
  have e := u64N_ok h0 (by have : (256 : Int) ^ 8 = 18446744073709551616 := by decide
                           omega)
  rw [valB_numB, e]
  have h3 : ((256 : Int) ^ n) = ((256 ^ n : Nat) : Int) := by rw [Int.natCast_pow]; rfl
  omega
theorem tl_putMB (k tx : Int) (cs qs : List Int) : tl (putMB k tx cs qs) = (b8 k :: (putL (u64N tx) 8 ++ (b8 qs.length :: ((qs.flatMap fun x => putL (u64N x) 8) ++ (cs.flatMap fun x => putL (u64N x) 2))))) := by
  unfold putMB
  rw [tl_numsB, tl_numsB, tl_app, tl_app, tl_oneB, tl_numB, tl_oneB]
  simp
theorem getMK_put {k tx : Int} {cs qs : List Int} (hm : mayMk k cs qs = true) (t0 : 0 ≤ tx) (t1 : tx ≤ 18446744073709551615) (hq : ∀ x ∈ qs, 0 ≤ x ∧ x ≤ 18446744073709551615) : getMK (putMB k tx cs qs) = (⟨k, tx, cs, qs⟩, 0) := by
  have hT := tl_putMB k tx cs qs
  have hm' := hm
  unfold mayMk wantM at hm'
  simp only [Bool.and_eq_true, Bool.or_eq_true, decide_eq_true_eq] at hm'
  obtain ⟨hk, ⟨h1, h12, hw⟩, hso⟩ := hm'
  have hcr := (sumOk_rng hso).2.2
  have hsz : (putMB k tx cs qs).size = 10 + 8 * qs.length + 2 * cs.length := by
    unfold putMB
    rw [numsB_size, numsB_size, ByteArray.size_append, ByteArray.size_append, oneB_size, oneB_size, numB_size]
  generalize putMB k tx cs qs = s at hT hsz
  have l8 := putL_len (u64N tx) 8
  have hb0 : bI s 0 = k := by
    unfold bI
    rw [show s.data.toList = tl s from rfl, hT]
    exact b8_ok (by omega) (by omega)
  have hb9 : bI s 9 = qs.length := by
    unfold bI
    rw [show s.data.toList = tl s from rfl, hT, List.getElem?_cons_succ, List.getElem?_append_right (by omega), l8]
    exact b8_ok (by omega) (by omega)
  have hn : nM s = qs.length := by unfold nM; rw [hb9]; simp
  have hcl : cs.length ≤ nM s := by
    rw [hn]
    split at hw <;> omega
  have htx : valB (s.extract 1 9) = tx := by
    have : s.extract 1 9 = numB (u64N tx) 8 := tl_inj (by
      rw [tl_ext, hT, tl_numB]
      show List.take 8 (List.drop 1 _) = _
      rw [List.drop_succ_cons, List.drop_zero, List.take_append_of_le_length (by omega), List.take_of_length_le (by omega)])
    rw [this]
    exact num_back t0 (by have : (256 : Int) ^ 8 = 18446744073709551616 := by decide
                          omega) (by omega)
  have hd10 : (tl s).drop 10 = (qs.flatMap fun x => putL (u64N x) 8) ++ (cs.flatMap fun x => putL (u64N x) 2) := by
    rw [hT, List.drop_succ_cons, List.drop_append, List.drop_of_length_le (by omega), l8, List.nil_append]
    rfl
  have fq := flat_len (f := fun x => putL (u64N x) 8) (fun x => putL_len _ _) qs
  have hqs : qsM s (nM s) = qs := by
    unfold qsM
    rw [hn]
    apply List.ext_getElem
    · simp
    · intro i h1 h2
      simp only [List.getElem_map, List.getElem_range]
      have : s.extract (10 + 8 * i) (10 + 8 * i + 8) = numB (u64N qs[i]) 8 := tl_inj (by
        rw [tl_ext, tl_numB, ← List.drop_drop, hd10, show 10 + 8 * i + 8 - (10 + 8 * i) = 8 by omega]
        exact chunk_at (f := fun x => putL (u64N x) 8) (fun x => putL_len _ _) qs i h2 _)
      rw [this]
      have hx := hq _ (List.getElem_mem h2)
      exact num_back hx.1 (by have : (256 : Int) ^ 8 = 18446744073709551616 := by decide
                              omega) (by omega)
  have hcs : csM s cs.length = cs := by
    unfold csM
    apply List.ext_getElem
    · simp
    · intro i h1 h2
      simp only [List.getElem_map, List.getElem_range]
      have : s.extract (10 + 8 * nM s + 2 * i) (10 + 8 * nM s + 2 * i + 2) = numB (u64N cs[i]) 2 := tl_inj (by
        have hdr : List.drop (8 * qs.length + 2 * i) ((qs.flatMap fun x => putL (u64N x) 8) ++ (cs.flatMap fun x => putL (u64N x) 2)) = List.drop (2 * i) (cs.flatMap fun x => putL (u64N x) 2) := by
          rw [List.drop_append, List.drop_of_length_le (by rw [fq]; omega), List.nil_append, fq]
          congr 1; omega
        rw [tl_ext, tl_numB, hn, Nat.add_assoc 10, ← List.drop_drop, hd10, hdr, show 10 + (8 * qs.length + 2 * i) + 2 - (10 + (8 * qs.length + 2 * i)) = 2 by omega]
        have := chunk_at (f := fun x => putL (u64N x) 2) (fun x => putL_len _ _) cs i h2 []
        rw [List.append_nil] at this
        exact this)
      rw [this]
      have hx := hcr _ (List.getElem_mem h2)
      exact num_back hx.1 (by have : (256 : Int) ^ 2 = 65536 := by decide
                              omega) (by omega)
  rw [getMK_end (j := cs.length) hcl (by rw [hn]; exact hsz), hb0, hcs, hqs, htx, if_pos hm]
end Go.Pl
