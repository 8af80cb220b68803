/- Texts merged: QcQ QcA QcB QcC. -/
import Derived.Test.YtphaegcoldpclaaGreatDoorG15
import Derived.Test.YtphaegcoldpclaaGreatDoorG13
set_option linter.unusedVariables false
set_option maxRecDepth 100000
namespace Go.Proofs.YtphaegcoldpclaaGreatDoor
open Go Go.Fx Go.Proofs Go.Pl

theorem order_self (d : Ieee.Datum) : (d.order d == some Ordering.eq) = !d.isNaN := by
  cases d with
  | number s m i => simp [Ieee.Datum.order, Ieee.Datum.isNaN]
  | infinity s => cases s <;> rfl
  | nan s f => rfl
theorem nanB_nat (x : Nat) : (!Op.floatEq .f64 x x) = decide (9218868437227405312 < x % 9223372036854775808) := by
  have h0 : Op.floatEq .f64 x x = !(Ieee.double.read x).isNaN := order_self _
  rw [h0, Bool.not_not]
  have e1 : Ieee.double.signWeight = 9223372036854775808 := by decide
  have e2 : Ieee.double.infRung = 9218868437227405312 := by decide
  have e3 : Ieee.double.binade = 4503599627370496 := by decide
  unfold Ieee.Format.read
  rw [e1, e2, e3]
  dsimp only
  split
  · rw [show (Ieee.Datum.number _ _ _).isNaN = false from rfl]; symm; rw [decide_eq_false_iff_not]; omega
  · split
    · rw [show (Ieee.Datum.number _ _ _).isNaN = false from rfl]; symm; rw [decide_eq_false_iff_not]; omega
    · split
      · rw [show (Ieee.Datum.infinity _).isNaN = false from rfl]; symm; rw [decide_eq_false_iff_not]; omega
      · rw [show (Ieee.Datum.nan _ _).isNaN = true from rfl]; symm; rw [decide_eq_true_eq]; omega
theorem shr_val (n : Int) (k : Nat) (hk : k ≤ 64) : shiftOf .shr .u64 n (k : Int) = n / (2 ^ k : Int) := by
  show n.fdiv (2 ^ (min ((k : Int)).toNat (IntKind.u64).bits)) = _
  rw [Int.toNat_natCast, show (IntKind.u64).bits = 64 from rfl, Nat.min_eq_left hk]
  exact Int.fdiv_eq_ediv_of_nonneg _ (Int.le_of_lt (Int.pow_pos (by decide)))
def noneR (n : Int) : Bool := decide ((shiftOf .shr .u64 n 52).tmod 2048 = 2047) && !decide (n.tmod 4503599627370496 = 0)
theorem nan_ref {n : Int} (h0 : 0 ≤ n) (h1 : n ≤ 18446744073709551615) : nanB n = decide (9218868437227405312 < n % 9223372036854775808) := by
  unfold nanB
  rw [nanB_nat]
  rw [Bool.eq_iff_iff]; simp only [decide_eq_true_eq]; omega
theorem none_ref {n : Int} (h0 : 0 ≤ n) (h1 : n ≤ 18446744073709551615) : noneR n = nanB n := by
  rw [nan_ref h0 h1]
  unfold noneR
  have e := shr_val n 52 (by decide)
  rw [show ((52 : Nat) : Int) = 52 from rfl, show (2 : Int) ^ 52 = 4503599627370496 from by decide] at e
  rw [e, Int.tmod_eq_emod_of_nonneg (by omega), Int.tmod_eq_emod_of_nonneg h0]
  rw [Bool.eq_iff_iff]
  simp only [Bool.and_eq_true, decide_eq_true_eq, Bool.not_eq_true', decide_eq_false_iff_not]
  omega
theorem canon_nan {n : Int} (h0 : 0 ≤ n) (h1 : n ≤ 18446744073709551615) : nanB (canonR n) = nanB n := by
  unfold canonR
  cases h : nanB n with
  | true => rw [if_pos rfl]; decide +kernel
  | false => rw [if_neg (by simp)]; exact h
def rankR (n : Int) : Int := if nanB n then 2 else if shiftOf .shr .u64 n 63 = 1 then 0 else 1
def lessR (c d : Int) : Bool := if rankR c = rankR d then (if rankR c = 0 then decide (d < c) else decide (c < d)) else decide (rankR c < rankR d)
theorem rank_val {c : Int} (h0 : 0 ≤ c) (h1 : c ≤ 18446744073709551615) : rankR c = if nanB c then 2 else if 9223372036854775808 ≤ c then 0 else 1 := by
  unfold rankR
  have e := shr_val c 63 (by decide)
  rw [show ((63 : Nat) : Int) = 63 from rfl, show (2 : Int) ^ 63 = 9223372036854775808 from by decide] at e
  rw [e]
  have : c / 9223372036854775808 = 1 ↔ 9223372036854775808 ≤ c := by omega
  simp only [this]
theorem lessR_ref {a b : Int} (a0 : 0 ≤ a) (a1 : a ≤ 18446744073709551615) (b0 : 0 ≤ b) (b1 : b ≤ 18446744073709551615) : lessR (canonR a) (canonR b) = decide (keyR a < keyR b) := by
  obtain ⟨c0, c1⟩ := canonR_rng a0 a1
  obtain ⟨d0, d1⟩ := canonR_rng b0 b1
  rw [keyR_val c0 c1, keyR_val d0 d1]
  unfold lessR
  rw [rank_val c0 c1, rank_val d0 d1]
  have hc : nanB (canonR a) = true → canonR a = 9221120237041090561 := fun h => by
    rw [canon_nan a0 a1] at h; unfold canonR; rw [h]; rfl
  have hd : nanB (canonR b) = true → canonR b = 9221120237041090561 := fun h => by
    rw [canon_nan b0 b1] at h; unfold canonR; rw [h]; rfl
  have nc := nan_ref c0 c1
  have nd := nan_ref d0 d1
  generalize canonR a = c at *
  generalize canonR b = d at *
  cases ec : nanB c <;> cases ed : nanB d <;> rw [ec] at nc <;> rw [ed] at nd <;> simp only [if_true, if_false, Bool.false_eq_true]
  · have nc := of_decide_eq_false nc.symm
    have nd := of_decide_eq_false nd.symm
    by_cases k1 : 9223372036854775808 ≤ c <;> by_cases k2 : 9223372036854775808 ≤ d <;> simp only [k1, k2, if_true, if_false] <;> rw [Bool.eq_iff_iff] <;> simp only [decide_eq_true_eq] <;> (repeat' split) <;> (try simp only [decide_eq_true_eq]) <;> omega
  · have hd := hd ed
    have nc := of_decide_eq_false nc.symm
    subst hd
    by_cases k1 : 9223372036854775808 ≤ c <;> simp only [k1, if_true, if_false] <;> rw [Bool.eq_iff_iff] <;> simp only [decide_eq_true_eq] <;> (repeat' split) <;> (try simp only [decide_eq_true_eq]) <;> omega
  · have hc := hc ec
    have nd := of_decide_eq_false nd.symm
    subst hc
    by_cases k1 : 9223372036854775808 ≤ d <;> simp only [k1, if_true, if_false] <;> rw [Bool.eq_iff_iff] <;> simp only [decide_eq_true_eq] <;> (repeat' split) <;> (try simp only [decide_eq_true_eq]) <;> omega
  · have hc := hc ec
    have hd := hd ed
    subst hc hd
    decide
def lessRf (a b : Vl) : Bool :=
  if a.kind = b.kind then (if a.int = b.int then (if keyR a.real < keyR b.real ∨ keyR b.real < keyR a.real then decide (keyR a.real < keyR b.real) else decide (Lib.compareBytes a.text.data.toList b.text.data.toList < 0)) else decide (a.int < b.int)) else decide (a.kind < b.kind)
theorem cmpI_cases (a b : Int) : (a < b ∧ cmpI a b = -1) ∨ (a = b ∧ cmpI a b = 0) ∨ (b < a ∧ cmpI a b = 1) := by
  unfold cmpI
  rcases Int.lt_trichotomy a b with h | h | h
  · exact .inl ⟨h, if_pos h⟩
  · exact .inr (.inl ⟨h, by rw [if_neg (by omega), if_neg (by omega)]⟩)
  · exact .inr (.inr ⟨h, by rw [if_neg (by omega), if_pos h]⟩)
theorem lessRf_eq (a b : Vl) : lessRf a b = lessV a b := by
  have hc : compareV keyR a b = if cmpI a.kind b.kind = 0 then (if cmpI a.int b.int = 0 then (if cmpI (keyR a.real) (keyR b.real) = 0 then Lib.compareBytes a.text.data.toList b.text.data.toList else cmpI (keyR a.real) (keyR b.real)) else cmpI a.int b.int) else cmpI a.kind b.kind := rfl
  unfold lessRf lessV
  rw [hc]
  rcases cmpI_cases a.kind b.kind with ⟨h, e⟩ | ⟨h, e⟩ | ⟨h, e⟩ <;> rw [e]
  · rw [if_neg (by omega), if_neg (by omega)]; simp [h]
  · rw [if_pos h, if_pos rfl]
    rcases cmpI_cases a.int b.int with ⟨h, e⟩ | ⟨h, e⟩ | ⟨h, e⟩ <;> rw [e]
    · rw [if_neg (by omega), if_neg (by omega)]; simp [h]
    · rw [if_pos h, if_pos rfl]
      rcases cmpI_cases (keyR a.real) (keyR b.real) with ⟨h, e⟩ | ⟨h, e⟩ | ⟨h, e⟩ <;> rw [e]
      · rw [if_pos (.inl h), if_neg (by omega)]; simp [h]
      · rw [if_neg (by omega), if_pos rfl]
      · rw [if_pos (.inr h), if_neg (by omega)]
        have : ¬ keyR a.real < keyR b.real := by omega
        simp [this]
    · rw [if_neg (by omega), if_neg (by omega)]
      have : ¬ a.int < b.int := by omega
      simp [this]
  · rw [if_neg (by omega), if_neg (by omega)]
    have : ¬ a.kind < b.kind := by omega
    simp [this]
theorem cmpB_drop : ∀ (n : Nat) (x y : List UInt8), n ≤ x.length → n ≤ y.length → x.take n = y.take n → Lib.compareBytes x y = Lib.compareBytes (x.drop n) (y.drop n)
  | 0, x, y, _, _, _ => rfl
  | n + 1, [], y, h, _, _ => by simp at h
  | n + 1, _ :: _, [], _, h, _ => by simp at h
  | n + 1, a :: x, b :: y, h, k, e => by
    simp only [List.take_succ_cons, List.cons.injEq] at e
    obtain ⟨rfl, e⟩ := e
    have h' : ¬ a < a := UInt8.lt_irrefl a
    conv => lhs; unfold Lib.compareBytes
    rw [if_neg h', if_neg h']
    exact cmpB_drop n x y (by simpa using h) (by simpa using k) e
theorem cmpB_at {n : Nat} {x y : List UInt8} {a b : UInt8} (hx : x[n]? = some a) (hy : y[n]? = some b) (he : x.take n = y.take n) (hne : a ≠ b) : (Lib.compareBytes x y < 0) ↔ a.toNat < b.toNat := by
  have h1 := (List.getElem?_eq_some_iff.1 hx).1
  have h2 := (List.getElem?_eq_some_iff.1 hy).1
  rw [cmpB_drop n x y (by omega) (by omega) he]
  obtain ⟨_, e1⟩ := List.getElem?_eq_some_iff.1 hx
  obtain ⟨_, e2⟩ := List.getElem?_eq_some_iff.1 hy
  rw [List.drop_eq_getElem_cons h1, List.drop_eq_getElem_cons h2, e1, e2]
  unfold Lib.compareBytes
  rcases u8_tri a b with h | h | h
  · rw [if_pos h]; rw [UInt8.lt_iff_toNat_lt] at h; simp [h]
  · exact absurd h hne
  · have h' : ¬ a < b := fun k => by simp only [UInt8.lt_iff_toNat_lt] at h k; omega
    rw [if_neg h', if_pos h]; rw [UInt8.lt_iff_toNat_lt] at h; simp; omega
theorem cmpB_end {n : Nat} {x y : List UInt8} (h : n ≤ x.length) (k : n ≤ y.length) (hn : n = x.length ∨ n = y.length) (he : x.take n = y.take n) : (Lib.compareBytes x y < 0) ↔ x.length < y.length := by
  rw [cmpB_drop n x y h k he]
  rcases hn with rfl | rfl
  · rw [List.drop_length]
    cases hd : y.drop x.length with
    | nil => have := congrArg List.length hd; rw [List.length_drop] at this; simp at this; simp [Lib.compareBytes]; omega
    | cons c l => have := congrArg List.length hd; rw [List.length_drop] at this; simp at this; simp [Lib.compareBytes]; omega
  · rw [List.drop_length]
    cases hd : x.drop y.length with
    | nil => have := congrArg List.length hd; rw [List.length_drop] at this; simp at this; simp [Lib.compareBytes]; omega
    | cons c l => have := congrArg List.length hd; rw [List.length_drop] at this; simp at this; simp [Lib.compareBytes]; omega
end Go.Proofs.YtphaegcoldpclaaGreatDoor
set_option linter.unusedSimpArgs false
set_option linter.unusedVariables false
set_option maxRecDepth 100000
namespace Go.Proofs.YtphaegcoldpclaaGreatDoor
open Go Go.Fx Go.Proofs Go.Pl

theorem none03_spec (n : Int) : FSpec Tryz.prog 155 [.int .u64 n] [] Unit (fun _ => True) (fun _ => .bool (noneR n)) (fun _ => []) := by
  unfold noneR
  cases t1 : decide ((shiftOf .shr .u64 n 52).tmod 2048 = 2047) with
  | false =>
    rw [Bool.false_and]
    refine spec_intro [] _ Tryz.func155 rfl Tryz.ntmps155 (by rfl) (fun w0 R => ?_)
    repeat' (first | (refine go_Y ?_; intros) | (refine gs_Y ?_ ?_ <;> (intro hgd; try (simp only [bn] at hgd))) | (refine gc_Y ?_ ?_ <;> intro _) | fail)
    (refine rt_Y (y := ()) (hrs := Tryz.results155) (hv := ?_) (hφ := ?_))
    · rfl
    · trivial
  | true =>
    rw [Bool.true_and]
    refine spec_intro [] _ Tryz.func155 rfl Tryz.ntmps155 (by rfl) (fun w0 R => ?_)
    repeat' (first | (refine go_Y ?_; intros) | (refine gs_Y ?_ ?_ <;> (intro hgd; try (simp only [bn] at hgd))) | (refine gc_Y ?_ ?_ <;> intro _) | fail)
    (refine rt_Y (y := ()) (hrs := Tryz.results155) (hv := ?_) (hφ := ?_))
    · rfl
    · trivial
theorem canon03_spec (n : Int) (h0 : 0 ≤ n) (h1 : n ≤ 18446744073709551615) : FSpec Tryz.prog 131 [.int .u64 n] [] Unit (fun _ => True) (fun _ => .int .u64 (canonR n)) (fun _ => []) := by
  have hs := none03_spec n
  rw [none_ref h0 h1] at hs
  unfold canonR
  cases t1 : nanB n with
  | true =>
    rw [t1] at hs
    rw [if_pos rfl]
    refine spec_intro [] _ Tryz.func131 rfl Tryz.ntmps131 (by rfl) (fun w0 R => ?_)
    repeat' (first | (refine go_Y ?_; intros) | (refine gs_Y ?_ ?_ <;> (intro hgd; try (simp only [bn] at hgd))) | (refine gc_Y ?_ ?_ <;> intro _) | fail)
    refine cl_Y (hs) ?_
    intro _ _
    repeat' (first | (refine go_Y ?_; intros) | (refine gs_Y ?_ ?_ <;> (intro hgd; try (simp only [bn] at hgd))) | (refine gc_Y ?_ ?_ <;> intro _) | fail)
    (refine rt_Y (y := ()) (hrs := Tryz.results131) (hv := ?_) (hφ := ?_))
    · rfl
    · trivial
  | false =>
    rw [t1] at hs
    rw [if_neg (by simp)]
    refine spec_intro [] _ Tryz.func131 rfl Tryz.ntmps131 (by rfl) (fun w0 R => ?_)
    repeat' (first | (refine go_Y ?_; intros) | (refine gs_Y ?_ ?_ <;> (intro hgd; try (simp only [bn] at hgd))) | (refine gc_Y ?_ ?_ <;> intro _) | fail)
    refine cl_Y (hs) ?_
    intro _ _
    repeat' (first | (refine go_Y ?_; intros) | (refine gs_Y ?_ ?_ <;> (intro hgd; try (simp only [bn] at hgd))) | (refine gc_Y ?_ ?_ <;> intro _) | fail)
    (refine rt_Y (y := ()) (hrs := Tryz.results131) (hv := ?_) (hφ := ?_))
    · rfl
    · trivial
theorem rank03_spec (n : Int) (h0 : 0 ≤ n) (h1 : n ≤ 18446744073709551615) : FSpec Tryz.prog 133 [.int .u64 n] [] Unit (fun _ => True) (fun _ => .int .i64 (rankR n)) (fun _ => []) := by
  have hs := none03_spec n
  rw [none_ref h0 h1] at hs
  unfold rankR
  cases t1 : nanB n with
  | true =>
    rw [t1] at hs
    rw [if_pos rfl]
    refine spec_intro [] _ Tryz.func133 rfl Tryz.ntmps133 (by rfl) (fun w0 R => ?_)
    repeat' (first | (refine go_Y ?_; intros) | (refine gs_Y ?_ ?_ <;> (intro hgd; try (simp only [bn] at hgd))) | (refine gc_Y ?_ ?_ <;> intro _) | fail)
    refine cl_Y (hs) ?_
    intro _ _
    repeat' (first | (refine go_Y ?_; intros) | (refine gs_Y ?_ ?_ <;> (intro hgd; try (simp only [bn] at hgd))) | (refine gc_Y ?_ ?_ <;> intro _) | fail)
    (refine rt_Y (y := ()) (hrs := Tryz.results133) (hv := ?_) (hφ := ?_))
    · rfl
    · trivial
  | false =>
    rw [t1] at hs
    rw [if_neg (by simp)]
    cases t2 : decide (shiftOf .shr .u64 n 63 = 1) with
    | true =>
      rw [if_pos (of_decide_eq_true t2)]
      refine spec_intro [] _ Tryz.func133 rfl Tryz.ntmps133 (by rfl) (fun w0 R => ?_)
      repeat' (first | (refine go_Y ?_; intros) | (refine gs_Y ?_ ?_ <;> (intro hgd; try (simp only [bn] at hgd))) | (refine gc_Y ?_ ?_ <;> intro _) | fail)
      refine cl_Y (hs) ?_
      intro _ _
      repeat' (first | (refine go_Y ?_; intros) | (refine gs_Y ?_ ?_ <;> (intro hgd; try (simp only [bn] at hgd))) | (refine gc_Y ?_ ?_ <;> intro _) | fail)
      (refine rt_Y (y := ()) (hrs := Tryz.results133) (hv := ?_) (hφ := ?_))
      · rfl
      · trivial
    | false =>
      rw [if_neg (of_decide_eq_false t2)]
      refine spec_intro [] _ Tryz.func133 rfl Tryz.ntmps133 (by rfl) (fun w0 R => ?_)
      repeat' (first | (refine go_Y ?_; intros) | (refine gs_Y ?_ ?_ <;> (intro hgd; try (simp only [bn] at hgd))) | (refine gc_Y ?_ ?_ <;> intro _) | fail)
      refine cl_Y (hs) ?_
      intro _ _
      repeat' (first | (refine go_Y ?_; intros) | (refine gs_Y ?_ ?_ <;> (intro hgd; try (simp only [bn] at hgd))) | (refine gc_Y ?_ ?_ <;> intro _) | fail)
      (refine rt_Y (y := ()) (hrs := Tryz.results133) (hv := ?_) (hφ := ?_))
      · rfl
      · trivial
set_option maxHeartbeats 1000000 in
theorem less03_spec (a b : Int) (a0 : 0 ≤ a) (a1 : a ≤ 18446744073709551615) (b0 : 0 ≤ b) (b1 : b ≤ 18446744073709551615) : FSpec Tryz.prog 114 [.int .u64 a, .int .u64 b] [] Unit (fun _ => True) (fun _ => .bool (decide (keyR a < keyR b))) (fun _ => []) := by
  have ca := canon03_spec a a0 a1
  have cb := canon03_spec b b0 b1
  obtain ⟨c0, c1⟩ := canonR_rng a0 a1
  obtain ⟨d0, d1⟩ := canonR_rng b0 b1
  rw [← lessR_ref a0 a1 b0 b1]
  generalize canonR a = c at *
  generalize canonR b = d at *
  have rc := rank03_spec c c0 c1
  have rd := rank03_spec d d0 d1
  unfold lessR
  generalize rankR c = x at *
  generalize rankR d = y at *
  cases t1 : decide (x = y) with
  | false =>
    have t1' : (!decide (x = y)) = true := by rw [t1]; rfl
    rw [if_neg (of_decide_eq_false t1)]
    refine spec_intro [] _ Tryz.func114 rfl Tryz.ntmps114 (by rfl) (fun w0 R => ?_)
    repeat' (first | (refine go_Y ?_; intros) | (refine gs_Y ?_ ?_ <;> (intro hgd; try (simp only [bn] at hgd))) | (refine gc_Y ?_ ?_ <;> intro _) | fail)
    refine cl_Y (ca) ?_
    intro _ _
    repeat' (first | (refine go_Y ?_; intros) | (refine gs_Y ?_ ?_ <;> (intro hgd; try (simp only [bn] at hgd))) | (refine gc_Y ?_ ?_ <;> intro _) | fail)
    refine cl_Y (cb) ?_
    intro _ _
    repeat' (first | (refine go_Y ?_; intros) | (refine gs_Y ?_ ?_ <;> (intro hgd; try (simp only [bn] at hgd))) | (refine gc_Y ?_ ?_ <;> intro _) | fail)
    refine cl_Y (rc) ?_
    intro _ _
    repeat' (first | (refine go_Y ?_; intros) | (refine gs_Y ?_ ?_ <;> (intro hgd; try (simp only [bn] at hgd))) | (refine gc_Y ?_ ?_ <;> intro _) | fail)
    refine cl_Y (rd) ?_
    intro _ _
    repeat' (first | (refine go_Y ?_; intros) | (refine gs_Y ?_ ?_ <;> (intro hgd; try (simp only [bn] at hgd))) | (refine gc_Y ?_ ?_ <;> intro _) | fail)
    refine cl_Y (rc) ?_
    intro _ _
    repeat' (first | (refine go_Y ?_; intros) | (refine gs_Y ?_ ?_ <;> (intro hgd; try (simp only [bn] at hgd))) | (refine gc_Y ?_ ?_ <;> intro _) | fail)
    refine cl_Y (rd) ?_
    intro _ _
    repeat' (first | (refine go_Y ?_; intros) | (refine gs_Y ?_ ?_ <;> (intro hgd; try (simp only [bn] at hgd))) | (refine gc_Y ?_ ?_ <;> intro _) | fail)
    (refine rt_Y (y := ()) (hrs := Tryz.results114) (hv := ?_) (hφ := ?_))
    · rfl
    · trivial
  | true =>
    have t1' : (!decide (x = y)) = false := by rw [t1]; rfl
    rw [if_pos (of_decide_eq_true t1)]
    cases t2 : decide (x = 0) with
    | true =>
      rw [if_pos (of_decide_eq_true t2)]
      refine spec_intro [] _ Tryz.func114 rfl Tryz.ntmps114 (by rfl) (fun w0 R => ?_)
      repeat' (first | (refine go_Y ?_; intros) | (refine gs_Y ?_ ?_ <;> (intro hgd; try (simp only [bn] at hgd))) | (refine gc_Y ?_ ?_ <;> intro _) | fail)
      refine cl_Y (ca) ?_
      intro _ _
      repeat' (first | (refine go_Y ?_; intros) | (refine gs_Y ?_ ?_ <;> (intro hgd; try (simp only [bn] at hgd))) | (refine gc_Y ?_ ?_ <;> intro _) | fail)
      refine cl_Y (cb) ?_
      intro _ _
      repeat' (first | (refine go_Y ?_; intros) | (refine gs_Y ?_ ?_ <;> (intro hgd; try (simp only [bn] at hgd))) | (refine gc_Y ?_ ?_ <;> intro _) | fail)
      refine cl_Y (rc) ?_
      intro _ _
      repeat' (first | (refine go_Y ?_; intros) | (refine gs_Y ?_ ?_ <;> (intro hgd; try (simp only [bn] at hgd))) | (refine gc_Y ?_ ?_ <;> intro _) | fail)
      refine cl_Y (rd) ?_
      intro _ _
      repeat' (first | (refine go_Y ?_; intros) | (refine gs_Y ?_ ?_ <;> (intro hgd; try (simp only [bn] at hgd))) | (refine gc_Y ?_ ?_ <;> intro _) | fail)
      refine cl_Y (rc) ?_
      intro _ _
      repeat' (first | (refine go_Y ?_; intros) | (refine gs_Y ?_ ?_ <;> (intro hgd; try (simp only [bn] at hgd))) | (refine gc_Y ?_ ?_ <;> intro _) | fail)
      (refine rt_Y (y := ()) (hrs := Tryz.results114) (hv := ?_) (hφ := ?_))
      · rfl
      · trivial
    | false =>
      rw [if_neg (of_decide_eq_false t2)]
      refine spec_intro [] _ Tryz.func114 rfl Tryz.ntmps114 (by rfl) (fun w0 R => ?_)
      repeat' (first | (refine go_Y ?_; intros) | (refine gs_Y ?_ ?_ <;> (intro hgd; try (simp only [bn] at hgd))) | (refine gc_Y ?_ ?_ <;> intro _) | fail)
      refine cl_Y (ca) ?_
      intro _ _
      repeat' (first | (refine go_Y ?_; intros) | (refine gs_Y ?_ ?_ <;> (intro hgd; try (simp only [bn] at hgd))) | (refine gc_Y ?_ ?_ <;> intro _) | fail)
      refine cl_Y (cb) ?_
      intro _ _
      repeat' (first | (refine go_Y ?_; intros) | (refine gs_Y ?_ ?_ <;> (intro hgd; try (simp only [bn] at hgd))) | (refine gc_Y ?_ ?_ <;> intro _) | fail)
      refine cl_Y (rc) ?_
      intro _ _
      repeat' (first | (refine go_Y ?_; intros) | (refine gs_Y ?_ ?_ <;> (intro hgd; try (simp only [bn] at hgd))) | (refine gc_Y ?_ ?_ <;> intro _) | fail)
      refine cl_Y (rd) ?_
      intro _ _
      repeat' (first | (refine go_Y ?_; intros) | (refine gs_Y ?_ ?_ <;> (intro hgd; try (simp only [bn] at hgd))) | (refine gc_Y ?_ ?_ <;> intro _) | fail)
      refine cl_Y (rc) ?_
      intro _ _
      repeat' (first | (refine go_Y ?_; intros) | (refine gs_Y ?_ ?_ <;> (intro hgd; try (simp only [bn] at hgd))) | (refine gc_Y ?_ ?_ <;> intro _) | fail)
      (refine rt_Y (y := ()) (hrs := Tryz.results114) (hv := ?_) (hφ := ?_))
      · rfl
      · trivial
theorem int_bool {i : Int} (h0 : -9223372036854775808 ≤ i) (h1 : i ≤ 9223372036854775807) : (1 < IntKind.u64.wrap i) ↔ (i ≠ 0 ∧ i ≠ 1) := by
  have h : IntKind.u64.wrap i = i % 18446744073709551616 := rfl
  rw [h]; omega
set_option maxHeartbeats 2000000 in
theorem may04_spec (v : Vl) (A : HProp) (hA : UT A) (hw : v.wf) : FSpec Tryz.prog 113 [.agg (valV v).toArray] [A] Unit (fun _ => True) (fun _ => .bool (checkV v)) (fun _ => [A]) := by
  obtain ⟨k, i, r, s⟩ := v
  unfold checkV wantV
  dsimp only [valV]
  cases o0 : decide (k = 0) with
  | true =>
    rw [if_pos (of_decide_eq_true o0)]
    dsimp only
    have e0 : k = 0 := of_decide_eq_true o0
    subst e0
    have he := eqL_valV ⟨0, i, r, s⟩ ⟨0, 0, 0, ⟨#[]⟩⟩
    dsimp only [valV] at he
    cases hd : decide ((⟨0, i, r, s⟩ : Vl) = ⟨0, 0, 0, ⟨#[]⟩⟩) with
    | false =>
      rw [hd] at he
      have hq : nilB BinOp.eql (eqL [TypeDesc.int .u8, TypeDesc.int .i64, TypeDesc.int .u64, TypeDesc.string] [Value.int .u8 0, Value.int .i64 i, Value.int .u64 r, Value.string s] [Value.int .u8 0, Value.int .i64 0, Value.int .u64 0, Value.string ⟨#[]⟩]) = false := he
      rw [Bool.false_and]
      refine spec_intro [] _ Tryz.func113 rfl Tryz.ntmps113 (by rfl) (fun w0 R => ?_)
      repeat' (first | (refine go_Y ?_; intros) | (refine gs_Y ?_ ?_ <;> (intro hgd; try (simp only [bn] at hgd))) | (refine gc_Y ?_ ?_ <;> intro _) | fail)
      (refine rt_Y (y := ()) (hrs := Tryz.results113) (hv := ?_) (hφ := ?_))
      · rfl
      · trivial
    | true =>
      rw [hd] at he
      have hq : nilB BinOp.eql (eqL [TypeDesc.int .u8, TypeDesc.int .i64, TypeDesc.int .u64, TypeDesc.string] [Value.int .u8 0, Value.int .i64 i, Value.int .u64 r, Value.string s] [Value.int .u8 0, Value.int .i64 0, Value.int .u64 0, Value.string ⟨#[]⟩]) = true := he
      rw [Bool.true_and]
      rw [show decide (s.size ≤ 100) = decide ((s.size : Int) ≤ 100) by rw [Bool.eq_iff_iff]; simp; omega]
      refine spec_intro [] _ Tryz.func113 rfl Tryz.ntmps113 (by rfl) (fun w0 R => ?_)
      repeat' (first | (refine go_Y ?_; intros) | (refine gs_Y ?_ ?_ <;> (intro hgd; try (simp only [bn] at hgd))) | (refine gc_Y ?_ ?_ <;> intro _) | fail)
      (refine rt_Y (y := ()) (hrs := Tryz.results113) (hv := ?_) (hφ := ?_))
      · rfl
      · trivial
  | false =>
  rw [if_neg (of_decide_eq_false o0)]
  cases o1 : decide (k = 1) with
  | true =>
    rw [if_pos (of_decide_eq_true o1)]
    have e1 : k = 1 := of_decide_eq_true o1
    subst e1
    have hb := int_bool hw.i0 hw.i1
    dsimp only at hb
    cases u0 : decide (i = 0) with
    | true =>
      have e0 : i = 0 := of_decide_eq_true u0
      subst e0
      rw [if_neg (by rw [hb]; omega)]
      dsimp only
      have u0' : (!decide ((0 : Int) = 0)) = false := rfl
      have u1' : (!decide ((0 : Int) = 1)) = true := rfl
      have he := eqL_valV ⟨1, 0, r, s⟩ ⟨1, 0, 0, ⟨#[]⟩⟩
      dsimp only [valV] at he
      cases hd : decide ((⟨1, 0, r, s⟩ : Vl) = ⟨1, 0, 0, ⟨#[]⟩⟩) with
      | false =>
        rw [hd] at he
        have hq : nilB BinOp.eql (eqL [TypeDesc.int .u8, TypeDesc.int .i64, TypeDesc.int .u64, TypeDesc.string] [Value.int .u8 1, Value.int .i64 0, Value.int .u64 r, Value.string s] [Value.int .u8 1, Value.int .i64 0, Value.int .u64 0, Value.string ⟨#[]⟩]) = false := he
        rw [Bool.false_and]
        refine spec_intro [] _ Tryz.func113 rfl Tryz.ntmps113 (by rfl) (fun w0 R => ?_)
        repeat' (first | (refine go_Y ?_; intros) | (refine gs_Y ?_ ?_ <;> (intro hgd; try (simp only [bn] at hgd))) | (refine gc_Y ?_ ?_ <;> intro _) | fail)
        (refine rt_Y (y := ()) (hrs := Tryz.results113) (hv := ?_) (hφ := ?_))
        · rfl
        · trivial
      | true =>
        rw [hd] at he
        have hq : nilB BinOp.eql (eqL [TypeDesc.int .u8, TypeDesc.int .i64, TypeDesc.int .u64, TypeDesc.string] [Value.int .u8 1, Value.int .i64 0, Value.int .u64 r, Value.string s] [Value.int .u8 1, Value.int .i64 0, Value.int .u64 0, Value.string ⟨#[]⟩]) = true := he
        rw [Bool.true_and]
        rw [show decide (s.size ≤ 100) = decide ((s.size : Int) ≤ 100) by rw [Bool.eq_iff_iff]; simp; omega]
        refine spec_intro [] _ Tryz.func113 rfl Tryz.ntmps113 (by rfl) (fun w0 R => ?_)
        repeat' (first | (refine go_Y ?_; intros) | (refine gs_Y ?_ ?_ <;> (intro hgd; try (simp only [bn] at hgd))) | (refine gc_Y ?_ ?_ <;> intro _) | fail)
        (refine rt_Y (y := ()) (hrs := Tryz.results113) (hv := ?_) (hφ := ?_))
        · rfl
        · trivial
    | false =>
    have v0 : (!decide (i = 0)) = true := by rw [u0]; rfl
    cases u1 : decide (i = 1) with
    | true =>
      have e1 : i = 1 := of_decide_eq_true u1
      subst e1
      rw [if_neg (by rw [hb]; omega)]
      dsimp only
      have he := eqL_valV ⟨1, 1, r, s⟩ ⟨1, 1, 0, ⟨#[]⟩⟩
      dsimp only [valV] at he
      cases hd : decide ((⟨1, 1, r, s⟩ : Vl) = ⟨1, 1, 0, ⟨#[]⟩⟩) with
      | false =>
        rw [hd] at he
        have hq : nilB BinOp.eql (eqL [TypeDesc.int .u8, TypeDesc.int .i64, TypeDesc.int .u64, TypeDesc.string] [Value.int .u8 1, Value.int .i64 1, Value.int .u64 r, Value.string s] [Value.int .u8 1, Value.int .i64 1, Value.int .u64 0, Value.string ⟨#[]⟩]) = false := he
        rw [Bool.false_and]
        refine spec_intro [] _ Tryz.func113 rfl Tryz.ntmps113 (by rfl) (fun w0 R => ?_)
        repeat' (first | (refine go_Y ?_; intros) | (refine gs_Y ?_ ?_ <;> (intro hgd; try (simp only [bn] at hgd))) | (refine gc_Y ?_ ?_ <;> intro _) | fail)
        (refine rt_Y (y := ()) (hrs := Tryz.results113) (hv := ?_) (hφ := ?_))
        · rfl
        · trivial
      | true =>
        rw [hd] at he
        have hq : nilB BinOp.eql (eqL [TypeDesc.int .u8, TypeDesc.int .i64, TypeDesc.int .u64, TypeDesc.string] [Value.int .u8 1, Value.int .i64 1, Value.int .u64 r, Value.string s] [Value.int .u8 1, Value.int .i64 1, Value.int .u64 0, Value.string ⟨#[]⟩]) = true := he
        rw [Bool.true_and]
        rw [show decide (s.size ≤ 100) = decide ((s.size : Int) ≤ 100) by rw [Bool.eq_iff_iff]; simp; omega]
        refine spec_intro [] _ Tryz.func113 rfl Tryz.ntmps113 (by rfl) (fun w0 R => ?_)
        repeat' (first | (refine go_Y ?_; intros) | (refine gs_Y ?_ ?_ <;> (intro hgd; try (simp only [bn] at hgd))) | (refine gc_Y ?_ ?_ <;> intro _) | fail)
        (refine rt_Y (y := ()) (hrs := Tryz.results113) (hv := ?_) (hφ := ?_))
        · rfl
        · trivial
    | false =>
      have v1 : (!decide (i = 1)) = true := by rw [u1]; rfl
      rw [if_pos (by rw [hb]; exact ⟨of_decide_eq_false u0, of_decide_eq_false u1⟩)]
      refine spec_intro [] _ Tryz.func113 rfl Tryz.ntmps113 (by rfl) (fun w0 R => ?_)
      repeat' (first | (refine go_Y ?_; intros) | (refine gs_Y ?_ ?_ <;> (intro hgd; try (simp only [bn] at hgd))) | (refine gc_Y ?_ ?_ <;> intro _) | fail)
      (refine rt_Y (y := ()) (hrs := Tryz.results113) (hv := ?_) (hφ := ?_))
      · rfl
      · trivial
  | false =>
  rw [if_neg (of_decide_eq_false o1)]
  cases o2 : decide (k = 2) with
  | true =>
    rw [if_pos (of_decide_eq_true o2)]
    dsimp only
    have e2 : k = 2 := of_decide_eq_true o2
    subst e2
    have he := eqL_valV ⟨2, i, r, s⟩ ⟨2, i, 0, ⟨#[]⟩⟩
    dsimp only [valV] at he
    cases hd : decide ((⟨2, i, r, s⟩ : Vl) = ⟨2, i, 0, ⟨#[]⟩⟩) with
    | false =>
      rw [hd] at he
      have hq : nilB BinOp.eql (eqL [TypeDesc.int .u8, TypeDesc.int .i64, TypeDesc.int .u64, TypeDesc.string] [Value.int .u8 2, Value.int .i64 i, Value.int .u64 r, Value.string s] [Value.int .u8 2, Value.int .i64 i, Value.int .u64 0, Value.string ⟨#[]⟩]) = false := he
      rw [Bool.false_and]
      refine spec_intro [] _ Tryz.func113 rfl Tryz.ntmps113 (by rfl) (fun w0 R => ?_)
      repeat' (first | (refine go_Y ?_; intros) | (refine gs_Y ?_ ?_ <;> (intro hgd; try (simp only [bn] at hgd))) | (refine gc_Y ?_ ?_ <;> intro _) | fail)
      (refine rt_Y (y := ()) (hrs := Tryz.results113) (hv := ?_) (hφ := ?_))
      · rfl
      · trivial
    | true =>
      rw [hd] at he
      have hq : nilB BinOp.eql (eqL [TypeDesc.int .u8, TypeDesc.int .i64, TypeDesc.int .u64, TypeDesc.string] [Value.int .u8 2, Value.int .i64 i, Value.int .u64 r, Value.string s] [Value.int .u8 2, Value.int .i64 i, Value.int .u64 0, Value.string ⟨#[]⟩]) = true := he
      rw [Bool.true_and]
      rw [show decide (s.size ≤ 100) = decide ((s.size : Int) ≤ 100) by rw [Bool.eq_iff_iff]; simp; omega]
      refine spec_intro [] _ Tryz.func113 rfl Tryz.ntmps113 (by rfl) (fun w0 R => ?_)
      repeat' (first | (refine go_Y ?_; intros) | (refine gs_Y ?_ ?_ <;> (intro hgd; try (simp only [bn] at hgd))) | (refine gc_Y ?_ ?_ <;> intro _) | fail)
      (refine rt_Y (y := ()) (hrs := Tryz.results113) (hv := ?_) (hφ := ?_))
      · rfl
      · trivial
  | false =>
  rw [if_neg (of_decide_eq_false o2)]
  cases o3 : decide (k = 3) with
  | true =>
    rw [if_pos (of_decide_eq_true o3)]
    dsimp only
    have e3 : k = 3 := of_decide_eq_true o3
    subst e3
    have hc := canon03_spec r hw.r0 hw.r1
    generalize canonR r = rc at hc ⊢
    have he := eqL_valV ⟨3, i, r, s⟩ ⟨3, 0, rc, ⟨#[]⟩⟩
    dsimp only [valV] at he
    cases hd : decide ((⟨3, i, r, s⟩ : Vl) = ⟨3, 0, rc, ⟨#[]⟩⟩) with
    | false =>
      rw [hd] at he
      have hq : nilB BinOp.eql (eqL [TypeDesc.int .u8, TypeDesc.int .i64, TypeDesc.int .u64, TypeDesc.string] [Value.int .u8 3, Value.int .i64 i, Value.int .u64 r, Value.string s] [Value.int .u8 3, Value.int .i64 0, Value.int .u64 rc, Value.string ⟨#[]⟩]) = false := he
      rw [Bool.false_and]
      refine spec_intro [] _ Tryz.func113 rfl Tryz.ntmps113 (by rfl) (fun w0 R => ?_)
      repeat' (first | (refine go_Y ?_; intros) | (refine gs_Y ?_ ?_ <;> (intro hgd; try (simp only [bn] at hgd))) | (refine gc_Y ?_ ?_ <;> intro _) | fail)
      refine cl_Y (hc) ?_
      intro _ _
      repeat' (first | (refine go_Y ?_; intros) | (refine gs_Y ?_ ?_ <;> (intro hgd; try (simp only [bn] at hgd))) | (refine gc_Y ?_ ?_ <;> intro _) | fail)
      (refine rt_Y (y := ()) (hrs := Tryz.results113) (hv := ?_) (hφ := ?_))
      · rfl
      · trivial
    | true =>
      rw [hd] at he
      have hq : nilB BinOp.eql (eqL [TypeDesc.int .u8, TypeDesc.int .i64, TypeDesc.int .u64, TypeDesc.string] [Value.int .u8 3, Value.int .i64 i, Value.int .u64 r, Value.string s] [Value.int .u8 3, Value.int .i64 0, Value.int .u64 rc, Value.string ⟨#[]⟩]) = true := he
      rw [Bool.true_and]
      rw [show decide (s.size ≤ 100) = decide ((s.size : Int) ≤ 100) by rw [Bool.eq_iff_iff]; simp; omega]
      refine spec_intro [] _ Tryz.func113 rfl Tryz.ntmps113 (by rfl) (fun w0 R => ?_)
      repeat' (first | (refine go_Y ?_; intros) | (refine gs_Y ?_ ?_ <;> (intro hgd; try (simp only [bn] at hgd))) | (refine gc_Y ?_ ?_ <;> intro _) | fail)
      refine cl_Y (hc) ?_
      intro _ _
      repeat' (first | (refine go_Y ?_; intros) | (refine gs_Y ?_ ?_ <;> (intro hgd; try (simp only [bn] at hgd))) | (refine gc_Y ?_ ?_ <;> intro _) | fail)
      (refine rt_Y (y := ()) (hrs := Tryz.results113) (hv := ?_) (hφ := ?_))
      · rfl
      · trivial
  | false =>
  rw [if_neg (of_decide_eq_false o3)]
  cases o5 : decide (k = 5) with
  | true =>
    rw [if_pos (of_decide_eq_true o5)]
    have e5 : k = 5 := of_decide_eq_true o5
    subst e5
    have hv := valid_spec s A hA (by have := hw.t; dsimp only at this; omega)
    cases u5 : validS s with
    | false =>
      rw [u5] at hv
      rw [if_neg (by simp)]
      refine spec_intro [] _ Tryz.func113 rfl Tryz.ntmps113 (by rfl) (fun w0 R => ?_)
      repeat' (first | (refine go_Y ?_; intros) | (refine gs_Y ?_ ?_ <;> (intro hgd; try (simp only [bn] at hgd))) | (refine gc_Y ?_ ?_ <;> intro _) | fail)
      refine cl_Y (hv) ?_
      intro _ _
      repeat' (first | (refine go_Y ?_; intros) | (refine gs_Y ?_ ?_ <;> (intro hgd; try (simp only [bn] at hgd))) | (refine gc_Y ?_ ?_ <;> intro _) | fail)
      (refine rt_Y (y := ()) (hrs := Tryz.results113) (hv := ?_) (hφ := ?_))
      · rfl
      · trivial
    | true =>
      rw [u5] at hv
      rw [if_pos rfl]
      dsimp only
      have he := eqL_valV ⟨5, i, r, s⟩ ⟨5, 0, 0, s⟩
      dsimp only [valV] at he
      cases hd : decide ((⟨5, i, r, s⟩ : Vl) = ⟨5, 0, 0, s⟩) with
      | false =>
        rw [hd] at he
        have hq : nilB BinOp.eql (eqL [TypeDesc.int .u8, TypeDesc.int .i64, TypeDesc.int .u64, TypeDesc.string] [Value.int .u8 5, Value.int .i64 i, Value.int .u64 r, Value.string s] [Value.int .u8 5, Value.int .i64 0, Value.int .u64 0, Value.string s]) = false := he
        rw [Bool.false_and]
        refine spec_intro [] _ Tryz.func113 rfl Tryz.ntmps113 (by rfl) (fun w0 R => ?_)
        repeat' (first | (refine go_Y ?_; intros) | (refine gs_Y ?_ ?_ <;> (intro hgd; try (simp only [bn] at hgd))) | (refine gc_Y ?_ ?_ <;> intro _) | fail)
        refine cl_Y (hv) ?_
        intro _ _
        repeat' (first | (refine go_Y ?_; intros) | (refine gs_Y ?_ ?_ <;> (intro hgd; try (simp only [bn] at hgd))) | (refine gc_Y ?_ ?_ <;> intro _) | fail)
        (refine rt_Y (y := ()) (hrs := Tryz.results113) (hv := ?_) (hφ := ?_))
        · rfl
        · trivial
      | true =>
        rw [hd] at he
        have hq : nilB BinOp.eql (eqL [TypeDesc.int .u8, TypeDesc.int .i64, TypeDesc.int .u64, TypeDesc.string] [Value.int .u8 5, Value.int .i64 i, Value.int .u64 r, Value.string s] [Value.int .u8 5, Value.int .i64 0, Value.int .u64 0, Value.string s]) = true := he
        rw [Bool.true_and]
        rw [show decide (s.size ≤ 100) = decide ((s.size : Int) ≤ 100) by rw [Bool.eq_iff_iff]; simp; omega]
        refine spec_intro [] _ Tryz.func113 rfl Tryz.ntmps113 (by rfl) (fun w0 R => ?_)
        repeat' (first | (refine go_Y ?_; intros) | (refine gs_Y ?_ ?_ <;> (intro hgd; try (simp only [bn] at hgd))) | (refine gc_Y ?_ ?_ <;> intro _) | fail)
        refine cl_Y (hv) ?_
        intro _ _
        repeat' (first | (refine go_Y ?_; intros) | (refine gs_Y ?_ ?_ <;> (intro hgd; try (simp only [bn] at hgd))) | (refine gc_Y ?_ ?_ <;> intro _) | fail)
        (refine rt_Y (y := ()) (hrs := Tryz.results113) (hv := ?_) (hφ := ?_))
        · rfl
        · trivial
  | false =>
  rw [if_neg (of_decide_eq_false o5)]
  cases o4 : decide (k = 4) with
  | true =>
    rw [if_pos (of_decide_eq_true o4)]
    dsimp only
    have e4 : k = 4 := of_decide_eq_true o4
    subst e4
    have he := eqL_valV ⟨4, i, r, s⟩ ⟨4, 0, 0, s⟩
    dsimp only [valV] at he
    cases hd : decide ((⟨4, i, r, s⟩ : Vl) = ⟨4, 0, 0, s⟩) with
    | false =>
      rw [hd] at he
      have hq : nilB BinOp.eql (eqL [TypeDesc.int .u8, TypeDesc.int .i64, TypeDesc.int .u64, TypeDesc.string] [Value.int .u8 4, Value.int .i64 i, Value.int .u64 r, Value.string s] [Value.int .u8 4, Value.int .i64 0, Value.int .u64 0, Value.string s]) = false := he
      rw [Bool.false_and]
      refine spec_intro [] _ Tryz.func113 rfl Tryz.ntmps113 (by rfl) (fun w0 R => ?_)
      repeat' (first | (refine go_Y ?_; intros) | (refine gs_Y ?_ ?_ <;> (intro hgd; try (simp only [bn] at hgd))) | (refine gc_Y ?_ ?_ <;> intro _) | fail)
      (refine rt_Y (y := ()) (hrs := Tryz.results113) (hv := ?_) (hφ := ?_))
      · rfl
      · trivial
    | true =>
      rw [hd] at he
      have hq : nilB BinOp.eql (eqL [TypeDesc.int .u8, TypeDesc.int .i64, TypeDesc.int .u64, TypeDesc.string] [Value.int .u8 4, Value.int .i64 i, Value.int .u64 r, Value.string s] [Value.int .u8 4, Value.int .i64 0, Value.int .u64 0, Value.string s]) = true := he
      rw [Bool.true_and]
      rw [show decide (s.size ≤ 100) = decide ((s.size : Int) ≤ 100) by rw [Bool.eq_iff_iff]; simp; omega]
      refine spec_intro [] _ Tryz.func113 rfl Tryz.ntmps113 (by rfl) (fun w0 R => ?_)
      repeat' (first | (refine go_Y ?_; intros) | (refine gs_Y ?_ ?_ <;> (intro hgd; try (simp only [bn] at hgd))) | (refine gc_Y ?_ ?_ <;> intro _) | fail)
      (refine rt_Y (y := ()) (hrs := Tryz.results113) (hv := ?_) (hφ := ?_))
      · rfl
      · trivial
  | false =>
  rw [if_neg (of_decide_eq_false o4)]
  refine spec_intro [] _ Tryz.func113 rfl Tryz.ntmps113 (by rfl) (fun w0 R => ?_)
  repeat' (first | (refine go_Y ?_; intros) | (refine gs_Y ?_ ?_ <;> (intro hgd; try (simp only [bn] at hgd))) | (refine gc_Y ?_ ?_ <;> intro _) | fail)
  (refine rt_Y (y := ()) (hrs := Tryz.results113) (hv := ?_) (hφ := ?_))
  · rfl
  · trivial
end Go.Proofs.YtphaegcoldpclaaGreatDoor
set_option linter.unusedSimpArgs false
set_option linter.unusedVariables false
set_option maxRecDepth 100000
namespace Go.Proofs.YtphaegcoldpclaaGreatDoor
open Go Go.Fx Go.Proofs Go.Pl

theorem u8_i64 (c : UInt8) : IntKind.i64.wrap (c.toNat : Int) = (c.toNat : Int) := wrap_i64 (by omega) (by have := c.toNat_lt; omega)
set_option maxHeartbeats 1000000 in
theorem text04_spec (a b : BA) (ha : a.size ≤ 140737488355328) (hb : b.size ≤ 140737488355328) :
    FSpec Tryz.prog 115 [.string a, .string b] [] Int (fun y => (y < 0 ↔ Lib.compareBytes a.data.toList b.data.toList < 0)) (fun y => .int .i64 y) (fun _ => []) := by
  have la : a.data.toList.length = a.size := by simp
  have lb : b.data.toList.length = b.size := by simp
  refine spec_intro [] _ Tryz.func115 rfl Tryz.ntmps115 (by rfl) (fun w0 R => ?_)
  repeat' (first | (refine go_Y ?_; intros) | (refine gs_Y ?_ ?_ <;> (intro hgd; try (simp only [bn] at hgd))) | (refine gc_Y ?_ ?_ <;> intro _) | fail)
  refine ok_loop' (γ := Nat) (fun n ρ L => n ≤ a.size ∧ n ≤ b.size ∧ a.data.toList.take n = b.data.toList.take n ∧ Knows ρ [(0, .string a), (1, .string b), (5, .int .i64 n)] ∧ L = R) (fun n => a.size - n) 0 ⟨by omega, by omega, rfl, ⟨rfl, rfl, rfl, trivial⟩, rfl⟩ ?_
  rintro n ρ L ⟨hna, hnb, he, hk, rfl⟩
  refine ok_regs hk ?_
  cases t1 : decide ((n : Int) < (a.size : Int)) with
  | false =>
    have hn : n = a.size := by simp at t1; omega
    have hz := cmpB_end (x := a.data.toList) (y := b.data.toList) (by omega) (by omega) (.inl (by omega)) he
    repeat' (first | (refine go_Y ?_; intros) | (refine gs_Y ?_ ?_ <;> (intro hgd; try (simp only [bn] at hgd))) | (refine gc_Y ?_ ?_ <;> intro _) | fail)
    (refine rt_Y (y := (a.size : Int) - (b.size : Int)) (hrs := Tryz.results115) (hv := ?_) (hφ := ?_))
    · rfl
    · rw [hz]; omega
  | true =>
    have h1 : n < a.size := by simp at t1; omega
    cases t2 : decide ((n : Int) < (b.size : Int)) with
    | false =>
      have hn : n = b.size := by simp at t2; omega
      have hz := cmpB_end (x := a.data.toList) (y := b.data.toList) (by omega) (by omega) (.inr (by omega)) he
      repeat' (first | (refine go_Y ?_; intros) | (refine gs_Y ?_ ?_ <;> (intro hgd; try (simp only [bn] at hgd))) | (refine gc_Y ?_ ?_ <;> intro _) | fail)
      (refine rt_Y (y := (a.size : Int) - (b.size : Int)) (hrs := Tryz.results115) (hv := ?_) (hφ := ?_))
      · rfl
      · rw [hz]; omega
    | true =>
      have h2 : n < b.size := by simp at t2; omega
      have hx : a.data.toList[n]? = some (a.data.toList[n]'(by omega)) := List.getElem?_eq_getElem _
      have hy : b.data.toList[n]? = some (b.data.toList[n]'(by omega)) := List.getElem?_eq_getElem _
      have ta : a.data.toList.take (n + 1) = a.data.toList.take n ++ [a.data.toList[n]'(by omega)] := List.take_succ_eq_append_getElem (by omega)
      have tb : b.data.toList.take (n + 1) = b.data.toList.take n ++ [b.data.toList[n]'(by omega)] := List.take_succ_eq_append_getElem (by omega)
      have hat := fun hne => cmpB_at hx hy he hne
      generalize (a.data.toList[n]'(by omega)) = c at hx ta hat
      generalize (b.data.toList[n]'(by omega)) = d at hy tb hat
      have wc := u8_i64 c
      have wd := u8_i64 d
      have hc := c.toNat_lt
      have hd := d.toNat_lt
      cases t3 : (!decide ((c.toNat : Int) = (d.toNat : Int))) with
      | true =>
        have hne : c ≠ d := fun e => by subst e; simp at t3
        have hat := hat hne
        repeat' (first | (refine go_Y ?_; intros) | (refine gs_Y ?_ ?_ <;> (intro hgd; try (simp only [bn] at hgd))) | (refine gc_Y ?_ ?_ <;> intro _) | fail)
        (refine rt_Y (y := (c.toNat : Int) - (d.toNat : Int)) (hrs := Tryz.results115) (hv := ?_) (hφ := ?_))
        · rfl
        · rw [hat]; omega
      | false =>
        have hcd : c = d := by simp at t3; exact UInt8.toNat_inj.1 (by omega)
        repeat' (first | (refine go_Y ?_; intros) | (refine gs_Y ?_ ?_ <;> (intro hgd; try (simp only [bn] at hgd))) | (refine gc_Y ?_ ?_ <;> intro _) | fail)
        refine cont_back (n + 1) ⟨by omega, by omega, by rw [ta, tb, he, hcd], ⟨rfl, rfl, rfl, trivial⟩, rfl⟩ (by omega)
set_option maxHeartbeats 1000000 in
theorem less04_spec (a b : Vl) (wa : a.wf) (wb : b.wf) : FSpec Tryz.prog 83 [.agg (valV a).toArray, .agg (valV b).toArray] [] Unit (fun _ => True) (fun _ => .bool (lessV a b)) (fun _ => []) := by
  rw [← lessRf_eq]
  have hab := less03_spec a.real b.real wa.r0 wa.r1 wb.r0 wb.r1
  have hba := less03_spec b.real a.real wb.r0 wb.r1 wa.r0 wa.r1
  have ht := text04_spec a.text b.text wa.t wb.t
  unfold lessRf
  obtain ⟨ak, ai, ar, as'⟩ := a
  obtain ⟨bk, bi, br, bs⟩ := b
  dsimp only [valV] at hab hba ht ⊢
  cases t1 : decide (ak = bk) with
  | false =>
    have t1' : (!decide (ak = bk)) = true := by rw [t1]; rfl
    rw [if_neg (of_decide_eq_false t1)]
    refine spec_intro [] _ Tryz.func83 rfl Tryz.ntmps83 (by rfl) (fun w0 R => ?_)
    repeat' (first | (refine go_Y ?_; intros) | (refine gs_Y ?_ ?_ <;> (intro hgd; try (simp only [bn] at hgd))) | (refine gc_Y ?_ ?_ <;> intro _) | fail)
    (refine rt_Y (y := ()) (hrs := Tryz.results83) (hv := ?_) (hφ := ?_))
    · rfl
    · trivial
  | true =>
    have t1' : (!decide (ak = bk)) = false := by rw [t1]; rfl
    rw [if_pos (of_decide_eq_true t1)]
    cases t2 : decide (ai = bi) with
    | false =>
      have t2' : (!decide (ai = bi)) = true := by rw [t2]; rfl
      rw [if_neg (of_decide_eq_false t2)]
      refine spec_intro [] _ Tryz.func83 rfl Tryz.ntmps83 (by rfl) (fun w0 R => ?_)
      repeat' (first | (refine go_Y ?_; intros) | (refine gs_Y ?_ ?_ <;> (intro hgd; try (simp only [bn] at hgd))) | (refine gc_Y ?_ ?_ <;> intro _) | fail)
      (refine rt_Y (y := ()) (hrs := Tryz.results83) (hv := ?_) (hφ := ?_))
      · rfl
      · trivial
    | true =>
      have t2' : (!decide (ai = bi)) = false := by rw [t2]; rfl
      rw [if_pos (of_decide_eq_true t2)]
      generalize keyR ar = x at hab hba ⊢
      generalize keyR br = y at hab hba ⊢
      cases t3 : decide (x < y) with
      | true =>
        rw [t3] at hab
        rw [if_pos (.inl (of_decide_eq_true t3))]
        refine spec_intro [] _ Tryz.func83 rfl Tryz.ntmps83 (by rfl) (fun w0 R => ?_)
        repeat' (first | (refine go_Y ?_; intros) | (refine gs_Y ?_ ?_ <;> (intro hgd; try (simp only [bn] at hgd))) | (refine gc_Y ?_ ?_ <;> intro _) | fail)
        refine cl_Y (hab) ?_
        intro _ _
        repeat' (first | (refine go_Y ?_; intros) | (refine gs_Y ?_ ?_ <;> (intro hgd; try (simp only [bn] at hgd))) | (refine gc_Y ?_ ?_ <;> intro _) | fail)
        refine cl_Y (hab) ?_
        intro _ _
        repeat' (first | (refine go_Y ?_; intros) | (refine gs_Y ?_ ?_ <;> (intro hgd; try (simp only [bn] at hgd))) | (refine gc_Y ?_ ?_ <;> intro _) | fail)
        (refine rt_Y (y := ()) (hrs := Tryz.results83) (hv := ?_) (hφ := ?_))
        · rfl
        · trivial
      | false =>
        rw [t3] at hab
        cases t4 : decide (y < x) with
        | true =>
          rw [t4] at hba
          rw [if_pos (.inr (of_decide_eq_true t4))]
          refine spec_intro [] _ Tryz.func83 rfl Tryz.ntmps83 (by rfl) (fun w0 R => ?_)
          repeat' (first | (refine go_Y ?_; intros) | (refine gs_Y ?_ ?_ <;> (intro hgd; try (simp only [bn] at hgd))) | (refine gc_Y ?_ ?_ <;> intro _) | fail)
          refine cl_Y (hab) ?_
          intro _ _
          repeat' (first | (refine go_Y ?_; intros) | (refine gs_Y ?_ ?_ <;> (intro hgd; try (simp only [bn] at hgd))) | (refine gc_Y ?_ ?_ <;> intro _) | fail)
          refine cl_Y (hba) ?_
          intro _ _
          repeat' (first | (refine go_Y ?_; intros) | (refine gs_Y ?_ ?_ <;> (intro hgd; try (simp only [bn] at hgd))) | (refine gc_Y ?_ ?_ <;> intro _) | fail)
          refine cl_Y (hab) ?_
          intro _ _
          repeat' (first | (refine go_Y ?_; intros) | (refine gs_Y ?_ ?_ <;> (intro hgd; try (simp only [bn] at hgd))) | (refine gc_Y ?_ ?_ <;> intro _) | fail)
          (refine rt_Y (y := ()) (hrs := Tryz.results83) (hv := ?_) (hφ := ?_))
          · rfl
          · trivial
        | false =>
          rw [t4] at hba
          rw [if_neg (by have := of_decide_eq_false t3; have := of_decide_eq_false t4; omega)]
          refine spec_intro [] _ Tryz.func83 rfl Tryz.ntmps83 (by rfl) (fun w0 R => ?_)
          repeat' (first | (refine go_Y ?_; intros) | (refine gs_Y ?_ ?_ <;> (intro hgd; try (simp only [bn] at hgd))) | (refine gc_Y ?_ ?_ <;> intro _) | fail)
          refine cl_Y (hab) ?_
          intro _ _
          repeat' (first | (refine go_Y ?_; intros) | (refine gs_Y ?_ ?_ <;> (intro hgd; try (simp only [bn] at hgd))) | (refine gc_Y ?_ ?_ <;> intro _) | fail)
          refine cl_Y (hba) ?_
          intro _ _
          repeat' (first | (refine go_Y ?_; intros) | (refine gs_Y ?_ ?_ <;> (intro hgd; try (simp only [bn] at hgd))) | (refine gc_Y ?_ ?_ <;> intro _) | fail)
          refine cl_Y (ht) ?_
          intro y hy
          repeat' (first | (refine go_Y ?_; intros) | (refine gs_Y ?_ ?_ <;> (intro hgd; try (simp only [bn] at hgd))) | (refine gc_Y ?_ ?_ <;> intro _) | fail)
          (refine rt_Y (y := ()) (hrs := Tryz.results83) (hv := ?_) (hφ := ?_))
          · show Value.bool (decide (y < 0)) = _
            simp only [hy]
          · trivial
end Go.Proofs.YtphaegcoldpclaaGreatDoor
set_option linter.unusedSimpArgs false
set_option linter.unusedVariables false
set_option maxRecDepth 100000
namespace Go.Proofs.YtphaegcoldpclaaGreatDoor
open Go Go.Fx Go.Proofs Go.Pl

theorem has13_spec (k : Int) (vs : Value) (ts : List Tb) (A : HProp) (hvc : vs.oneCell' = true) (h : SV A vs ts) :
    FSpec Tryz.prog 81 [.agg #[vs], .int .i64 k] [A] Unit (fun _ => True) (fun _ => .bool (hasS (ts.map Tb.c) k)) (fun _ => [A]) := by
  have hm := rMay_spec vs ts A hvc h
  have hv := h.vw
  have e1 : decide (k < ((ts.map Tb.c).length : Int)) = decide (k < ((ts.map tbV).length : Int)) := by simp
  unfold hasS
  rw [e1]
  cases t1 : checkS (ts.map Tb.c) with
  | false =>
    rw [t1] at hm
    rw [Bool.false_and]
    refine spec_intro [] _ Tryz.func81 rfl Tryz.ntmps81 (by rfl) (fun w0 R => ?_)
    refine ok_learn (VwIn.slice (VwIn.here hv)) ?_
    rintro ⟨pv, cv, rfl⟩
    repeat' (first | (refine go_Y ?_; intros) | (refine gs_Y ?_ ?_ <;> (intro hgd; try (simp only [bn] at hgd))) | (refine gc_Y ?_ ?_ <;> intro _) | fail)
    refine cl_Y (hm) ?_
    intro _ _
    repeat' (first | (refine go_Y ?_; intros) | (refine gs_Y ?_ ?_ <;> (intro hgd; try (simp only [bn] at hgd))) | (refine gc_Y ?_ ?_ <;> intro _) | fail)
    (refine rt_Y (y := ()) (hrs := Tryz.results81) (hv := ?_) (hφ := ?_))
    · rfl
    · trivial
  | true =>
    rw [t1] at hm
    rw [Bool.true_and]
    cases t2 : decide ((0 : Int) ≤ k) with
    | false =>
      rw [Bool.false_and]
      refine spec_intro [] _ Tryz.func81 rfl Tryz.ntmps81 (by rfl) (fun w0 R => ?_)
      refine ok_learn (VwIn.slice (VwIn.here hv)) ?_
      rintro ⟨pv, cv, rfl⟩
      repeat' (first | (refine go_Y ?_; intros) | (refine gs_Y ?_ ?_ <;> (intro hgd; try (simp only [bn] at hgd))) | (refine gc_Y ?_ ?_ <;> intro _) | fail)
      refine cl_Y (hm) ?_
      intro _ _
      repeat' (first | (refine go_Y ?_; intros) | (refine gs_Y ?_ ?_ <;> (intro hgd; try (simp only [bn] at hgd))) | (refine gc_Y ?_ ?_ <;> intro _) | fail)
      (refine rt_Y (y := ()) (hrs := Tryz.results81) (hv := ?_) (hφ := ?_))
      · rfl
      · trivial
    | true =>
      rw [Bool.true_and]
      refine spec_intro [] _ Tryz.func81 rfl Tryz.ntmps81 (by rfl) (fun w0 R => ?_)
      refine ok_learn (VwIn.slice (VwIn.here hv)) ?_
      rintro ⟨pv, cv, rfl⟩
      repeat' (first | (refine go_Y ?_; intros) | (refine gs_Y ?_ ?_ <;> (intro hgd; try (simp only [bn] at hgd))) | (refine gc_Y ?_ ?_ <;> intro _) | fail)
      refine cl_Y (hm) ?_
      intro _ _
      repeat' (first | (refine go_Y ?_; intros) | (refine gs_Y ?_ ?_ <;> (intro hgd; try (simp only [bn] at hgd))) | (refine gc_Y ?_ ?_ <;> intro _) | fail)
      (refine rt_Y (y := ()) (hrs := Tryz.results81) (hv := ?_) (hφ := ?_))
      · rfl
      · trivial
theorem check_nul {v : Vl} (h : checkV v = true) : decide (v = nul) = decide (v.kind = 0) := by
  rw [Bool.eq_iff_iff]
  simp only [decide_eq_true_eq]
  constructor
  · rintro rfl; rfl
  · intro hk
    unfold checkV wantV at h
    rw [if_pos hk] at h
    simp only [Bool.and_eq_true, decide_eq_true_eq] at h
    exact h.1
set_option maxHeartbeats 2000000 in
theorem fits13_spec (c : Co) (v : Vl) (A : HProp) (hA : UT A) (hw : v.wf) : FSpec Tryz.prog 82 [.agg (coV c).toArray, .agg (valV v).toArray] [A] Unit (fun _ => True) (fun _ => .bool (fitsC c v)) (fun _ => [A]) := by
  have hv := may04_spec v A hA hw
  unfold fitsC
  cases hc : checkV v with
  | false =>
    rw [hc] at hv
    obtain ⟨cn, ck, cb⟩ := c
    obtain ⟨k, i, r, s⟩ := v
    dsimp only [coV, valV, nul] at hv ⊢
    rw [Bool.false_and]
    refine spec_intro [] _ Tryz.func82 rfl Tryz.ntmps82 (by rfl) (fun w0 R => ?_)
    repeat' (first | (refine go_Y ?_; intros) | (refine gs_Y ?_ ?_ <;> (intro hgd; try (simp only [bn] at hgd))) | (refine gc_Y ?_ ?_ <;> intro _) | fail)
    refine cl_Y (hv) ?_
    intro _ _
    repeat' (first | (refine go_Y ?_; intros) | (refine gs_Y ?_ ?_ <;> (intro hgd; try (simp only [bn] at hgd))) | (refine gc_Y ?_ ?_ <;> intro _) | fail)
    (refine rt_Y (y := ()) (hrs := Tryz.results82) (hv := ?_) (hφ := ?_))
    · rfl
    · trivial
  | true =>
    rw [check_nul hc, Bool.true_and]
    rw [hc] at hv
    obtain ⟨cn, ck, cb⟩ := c
    obtain ⟨k, i, r, s⟩ := v
    dsimp only [coV, valV, nul] at hv ⊢
    cases hk : decide (k = ck) with
    | true =>
      rw [Bool.true_or]
      refine spec_intro [] _ Tryz.func82 rfl Tryz.ntmps82 (by rfl) (fun w0 R => ?_)
      repeat' (first | (refine go_Y ?_; intros) | (refine gs_Y ?_ ?_ <;> (intro hgd; try (simp only [bn] at hgd))) | (refine gc_Y ?_ ?_ <;> intro _) | fail)
      refine cl_Y (hv) ?_
      intro _ _
      repeat' (first | (refine go_Y ?_; intros) | (refine gs_Y ?_ ?_ <;> (intro hgd; try (simp only [bn] at hgd))) | (refine gc_Y ?_ ?_ <;> intro _) | fail)
      (refine rt_Y (y := ()) (hrs := Tryz.results82) (hv := ?_) (hφ := ?_))
      · rfl
      · trivial
    | false =>
      rw [Bool.false_or]
      cases cb with
      | false =>
        rw [Bool.false_and]
        refine spec_intro [] _ Tryz.func82 rfl Tryz.ntmps82 (by rfl) (fun w0 R => ?_)
        repeat' (first | (refine go_Y ?_; intros) | (refine gs_Y ?_ ?_ <;> (intro hgd; try (simp only [bn] at hgd))) | (refine gc_Y ?_ ?_ <;> intro _) | fail)
        refine cl_Y (hv) ?_
        intro _ _
        repeat' (first | (refine go_Y ?_; intros) | (refine gs_Y ?_ ?_ <;> (intro hgd; try (simp only [bn] at hgd))) | (refine gc_Y ?_ ?_ <;> intro _) | fail)
        (refine rt_Y (y := ()) (hrs := Tryz.results82) (hv := ?_) (hφ := ?_))
        · rfl
        · trivial
      | true =>
        rw [Bool.true_and]
        refine spec_intro [] _ Tryz.func82 rfl Tryz.ntmps82 (by rfl) (fun w0 R => ?_)
        repeat' (first | (refine go_Y ?_; intros) | (refine gs_Y ?_ ?_ <;> (intro hgd; try (simp only [bn] at hgd))) | (refine gc_Y ?_ ?_ <;> intro _) | fail)
        refine cl_Y (hv) ?_
        intro _ _
        repeat' (first | (refine go_Y ?_; intros) | (refine gs_Y ?_ ?_ <;> (intro hgd; try (simp only [bn] at hgd))) | (refine gc_Y ?_ ?_ <;> intro _) | fail)
        (refine rt_Y (y := ()) (hrs := Tryz.results82) (hv := ?_) (hφ := ?_))
        · rfl
        · trivial
set_option maxHeartbeats 4000000 in
theorem row13_spec (k : Int) (l : List Vl) (vs w : Value) (ts : List Tb) (A : HProp) (hvc : vs.oneCell' = true) (h : SV A vs ts) (hA : UT A) (hw : Vw A 4 w (l.map valV)) (hwf : ∀ v ∈ l, v.wf) :
    FSpec Tryz.prog 109 [.agg #[vs], .int .i64 k, w] [A] Unit (fun _ => True) (fun _ => .bool (rowS (ts.map Tb.c) k l)) (fun _ => [A]) := by
  have hs := has13_spec k vs ts A hvc h
  have hv := h.vw
  have hlm : (l.map valV).length = l.length := by simp
  generalize hT : rowS (ts.map Tb.c) k l = T
  unfold rowS at hT
  cases hc : hasS (ts.map Tb.c) k with
  | false =>
    rw [hc] at hs
    obtain rfl : T = false := by rw [← hT, hc, Bool.false_and]
    refine spec_intro [] _ Tryz.func109 rfl Tryz.ntmps109 (by rfl) (fun w0 R => ?_)
    refine ok_learn (VwIn.slice (VwIn.here hv)) ?_
    rintro ⟨pv, cv', rfl⟩
    repeat' (first | (refine go_Y ?_; intros) | (refine gs_Y ?_ ?_ <;> (intro hgd; try (simp only [bn] at hgd))) | (refine gc_Y ?_ ?_ <;> intro _) | fail)
    refine cl_Y (hs) ?_
    intro _ _
    repeat' (first | (refine go_Y ?_; intros) | (refine gs_Y ?_ ?_ <;> (intro hgd; try (simp only [bn] at hgd))) | (refine gc_Y ?_ ?_ <;> intro _) | fail)
    (refine rt_Y (y := ()) (hrs := Tryz.results109) (hv := ?_) (hφ := ?_))
    · rfl
    · trivial
  | true =>
    rw [hc] at hs
    obtain ⟨m, t, rfl, ht, hx, hm, hta, hok, hmem⟩ := hasS_tb hc
    have htb := h.tab t hmem
    rw [hc, hta, Bool.true_and] at hT
    obtain ⟨tn, cols, ⟨cv, hcv⟩, key, ref, par⟩ := t
    have htw := htb.vw
    have hl8 := hok.len
    dsimp only [tbV, Tb.c] at hx hT htw hl8
    have hcm : (cols.map coV).length = cols.length := by simp
    refine spec_intro [] _ Tryz.func109 rfl Tryz.ntmps109 (by rfl) (fun w0 R => ?_)
    refine ok_learn (VwIn.slice (VwIn.here hv)) ?_
    rintro ⟨pv, cv', rfl⟩
    refine ok_learn (VwIn.base (VwIn.here hv) (by intro e; rw [e] at hm; simp at hm)) ?_
    rintro ⟨bu, ou, rfl⟩
    refine ok_learn (VwIn.slice (VwIn.here htw)) ?_
    rintro ⟨pc, cc, rfl⟩
    refine ok_learn (VwIn.slice (VwIn.here hw)) ?_
    rintro ⟨pw, cw, rfl⟩
    cases n1 : (!decide (((l.map valV).length : Int) = ((cols.map coV).length : Int))) with
    | true =>
      obtain rfl : T = false := by
        rw [← hT]
        cases hf : fitsL cols l with
        | false => rfl
        | true => have := fitsL_len hf; simp at n1; omega
      repeat' (first | (refine go_Y ?_; intros) | (refine gs_Y ?_ ?_ <;> (intro hgd; try (simp only [bn] at hgd))) | (refine gc_Y ?_ ?_ <;> intro _) | fail)
      refine cl_Y (hs) ?_
      intro _ _
      repeat' (first | (refine go_Y ?_; intros) | (refine gs_Y ?_ ?_ <;> (intro hgd; try (simp only [bn] at hgd))) | (refine gc_Y ?_ ?_ <;> intro _) | fail)
      (refine rt_Y (y := ()) (hrs := Tryz.results109) (hv := ?_) (hφ := ?_))
      · rfl
      · trivial
    | false =>
      have hlen : l.length = cols.length := by simp at n1; omega
      repeat' (first | (refine go_Y ?_; intros) | (refine gs_Y ?_ ?_ <;> (intro hgd; try (simp only [bn] at hgd))) | (refine gc_Y ?_ ?_ <;> intro _) | fail)
      rename_i b1
      refine cl_Y (hs) ?_
      intro _ _
      repeat' (first | (refine go_Y ?_; intros) | (refine gs_Y ?_ ?_ <;> (intro hgd; try (simp only [bn] at hgd))) | (refine gc_Y ?_ ?_ <;> intro _) | fail)
      refine ok_map (L' := [pts b1 (.cells [.slice (some ⟨bu, ou, none⟩) (ts.map tbV).length cv'].toArray 24), A] ++ R) entD ?_
      refine ok_loop' (γ := Nat) (fun j ρ L => j ≤ cols.length ∧ fitsL cols l = fitsL (cols.drop j) (l.drop j) ∧ Knows ρ [(1, .int .i64 m), (2, .slice pw (l.map valV).length cw), (3, .pointer (some ⟨b1, 0, none⟩)), (7, .int .i64 j)] ∧ L = [pts b1 (.cells [.slice (some ⟨bu, ou, none⟩) (ts.map tbV).length cv'].toArray 24), A] ++ R) (fun j => cols.length - j)
        0 ⟨by omega, rfl, ⟨rfl, rfl, rfl, rfl, trivial⟩, rfl⟩ ?_
      rintro j ρ L ⟨hj, hfl, hk, rfl⟩
      refine ok_regs hk ?_
      cases t1 : decide ((j : Int) < ((l.map valV).length : Int)) with
      | false =>
        have hje : j = cols.length := by simp at t1; omega
        obtain rfl : T = true := by rw [← hT, hfl, hje, List.drop_length, ← hlen, List.drop_length]; rfl
        repeat' (first | (refine go_Y ?_; intros) | (refine gs_Y ?_ ?_ <;> (intro hgd; try (simp only [bn] at hgd))) | (refine gc_Y ?_ ?_ <;> intro _) | fail)
        (refine rt_Y (y := ()) (hrs := Tryz.results109) (hv := ?_) (hφ := ?_))
        · rfl
        · trivial
      | true =>
        have h0 : j < cols.length := by simp at t1; omega
        have hcj : cols[j]? = some cols[j] := List.getElem?_eq_getElem h0
        have hlj : l[j]? = some (l[j]'(by omega)) := List.getElem?_eq_getElem _
        have hx2 : (cols.map coV)[j]? = some (coV cols[j]) := by rw [List.getElem?_map, hcj]; rfl
        have hy : (l.map valV)[j]? = some (valV (l[j]'(by omega))) := by rw [List.getElem?_map, hlj]; rfl
        have hst := fitsL_step hcj hlj
        have hwj := hwf _ (List.mem_of_getElem? hlj)
        have hn1 : j < (cols.map coV).length := by omega
        have hn2 : j < (l.map valV).length := by omega
        generalize cols[j] = c at hx2 hst
        generalize l[j]'(by omega) = v at hy hst hwj
        have hf := fits13_spec c v A hA hwj
        refine ok_learn (VwIn.base (VwIn.there (VwIn.here htw)) (by intro e; rw [e] at hn1; simp at hn1)) ?_
        rintro ⟨bc, oc, rfl⟩
        refine ok_learn (VwIn.base (VwIn.there (VwIn.here hw)) (by intro e; rw [e] at hn2; simp at hn2)) ?_
        rintro ⟨bw, ow, rfl⟩
        dsimp only [coV, valV] at hx2 hy hf
        cases hb : fitsC c v with
        | false =>
          rw [hb] at hf hst
          obtain rfl : T = false := by rw [← hT, hfl, hst, Bool.false_and]
          repeat' (first | (refine go_Y ?_; intros) | (refine gs_Y ?_ ?_ <;> (intro hgd; try (simp only [bn] at hgd))) | (refine gc_Y ?_ ?_ <;> intro _) | fail)
          refine cl_Y (hf) ?_
          intro _ _
          repeat' (first | (refine go_Y ?_; intros) | (refine gs_Y ?_ ?_ <;> (intro hgd; try (simp only [bn] at hgd))) | (refine gc_Y ?_ ?_ <;> intro _) | fail)
          (refine rt_Y (y := ()) (hrs := Tryz.results109) (hv := ?_) (hφ := ?_))
          · rfl
          · trivial
        | true =>
          rw [hb] at hf hst
          rw [Bool.true_and] at hst
          repeat' (first | (refine go_Y ?_; intros) | (refine gs_Y ?_ ?_ <;> (intro hgd; try (simp only [bn] at hgd))) | (refine gc_Y ?_ ?_ <;> intro _) | fail)
          refine cl_Y (hf) ?_
          intro _ _
          repeat' (first | (refine go_Y ?_; intros) | (refine gs_Y ?_ ?_ <;> (intro hgd; try (simp only [bn] at hgd))) | (refine gc_Y ?_ ?_ <;> intro _) | fail)
          refine cont_map (L' := [pts b1 (.cells [.slice (some ⟨bu, ou, none⟩) (ts.map tbV).length cv'].toArray 24), A] ++ R) entD ?_
          refine cont_back (j + 1) ⟨h0, hfl.trans hst, ⟨rfl, rfl, rfl, rfl, trivial⟩, rfl⟩ (by omega)
set_option maxHeartbeats 2000000 in
theorem key13_spec (k : Int) (v : Vl) (vs : Value) (ts : List Tb) (A : HProp) (hvc : vs.oneCell' = true) (h : SV A vs ts) (hA : UT A) (hwf : v.wf) :
    FSpec Tryz.prog 49 [.agg #[vs], .int .i64 k, .agg (valV v).toArray] [A] Unit (fun _ => True) (fun _ => .bool (keyS (ts.map Tb.c) k v)) (fun _ => [A]) := by
  have hs := has13_spec k vs ts A hvc h
  have hv := h.vw
  unfold keyS
  cases hc : hasS (ts.map Tb.c) k with
  | false =>
    rw [hc] at hs
    rw [Bool.false_and]
    refine spec_intro [] _ Tryz.func49 rfl Tryz.ntmps49 (by rfl) (fun w0 R => ?_)
    repeat' (first | (refine go_Y ?_; intros) | (refine gs_Y ?_ ?_ <;> (intro hgd; try (simp only [bn] at hgd))) | (refine gc_Y ?_ ?_ <;> intro _) | fail)
    refine cl_Y (hs) ?_
    intro _ _
    repeat' (first | (refine go_Y ?_; intros) | (refine gs_Y ?_ ?_ <;> (intro hgd; try (simp only [bn] at hgd))) | (refine gc_Y ?_ ?_ <;> intro _) | fail)
    (refine rt_Y (y := ()) (hrs := Tryz.results49) (hv := ?_) (hφ := ?_))
    · rfl
    · trivial
  | true =>
    rw [hc] at hs
    rw [Bool.true_and]
    obtain ⟨m, t, rfl, ht, hx, hm, hta, hok, hmem⟩ := hasS_tb hc
    have htb := (h.tab t hmem).vw
    have k0 := hok.key0
    have kL := hok.keyL
    rw [hta]
    obtain ⟨tn, cols, ⟨cv, hcv⟩, key, ref, par⟩ := t
    dsimp only [tbV, Tb.c] at hx htb k0 kL ⊢
    obtain ⟨km, rfl⟩ : ∃ km : Nat, key = km := ⟨key.toNat, by omega⟩
    have hkm : km < cols.length := by omega
    have hnk : km < (cols.map coV).length := by rw [List.length_map]; exact hkm
    have hxk : (cols.map coV)[km]? = some (coV cols[km]) := by rw [List.getElem?_map, List.getElem?_eq_getElem hkm]; rfl
    rw [colAt_nat hkm]
    generalize cols[km] = c at hxk
    have hf := fits13_spec c v A hA hwf
    generalize fitsC c v = fb at hf
    obtain ⟨cn, ck, cb⟩ := c
    dsimp only [coV, valV] at hxk hf ⊢
    refine spec_intro [] _ Tryz.func49 rfl Tryz.ntmps49 (by rfl) (fun w0 R => ?_)
    refine ok_learn (VwIn.slice (VwIn.here hv)) ?_
    rintro ⟨pv, cv', rfl⟩
    refine ok_learn (VwIn.base (VwIn.here hv) (by intro e; rw [e] at hm; simp at hm)) ?_
    rintro ⟨bu, ou, rfl⟩
    refine ok_learn (VwIn.slice (VwIn.here htb)) ?_
    rintro ⟨pt, ct, rfl⟩
    refine ok_learn (VwIn.base (VwIn.here htb) (by intro e; rw [e] at hnk; simp at hnk)) ?_
    rintro ⟨bt, ot, rfl⟩
    repeat' (first | (refine go_Y ?_; intros) | (refine gs_Y ?_ ?_ <;> (intro hgd; try (simp only [bn] at hgd))) | (refine gc_Y ?_ ?_ <;> intro _) | fail)
    refine cl_Y (hs) ?_
    intro _ _
    repeat' (first | (refine go_Y ?_; intros) | (refine gs_Y ?_ ?_ <;> (intro hgd; try (simp only [bn] at hgd))) | (refine gc_Y ?_ ?_ <;> intro _) | fail)
    refine cl_Y (hf) ?_
    intro _ _
    repeat' (first | (refine go_Y ?_; intros) | (refine gs_Y ?_ ?_ <;> (intro hgd; try (simp only [bn] at hgd))) | (refine gc_Y ?_ ?_ <;> intro _) | fail)
    (refine rt_Y (y := ()) (hrs := Tryz.results49) (hv := ?_) (hφ := ?_))
    · rfl
    · trivial
end Go.Proofs.YtphaegcoldpclaaGreatDoor
