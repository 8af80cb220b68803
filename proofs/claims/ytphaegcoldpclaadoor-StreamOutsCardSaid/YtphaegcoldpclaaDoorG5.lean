/- Texts merged: QcQ QcA. -/
import Derived.Test.YtphaegcoldpclaaDoorSvE
set_option linter.unusedVariables false
set_option maxRecDepth 100000
namespace Go.Proofs.YtphaegcoldpclaaDoor
open Go Go.Fx Go.Proofs Go.Pl

theorem order_self (d : Ieee.Datum) : (d.order d == some Ordering.eq) = !d.isNaN := by
  cases d with
  | number s m i => simp [Ieee.Datum.order, Ieee.Datum.isNaN]
  | infinity s => cases s <;> rfl
  | nan s f => rfl
theorem nanB_nat (x : Nat) : (!Op.floatEq .f64 x x) = decide (9218868437227405312 < x % 9223372036854775808) := by
  have h0 : Op.floatEq .f64 x x = !(Ieee.double.read x).isNaN := order_self _
  rw [h0, Bool.not_not]
  have e1 : Ieee.double.signWeight = 9223372036854775808 := by decide
  have e2 : Ieee.double.infRung = 9218868437227405312 := by decide
  have e3 : Ieee.double.binade = 4503599627370496 := by decide
  unfold Ieee.Format.read
  rw [e1, e2, e3]
  dsimp only
  split
  · rw [show (Ieee.Datum.number _ _ _).isNaN = false from rfl]; symm; rw [decide_eq_false_iff_not]; omega
  · split
    · rw [show (Ieee.Datum.number _ _ _).isNaN = false from rfl]; symm; rw [decide_eq_false_iff_not]; omega
    · split
      · rw [show (Ieee.Datum.infinity _).isNaN = false from rfl]; symm; rw [decide_eq_false_iff_not]; omega
      · rw [show (Ieee.Datum.nan _ _).isNaN = true from rfl]; symm; rw [decide_eq_true_eq]; omega
theorem shr_val (n : Int) (k : Nat) (hk : k ≤ 64) : shiftOf .shr .u64 n (k : Int) = n / (2 ^ k : Int) := by
  show n.fdiv (2 ^ (min ((k : Int)).toNat (IntKind.u64).bits)) = _
  rw [Int.toNat_natCast, show (IntKind.u64).bits = 64 from rfl, Nat.min_eq_left hk]
  exact Int.fdiv_eq_ediv_of_nonneg _ (Int.le_of_lt (Int.pow_pos (by decide)))
def noneR (n : Int) : Bool := decide ((shiftOf .shr .u64 n 52).tmod 2048 = 2047) && !decide (n.tmod 4503599627370496 = 0)
theorem nan_ref {n : Int} (h0 : 0 ≤ n) (h1 : n ≤ 18446744073709551615) : nanB n = decide (9218868437227405312 < n % 9223372036854775808) := by
  unfold nanB
  rw [nanB_nat]
  rw [Bool.eq_iff_iff]; simp only [decide_eq_true_eq]; omega
theorem none_ref {n : Int} (h0 : 0 ≤ n) (h1 : n ≤ 18446744073709551615) : noneR n = nanB n := by
  rw [nan_ref h0 h1]
  unfold noneR
  have e := shr_val n 52 (by decide)
  rw [show ((52 : Nat) : Int) = 52 from rfl, show (2 : Int) ^ 52 = 4503599627370496 from by decide] at e
  rw [e, Int.tmod_eq_emod_of_nonneg (by omega), Int.tmod_eq_emod_of_nonneg h0]
  rw [Bool.eq_iff_iff]
  simp only [Bool.and_eq_true, decide_eq_true_eq, Bool.not_eq_true', decide_eq_false_iff_not]
  omega
def rankR (n : Int) : Int := if nanB n then 2 else if shiftOf .shr .u64 n 63 = 1 then 0 else 1
def lessR (c d : Int) : Bool := if rankR c = rankR d then (if rankR c = 0 then decide (d < c) else decide (c < d)) else decide (rankR c < rankR d)
def lessRf (a b : Vl) : Bool :=
  if a.kind = b.kind then (if a.int = b.int then (if keyR a.real < keyR b.real ∨ keyR b.real < keyR a.real then decide (keyR a.real < keyR b.real) else decide (Lib.compareBytes a.text.data.toList b.text.data.toList < 0)) else decide (a.int < b.int)) else decide (a.kind < b.kind)
end Go.Proofs.YtphaegcoldpclaaDoor
set_option linter.unusedSimpArgs false
set_option linter.unusedVariables false
set_option maxRecDepth 100000
namespace Go.Proofs.YtphaegcoldpclaaDoor
open Go Go.Fx Go.Proofs Go.Pl

theorem none03_spec (n : Int) : FSpec Tryd.prog 141 [.int .u64 n] [] Unit (fun _ => True) (fun _ => .bool (noneR n)) (fun _ => []) := by
  unfold noneR
  cases t1 : decide ((shiftOf .shr .u64 n 52).tmod 2048 = 2047) with
  | false =>
    rw [Bool.false_and]
    refine spec_intro [] _ Tryd.func141 rfl Tryd.ntmps141 (by rfl) (fun w0 R => ?_)
    repeat' (first | (refine go_Y ?_; intros) | (refine gs_Y ?_ ?_ <;> (intro hgd; try (simp only [Bool.not_true, Bool.not_false] at hgd))) | (refine gc_Y ?_ ?_ <;> intro _) | fail)
    (refine rt_Y (y := ()) (hrs := Tryd.results141) (hv := ?_) (hφ := ?_))
    · rfl
    · trivial
  | true =>
    rw [Bool.true_and]
    refine spec_intro [] _ Tryd.func141 rfl Tryd.ntmps141 (by rfl) (fun w0 R => ?_)
    repeat' (first | (refine go_Y ?_; intros) | (refine gs_Y ?_ ?_ <;> (intro hgd; try (simp only [Bool.not_true, Bool.not_false] at hgd))) | (refine gc_Y ?_ ?_ <;> intro _) | fail)
    (refine rt_Y (y := ()) (hrs := Tryd.results141) (hv := ?_) (hφ := ?_))
    · rfl
    · trivial
theorem canon03_spec (n : Int) (h0 : 0 ≤ n) (h1 : n ≤ 18446744073709551615) : FSpec Tryd.prog 131 [.int .u64 n] [] Unit (fun _ => True) (fun _ => .int .u64 (canonR n)) (fun _ => []) := by
  have hs := none03_spec n
  rw [none_ref h0 h1] at hs
  unfold canonR
  cases t1 : nanB n with
  | true =>
    rw [t1] at hs
    rw [if_pos rfl]
    refine spec_intro [] _ Tryd.func131 rfl Tryd.ntmps131 (by rfl) (fun w0 R => ?_)
    repeat' (first | (refine go_Y ?_; intros) | (refine gs_Y ?_ ?_ <;> (intro hgd; try (simp only [Bool.not_true, Bool.not_false] at hgd))) | (refine gc_Y ?_ ?_ <;> intro _) | fail)
    refine cl_Y (hs) ?_
    intro _ _
    repeat' (first | (refine go_Y ?_; intros) | (refine gs_Y ?_ ?_ <;> (intro hgd; try (simp only [Bool.not_true, Bool.not_false] at hgd))) | (refine gc_Y ?_ ?_ <;> intro _) | fail)
    (refine rt_Y (y := ()) (hrs := Tryd.results131) (hv := ?_) (hφ := ?_))
    · rfl
    · trivial
  | false =>
    rw [t1] at hs
    rw [if_neg (by simp)]
    refine spec_intro [] _ Tryd.func131 rfl Tryd.ntmps131 (by rfl) (fun w0 R => ?_)
    repeat' (first | (refine go_Y ?_; intros) | (refine gs_Y ?_ ?_ <;> (intro hgd; try (simp only [Bool.not_true, Bool.not_false] at hgd))) | (refine gc_Y ?_ ?_ <;> intro _) | fail)
    refine cl_Y (hs) ?_
    intro _ _
    repeat' (first | (refine go_Y ?_; intros) | (refine gs_Y ?_ ?_ <;> (intro hgd; try (simp only [Bool.not_true, Bool.not_false] at hgd))) | (refine gc_Y ?_ ?_ <;> intro _) | fail)
    (refine rt_Y (y := ()) (hrs := Tryd.results131) (hv := ?_) (hφ := ?_))
    · rfl
    · trivial
theorem int_bool {i : Int} (h0 : -9223372036854775808 ≤ i) (h1 : i ≤ 9223372036854775807) : (1 < IntKind.u64.wrap i) ↔ (i ≠ 0 ∧ i ≠ 1) := by
  have h : IntKind.u64.wrap i = i % 18446744073709551616 := rfl
  rw [h]; omega
set_option maxHeartbeats 2000000 in
theorem may04_spec (v : Vl) (A : HProp) (hA : UT A) (hw : v.wf) : FSpec Tryd.prog 119 [.agg (valV v).toArray] [A] Unit (fun _ => True) (fun _ => .bool (checkV v)) (fun _ => [A]) := by
  obtain ⟨k, i, r, s⟩ := v
  unfold checkV wantV
  dsimp only [valV]
  cases o0 : decide (k = 0) with
  | true =>
    rw [if_pos (of_decide_eq_true o0)]
    dsimp only
    have e0 : k = 0 := of_decide_eq_true o0
    subst e0
    have he := eqL_valV ⟨0, i, r, s⟩ ⟨0, 0, 0, ⟨#[]⟩⟩
    dsimp only [valV] at he
    cases hd : decide ((⟨0, i, r, s⟩ : Vl) = ⟨0, 0, 0, ⟨#[]⟩⟩) with
    | false =>
      rw [hd] at he
      have hq : nilB BinOp.eql (eqL [TypeDesc.int .u8, TypeDesc.int .i64, TypeDesc.int .u64, TypeDesc.string] [Value.int .u8 0, Value.int .i64 i, Value.int .u64 r, Value.string s] [Value.int .u8 0, Value.int .i64 0, Value.int .u64 0, Value.string ⟨#[]⟩]) = false := he
      rw [Bool.false_and]
      refine spec_intro [] _ Tryd.func119 rfl Tryd.ntmps119 (by rfl) (fun w0 R => ?_)
      repeat' (first | (refine go_Y ?_; intros) | (refine gs_Y ?_ ?_ <;> (intro hgd; try (simp only [Bool.not_true, Bool.not_false] at hgd))) | (refine gc_Y ?_ ?_ <;> intro _) | fail)
      (refine rt_Y (y := ()) (hrs := Tryd.results119) (hv := ?_) (hφ := ?_))
      · rfl
      · trivial
    | true =>
      rw [hd] at he
      have hq : nilB BinOp.eql (eqL [TypeDesc.int .u8, TypeDesc.int .i64, TypeDesc.int .u64, TypeDesc.string] [Value.int .u8 0, Value.int .i64 i, Value.int .u64 r, Value.string s] [Value.int .u8 0, Value.int .i64 0, Value.int .u64 0, Value.string ⟨#[]⟩]) = true := he
      rw [Bool.true_and]
      rw [show decide (s.size ≤ 100) = decide ((s.size : Int) ≤ 100) by rw [Bool.eq_iff_iff]; simp; omega]
      refine spec_intro [] _ Tryd.func119 rfl Tryd.ntmps119 (by rfl) (fun w0 R => ?_)
      repeat' (first | (refine go_Y ?_; intros) | (refine gs_Y ?_ ?_ <;> (intro hgd; try (simp only [Bool.not_true, Bool.not_false] at hgd))) | (refine gc_Y ?_ ?_ <;> intro _) | fail)
      (refine rt_Y (y := ()) (hrs := Tryd.results119) (hv := ?_) (hφ := ?_))
      · rfl
      · trivial
  | false =>
  rw [if_neg (of_decide_eq_false o0)]
  cases o1 : decide (k = 1) with
  | true =>
    rw [if_pos (of_decide_eq_true o1)]
    have e1 : k = 1 := of_decide_eq_true o1
    subst e1
    have hb := int_bool hw.i0 hw.i1
    dsimp only at hb
    cases u0 : decide (i = 0) with
    | true =>
      have e0 : i = 0 := of_decide_eq_true u0
      subst e0
      rw [if_neg (by rw [hb]; omega)]
      dsimp only
      have u0' : (!decide ((0 : Int) = 0)) = false := rfl
      have u1' : (!decide ((0 : Int) = 1)) = true := rfl
      have he := eqL_valV ⟨1, 0, r, s⟩ ⟨1, 0, 0, ⟨#[]⟩⟩
      dsimp only [valV] at he
      cases hd : decide ((⟨1, 0, r, s⟩ : Vl) = ⟨1, 0, 0, ⟨#[]⟩⟩) with
      | false =>
        rw [hd] at he
        have hq : nilB BinOp.eql (eqL [TypeDesc.int .u8, TypeDesc.int .i64, TypeDesc.int .u64, TypeDesc.string] [Value.int .u8 1, Value.int .i64 0, Value.int .u64 r, Value.string s] [Value.int .u8 1, Value.int .i64 0, Value.int .u64 0, Value.string ⟨#[]⟩]) = false := he
        rw [Bool.false_and]
        refine spec_intro [] _ Tryd.func119 rfl Tryd.ntmps119 (by rfl) (fun w0 R => ?_)
        repeat' (first | (refine go_Y ?_; intros) | (refine gs_Y ?_ ?_ <;> (intro hgd; try (simp only [Bool.not_true, Bool.not_false] at hgd))) | (refine gc_Y ?_ ?_ <;> intro _) | fail)
        (refine rt_Y (y := ()) (hrs := Tryd.results119) (hv := ?_) (hφ := ?_))
        · rfl
        · trivial
      | true =>
        rw [hd] at he
        have hq : nilB BinOp.eql (eqL [TypeDesc.int .u8, TypeDesc.int .i64, TypeDesc.int .u64, TypeDesc.string] [Value.int .u8 1, Value.int .i64 0, Value.int .u64 r, Value.string s] [Value.int .u8 1, Value.int .i64 0, Value.int .u64 0, Value.string ⟨#[]⟩]) = true := he
        rw [Bool.true_and]
        rw [show decide (s.size ≤ 100) = decide ((s.size : Int) ≤ 100) by rw [Bool.eq_iff_iff]; simp; omega]
        refine spec_intro [] _ Tryd.func119 rfl Tryd.ntmps119 (by rfl) (fun w0 R => ?_)
        repeat' (first | (refine go_Y ?_; intros) | (refine gs_Y ?_ ?_ <;> (intro hgd; try (simp only [Bool.not_true, Bool.not_false] at hgd))) | (refine gc_Y ?_ ?_ <;> intro _) | fail)
        (refine rt_Y (y := ()) (hrs := Tryd.results119) (hv := ?_) (hφ := ?_))
        · rfl
        · trivial
    | false =>
    have v0 : (!decide (i = 0)) = true := by rw [u0]; rfl
    cases u1 : decide (i = 1) with
    | true =>
      have e1 : i = 1 := of_decide_eq_true u1
      subst e1
      rw [if_neg (by rw [hb]; omega)]
      dsimp only
      have he := eqL_valV ⟨1, 1, r, s⟩ ⟨1, 1, 0, ⟨#[]⟩⟩
      dsimp only [valV] at he
      cases hd : decide ((⟨1, 1, r, s⟩ : Vl) = ⟨1, 1, 0, ⟨#[]⟩⟩) with
      | false =>
        rw [hd] at he
        have hq : nilB BinOp.eql (eqL [TypeDesc.int .u8, TypeDesc.int .i64, TypeDesc.int .u64, TypeDesc.string] [Value.int .u8 1, Value.int .i64 1, Value.int .u64 r, Value.string s] [Value.int .u8 1, Value.int .i64 1, Value.int .u64 0, Value.string ⟨#[]⟩]) = false := he
        rw [Bool.false_and]
        refine spec_intro [] _ Tryd.func119 rfl Tryd.ntmps119 (by rfl) (fun w0 R => ?_)
        repeat' (first | (refine go_Y ?_; intros) | (refine gs_Y ?_ ?_ <;> (intro hgd; try (simp only [Bool.not_true, Bool.not_false] at hgd))) | (refine gc_Y ?_ ?_ <;> intro _) | fail)
        (refine rt_Y (y := ()) (hrs := Tryd.results119) (hv := ?_) (hφ := ?_))
        · rfl
        · trivial
      | true =>
        rw [hd] at he
        have hq : nilB BinOp.eql (eqL [TypeDesc.int .u8, TypeDesc.int .i64, TypeDesc.int .u64, TypeDesc.string] [Value.int .u8 1, Value.int .i64 1, Value.int .u64 r, Value.string s] [Value.int .u8 1, Value.int .i64 1, Value.int .u64 0, Value.string ⟨#[]⟩]) = true := he
        rw [Bool.true_and]
        rw [show decide (s.size ≤ 100) = decide ((s.size : Int) ≤ 100) by rw [Bool.eq_iff_iff]; simp; omega]
        refine spec_intro [] _ Tryd.func119 rfl Tryd.ntmps119 (by rfl) (fun w0 R => ?_)
        repeat' (first | (refine go_Y ?_; intros) | (refine gs_Y ?_ ?_ <;> (intro hgd; try (simp only [Bool.not_true, Bool.not_false] at hgd))) | (refine gc_Y ?_ ?_ <;> intro _) | fail)
        (refine rt_Y (y := ()) (hrs := Tryd.results119) (hv := ?_) (hφ := ?_))
        · rfl
        · trivial
    | false =>
      have v1 : (!decide (i = 1)) = true := by rw [u1]; rfl
      rw [if_pos (by rw [hb]; exact ⟨of_decide_eq_false u0, of_decide_eq_false u1⟩)]
      refine spec_intro [] _ Tryd.func119 rfl Tryd.ntmps119 (by rfl) (fun w0 R => ?_)
      repeat' (first | (refine go_Y ?_; intros) | (refine gs_Y ?_ ?_ <;> (intro hgd; try (simp only [Bool.not_true, Bool.not_false] at hgd))) | (refine gc_Y ?_ ?_ <;> intro _) | fail)
      (refine rt_Y (y := ()) (hrs := Tryd.results119) (hv := ?_) (hφ := ?_))
      · rfl
      · trivial
  | false =>
  rw [if_neg (of_decide_eq_false o1)]
  cases o2 : decide (k = 2) with
  | true =>
    rw [if_pos (of_decide_eq_true o2)]
    dsimp only
    have e2 : k = 2 := of_decide_eq_true o2
    subst e2
    have he := eqL_valV ⟨2, i, r, s⟩ ⟨2, i, 0, ⟨#[]⟩⟩
    dsimp only [valV] at he
    cases hd : decide ((⟨2, i, r, s⟩ : Vl) = ⟨2, i, 0, ⟨#[]⟩⟩) with
    | false =>
      rw [hd] at he
      have hq : nilB BinOp.eql (eqL [TypeDesc.int .u8, TypeDesc.int .i64, TypeDesc.int .u64, TypeDesc.string] [Value.int .u8 2, Value.int .i64 i, Value.int .u64 r, Value.string s] [Value.int .u8 2, Value.int .i64 i, Value.int .u64 0, Value.string ⟨#[]⟩]) = false := he
      rw [Bool.false_and]
      refine spec_intro [] _ Tryd.func119 rfl Tryd.ntmps119 (by rfl) (fun w0 R => ?_)
      repeat' (first | (refine go_Y ?_; intros) | (refine gs_Y ?_ ?_ <;> (intro hgd; try (simp only [Bool.not_true, Bool.not_false] at hgd))) | (refine gc_Y ?_ ?_ <;> intro _) | fail)
      (refine rt_Y (y := ()) (hrs := Tryd.results119) (hv := ?_) (hφ := ?_))
      · rfl
      · trivial
    | true =>
      rw [hd] at he
      have hq : nilB BinOp.eql (eqL [TypeDesc.int .u8, TypeDesc.int .i64, TypeDesc.int .u64, TypeDesc.string] [Value.int .u8 2, Value.int .i64 i, Value.int .u64 r, Value.string s] [Value.int .u8 2, Value.int .i64 i, Value.int .u64 0, Value.string ⟨#[]⟩]) = true := he
      rw [Bool.true_and]
      rw [show decide (s.size ≤ 100) = decide ((s.size : Int) ≤ 100) by rw [Bool.eq_iff_iff]; simp; omega]
      refine spec_intro [] _ Tryd.func119 rfl Tryd.ntmps119 (by rfl) (fun w0 R => ?_)
      repeat' (first | (refine go_Y ?_; intros) | (refine gs_Y ?_ ?_ <;> (intro hgd; try (simp only [Bool.not_true, Bool.not_false] at hgd))) | (refine gc_Y ?_ ?_ <;> intro _) | fail)
      (refine rt_Y (y := ()) (hrs := Tryd.results119) (hv := ?_) (hφ := ?_))
      · rfl
      · trivial
  | false =>
  rw [if_neg (of_decide_eq_false o2)]
  cases o3 : decide (k = 3) with
  | true =>
    rw [if_pos (of_decide_eq_true o3)]
    dsimp only
    have e3 : k = 3 := of_decide_eq_true o3
    subst e3
    have hc := canon03_spec r hw.r0 hw.r1
    generalize canonR r = rc at hc ⊢
    have he := eqL_valV ⟨3, i, r, s⟩ ⟨3, 0, rc, ⟨#[]⟩⟩
    dsimp only [valV] at he
    cases hd : decide ((⟨3, i, r, s⟩ : Vl) = ⟨3, 0, rc, ⟨#[]⟩⟩) with
    | false =>
      rw [hd] at he
      have hq : nilB BinOp.eql (eqL [TypeDesc.int .u8, TypeDesc.int .i64, TypeDesc.int .u64, TypeDesc.string] [Value.int .u8 3, Value.int .i64 i, Value.int .u64 r, Value.string s] [Value.int .u8 3, Value.int .i64 0, Value.int .u64 rc, Value.string ⟨#[]⟩]) = false := he
      rw [Bool.false_and]
      refine spec_intro [] _ Tryd.func119 rfl Tryd.ntmps119 (by rfl) (fun w0 R => ?_)
      repeat' (first | (refine go_Y ?_; intros) | (refine gs_Y ?_ ?_ <;> (intro hgd; try (simp only [Bool.not_true, Bool.not_false] at hgd))) | (refine gc_Y ?_ ?_ <;> intro _) | fail)
      refine cl_Y (hc) ?_
      intro _ _
      repeat' (first | (refine go_Y ?_; intros) | (refine gs_Y ?_ ?_ <;> (intro hgd; try (simp only [Bool.not_true, Bool.not_false] at hgd))) | (refine gc_Y ?_ ?_ <;> intro _) | fail)
      (refine rt_Y (y := ()) (hrs := Tryd.results119) (hv := ?_) (hφ := ?_))
      · rfl
      · trivial
    | true =>
      rw [hd] at he
      have hq : nilB BinOp.eql (eqL [TypeDesc.int .u8, TypeDesc.int .i64, TypeDesc.int .u64, TypeDesc.string] [Value.int .u8 3, Value.int .i64 i, Value.int .u64 r, Value.string s] [Value.int .u8 3, Value.int .i64 0, Value.int .u64 rc, Value.string ⟨#[]⟩]) = true := he
      rw [Bool.true_and]
      rw [show decide (s.size ≤ 100) = decide ((s.size : Int) ≤ 100) by rw [Bool.eq_iff_iff]; simp; omega]
      refine spec_intro [] _ Tryd.func119 rfl Tryd.ntmps119 (by rfl) (fun w0 R => ?_)
      repeat' (first | (refine go_Y ?_; intros) | (refine gs_Y ?_ ?_ <;> (intro hgd; try (simp only [Bool.not_true, Bool.not_false] at hgd))) | (refine gc_Y ?_ ?_ <;> intro _) | fail)
      refine cl_Y (hc) ?_
      intro _ _
      repeat' (first | (refine go_Y ?_; intros) | (refine gs_Y ?_ ?_ <;> (intro hgd; try (simp only [Bool.not_true, Bool.not_false] at hgd))) | (refine gc_Y ?_ ?_ <;> intro _) | fail)
      (refine rt_Y (y := ()) (hrs := Tryd.results119) (hv := ?_) (hφ := ?_))
      · rfl
      · trivial
  | false =>
  rw [if_neg (of_decide_eq_false o3)]
  cases o5 : decide (k = 5) with
  | true =>
    rw [if_pos (of_decide_eq_true o5)]
    have e5 : k = 5 := of_decide_eq_true o5
    subst e5
    have hv := valid_spec s A hA (by have := hw.t; dsimp only at this; omega)
    cases u5 : validS s with
    | false =>
      rw [u5] at hv
      rw [if_neg (by simp)]
      refine spec_intro [] _ Tryd.func119 rfl Tryd.ntmps119 (by rfl) (fun w0 R => ?_)
      repeat' (first | (refine go_Y ?_; intros) | (refine gs_Y ?_ ?_ <;> (intro hgd; try (simp only [Bool.not_true, Bool.not_false] at hgd))) | (refine gc_Y ?_ ?_ <;> intro _) | fail)
      refine cl_Y (hv) ?_
      intro _ _
      repeat' (first | (refine go_Y ?_; intros) | (refine gs_Y ?_ ?_ <;> (intro hgd; try (simp only [Bool.not_true, Bool.not_false] at hgd))) | (refine gc_Y ?_ ?_ <;> intro _) | fail)
      (refine rt_Y (y := ()) (hrs := Tryd.results119) (hv := ?_) (hφ := ?_))
      · rfl
      · trivial
    | true =>
      rw [u5] at hv
      rw [if_pos rfl]
      dsimp only
      have he := eqL_valV ⟨5, i, r, s⟩ ⟨5, 0, 0, s⟩
      dsimp only [valV] at he
      cases hd : decide ((⟨5, i, r, s⟩ : Vl) = ⟨5, 0, 0, s⟩) with
      | false =>
        rw [hd] at he
        have hq : nilB BinOp.eql (eqL [TypeDesc.int .u8, TypeDesc.int .i64, TypeDesc.int .u64, TypeDesc.string] [Value.int .u8 5, Value.int .i64 i, Value.int .u64 r, Value.string s] [Value.int .u8 5, Value.int .i64 0, Value.int .u64 0, Value.string s]) = false := he
        rw [Bool.false_and]
        refine spec_intro [] _ Tryd.func119 rfl Tryd.ntmps119 (by rfl) (fun w0 R => ?_)
        repeat' (first | (refine go_Y ?_; intros) | (refine gs_Y ?_ ?_ <;> (intro hgd; try (simp only [Bool.not_true, Bool.not_false] at hgd))) | (refine gc_Y ?_ ?_ <;> intro _) | fail)
        refine cl_Y (hv) ?_
        intro _ _
        repeat' (first | (refine go_Y ?_; intros) | (refine gs_Y ?_ ?_ <;> (intro hgd; try (simp only [Bool.not_true, Bool.not_false] at hgd))) | (refine gc_Y ?_ ?_ <;> intro _) | fail)
        (refine rt_Y (y := ()) (hrs := Tryd.results119) (hv := ?_) (hφ := ?_))
        · rfl
        · trivial
      | true =>
        rw [hd] at he
        have hq : nilB BinOp.eql (eqL [TypeDesc.int .u8, TypeDesc.int .i64, TypeDesc.int .u64, TypeDesc.string] [Value.int .u8 5, Value.int .i64 i, Value.int .u64 r, Value.string s] [Value.int .u8 5, Value.int .i64 0, Value.int .u64 0, Value.string s]) = true := he
        rw [Bool.true_and]
        rw [show decide (s.size ≤ 100) = decide ((s.size : Int) ≤ 100) by rw [Bool.eq_iff_iff]; simp; omega]
        refine spec_intro [] _ Tryd.func119 rfl Tryd.ntmps119 (by rfl) (fun w0 R => ?_)
        repeat' (first | (refine go_Y ?_; intros) | (refine gs_Y ?_ ?_ <;> (intro hgd; try (simp only [Bool.not_true, Bool.not_false] at hgd))) | (refine gc_Y ?_ ?_ <;> intro _) | fail)
        refine cl_Y (hv) ?_
        intro _ _
        repeat' (first | (refine go_Y ?_; intros) | (refine gs_Y ?_ ?_ <;> (intro hgd; try (simp only [Bool.not_true, Bool.not_false] at hgd))) | (refine gc_Y ?_ ?_ <;> intro _) | fail)
        (refine rt_Y (y := ()) (hrs := Tryd.results119) (hv := ?_) (hφ := ?_))
        · rfl
        · trivial
  | false =>
  rw [if_neg (of_decide_eq_false o5)]
  cases o4 : decide (k = 4) with
  | true =>
    rw [if_pos (of_decide_eq_true o4)]
    dsimp only
    have e4 : k = 4 := of_decide_eq_true o4
    subst e4
    have he := eqL_valV ⟨4, i, r, s⟩ ⟨4, 0, 0, s⟩
    dsimp only [valV] at he
    cases hd : decide ((⟨4, i, r, s⟩ : Vl) = ⟨4, 0, 0, s⟩) with
    | false =>
      rw [hd] at he
      have hq : nilB BinOp.eql (eqL [TypeDesc.int .u8, TypeDesc.int .i64, TypeDesc.int .u64, TypeDesc.string] [Value.int .u8 4, Value.int .i64 i, Value.int .u64 r, Value.string s] [Value.int .u8 4, Value.int .i64 0, Value.int .u64 0, Value.string s]) = false := he
      rw [Bool.false_and]
      refine spec_intro [] _ Tryd.func119 rfl Tryd.ntmps119 (by rfl) (fun w0 R => ?_)
      repeat' (first | (refine go_Y ?_; intros) | (refine gs_Y ?_ ?_ <;> (intro hgd; try (simp only [Bool.not_true, Bool.not_false] at hgd))) | (refine gc_Y ?_ ?_ <;> intro _) | fail)
      (refine rt_Y (y := ()) (hrs := Tryd.results119) (hv := ?_) (hφ := ?_))
      · rfl
      · trivial
    | true =>
      rw [hd] at he
      have hq : nilB BinOp.eql (eqL [TypeDesc.int .u8, TypeDesc.int .i64, TypeDesc.int .u64, TypeDesc.string] [Value.int .u8 4, Value.int .i64 i, Value.int .u64 r, Value.string s] [Value.int .u8 4, Value.int .i64 0, Value.int .u64 0, Value.string s]) = true := he
      rw [Bool.true_and]
      rw [show decide (s.size ≤ 100) = decide ((s.size : Int) ≤ 100) by rw [Bool.eq_iff_iff]; simp; omega]
      refine spec_intro [] _ Tryd.func119 rfl Tryd.ntmps119 (by rfl) (fun w0 R => ?_)
      repeat' (first | (refine go_Y ?_; intros) | (refine gs_Y ?_ ?_ <;> (intro hgd; try (simp only [Bool.not_true, Bool.not_false] at hgd))) | (refine gc_Y ?_ ?_ <;> intro _) | fail)
      (refine rt_Y (y := ()) (hrs := Tryd.results119) (hv := ?_) (hφ := ?_))
      · rfl
      · trivial
  | false =>
  rw [if_neg (of_decide_eq_false o4)]
  refine spec_intro [] _ Tryd.func119 rfl Tryd.ntmps119 (by rfl) (fun w0 R => ?_)
  repeat' (first | (refine go_Y ?_; intros) | (refine gs_Y ?_ ?_ <;> (intro hgd; try (simp only [Bool.not_true, Bool.not_false] at hgd))) | (refine gc_Y ?_ ?_ <;> intro _) | fail)
  (refine rt_Y (y := ()) (hrs := Tryd.results119) (hv := ?_) (hφ := ?_))
  · rfl
  · trivial
end Go.Proofs.YtphaegcoldpclaaDoor
