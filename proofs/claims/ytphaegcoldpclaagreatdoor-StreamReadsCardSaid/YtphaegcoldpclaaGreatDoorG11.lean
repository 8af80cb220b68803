/- Texts merged: SrA SrB SrC SrD. -/
import Derived.Test.YtphaegcoldpclaaGreatDoorG10
set_option linter.unusedSimpArgs false
set_option linter.unusedVariables false
set_option maxRecDepth 100000
namespace Go.Proofs.YtphaegcoldpclaaGreatDoor
open Go Go.Fx Go.Proofs Go.Pl

theorem value05_spec (s : BA) (h8 : s.size ≤ 8) : FSpec Tryz.prog 105 [.string s] [] Unit (fun _ => True) (fun _ => .int .u64 (valB s)) (fun _ => []) := by
  have hll : s.data.toList.length = s.size := by rw [Array.length_toList]; rfl
  refine spec_intro [] _ Tryz.func105 rfl Tryz.ntmps105 (by rfl) (fun w0 R => ?_)
  repeat' (first | (refine go_Y ?_; intros) | (refine gs_Y ?_ ?_ <;> (intro hgd; try (simp only [bn] at hgd))) | (refine gc_Y ?_ ?_ <;> intro _) | fail)
  refine ok_loop' (γ := Nat) (fun k ρ L => k ≤ s.size ∧ Knows ρ [(0, .string s), (3, .int .u64 ((valN (s.data.toList.drop k) : Nat) : Int)), (4, .int .i64 ((k : Int) - 1))] ∧ L = [] ++ R) (fun k => k) s.size ⟨Nat.le_refl _, ⟨rfl, by rw [List.drop_of_length_le (by omega)]; rfl, rfl, trivial⟩, rfl⟩ ?_
  rintro k ρ L ⟨hk0, hk, rfl⟩
  refine ok_regs hk ?_
  cases k with
  | zero =>
    have t1 : decide ((0 : Int) ≤ ((0 : Nat) : Int) - 1) = false := by decide
    repeat' (first | (refine go_Y ?_; intros) | (refine gs_Y ?_ ?_ <;> (intro hgd; try (simp only [bn] at hgd))) | (refine gc_Y ?_ ?_ <;> intro _) | fail)
    (refine rt_Y (y := ()) (hrs := Tryz.results105) (hv := ?_) (hφ := ?_))
    · rfl
    · trivial
  | succ k =>
    rw [show (((k + 1 : Nat) : Int) - 1) = (k : Int) by omega]
    have t1 : decide ((0 : Int) ≤ (k : Int)) = true := by rw [decide_eq_true_eq]; omega
    obtain ⟨c, hc⟩ : ∃ c, s.data.toList[k]? = some c := ⟨_, List.getElem?_eq_getElem (by omega)⟩
    have hdr : s.data.toList.drop k = c :: s.data.toList.drop (k + 1) := by
      have hk1 : k < s.data.toList.length := by omega
      rw [List.drop_eq_getElem_cons hk1]
      rw [List.getElem?_eq_getElem hk1] at hc
      cases hc; rfl
    have hlt := valN_lt (s.data.toList.drop (k + 1))
    rw [List.length_drop, hll] at hlt
    have h7 : (256 : Nat) ^ (s.size - (k + 1)) ≤ 256 ^ 7 := Nat.pow_le_pow_right (by decide) (by omega)
    have h7' : (256 : Nat) ^ 7 = 72057594037927936 := by decide
    have hc8 := c.toNat_lt
    have hst : valN (s.data.toList.drop k) = c.toNat + 256 * valN (s.data.toList.drop (k + 1)) := by rw [hdr]; rfl
    generalize valN (s.data.toList.drop (k + 1)) = x at hlt hst
    have hw1 : IntKind.u64.wrap (arith BinOp.mul 256 (x : Int)) = 256 * (x : Int) := u64_eq (x := 256 * (x : Int)) (by omega) (by omega)
    have hw2 : IntKind.u64.wrap (arith BinOp.add (256 * (x : Int)) (c.toNat : Int)) = 256 * (x : Int) + c.toNat := u64_eq (x := 256 * (x : Int) + c.toNat) (by omega) (by omega)
    have hst2 : 256 * (x : Int) + c.toNat = ((valN (s.data.toList.drop k) : Nat) : Int) := by rw [hst]; omega
    have hw3 : IntKind.u64.wrap (c.toNat : Int) = (c.toNat : Int) := u64_eq (by omega) (by omega)
    repeat' (first | (refine go_Y ?_; intros) | (refine gs_Y ?_ ?_ <;> (intro hgd; try (simp only [bn] at hgd))) | (refine gc_Y ?_ ?_ <;> intro _) | fail)
    rw [hw1, hw2, hst2]
    refine cont_back k ⟨by omega, ⟨rfl, rfl, rfl, trivial⟩, rfl⟩ (by omega)
theorem fits20_spec (m : Int) (qs : List Int) (vs uq : Value) (ts : List Tb) (A B : HProp) (hA : Vw A 5 vs (ts.map tbV)) (hB : Vw B 1 uq (qs.map sqV)) (hl : qs.length ≤ 4611686018427387904) :
    FSpec Tryz.prog 71 [.agg #[vs], .agg #[.int .u64 m, uq]] [A, B] Unit (fun _ => True) (fun _ => .bool (fitsP ts.length m qs)) (fun _ => [A, B]) := by
  have l1 : (ts.map tbV).length = ts.length := by simp
  have l2 : (qs.map sqV).length = qs.length := by simp
  have hfp : fitsP ts.length m qs = (decide (((qs.map sqV).length : Int) = ((ts.map tbV).length : Int)) && (decide (m ≤ 4611686018427387904) && !qs.any fun x => decide (4611686018427387904 < x))) := by
    unfold fitsP
    congr 1
    rw [l1, l2, decide_eq_decide]; omega
  rw [hfp]
  clear hfp
  refine fspec_lrn (fun R hh s => (VwIn.slice (VwIn.here hA)) hh s) ?_
  rintro ⟨pv, cv, rfl⟩
  refine fspec_lrn (fun R hh s => (VwIn.slice (VwIn.there (VwIn.here hB))) hh s) ?_
  rintro ⟨pq, cq, rfl⟩
  generalize hT : (qs.any fun x => decide (4611686018427387904 < x)) = T
  refine spec_intro [] _ Tryz.func71 rfl Tryz.ntmps71 (by rfl) (fun w0 R => ?_)
  repeat' (first | (refine go_Y ?_; intros) | (refine gs_Y ?_ ?_ <;> (intro hgd; try (simp only [bn] at hgd))) | (refine gc_Y ?_ ?_ <;> intro _) | fail)
  rename_i b2 b3
  refine ok_map (L' := [A, B, pts b2 (.cells [.slice pv (ts.map tbV).length cv].toArray 24), pts b3 (.cells [.int .u64 m, .slice pq (qs.map sqV).length cq].toArray 72)] ++ R) entD ?_
  refine ok_loop' (γ := Nat) (fun j ρ L => j ≤ qs.length ∧ ((qs.take j).any fun x => decide (4611686018427387904 < x)) = false ∧ Knows ρ [(2, .pointer (some ⟨b2, 0, none⟩)), (3, .pointer (some ⟨b3, 0, none⟩)), (5, .int .i64 (j : Int))] ∧
      L = [A, B, pts b2 (.cells [.slice pv (ts.map tbV).length cv].toArray 24), pts b3 (.cells [.int .u64 m, .slice pq (qs.map sqV).length cq].toArray 72)] ++ R) (fun j => qs.length - j) 0 ⟨by omega, rfl, ⟨rfl, rfl, rfl, trivial⟩, rfl⟩ ?_
  rintro j ρ L ⟨hj, hal, hk, rfl⟩
  refine ok_regs hk ?_
  cases t1 : decide ((j : Int) < ((qs.map sqV).length : Int)) with
  | true =>
    have hj0 : j < qs.length := by rw [decide_eq_true_eq] at t1; omega
    have hx : (qs.map sqV)[j]? = some (sqV qs[j]) := by rw [List.getElem?_map, List.getElem?_eq_getElem hj0]; rfl
    have hjn : j < (qs.map sqV).length := by omega
    have hin : qs[j] ∈ qs := List.getElem_mem hj0
    have htk : qs.take (j + 1) = qs.take j ++ [qs[j]] := List.take_succ_eq_append_getElem hj0
    refine ok_learn (VwIn.base (n := 1) (p := pq) (len := (qs.map sqV).length) (cap := cq) (xs := qs.map sqV) (VwIn.there (VwIn.here hB)) (by intro e; rw [e] at hjn; simp at hjn)) ?_
    rintro ⟨bl, ol, rfl⟩
    generalize qs[j] = x at hx hin htk
    dsimp only [sqV] at hx
    cases c1 : decide (4611686018427387904 < x) with
    | true =>
      obtain rfl : T = true := by rw [← hT]; exact List.any_eq_true.2 ⟨x, hin, c1⟩
      have hb : ∀ a b : Bool, (a && (b && !true)) = false := by decide
      rw [hb]
      repeat' (first | (refine go_Y ?_; intros) | (refine gs_Y ?_ ?_ <;> (intro hgd; try (simp only [bn] at hgd))) | (refine gc_Y ?_ ?_ <;> intro _) | fail)
      (refine rt_Y (y := ()) (hrs := Tryz.results71) (hv := ?_) (hφ := ?_))
      · rfl
      · trivial
    | false =>
      repeat' (first | (refine go_Y ?_; intros) | (refine gs_Y ?_ ?_ <;> (intro hgd; try (simp only [bn] at hgd))) | (refine gc_Y ?_ ?_ <;> intro _) | fail)
      refine cont_map (L' := [A, B, pts b2 (.cells [.slice pv (ts.map tbV).length cv].toArray 24), pts b3 (.cells [.int .u64 m, .slice (some ⟨bl, ol, none⟩) (qs.map sqV).length cq].toArray 72)] ++ R) entD ?_
      refine cont_back (j + 1) ⟨hj0, by rw [htk, List.any_append, hal]; simp only [List.any_cons, List.any_nil, c1]; rfl, ⟨rfl, rfl, rfl, trivial⟩, rfl⟩ (by omega)
  | false =>
    have hje : j = qs.length := by rw [decide_eq_false_iff_not] at t1; omega
    subst hje
    rw [List.take_length, hT] at hal
    subst hal
    rw [Bool.not_false, Bool.and_true]
    cases c1 : decide (((qs.map sqV).length : Int) = ((ts.map tbV).length : Int)) with
    | false =>
      rw [Bool.false_and]
      repeat' (first | (refine go_Y ?_; intros) | (refine gs_Y ?_ ?_ <;> (intro hgd; try (simp only [bn] at hgd))) | (refine gc_Y ?_ ?_ <;> intro _) | fail)
      (refine rt_Y (y := ()) (hrs := Tryz.results71) (hv := ?_) (hφ := ?_))
      · rfl
      · trivial
    | true =>
      rw [Bool.true_and]
      repeat' (first | (refine go_Y ?_; intros) | (refine gs_Y ?_ ?_ <;> (intro hgd; try (simp only [bn] at hgd))) | (refine gc_Y ?_ ?_ <;> intro _) | fail)
      (refine rt_Y (y := ()) (hrs := Tryz.results71) (hv := ?_) (hφ := ?_))
      · rfl
      · trivial
theorem copy20_spec (m : Int) (qs : List Int) (uq : Value) (B : HProp) (hB : Vw B 1 uq (qs.map sqV)) (hl : qs.length ≤ 1000000) :
    FSpec Tryz.prog 72 [.agg #[.int .u64 m, uq]] [B] V1s (fun _ => True) (fun y => .agg #[.int .u64 m, y.1]) (fun y => [row 26 1 y.1 (qs.map sqV), B]) := by
  have l2 : (qs.map sqV).length = qs.length := by simp
  refine fspec_lrn (fun R hh s => (VwIn.slice (VwIn.here hB)) hh s) ?_
  rintro ⟨pq, cq, rfl⟩
  refine spec_intro [] _ Tryz.func72 rfl Tryz.ntmps72 (by rfl) (fun w0 R => ?_)
  refine ok_map (fun _ h => nilRow (e := 26) (n := 1) h) ?_
  repeat' (first | (refine go_Y ?_; intros) | (refine gs_Y ?_ ?_ <;> (intro hgd; try (simp only [bn] at hgd))) | (refine gc_Y ?_ ?_ <;> intro _) | fail)
  rename_i v' hv'
  rw [List.nil_append]
  (refine rt_Y (y := ⟨v', hv'⟩) (hrs := Tryz.results72) (hv := ?_) (hφ := ?_))
  · rfl
  · trivial
end Go.Proofs.YtphaegcoldpclaaGreatDoor
set_option linter.unusedSimpArgs false
set_option linter.unusedVariables false
set_option maxRecDepth 100000
namespace Go.Proofs.YtphaegcoldpclaaGreatDoor
open Go Go.Fx Go.Proofs Go.Pl

theorem sumTo_rng {l : List Int} {j : Nat} (h : ∀ x ∈ l.take j, 0 ≤ x ∧ x ≤ 200) : 0 ≤ sumTo l j ∧ sumTo l j ≤ 200 * (l.take j).length := by
  unfold sumTo
  generalize l.take j = k at h
  induction k with
  | nil => simp
  | cons a k ih =>
    have h1 := ih (fun x hx => h x (List.mem_cons_of_mem _ hx))
    have h2 := h a (List.mem_cons_self ..)
    rw [List.sum_cons, List.length_cons]
    omega
theorem mayMark16_spec (k tx : Int) (cs qs : List Int) (uc uq : Value) (A B : HProp) (hA : Vw A 1 uc (cs.map dpV)) (hB : Vw B 1 uq (qs.map sqV)) (z1 : cs.length ≤ 1000000) (z2 : qs.length ≤ 1000000) :
    FSpec Tryz.prog 106 [.agg #[.int .u8 k, .int .u64 tx, uc, uq]] [A, B] Unit (fun _ => True) (fun _ => .bool (mayMk k cs qs)) (fun _ => [A, B]) := by
  have lc : (cs.map dpV).length = cs.length := by simp
  have lq : (qs.map sqV).length = qs.length := by simp
  refine fspec_lrn (fun R hh s => (VwIn.slice (VwIn.here hA)) hh s) ?_
  rintro ⟨pc, cc, rfl⟩
  refine fspec_lrn (fun R hh s => (VwIn.slice (VwIn.there (VwIn.here hB))) hh s) ?_
  rintro ⟨pq, cq, rfl⟩
  have hm : mayMk k cs qs = ((decide (k = 1) || decide (k = 2)) && ((decide (1 ≤ qs.length) && (decide (qs.length ≤ 12) && decide ((cs.length : Int) = wantM k qs))) && sumOk cs 0)) := rfl
  generalize mayMk k cs qs = T at hm
  cases c1 : decide (((qs.map sqV).length : Int) < 1) with
  | true =>
    obtain rfl : T = false := by
      rw [hm, show decide (1 ≤ qs.length) = false by rw [decide_eq_true_eq] at c1; rw [decide_eq_false_iff_not]; omega]
      simp
    refine spec_intro [] _ Tryz.func106 rfl Tryz.ntmps106 (by rfl) (fun w0 R => ?_)
    repeat' (first | (refine go_Y ?_; intros) | (refine gs_Y ?_ ?_ <;> (intro hgd; try (simp only [bn] at hgd))) | (refine gc_Y ?_ ?_ <;> intro _) | fail)
    (refine rt_Y (y := ()) (hrs := Tryz.results106) (hv := ?_) (hφ := ?_))
    · rfl
    · trivial
  | false =>
  rw [show decide (1 ≤ qs.length) = true by rw [decide_eq_false_iff_not] at c1; rw [decide_eq_true_eq]; omega, Bool.true_and] at hm
  cases c2 : decide ((12 : Int) < ((qs.map sqV).length : Int)) with
  | true =>
    obtain rfl : T = false := by
      rw [hm, show decide (qs.length ≤ 12) = false by rw [decide_eq_true_eq] at c2; rw [decide_eq_false_iff_not]; omega]
      simp
    refine spec_intro [] _ Tryz.func106 rfl Tryz.ntmps106 (by rfl) (fun w0 R => ?_)
    repeat' (first | (refine go_Y ?_; intros) | (refine gs_Y ?_ ?_ <;> (intro hgd; try (simp only [bn] at hgd))) | (refine gc_Y ?_ ?_ <;> intro _) | fail)
    (refine rt_Y (y := ()) (hrs := Tryz.results106) (hv := ?_) (hφ := ?_))
    · rfl
    · trivial
  | false =>
  rw [show decide (qs.length ≤ 12) = true by rw [decide_eq_false_iff_not] at c2; rw [decide_eq_true_eq]; omega, Bool.true_and] at hm
  cases k1 : decide (k = 1) with
  | true =>
    obtain rfl : k = 1 := of_decide_eq_true k1
    obtain rfl : T = decide (((cs.map dpV).length : Int) = 0) := by
      rw [hm, lc]
      show (decide ((cs.length : Int) = 0) && sumOk cs 0) = _
      cases cs with
      | nil => rfl
      | cons a l => rw [show decide ((((a :: l).length : Nat) : Int) = 0) = false by rw [decide_eq_false_iff_not, List.length_cons]; omega]; rfl
    refine spec_intro [] _ Tryz.func106 rfl Tryz.ntmps106 (by rfl) (fun w0 R => ?_)
    repeat' (first | (refine go_Y ?_; intros) | (refine gs_Y ?_ ?_ <;> (intro hgd; try (simp only [bn] at hgd))) | (refine gc_Y ?_ ?_ <;> intro _) | fail)
    (refine rt_Y (y := ()) (hrs := Tryz.results106) (hv := ?_) (hφ := ?_))
    · rfl
    · trivial
  | false =>
  cases k2 : decide (k = 2) with
  | false =>
    obtain rfl : T = false := by rw [hm, k1, k2]; rfl
    have k3 : (!decide (k = 2)) = true := by rw [k2]; rfl
    refine spec_intro [] _ Tryz.func106 rfl Tryz.ntmps106 (by rfl) (fun w0 R => ?_)
    repeat' (first | (refine go_Y ?_; intros) | (refine gs_Y ?_ ?_ <;> (intro hgd; try (simp only [bn] at hgd))) | (refine gc_Y ?_ ?_ <;> intro _) | fail)
    (refine rt_Y (y := ()) (hrs := Tryz.results106) (hv := ?_) (hφ := ?_))
    · rfl
    · trivial
  | true =>
  obtain rfl : k = 2 := of_decide_eq_true k2
  have hw : wantM 2 qs = qs.length := rfl
  rw [hw, show (decide ((2 : Int) = 1) || decide ((2 : Int) = 2)) = true from rfl, Bool.true_and, ← lc, ← lq] at hm
  cases c4 : decide (((cs.map dpV).length : Int) = ((qs.map sqV).length : Int)) with
  | false =>
    obtain rfl : T = false := by rw [hm, c4]; rfl
    have c5 : (!decide (((cs.map dpV).length : Int) = ((qs.map sqV).length : Int))) = true := by rw [c4]; rfl
    refine spec_intro [] _ Tryz.func106 rfl Tryz.ntmps106 (by rfl) (fun w0 R => ?_)
    repeat' (first | (refine go_Y ?_; intros) | (refine gs_Y ?_ ?_ <;> (intro hgd; try (simp only [bn] at hgd))) | (refine gc_Y ?_ ?_ <;> intro _) | fail)
    (refine rt_Y (y := ()) (hrs := Tryz.results106) (hv := ?_) (hφ := ?_))
    · rfl
    · trivial
  | true =>
  have c5 : (!decide (((cs.map dpV).length : Int) = ((qs.map sqV).length : Int))) = false := by rw [c4]; rfl
  rw [c4, Bool.true_and] at hm
  have hcl : cs.length ≤ 12 := by rw [decide_eq_true_eq] at c4; rw [decide_eq_false_iff_not] at c2; omega
  refine spec_intro [] _ Tryz.func106 rfl Tryz.ntmps106 (by rfl) (fun w0 R => ?_)
  repeat' (first | (refine go_Y ?_; intros) | (refine gs_Y ?_ ?_ <;> (intro hgd; try (simp only [bn] at hgd))) | (refine gc_Y ?_ ?_ <;> intro _) | fail)
  rename_i b1
  refine ok_map (L' := [A, B, pts b1 (.cells [.int .u8 2, .int .u64 tx, .slice pc (cs.map dpV).length cc, .slice pq (qs.map sqV).length cq].toArray 75)] ++ R) entD ?_
  refine ok_loop' (γ := Nat) (fun j ρ L => j ≤ cs.length ∧ (∀ x ∈ cs.take j, 0 ≤ x ∧ x ≤ 200) ∧ Knows ρ [(1, .pointer (some ⟨b1, 0, none⟩)), (3, .int .i64 (sumTo cs j)), (4, .int .i64 (j : Int))] ∧
      L = [A, B, pts b1 (.cells [.int .u8 2, .int .u64 tx, .slice pc (cs.map dpV).length cc, .slice pq (qs.map sqV).length cq].toArray 75)] ++ R) (fun j => cs.length - j) 0 ⟨by omega, fun x hx => by simp at hx, ⟨rfl, rfl, rfl, trivial⟩, rfl⟩ ?_
  rintro j ρ L ⟨hj, hal, hk, rfl⟩
  refine ok_regs hk ?_
  obtain ⟨s0, s1⟩ := sumTo_rng hal
  have s2 : (cs.take j).length ≤ 12 := by rw [List.length_take]; omega
  cases t1 : decide ((j : Int) < ((cs.map dpV).length : Int)) with
  | true =>
    have hj0 : j < cs.length := by rw [decide_eq_true_eq] at t1; omega
    have hx : (cs.map dpV)[j]? = some (dpV cs[j]) := by rw [List.getElem?_map, List.getElem?_eq_getElem hj0]; rfl
    have hjn : j < (cs.map dpV).length := by omega
    have htk : cs.take (j + 1) = cs.take j ++ [cs[j]] := List.take_succ_eq_append_getElem hj0
    have hst := sumTo_step hj0
    have hin : cs[j] ∈ cs := List.getElem_mem hj0
    refine ok_learn (VwIn.base (n := 1) (p := pc) (len := (cs.map dpV).length) (cap := cc) (xs := cs.map dpV) (VwIn.here hA) (by intro e; rw [e] at hjn; simp at hjn)) ?_
    rintro ⟨bl, ol, rfl⟩
    generalize cs[j] = x at hx hst htk hin
    generalize sumTo cs j = sm at hst s0 s1
    dsimp only [dpV] at hx
    cases v1 : decide (x < 0) with
    | true =>
      obtain rfl : T = false := by
        rw [hm]
        cases ho : sumOk cs 0 with
        | false => rfl
        | true => have := ((sumOk_rng ho).2.2 x hin).1; have := of_decide_eq_true v1; omega
      repeat' (first | (refine go_Y ?_; intros) | (refine gs_Y ?_ ?_ <;> (intro hgd; try (simp only [bn] at hgd))) | (refine gc_Y ?_ ?_ <;> intro _) | fail)
      (refine rt_Y (y := ()) (hrs := Tryz.results106) (hv := ?_) (hφ := ?_))
      · rfl
      · trivial
    | false =>
    cases v2 : decide (200 < x) with
    | true =>
      obtain rfl : T = false := by
        rw [hm]
        cases ho : sumOk cs 0 with
        | false => rfl
        | true => have := ((sumOk_rng ho).2.2 x hin).2; have := of_decide_eq_true v2; omega
      repeat' (first | (refine go_Y ?_; intros) | (refine gs_Y ?_ ?_ <;> (intro hgd; try (simp only [bn] at hgd))) | (refine gc_Y ?_ ?_ <;> intro _) | fail)
      (refine rt_Y (y := ()) (hrs := Tryz.results106) (hv := ?_) (hφ := ?_))
      · rfl
      · trivial
    | false =>
      have x0 : 0 ≤ x := by have := of_decide_eq_false v1; omega
      have x1 : x ≤ 200 := by have := of_decide_eq_false v2; omega
      repeat' (first | (refine go_Y ?_; intros) | (refine gs_Y ?_ ?_ <;> (intro hgd; try (simp only [bn] at hgd))) | (refine gc_Y ?_ ?_ <;> intro _) | fail)
      rw [← hst]
      refine cont_map (L' := [A, B, pts b1 (.cells [.int .u8 2, .int .u64 tx, .slice (some ⟨bl, ol, none⟩) (cs.map dpV).length cc, .slice pq (qs.map sqV).length cq].toArray 75)] ++ R) entD ?_
      refine cont_back (j + 1) ⟨hj0, fun y hy => ?_, ⟨rfl, rfl, rfl, trivial⟩, rfl⟩ (by omega)
      rw [htk, List.mem_append, List.mem_singleton] at hy
      rcases hy with hy | rfl
      · exact hal y hy
      · exact ⟨x0, x1⟩
  | false =>
    have hje : j = cs.length := by rw [decide_eq_false_iff_not] at t1; omega
    subst hje
    rw [List.take_length] at hal
    have hse : sumTo cs cs.length = cs.sum := by unfold sumTo; rw [List.take_length]
    obtain rfl : T = decide (sumTo cs cs.length ≤ 200) := by
      rw [hm, hse]
      cases ho : decide (cs.sum ≤ 200) with
      | true => exact sumOk_of 0 (fun x hx => (hal x hx).1) (by have := of_decide_eq_true ho; omega)
      | false =>
        cases h2 : sumOk cs 0 with
        | false => rfl
        | true => have := (sumOk_rng h2).2.1; have := of_decide_eq_false ho; omega
    repeat' (first | (refine go_Y ?_; intros) | (refine gs_Y ?_ ?_ <;> (intro hgd; try (simp only [bn] at hgd))) | (refine gc_Y ?_ ?_ <;> intro _) | fail)
    (refine rt_Y (y := ()) (hrs := Tryz.results106) (hv := ?_) (hφ := ?_))
    · rfl
    · trivial
end Go.Proofs.YtphaegcoldpclaaGreatDoor
set_option linter.unusedSimpArgs false
set_option linter.unusedVariables false
set_option maxRecDepth 100000
namespace Go.Pl
open Go Go.Fx
theorem getMK_ne {s : BA} (h : ¬ s.size = 10 + 8 * nM s + 2 * cnM s) : getMK s = (mk0, 7) := by
  unfold getMK
  split
  · rfl
  · first | rfl | rw [if_neg h]
end Go.Pl
namespace Go.Proofs.YtphaegcoldpclaaGreatDoor
open Go Go.Fx Go.Proofs Go.Pl

set_option maxHeartbeats 16000000 in
theorem getMark16_spec (s : BA) (hs : s.size ≤ 1000000) :
    FSpec Tryz.prog 70 [.string s] [] (V1s × V1s) (fun _ => True) (fun y => .tuple #[.agg #[.int .u8 (getMK s).1.kind, .int .u64 (getMK s).1.tx, y.1.1, y.2.1], .int .i64 (getMK s).2])
      (fun y => [row 3 1 y.1.1 ((getMK s).1.counts.map dpV), row 26 1 y.2.1 ((getMK s).1.seqs.map sqV)]) := by
  cases hsz : decide ((s.size : Int) < 10) with
  | true =>
    rw [getMK_short (by have := of_decide_eq_true hsz; omega)]
    dsimp only [mk0, List.map_nil]
    refine spec_intro [] _ Tryz.func70 rfl Tryz.ntmps70 (by rfl) (fun w0 R => ?_)
    refine ok_map (fun _ h => nilRow (e := 3) (n := 1) (nilRow (e := 26) (n := 1) h)) ?_
    repeat' (first | (refine go_Y ?_; intros) | (refine gs_Y ?_ ?_ <;> (intro hgd; try (simp only [bn] at hgd))) | (refine gc_Y ?_ ?_ <;> intro _) | fail)
    (refine rt_Y (y := (⟨.slice none 0 0, rfl⟩, ⟨.slice none 0 0, rfl⟩)) (hrs := Tryz.results70) (hv := ?_) (hφ := ?_))
    · rfl
    · trivial
  | false =>
  have hs10 : 10 ≤ s.size := by have := of_decide_eq_false hsz; omega
  have hll : s.data.toList.length = s.size := by rw [Array.length_toList]; rfl
  obtain ⟨c0, hc0⟩ : ∃ c, s.data.toList[0]? = some c := ⟨_, List.getElem?_eq_getElem (by omega)⟩
  obtain ⟨c9, hc9⟩ : ∃ c, s.data.toList[9]? = some c := ⟨_, List.getElem?_eq_getElem (by omega)⟩
  have hb0 : bI s 0 = (c0.toNat : Int) := by unfold bI; rw [hc0]; rfl
  have hn : nM s = c9.toNat := by unfold nM bI; rw [hc9]; rfl
  have hw9 : IntKind.i64.wrap (c9.toNat : Int) = (c9.toNat : Int) := i64_small (by omega) (by have := c9.toNat_lt; omega)
  have hn9 : c9.toNat ≤ 255 := by have := c9.toNat_lt; omega
  have hr1 : (0 : Int) ≤ 1 ∧ (1 : Int) ≤ 9 ∧ (9 : Int) ≤ (s.size : Int) := ⟨by omega, by omega, by omega⟩
  have hg0 := value05_spec (s.extract 1 9) (by rw [ByteArray.size_extract]; omega)
  refine spec_intro [] _ Tryz.func70 rfl Tryz.ntmps70 (by rfl) (fun w0 R => ?_)
  refine ok_map (fun _ h => nilRow (e := 3) (n := 1) (nilRow (e := 26) (n := 1) (nilRow (e := 3) (n := 1) (nilRow (e := 26) (n := 1) h)))) ?_
  repeat' (first | (refine go_Y ?_; intros) | (refine gs_Y ?_ ?_ <;> (intro hgd; try (simp only [bn] at hgd))) | (refine gc_Y ?_ ?_ <;> intro _) | fail)
  rename_i b2
  refine ok_meetE (γ := Nat) (fun b4 ρ L => Knows ρ [(0, .string s), (2, .pointer (some ⟨b2, 0, none⟩)), (4, .pointer (some ⟨b4, 0, none⟩))] ∧
      L = [pts b4 (.cells [.int .u8 (c0.toNat : Int), .int .u64 (valB (s.extract 1 9)), .slice none 0 0, .slice none 0 0].toArray 75), pts b2 (.cells [.int .u8 0, .int .u64 0, .slice none 0 0, .slice none 0 0].toArray 75), row 3 1 (.slice none 0 0) [], row 26 1 (.slice none 0 0) [], row 3 1 (.slice none 0 0) [], row 26 1 (.slice none 0 0) []] ++ R) ?_ ?_
  · refine ok_draw_node (cv := []) 3 [4, 6, 7] [] (by kernel_rfl) rfl (by decide +kernel) (by decide +kernel) (by decide +kernel) (takePre takeD) _ rfl ?_
    refine cont_node [] [(4, [2, 3, 4], [0, 1, 5, 6, 7]), (6, [6], [0, 1, 2, 3, 4, 5, 7])] rfl (by decide +kernel) ?_
    intro x hx
    simp only [List.mem_cons, List.not_mem_nil, or_false] at hx
    rcases hx with rfl | rfl
    · dsimp only [List.length_cons, List.length_nil]
      repeat' (first | (refine go_Y ?_; intros) | (refine gs_Y ?_ ?_ <;> (intro hgd; try (simp only [bn] at hgd))) | (refine gc_Y ?_ ?_ <;> intro _) | fail)
      refine clN_Y (hg0) ?_
      intro _ _
      repeat' (first | (refine go_Y ?_; intros) | (refine gs_Y ?_ ?_ <;> (intro hgd; try (simp only [bn] at hgd))) | (refine gc_Y ?_ ?_ <;> intro _) | fail)
      refine cont_node [] [(6, [6], [0, 1, 5, 7])] rfl (by decide +kernel) ?_
      intro x hx
      simp only [List.mem_cons, List.not_mem_nil, or_false] at hx
      subst hx
      · dsimp only [List.length_cons, List.length_nil]
        repeat' (first | (refine go_Y ?_; intros) | (refine gs_Y ?_ ?_ <;> (intro hgd; try (simp only [bn] at hgd))) | (refine gc_Y ?_ ?_ <;> intro _) | fail)
        rename_i b4
        refine cont_node [] [(7, [0, 1, 5, 7], [])] rfl (by decide +kernel) ?_
        intro x hx
        simp only [List.mem_cons, List.not_mem_nil, or_false] at hx
        subst hx
        · dsimp only [List.length_cons, List.length_nil]
          repeat' (first | (refine go_Y ?_; intros) | (refine gs_Y ?_ ?_ <;> (intro hgd; try (simp only [bn] at hgd))) | (refine gc_Y ?_ ?_ <;> intro _) | fail)
          refine cont_node0 (by decide +kernel) ?_
          repeat' (first | (refine go_Y ?_; intros) | (refine gs_Y ?_ ?_ <;> (intro hgd; try (simp only [bn] at hgd))) | (refine gc_Y ?_ ?_ <;> intro _) | fail)
          refine cont_map (L' := [pts b4 (.cells [.int .u8 (c0.toNat : Int), .int .u64 (valB (s.extract 1 9)), .slice none 0 0, .slice none 0 0].toArray 75), pts b2 (.cells [.int .u8 0, .int .u64 0, .slice none 0 0, .slice none 0 0].toArray 75), row 3 1 (.slice none 0 0) [], row 26 1 (.slice none 0 0) [], row 3 1 (.slice none 0 0) [], row 26 1 (.slice none 0 0) []] ++ R) entD ?_
          exact cont_meet b4 ⟨⟨rfl, rfl, rfl, trivial⟩, rfl⟩
    · dsimp only [List.length_cons, List.length_nil]
      repeat' (first | (refine go_Y ?_; intros) | (refine gs_Y ?_ ?_ <;> (intro hgd; try (simp only [bn] at hgd))) | (refine gc_Y ?_ ?_ <;> intro _) | fail)
      rename_i b4
      refine cont_node [] [(4, [2, 3, 4], [0, 1, 5, 7])] rfl (by decide +kernel) ?_
      intro x hx
      simp only [List.mem_cons, List.not_mem_nil, or_false] at hx
      subst hx
      · dsimp only [List.length_cons, List.length_nil]
        repeat' (first | (refine go_Y ?_; intros) | (refine gs_Y ?_ ?_ <;> (intro hgd; try (simp only [bn] at hgd))) | (refine gc_Y ?_ ?_ <;> intro _) | fail)
        refine clN_Y (hg0) ?_
        intro _ _
        repeat' (first | (refine go_Y ?_; intros) | (refine gs_Y ?_ ?_ <;> (intro hgd; try (simp only [bn] at hgd))) | (refine gc_Y ?_ ?_ <;> intro _) | fail)
        refine cont_node [] [(7, [0, 1, 5, 7], [])] rfl (by decide +kernel) ?_
        intro x hx
        simp only [List.mem_cons, List.not_mem_nil, or_false] at hx
        subst hx
        · dsimp only [List.length_cons, List.length_nil]
          repeat' (first | (refine go_Y ?_; intros) | (refine gs_Y ?_ ?_ <;> (intro hgd; try (simp only [bn] at hgd))) | (refine gc_Y ?_ ?_ <;> intro _) | fail)
          refine cont_node0 (by decide +kernel) ?_
          repeat' (first | (refine go_Y ?_; intros) | (refine gs_Y ?_ ?_ <;> (intro hgd; try (simp only [bn] at hgd))) | (refine gc_Y ?_ ?_ <;> intro _) | fail)
          refine cont_map (L' := [pts b4 (.cells [.int .u8 (c0.toNat : Int), .int .u64 (valB (s.extract 1 9)), .slice none 0 0, .slice none 0 0].toArray 75), pts b2 (.cells [.int .u8 0, .int .u64 0, .slice none 0 0, .slice none 0 0].toArray 75), row 3 1 (.slice none 0 0) [], row 26 1 (.slice none 0 0) [], row 3 1 (.slice none 0 0) [], row 26 1 (.slice none 0 0) []] ++ R) entD ?_
          exact cont_meet b4 ⟨⟨rfl, rfl, rfl, trivial⟩, rfl⟩
  rintro b4 ρ L ⟨hk, rfl⟩
  refine cont_regs hk ?_
  cases hk2 : decide ((c0.toNat : Int) = 2) with
  | true =>
    have hcn : cnM s = c9.toNat := by unfold cnM; rw [hb0]; exact if_pos (of_decide_eq_true hk2) |>.trans hn
    cases hsz2 : (!decide ((s.size : Int) = 10 + 8 * (c9.toNat : Int) + 2 * (c9.toNat : Int))) with
    | true =>
      rw [getMK_ne (by rw [hn, hcn]; rw [Bool.not_eq_true', decide_eq_false_iff_not] at hsz2; omega)]
      dsimp only [mk0, List.map_nil]
      repeat' (first | (refine go_Y ?_; intros) | (refine gs_Y ?_ ?_ <;> (intro hgd; try (simp only [bn] at hgd))) | (refine gc_Y ?_ ?_ <;> intro _) | fail)
      (refine rt_Y (y := (⟨.slice none 0 0, rfl⟩, ⟨.slice none 0 0, rfl⟩)) (hrs := Tryz.results70) (hv := ?_) (hφ := ?_))
      · rfl
      · trivial
    | false =>
      have hse : s.size = 10 + 8 * c9.toNat + 2 * c9.toNat := by rw [Bool.not_eq_false', decide_eq_true_eq] at hsz2; omega
      repeat' (first | (refine go_Y ?_; intros) | (refine gs_Y ?_ ?_ <;> (intro hgd; try (simp only [bn] at hgd))) | (refine gc_Y ?_ ?_ <;> intro _) | fail)
      refine ok_map (L' := [pts b4 (.cells [.int .u8 (c0.toNat : Int), .int .u64 (valB (s.extract 1 9)), .slice none 0 0, .slice none 0 0].toArray 75), row 3 1 (.slice none 0 0) [], row 26 1 (.slice none 0 0) [], pts b2 (.cells [.int .u8 0, .int .u64 0, .slice none 0 0, .slice none 0 0].toArray 75), row 3 1 (.slice none 0 0) [], row 26 1 (.slice none 0 0) []] ++ R) entD ?_
      refine ok_loop' (γ := Nat × V1s × V1s) (fun g ρ L => g.1 ≤ c9.toNat ∧ Knows ρ [(0, .string s), (2, .pointer (some ⟨b2, 0, none⟩)), (4, .pointer (some ⟨b4, 0, none⟩)), (5, .int .i64 (c9.toNat : Int)), (7, .int .i64 (g.1 : Int))] ∧
          L = [pts b4 (.cells [.int .u8 (c0.toNat : Int), .int .u64 (valB (s.extract 1 9)), g.2.1.1, g.2.2.1].toArray 75), row 3 1 g.2.1.1 ((csM s g.1).map dpV), row 26 1 g.2.2.1 ((qsM s g.1).map sqV), pts b2 (.cells [.int .u8 0, .int .u64 0, .slice none 0 0, .slice none 0 0].toArray 75), row 3 1 (.slice none 0 0) [], row 26 1 (.slice none 0 0) []] ++ R) (fun g => c9.toNat - g.1) (0, ⟨.slice none 0 0, rfl⟩, ⟨.slice none 0 0, rfl⟩) ⟨Nat.zero_le _, ⟨rfl, rfl, rfl, rfl, rfl, trivial⟩, rfl⟩ ?_
      rintro ⟨i, ⟨c, hc⟩, ⟨u, hu⟩⟩ ρ L ⟨hi, hk, rfl⟩
      dsimp only at hi hk ⊢
      refine ok_regs hk ?_
      cases v1 : decide ((i : Int) < (c9.toNat : Int)) with
      | true =>
        have hi0 : i < c9.toNat := by rw [decide_eq_true_eq] at v1; omega
        have hr3 : (0 : Int) ≤ 10 + 8 * (i : Int) ∧ 10 + 8 * (i : Int) ≤ 18 + 8 * (i : Int) ∧ 18 + 8 * (i : Int) ≤ (s.size : Int) := ⟨by omega, by omega, by omega⟩
        have hx8 : s.extract (10 + 8 * (i : Int)).toNat (18 + 8 * (i : Int)).toNat = s.extract (10 + 8 * i) (10 + 8 * i + 8) := by rw [show (10 + 8 * (i : Int)).toNat = 10 + 8 * i by omega, show (18 + 8 * (i : Int)).toNat = 10 + 8 * i + 8 by omega]
        have hg := value05_spec (s.extract (10 + 8 * (i : Int)).toNat (18 + 8 * (i : Int)).toNat) (by rw [hx8, ByteArray.size_extract]; omega)
        have hap : (qsM s i).map sqV ++ [(Value.int .u64 (valB (s.extract (10 + 8 * (i : Int)).toNat (18 + 8 * (i : Int)).toNat))).cells.toList] = (qsM s (i + 1)).map sqV := by rw [qsM_succ, List.map_append, hx8]; rfl
        have hql : (qsM s i).length ≤ 255 := by rw [qsM_len]; omega
        have hr4 : (0 : Int) ≤ 10 + 8 * (c9.toNat : Int) + 2 * (i : Int) ∧ 10 + 8 * (c9.toNat : Int) + 2 * (i : Int) ≤ 10 + 8 * (c9.toNat : Int) + 2 * (i : Int) + 2 ∧ 10 + 8 * (c9.toNat : Int) + 2 * (i : Int) + 2 ≤ (s.size : Int) := ⟨by omega, by omega, by omega⟩
        have hx9 : s.extract (10 + 8 * (c9.toNat : Int) + 2 * (i : Int)).toNat (10 + 8 * (c9.toNat : Int) + 2 * (i : Int) + 2).toNat = s.extract (10 + 8 * c9.toNat + 2 * i) (10 + 8 * c9.toNat + 2 * i + 2) := by rw [show (10 + 8 * (c9.toNat : Int) + 2 * (i : Int)).toNat = 10 + 8 * c9.toNat + 2 * i by omega, show (10 + 8 * (c9.toNat : Int) + 2 * (i : Int) + 2).toNat = 10 + 8 * c9.toNat + 2 * i + 2 by omega]
        have hz9 : (s.extract (10 + 8 * (c9.toNat : Int) + 2 * (i : Int)).toNat (10 + 8 * (c9.toNat : Int) + 2 * (i : Int) + 2).toNat).size = 2 := by rw [hx9, ByteArray.size_extract]; omega
        have hg9 := value05_spec (s.extract (10 + 8 * (c9.toNat : Int) + 2 * (i : Int)).toNat (10 + 8 * (c9.toNat : Int) + 2 * (i : Int) + 2).toNat) (by omega)
        obtain ⟨r1, r2⟩ := valB_rng _ 2 hz9
        have hw9 : IntKind.i64.wrap (valB (s.extract (10 + 8 * (c9.toNat : Int) + 2 * (i : Int)).toNat (10 + 8 * (c9.toNat : Int) + 2 * (i : Int) + 2).toNat)) = valB (s.extract (10 + 8 * (c9.toNat : Int) + 2 * (i : Int)).toNat (10 + 8 * (c9.toNat : Int) + 2 * (i : Int) + 2).toNat) := i64_small r1 (by omega)
        have hap9 : (csM s i).map dpV ++ [(Value.int .i64 (valB (s.extract (10 + 8 * (c9.toNat : Int) + 2 * (i : Int)).toNat (10 + 8 * (c9.toNat : Int) + 2 * (i : Int) + 2).toNat))).cells.toList] = (csM s (i + 1)).map dpV := by rw [csM_succ, List.map_append, hx9, hn]; rfl
        have hcl : (csM s i).length ≤ 255 := by rw [csM_len]; omega
        repeat' (first | (refine go_Y ?_; intros) | (refine gs_Y ?_ ?_ <;> (intro hgd; try (simp only [bn] at hgd))) | (refine gc_Y ?_ ?_ <;> intro _) | fail)
        (apply ok_draw [10, 11]; (focus (kernel_rfl)); (focus ((conv => lhs; whnf); first | done | rfl)); (focus (decide +kernel)); (focus (exact (fun _ h => h))))
        repeat' (first | (refine go_Y ?_; intros) | (refine gs_Y ?_ ?_ <;> (intro hgd; try (simp only [bn] at hgd))) | (refine gc_Y ?_ ?_ <;> intro _) | fail)
        refine clN_Y (hg) ?_
        intro _ _
        repeat' (first | (refine go_Y ?_; intros) | (refine gs_Y ?_ ?_ <;> (intro hgd; try (simp only [bn] at hgd))) | (refine gc_Y ?_ ?_ <;> intro _) | fail)
        rename_i v3 hv3 v4 hv4
        rw [hap]
        repeat' (first | (refine go_Y ?_; intros) | (refine gs_Y ?_ ?_ <;> (intro hgd; try (simp only [bn] at hgd))) | (refine gc_Y ?_ ?_ <;> intro _) | fail)
        (apply ok_draw [7, 9]; (focus (kernel_rfl)); (focus ((conv => lhs; whnf); first | done | rfl)); (focus (decide +kernel)); (focus (exact (fun _ h => h))))
        repeat' (first | (refine go_Y ?_; intros) | (refine gs_Y ?_ ?_ <;> (intro hgd; try (simp only [bn] at hgd))) | (refine gc_Y ?_ ?_ <;> intro _) | fail)
        refine clN_Y (hg9) ?_
        intro _ _
        repeat' (first | (refine go_Y ?_; intros) | (refine gs_Y ?_ ?_ <;> (intro hgd; try (simp only [bn] at hgd))) | (refine gc_Y ?_ ?_ <;> intro _) | fail)
        rename_i v5 hv5 v6 hv6
        rw [hap9]
        refine cont_map (L' := [pts b4 (.cells [.int .u8 (c0.toNat : Int), .int .u64 (valB (s.extract 1 9)), v6, v4].toArray 75), row 3 1 v6 ((csM s (i + 1)).map dpV), row 26 1 v4 ((qsM s (i + 1)).map sqV), pts b2 (.cells [.int .u8 0, .int .u64 0, .slice none 0 0, .slice none 0 0].toArray 75), row 3 1 (.slice none 0 0) [], row 26 1 (.slice none 0 0) []] ++ R) entD ?_
        refine cont_back (i + 1, ⟨v6, hv6⟩, ⟨v4, hv4⟩) ⟨hi0, ⟨rfl, rfl, rfl, rfl, rfl, trivial⟩, rfl⟩ (by dsimp only; omega)
      | false =>
        have hie : i = c9.toNat := by rw [decide_eq_false_iff_not] at v1; omega
        subst hie
        have hme := getMK_end (s := s) (j := c9.toNat) (by omega) (by rw [hn]; exact hse)
        rw [hb0, hn] at hme
        have hck := mayMark16_spec (c0.toNat : Int) (valB (s.extract 1 9)) (csM s c9.toNat) (qsM s c9.toNat) c u (row 3 1 c ((csM s c9.toNat).map dpV)) (row 26 1 u ((qsM s c9.toNat).map sqV)) Vw.row Vw.row (by rw [csM_len]; omega) (by rw [qsM_len]; omega)
        refine ok_learn (rowShapeS (e := 26) (n := 1) (v := u) (xs := (qsM s c9.toNat).map sqV) (by decide) takeD) ?_
        rintro ⟨pu, cu, rfl, _, _⟩
        refine ok_learn (rowShapeS (e := 3) (n := 1) (v := c) (xs := (csM s c9.toNat).map dpV) (by decide) takeD) ?_
        rintro ⟨pc, cc, rfl, _, _⟩
        cases hmm : mayMk (c0.toNat : Int) (csM s c9.toNat) (qsM s c9.toNat) with
        | true =>
          rw [hmm, if_pos rfl] at hme
          rw [hmm] at hck
          rw [hme]
          dsimp only
          clear hme
          generalize csM s c9.toNat = CS at hck hc ⊢
          generalize qsM s c9.toNat = QS at hck hu ⊢
          generalize valB (s.extract 1 9) = TX at hck ⊢
          repeat' (first | (refine go_Y ?_; intros) | (refine gs_Y ?_ ?_ <;> (intro hgd; try (simp only [bn] at hgd))) | (refine gc_Y ?_ ?_ <;> intro _) | fail)
          refine cl_Y (hck) ?_
          intro _ _
          repeat' (first | (refine go_Y ?_; intros) | (refine gs_Y ?_ ?_ <;> (intro hgd; try (simp only [bn] at hgd))) | (refine gc_Y ?_ ?_ <;> intro _) | fail)
          (refine rt_Y (y := (⟨_, hc⟩, ⟨_, hu⟩)) (hrs := Tryz.results70) (hv := ?_) (hφ := ?_))
          · rfl
          · trivial
        | false =>
          rw [hmm, if_neg Bool.false_ne_true] at hme
          rw [hmm] at hck
          rw [hme]
          dsimp only [mk0, List.map_nil]
          repeat' (first | (refine go_Y ?_; intros) | (refine gs_Y ?_ ?_ <;> (intro hgd; try (simp only [bn] at hgd))) | (refine gc_Y ?_ ?_ <;> intro _) | fail)
          refine cl_Y (hck) ?_
          intro _ _
          repeat' (first | (refine go_Y ?_; intros) | (refine gs_Y ?_ ?_ <;> (intro hgd; try (simp only [bn] at hgd))) | (refine gc_Y ?_ ?_ <;> intro _) | fail)
          (refine rt_Y (y := (⟨.slice none 0 0, rfl⟩, ⟨.slice none 0 0, rfl⟩)) (hrs := Tryz.results70) (hv := ?_) (hφ := ?_))
          · rfl
          · trivial
  | false =>
    have hcn : cnM s = 0 := by unfold cnM; rw [hb0]; exact if_neg (of_decide_eq_false hk2)
    cases hsz2 : (!decide ((s.size : Int) = 10 + 8 * (c9.toNat : Int))) with
    | true =>
      rw [getMK_ne (by rw [hn, hcn]; rw [Bool.not_eq_true', decide_eq_false_iff_not] at hsz2; omega)]
      dsimp only [mk0, List.map_nil]
      repeat' (first | (refine go_Y ?_; intros) | (refine gs_Y ?_ ?_ <;> (intro hgd; try (simp only [bn] at hgd))) | (refine gc_Y ?_ ?_ <;> intro _) | fail)
      (refine rt_Y (y := (⟨.slice none 0 0, rfl⟩, ⟨.slice none 0 0, rfl⟩)) (hrs := Tryz.results70) (hv := ?_) (hφ := ?_))
      · rfl
      · trivial
    | false =>
      have hse : s.size = 10 + 8 * c9.toNat + 2 * 0 := by rw [Bool.not_eq_false', decide_eq_true_eq] at hsz2; omega
      repeat' (first | (refine go_Y ?_; intros) | (refine gs_Y ?_ ?_ <;> (intro hgd; try (simp only [bn] at hgd))) | (refine gc_Y ?_ ?_ <;> intro _) | fail)
      refine ok_map (L' := [pts b4 (.cells [.int .u8 (c0.toNat : Int), .int .u64 (valB (s.extract 1 9)), .slice none 0 0, .slice none 0 0].toArray 75), row 3 1 (.slice none 0 0) [], row 26 1 (.slice none 0 0) [], pts b2 (.cells [.int .u8 0, .int .u64 0, .slice none 0 0, .slice none 0 0].toArray 75), row 3 1 (.slice none 0 0) [], row 26 1 (.slice none 0 0) []] ++ R) entD ?_
      refine ok_loop' (γ := Nat × V1s) (fun g ρ L => g.1 ≤ c9.toNat ∧ Knows ρ [(0, .string s), (2, .pointer (some ⟨b2, 0, none⟩)), (4, .pointer (some ⟨b4, 0, none⟩)), (5, .int .i64 (c9.toNat : Int)), (7, .int .i64 (g.1 : Int))] ∧
          L = [pts b4 (.cells [.int .u8 (c0.toNat : Int), .int .u64 (valB (s.extract 1 9)), (.slice none 0 0), g.2.1].toArray 75), row 3 1 (.slice none 0 0) [], row 26 1 g.2.1 ((qsM s g.1).map sqV), pts b2 (.cells [.int .u8 0, .int .u64 0, .slice none 0 0, .slice none 0 0].toArray 75), row 3 1 (.slice none 0 0) [], row 26 1 (.slice none 0 0) []] ++ R) (fun g => c9.toNat - g.1) (0, ⟨.slice none 0 0, rfl⟩) ⟨Nat.zero_le _, ⟨rfl, rfl, rfl, rfl, rfl, trivial⟩, rfl⟩ ?_
      rintro ⟨i, ⟨u, hu⟩⟩ ρ L ⟨hi, hk, rfl⟩
      dsimp only at hi hk ⊢
      refine ok_regs hk ?_
      cases v1 : decide ((i : Int) < (c9.toNat : Int)) with
      | true =>
        have hi0 : i < c9.toNat := by rw [decide_eq_true_eq] at v1; omega
        have hr3 : (0 : Int) ≤ 10 + 8 * (i : Int) ∧ 10 + 8 * (i : Int) ≤ 18 + 8 * (i : Int) ∧ 18 + 8 * (i : Int) ≤ (s.size : Int) := ⟨by omega, by omega, by omega⟩
        have hx8 : s.extract (10 + 8 * (i : Int)).toNat (18 + 8 * (i : Int)).toNat = s.extract (10 + 8 * i) (10 + 8 * i + 8) := by rw [show (10 + 8 * (i : Int)).toNat = 10 + 8 * i by omega, show (18 + 8 * (i : Int)).toNat = 10 + 8 * i + 8 by omega]
        have hg := value05_spec (s.extract (10 + 8 * (i : Int)).toNat (18 + 8 * (i : Int)).toNat) (by rw [hx8, ByteArray.size_extract]; omega)
        have hap : (qsM s i).map sqV ++ [(Value.int .u64 (valB (s.extract (10 + 8 * (i : Int)).toNat (18 + 8 * (i : Int)).toNat))).cells.toList] = (qsM s (i + 1)).map sqV := by rw [qsM_succ, List.map_append, hx8]; rfl
        have hql : (qsM s i).length ≤ 255 := by rw [qsM_len]; omega
        repeat' (first | (refine go_Y ?_; intros) | (refine gs_Y ?_ ?_ <;> (intro hgd; try (simp only [bn] at hgd))) | (refine gc_Y ?_ ?_ <;> intro _) | fail)
        (apply ok_draw [10, 11]; (focus (kernel_rfl)); (focus ((conv => lhs; whnf); first | done | rfl)); (focus (decide +kernel)); (focus (exact (fun _ h => h))))
        repeat' (first | (refine go_Y ?_; intros) | (refine gs_Y ?_ ?_ <;> (intro hgd; try (simp only [bn] at hgd))) | (refine gc_Y ?_ ?_ <;> intro _) | fail)
        refine clN_Y (hg) ?_
        intro _ _
        repeat' (first | (refine go_Y ?_; intros) | (refine gs_Y ?_ ?_ <;> (intro hgd; try (simp only [bn] at hgd))) | (refine gc_Y ?_ ?_ <;> intro _) | fail)
        rename_i v3 hv3 v4 hv4
        rw [hap]
        refine cont_map (L' := [pts b4 (.cells [.int .u8 (c0.toNat : Int), .int .u64 (valB (s.extract 1 9)), (.slice none 0 0), v4].toArray 75), row 3 1 (.slice none 0 0) [], row 26 1 v4 ((qsM s (i + 1)).map sqV), pts b2 (.cells [.int .u8 0, .int .u64 0, .slice none 0 0, .slice none 0 0].toArray 75), row 3 1 (.slice none 0 0) [], row 26 1 (.slice none 0 0) []] ++ R) entD ?_
        refine cont_back (i + 1, ⟨v4, hv4⟩) ⟨hi0, ⟨rfl, rfl, rfl, rfl, rfl, trivial⟩, rfl⟩ (by dsimp only; omega)
      | false =>
        have hie : i = c9.toNat := by rw [decide_eq_false_iff_not] at v1; omega
        subst hie
        have hme := getMK_end (s := s) (j := 0) (by omega) (by rw [hn]; exact hse)
        rw [hb0, hn, show csM s 0 = [] from rfl] at hme
        have hck := mayMark16_spec (c0.toNat : Int) (valB (s.extract 1 9)) ([] : List Int) (qsM s c9.toNat) (.slice none 0 0) u (row 3 1 (.slice none 0 0) (([] : List Int).map dpV)) (row 26 1 u ((qsM s c9.toNat).map sqV)) Vw.row Vw.row (by decide) (by rw [qsM_len]; omega)
        refine ok_learn (rowShapeS (e := 26) (n := 1) (v := u) (xs := (qsM s c9.toNat).map sqV) (by decide) takeD) ?_
        rintro ⟨pu, cu, rfl, _, _⟩
        cases hmm : mayMk (c0.toNat : Int) ([] : List Int) (qsM s c9.toNat) with
        | true =>
          rw [hmm, if_pos rfl] at hme
          rw [hmm] at hck
          rw [hme]
          dsimp only
          clear hme
          generalize qsM s c9.toNat = QS at hck hu ⊢
          generalize valB (s.extract 1 9) = TX at hck ⊢
          repeat' (first | (refine go_Y ?_; intros) | (refine gs_Y ?_ ?_ <;> (intro hgd; try (simp only [bn] at hgd))) | (refine gc_Y ?_ ?_ <;> intro _) | fail)
          refine cl_Y (hck) ?_
          intro _ _
          repeat' (first | (refine go_Y ?_; intros) | (refine gs_Y ?_ ?_ <;> (intro hgd; try (simp only [bn] at hgd))) | (refine gc_Y ?_ ?_ <;> intro _) | fail)
          (refine rt_Y (y := (⟨.slice none 0 0, rfl⟩, ⟨_, hu⟩)) (hrs := Tryz.results70) (hv := ?_) (hφ := ?_))
          · rfl
          · trivial
        | false =>
          rw [hmm, if_neg Bool.false_ne_true] at hme
          rw [hmm] at hck
          rw [hme]
          dsimp only [mk0, List.map_nil]
          repeat' (first | (refine go_Y ?_; intros) | (refine gs_Y ?_ ?_ <;> (intro hgd; try (simp only [bn] at hgd))) | (refine gc_Y ?_ ?_ <;> intro _) | fail)
          refine cl_Y (hck) ?_
          intro _ _
          repeat' (first | (refine go_Y ?_; intros) | (refine gs_Y ?_ ?_ <;> (intro hgd; try (simp only [bn] at hgd))) | (refine gc_Y ?_ ?_ <;> intro _) | fail)
          (refine rt_Y (y := (⟨.slice none 0 0, rfl⟩, ⟨.slice none 0 0, rfl⟩)) (hrs := Tryz.results70) (hv := ?_) (hφ := ?_))
          · rfl
          · trivial
end Go.Proofs.YtphaegcoldpclaaGreatDoor
set_option linter.unusedSimpArgs false
set_option linter.unusedVariables false
set_option maxRecDepth 100000
namespace Go.Proofs.YtphaegcoldpclaaGreatDoor
open Go Go.Fx Go.Proofs Go.Pl

set_option maxHeartbeats 8000000 in
theorem sameMark_spec (k k' tx tx' : Int) (c1 c2 q1 q2 : List Int) (ua ub uc ud : Value) (A1 B1 A2 B2 : HProp) (hA1 : Vw A1 1 ua (c1.map dpV)) (hB1 : Vw B1 1 ub (q1.map sqV)) (hA2 : Vw A2 1 uc (c2.map dpV)) (hB2 : Vw B2 1 ud (q2.map sqV)) (z1 : c1.length ≤ 1000000) (z2 : q1.length ≤ 1000000) :
    FSpec Tryz.prog 31 [.agg #[.int .u8 k, .int .u64 tx, ua, ub], .agg #[.int .u8 k', .int .u64 tx', uc, ud]] [A1, B1, A2, B2] Bool (fun y => y = true ↔ (k = k' ∧ tx = tx' ∧ c1 = c2 ∧ q1 = q2)) (fun y => .bool y) (fun _ => [A1, B1, A2, B2]) := by
  have l1 : (c1.map dpV).length = c1.length := by simp
  have l2 : (c2.map dpV).length = c2.length := by simp
  have l3 : (q1.map sqV).length = q1.length := by simp
  have l4 : (q2.map sqV).length = q2.length := by simp
  refine fspec_lrn (fun R hh s => (VwIn.slice (VwIn.here hA1)) hh s) ?_
  rintro ⟨pa, ca, rfl⟩
  refine fspec_lrn (fun R hh s => (VwIn.slice (VwIn.there (VwIn.here hB1))) hh s) ?_
  rintro ⟨pb, cb, rfl⟩
  refine fspec_lrn (fun R hh s => (VwIn.slice (VwIn.there (VwIn.there (VwIn.here hA2)))) hh s) ?_
  rintro ⟨pc, cc, rfl⟩
  refine fspec_lrn (fun R hh s => (VwIn.slice (VwIn.there (VwIn.there (VwIn.there (VwIn.here hB2))))) hh s) ?_
  rintro ⟨pd, cd, rfl⟩
  cases f1 : (!decide (k = k')) with
  | true =>
    refine spec_intro [] _ Tryz.func31 rfl Tryz.ntmps31 (by rfl) (fun w0 R => ?_)
    repeat' (first | (refine go_Y ?_; intros) | (refine gs_Y ?_ ?_ <;> (intro hgd; try (simp only [bn] at hgd))) | (refine gc_Y ?_ ?_ <;> intro _) | fail)
    (refine rt_Y (y := false) (hrs := Tryz.results31) (hv := ?_) (hφ := ?_))
    · rfl
    · exact ⟨fun e => (by cases e), fun e => by rw [e.1] at f1; simp at f1⟩
  | false =>
  obtain rfl : k = k' := by simpa using f1
  cases f2 : (!decide (tx = tx')) with
  | true =>
    refine spec_intro [] _ Tryz.func31 rfl Tryz.ntmps31 (by rfl) (fun w0 R => ?_)
    repeat' (first | (refine go_Y ?_; intros) | (refine gs_Y ?_ ?_ <;> (intro hgd; try (simp only [bn] at hgd))) | (refine gc_Y ?_ ?_ <;> intro _) | fail)
    (refine rt_Y (y := false) (hrs := Tryz.results31) (hv := ?_) (hφ := ?_))
    · rfl
    · exact ⟨fun e => (by cases e), fun e => by rw [e.2.1] at f2; simp at f2⟩
  | false =>
  obtain rfl : tx = tx' := by simpa using f2
  cases f3 : (!decide (((c1.map dpV).length : Int) = ((c2.map dpV).length : Int))) with
  | true =>
    refine spec_intro [] _ Tryz.func31 rfl Tryz.ntmps31 (by rfl) (fun w0 R => ?_)
    repeat' (first | (refine go_Y ?_; intros) | (refine gs_Y ?_ ?_ <;> (intro hgd; try (simp only [bn] at hgd))) | (refine gc_Y ?_ ?_ <;> intro _) | fail)
    (refine rt_Y (y := false) (hrs := Tryz.results31) (hv := ?_) (hφ := ?_))
    · rfl
    · exact ⟨fun e => (by cases e), fun e => by rw [e.2.2.1] at f3; simp at f3⟩
  | false =>
  cases f4 : (!decide (((q1.map sqV).length : Int) = ((q2.map sqV).length : Int))) with
  | true =>
    refine spec_intro [] _ Tryz.func31 rfl Tryz.ntmps31 (by rfl) (fun w0 R => ?_)
    repeat' (first | (refine go_Y ?_; intros) | (refine gs_Y ?_ ?_ <;> (intro hgd; try (simp only [bn] at hgd))) | (refine gc_Y ?_ ?_ <;> intro _) | fail)
    (refine rt_Y (y := false) (hrs := Tryz.results31) (hv := ?_) (hφ := ?_))
    · rfl
    · exact ⟨fun e => (by cases e), fun e => by rw [e.2.2.2] at f4; simp at f4⟩
  | false =>
  have m1 : c1.length = c2.length := by simp at f3; omega
  have m2 : q1.length = q2.length := by simp at f4; omega
  refine spec_intro [] _ Tryz.func31 rfl Tryz.ntmps31 (by rfl) (fun w0 R => ?_)
  repeat' (first | (refine go_Y ?_; intros) | (refine gs_Y ?_ ?_ <;> (intro hgd; try (simp only [bn] at hgd))) | (refine gc_Y ?_ ?_ <;> intro _) | fail)
  rename_i b2 b3
  refine ok_map (L' := [pts b2 (.cells [.int .u8 k, .int .u64 tx, .slice pa (c1.map dpV).length ca, .slice pb (q1.map sqV).length cb].toArray 75), pts b3 (.cells [.int .u8 k, .int .u64 tx, .slice pc (c2.map dpV).length cc, .slice pd (q2.map sqV).length cd].toArray 75), A1, B1, A2, B2] ++ R) entD ?_
  refine ok_loop' (γ := Nat) (fun i ρ L => i ≤ c1.length ∧ c1.take i = c2.take i ∧ Knows ρ [(2, .pointer (some ⟨b2, 0, none⟩)), (3, .pointer (some ⟨b3, 0, none⟩)), (5, .int .i64 i)] ∧
      L = [pts b2 (.cells [.int .u8 k, .int .u64 tx, .slice pa (c1.map dpV).length ca, .slice pb (q1.map sqV).length cb].toArray 75), pts b3 (.cells [.int .u8 k, .int .u64 tx, .slice pc (c2.map dpV).length cc, .slice pd (q2.map sqV).length cd].toArray 75), A1, B1, A2, B2] ++ R) (fun i => c1.length - i) 0 ⟨by omega, by simp, ⟨rfl, rfl, rfl, trivial⟩, rfl⟩ ?_
  rintro i ρ L ⟨hi, he, hk, rfl⟩
  refine ok_regs hk ?_
  cases t2 : decide ((i : Int) < ((c1.map dpV).length : Int)) with
  | true =>
    have h : i < c1.length := by rw [decide_eq_true_eq] at t2; omega
    have hc' : i < c2.length := by omega
    have hx : (c1.map dpV)[i]? = some (dpV c1[i]) := by rw [List.getElem?_map, List.getElem?_eq_getElem h]; rfl
    have hy : (c2.map dpV)[i]? = some (dpV c2[i]) := by rw [List.getElem?_map, List.getElem?_eq_getElem hc']; rfl
    have hn1 : i < (c1.map dpV).length := by omega
    have hn2 : i < (c2.map dpV).length := by omega
    have t1a : c1.take (i + 1) = c1.take i ++ [c1[i]] := List.take_succ_eq_append_getElem h
    have t1c : c2.take (i + 1) = c2.take i ++ [c2[i]] := List.take_succ_eq_append_getElem hc'
    have hdiff : c1[i] ≠ c2[i] → c1 ≠ c2 := fun hn e => by subst e; exact hn rfl
    refine ok_learn (VwIn.base (n := 1) (p := pa) (len := (c1.map dpV).length) (cap := ca) (xs := c1.map dpV) (VwIn.there (VwIn.there (VwIn.here hA1))) (by intro e; rw [e] at hn1; simp at hn1)) ?_
    rintro ⟨bu, ou, rfl⟩
    refine ok_learn (VwIn.base (n := 1) (p := pc) (len := (c2.map dpV).length) (cap := cc) (xs := c2.map dpV) (VwIn.there (VwIn.there (VwIn.there (VwIn.there (VwIn.here hA2))))) (by intro e; rw [e] at hn2; simp at hn2)) ?_
    rintro ⟨bw, ow, rfl⟩
    generalize c1[i] = x at hx hdiff t1a
    generalize c2[i] = y at hy hdiff t1c
    dsimp only [dpV] at hx hy
    cases v1 : (!decide (x = y)) with
    | true =>
      have hn := hdiff (by simpa using v1)
      repeat' (first | (refine go_Y ?_; intros) | (refine gs_Y ?_ ?_ <;> (intro hgd; try (simp only [bn] at hgd))) | (refine gc_Y ?_ ?_ <;> intro _) | fail)
      (refine rt_Y (y := false) (hrs := Tryz.results31) (hv := ?_) (hφ := ?_))
      · rfl
      · exact ⟨fun e => (by cases e), fun e => absurd e.2.2.1 hn⟩
    | false =>
      obtain rfl : x = y := by simpa using v1
      repeat' (first | (refine go_Y ?_; intros) | (refine gs_Y ?_ ?_ <;> (intro hgd; try (simp only [bn] at hgd))) | (refine gc_Y ?_ ?_ <;> intro _) | fail)
      refine cont_map (L' := [pts b2 (.cells [.int .u8 k, .int .u64 tx, .slice (some ⟨bu, ou, none⟩) (c1.map dpV).length ca, .slice pb (q1.map sqV).length cb].toArray 75), pts b3 (.cells [.int .u8 k, .int .u64 tx, .slice (some ⟨bw, ow, none⟩) (c2.map dpV).length cc, .slice pd (q2.map sqV).length cd].toArray 75), A1, B1, A2, B2] ++ R) entD ?_
      refine cont_back (i + 1) ⟨h, by rw [t1a, t1c, he], ⟨rfl, rfl, rfl, trivial⟩, rfl⟩ (by omega)
  | false =>
  have hie : i = c1.length := by rw [decide_eq_false_iff_not] at t2; omega
  have hcc : c1 = c2 := by
    rw [hie, List.take_length] at he
    rw [show c1.length = c2.length by omega, List.take_length] at he
    exact he
  clear he hk
  subst hcc
  repeat' (first | (refine go_Y ?_; intros) | (refine gs_Y ?_ ?_ <;> (intro hgd; try (simp only [bn] at hgd))) | (refine gc_Y ?_ ?_ <;> intro _) | fail)
  refine ok_loop' (γ := Nat) (fun i ρ L => i ≤ q1.length ∧ q1.take i = q2.take i ∧ Knows ρ [(2, .pointer (some ⟨b2, 0, none⟩)), (3, .pointer (some ⟨b3, 0, none⟩)), (6, .int .i64 i)] ∧
      L = [pts b2 (.cells [.int .u8 k, .int .u64 tx, .slice pa (c1.map dpV).length ca, .slice pb (q1.map sqV).length cb].toArray 75), pts b3 (.cells [.int .u8 k, .int .u64 tx, .slice pc (c1.map dpV).length cc, .slice pd (q2.map sqV).length cd].toArray 75), A1, B1, A2, B2] ++ R) (fun i => q1.length - i) 0 ⟨by omega, by simp, ⟨rfl, rfl, rfl, trivial⟩, rfl⟩ ?_
  rintro i ρ L ⟨hi, he, hk, rfl⟩
  refine ok_regs hk ?_
  cases t2 : decide ((i : Int) < ((q1.map sqV).length : Int)) with
  | true =>
    have h : i < q1.length := by rw [decide_eq_true_eq] at t2; omega
    have hc' : i < q2.length := by omega
    have hx : (q1.map sqV)[i]? = some (sqV q1[i]) := by rw [List.getElem?_map, List.getElem?_eq_getElem h]; rfl
    have hy : (q2.map sqV)[i]? = some (sqV q2[i]) := by rw [List.getElem?_map, List.getElem?_eq_getElem hc']; rfl
    have hn1 : i < (q1.map sqV).length := by omega
    have hn2 : i < (q2.map sqV).length := by omega
    have t1a : q1.take (i + 1) = q1.take i ++ [q1[i]] := List.take_succ_eq_append_getElem h
    have t1c : q2.take (i + 1) = q2.take i ++ [q2[i]] := List.take_succ_eq_append_getElem hc'
    have hdiff : q1[i] ≠ q2[i] → q1 ≠ q2 := fun hn e => by subst e; exact hn rfl
    refine ok_learn (VwIn.base (n := 1) (p := pb) (len := (q1.map sqV).length) (cap := cb) (xs := q1.map sqV) (VwIn.there (VwIn.there (VwIn.there (VwIn.here hB1)))) (by intro e; rw [e] at hn1; simp at hn1)) ?_
    rintro ⟨bu, ou, rfl⟩
    refine ok_learn (VwIn.base (n := 1) (p := pd) (len := (q2.map sqV).length) (cap := cd) (xs := q2.map sqV) (VwIn.there (VwIn.there (VwIn.there (VwIn.there (VwIn.there (VwIn.here hB2)))))) (by intro e; rw [e] at hn2; simp at hn2)) ?_
    rintro ⟨bw, ow, rfl⟩
    generalize q1[i] = x at hx hdiff t1a
    generalize q2[i] = y at hy hdiff t1c
    dsimp only [sqV] at hx hy
    cases v1 : (!decide (x = y)) with
    | true =>
      have hn := hdiff (by simpa using v1)
      repeat' (first | (refine go_Y ?_; intros) | (refine gs_Y ?_ ?_ <;> (intro hgd; try (simp only [bn] at hgd))) | (refine gc_Y ?_ ?_ <;> intro _) | fail)
      (refine rt_Y (y := false) (hrs := Tryz.results31) (hv := ?_) (hφ := ?_))
      · rfl
      · exact ⟨fun e => (by cases e), fun e => absurd e.2.2.2 hn⟩
    | false =>
      obtain rfl : x = y := by simpa using v1
      repeat' (first | (refine go_Y ?_; intros) | (refine gs_Y ?_ ?_ <;> (intro hgd; try (simp only [bn] at hgd))) | (refine gc_Y ?_ ?_ <;> intro _) | fail)
      refine cont_map (L' := [pts b2 (.cells [.int .u8 k, .int .u64 tx, .slice pa (c1.map dpV).length ca, .slice (some ⟨bu, ou, none⟩) (q1.map sqV).length cb].toArray 75), pts b3 (.cells [.int .u8 k, .int .u64 tx, .slice pc (c1.map dpV).length cc, .slice (some ⟨bw, ow, none⟩) (q2.map sqV).length cd].toArray 75), A1, B1, A2, B2] ++ R) entD ?_
      refine cont_back (i + 1) ⟨h, by rw [t1a, t1c, he], ⟨rfl, rfl, rfl, trivial⟩, rfl⟩ (by omega)
  | false =>
  have hie : i = q1.length := by rw [decide_eq_false_iff_not] at t2; omega
  have hqq : q1 = q2 := by
    rw [hie, List.take_length] at he
    rw [show q1.length = q2.length by omega, List.take_length] at he
    exact he
  clear he hk
  subst hqq
  repeat' (first | (refine go_Y ?_; intros) | (refine gs_Y ?_ ?_ <;> (intro hgd; try (simp only [bn] at hgd))) | (refine gc_Y ?_ ?_ <;> intro _) | fail)
  (refine rt_Y (y := true) (hrs := Tryz.results31) (hv := ?_) (hφ := ?_))
  · rfl
  · exact ⟨fun _ => ⟨rfl, rfl, rfl, rfl⟩, fun _ => rfl⟩
end Go.Proofs.YtphaegcoldpclaaGreatDoor
