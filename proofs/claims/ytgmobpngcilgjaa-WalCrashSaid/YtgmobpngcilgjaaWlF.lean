/- The walks of the law's helpers for WalCrash: Large, Heavy, SameTexts, begins. -/
import Derived.Test.YtgmobpngcilgjaaWlE
-- @DEFS Z
set_option linter.unusedSimpArgs false
set_option linter.unusedVariables false
set_option maxRecDepth 4000
namespace Go.Proofs.Ytgmobpngcilgjaa
open Go Go.Fx Go.Proofs Go.Pl

def sumZ (l : List BA) : Nat := (l.map (·.size)).sum
theorem sumZ_app (a b : List BA) : sumZ (a ++ b) = sumZ a + sumZ b := by simp [sumZ]
theorem sumZ_take {l : List BA} {n : Nat} (h : n < l.length) : sumZ (l.take (n + 1)) = sumZ (l.take n) + l[n].size := by
  rw [List.take_succ_eq_append_getElem h, sumZ_app]; simp [sumZ]
theorem sumZ_mem {l : List BA} {x : BA} (h : x ∈ l) : x.size ≤ sumZ l := by
  induction l with
  | nil => cases h
  | cons y l ih =>
    simp only [sumZ, List.map_cons, List.sum_cons] at ih ⊢
    rcases List.mem_cons.1 h with rfl | h
    · omega
    · have := ih h; omega
theorem lenT_sumZ (l : List BA) : lenT l = 12 * l.length + sumZ l := by
  induction l with
  | nil => rfl
  | cons y l ih => simp only [lenT, sumZ, List.map_cons, List.sum_cons, List.length_cons] at ih ⊢; omega

theorem LargeT_spec (u : Value) (A : HProp) (xs : List BA) (hA : Vw A 1 u (xs.map strV)) (hz : ∀ x ∈ xs, x.size ≤ 140737488355328) :
    FSpec Try.prog 83 [u] [A] Bool (fun y => y = false → xs.length ≤ 200 ∧ sumZ xs ≤ 32768) (fun y => .bool y) (fun _ => [A]) := by
  have hlen : (xs.map strV).length = xs.length := by simp
  refine spec_intro [] _ Try.func83 rfl Try.ntmps83 (by rfl) (fun w0 R => ?_)
  refine ok_learn (VwIn.slice (VwIn.here hA)) ?_
  rintro ⟨pu, cu, rfl⟩
  repeat' (first | (refine go_Z ?_; intros) | (refine gs_Z ?_ ?_ <;> (intro hgd; try (simp only [Bool.not_true, Bool.not_false] at hgd))) | (refine gc_Z ?_ ?_ <;> intro _) | fail)
  refine ok_loop' (γ := Nat) (fun n ρ L => n ≤ xs.length ∧ n ≤ 300 ∧ sumZ (xs.take n) ≤ n * 140737488355328 ∧ Knows ρ [(0, .slice pu (xs.map strV).length cu), (3, .int .i64 (sumZ (xs.take n))), (4, .int .i64 n)] ∧ L = [A] ++ R) (fun n => 300 - n) 0 ⟨by omega, by omega, by simp [sumZ], ⟨rfl, rfl, rfl, trivial⟩, rfl⟩ ?_
  rintro n ρ L ⟨hn, hn3, hw, hk, rfl⟩
  refine ok_regs hk ?_
  cases t1 : decide ((n : Int) < ((xs.map strV).length : Int)) with
  | false =>
    have hn' : n = xs.length := by simp at t1; omega
    have hfull : xs.take n = xs := by rw [hn']; exact List.take_length
    rw [hfull] at hk ⊢
    repeat' (first | (refine go_Z ?_; intros) | (refine gs_Z ?_ ?_ <;> (intro hgd; try (simp only [Bool.not_true, Bool.not_false] at hgd))) | (refine gc_Z ?_ ?_ <;> intro _) | fail)
    all_goals (refine rt_Z (y := _) (hrs := Try.results83) (hv := by exact rfl) (hφ := ?_))
    all_goals (intro hb; first | (exact absurd hb Bool.noConfusion) | (simp only [decide_eq_false_iff_not, decide_eq_true_eq, hlen] at hgd hb; exact ⟨by omega, by omega⟩))
  | true =>
    have h : n < xs.length := by simp at t1; omega
    cases t2 : decide ((n : Int) < 300) with
    | false =>
      have hbig : decide ((200 : Int) < ((xs.map strV).length : Int)) = true := by simp at t2 ⊢; omega
      repeat' (first | (refine go_Z ?_; intros) | (refine gs_Z ?_ ?_ <;> (intro hgd; try (simp only [Bool.not_true, Bool.not_false] at hgd))) | (refine gc_Z ?_ ?_ <;> intro _) | fail)
      (refine rt_Z (y := _) (hrs := Try.results83) (hv := by exact rfl) (hφ := ?_))
      intro hb
      cases hb
    | true =>
      have h3 : n < 300 := by simp at t2; omega
      have hn1 : n < (xs.map strV).length := by simpa using h
      have hx : (xs.map strV)[n]? = some (strV xs[n]) := by rw [List.getElem?_map, List.getElem?_eq_getElem h]; rfl
      have htk := sumZ_take h
      have z1 := hz xs[n] (List.getElem_mem h)
      refine ok_learn (VwIn.base (VwIn.here hA) (by intro e; rw [e] at hn1; simp at hn1)) ?_
      rintro ⟨bu, ou, rfl⟩
      generalize xs[n] = x at hx htk z1
      have hsum : (sumZ (xs.take n) : Int) + (x.size : Int) = (sumZ (xs.take (n + 1)) : Int) := by omega
      repeat' (first | (refine go_Z ?_; intros) | (refine gs_Z ?_ ?_ <;> (intro hgd; try (simp only [Bool.not_true, Bool.not_false] at hgd))) | (refine gc_Z ?_ ?_ <;> intro _) | fail)
      rw [hsum]
      refine cont_back (n + 1) ⟨h, h3, by omega, ⟨rfl, rfl, rfl, trivial⟩, rfl⟩ (by omega)

/-- A step of a script. -/
structure Sw where
  op : Int
  l : List BA
  v : { v : Value // v.oneCell' = true }
  n : Int
  m : Int
def swV (x : Sw) : List Value := [.int .i64 x.op, x.v.1, .int .i64 x.n, .int .i64 x.m]

theorem HeavyW_spec (u : Value) (A : HProp) (xs : List Sw) (hA : Vw A 4 u (xs.map swV)) (hv : ∀ x ∈ xs, Vw A 1 x.v.1 (x.l.map strV) ∧ ∀ s ∈ x.l, s.size ≤ 140737488355328) :
    FSpec Try.prog 32 [u] [A] Bool (fun y => y = false → xs.length ≤ 100 ∧ ∀ x ∈ xs, x.l.length ≤ 200 ∧ sumZ x.l ≤ 32768) (fun y => .bool y) (fun _ => [A]) := by
  have hlen : (xs.map swV).length = xs.length := by simp
  refine spec_intro [] _ Try.func32 rfl Try.ntmps32 (by rfl) (fun w0 R => ?_)
  refine ok_learn (VwIn.slice (VwIn.here hA)) ?_
  rintro ⟨pu, cu, rfl⟩
  repeat' (first | (refine go_Z ?_; intros) | (refine gs_Z ?_ ?_ <;> (intro hgd; try (simp only [Bool.not_true, Bool.not_false] at hgd))) | (refine gc_Z ?_ ?_ <;> intro _) | fail)
  refine ok_loop' (γ := Nat × Nat) (fun g ρ L => g.1 ≤ xs.length ∧ g.1 ≤ 200 ∧ (∀ x ∈ xs.take g.1, x.l.length ≤ 200 ∧ sumZ x.l ≤ 32768) ∧ g.2 ≤ g.1 * 40000 ∧ Knows ρ [(0, .slice pu (xs.map swV).length cu), (3, .int .i64 g.2), (4, .int .i64 g.1)] ∧ L = [A] ++ R) (fun g => xs.length - g.1) (0, 0) ⟨by simp, by simp, by simp, by simp, ⟨rfl, rfl, rfl, trivial⟩, rfl⟩ ?_
  rintro ⟨i, s⟩ ρ L ⟨hi, hi1, hall, hs, hk, rfl⟩
  dsimp only at hi hi1 hall hs hk
  refine ok_regs hk ?_
  cases t1 : decide ((i : Int) < ((xs.map swV).length : Int)) with
  | false =>
    have hie : i = xs.length := by simp at t1; omega
    have hfull : xs.take i = xs := by rw [hie]; exact List.take_length
    rw [hfull] at hall
    repeat' (first | (refine go_Z ?_; intros) | (refine gs_Z ?_ ?_ <;> (intro hgd; try (simp only [Bool.not_true, Bool.not_false] at hgd))) | (refine gc_Z ?_ ?_ <;> intro _) | fail)
    all_goals (refine rt_Z (y := _) (hrs := Try.results32) (hv := by exact rfl) (hφ := ?_))
    all_goals (intro hb; first | (exact absurd hb Bool.noConfusion) | (simp only [decide_eq_false_iff_not, decide_eq_true_eq, hlen] at hgd hb; exact ⟨by omega, hall⟩))
  | true =>
    have h : i < xs.length := by simp at t1; omega
    cases t2 : decide ((i : Int) < 200) with
    | false =>
      have hbig : decide ((100 : Int) < ((xs.map swV).length : Int)) = true := by simp at t2 ⊢; omega
      repeat' (first | (refine go_Z ?_; intros) | (refine gs_Z ?_ ?_ <;> (intro hgd; try (simp only [Bool.not_true, Bool.not_false] at hgd))) | (refine gc_Z ?_ ?_ <;> intro _) | fail)
      (refine rt_Z (y := _) (hrs := Try.results32) (hv := by exact rfl) (hφ := ?_))
      intro hb
      cases hb
    | true =>
      have h3 : i < 200 := by simp at t2; omega
      have hn1 : i < (xs.map swV).length := by omega
      have hx : (xs.map swV)[i]? = some (swV xs[i]) := by rw [List.getElem?_map, List.getElem?_eq_getElem h]; rfl
      have htk : xs.take (i + 1) = xs.take i ++ [xs[i]] := by rw [List.take_add_one, List.getElem?_eq_getElem h]; rfl
      obtain ⟨hvx, hzx⟩ := hv _ (List.getElem_mem h)
      refine ok_learn (VwIn.base (VwIn.here hA) (by intro e; rw [e] at hn1; simp at hn1)) ?_
      rintro ⟨bu, ou, rfl⟩
      generalize xs[i] = x at hx htk hvx hzx
      obtain ⟨o, l, ⟨v, hvc⟩, n, k⟩ := x
      dsimp only at hvx hzx
      have hll : (l.map strV).length = l.length := by simp
      have hL := LargeT_spec v A l hvx hzx
      repeat' (first | (refine go_Z ?_; intros) | (refine gs_Z ?_ ?_ <;> (intro hgd; try (simp only [Bool.not_true, Bool.not_false] at hgd))) | (refine gc_Z ?_ ?_ <;> intro _) | fail)
      refine cl_Z (hL) ?_
      intro y hy
      cases y with
      | true =>
        repeat' (first | (refine go_Z ?_; intros) | (refine gs_Z ?_ ?_ <;> (intro hgd; try (simp only [Bool.not_true, Bool.not_false] at hgd))) | (refine gc_Z ?_ ?_ <;> intro _) | fail)
        (refine rt_Z (y := _) (hrs := Try.results32) (hv := by exact rfl) (hφ := ?_))
        intro hb
        cases hb
      | false =>
        obtain ⟨hl2, hz2⟩ := hy rfl
        refine ops_learn (VwIn.slice (VwIn.here hvx)) ?_
        rintro ⟨pv, cv, rfl⟩
        repeat' (first | (refine go_Z ?_; intros) | (refine gs_Z ?_ ?_ <;> (intro hgd; try (simp only [Bool.not_true, Bool.not_false] at hgd))) | (refine gc_Z ?_ ?_ <;> intro _) | fail)
        refine ok_loop' (γ := Nat) (fun k ρ L => k ≤ l.length ∧ Knows ρ [(0, .slice (some ⟨bu, ou, none⟩) (xs.map swV).length cu), (3, .int .i64 ((s + lenT (l.take k) : Nat) : Int)), (4, .int .i64 i), (5, .int .i64 k)] ∧ L = [A] ++ R) (fun k => l.length - k) 0 ⟨by simp, ⟨rfl, rfl, rfl, rfl, trivial⟩, rfl⟩ ?_
        rintro k ρ L ⟨hkl, hk, rfl⟩
        refine ok_regs hk ?_
        have hpre : lenT (l.take k) ≤ 40000 := by
          have h1 := lenT_pre (List.take_prefix k l)
          have h2 := lenT_sumZ l
          omega
        cases t3 : decide ((k : Int) < ((l.map strV).length : Int)) with
        | false =>
          have hke : k = l.length := by simp at t3; omega
          repeat' (first | (refine go_Z ?_; intros) | (refine gs_Z ?_ ?_ <;> (intro hgd; try (simp only [Bool.not_true, Bool.not_false] at hgd))) | (refine gc_Z ?_ ?_ <;> intro _) | fail)
          refine cont_back (i + 1, s + lenT (l.take k)) ⟨h, by dsimp only; omega, ?_, by dsimp only; omega, ⟨rfl, rfl, rfl, trivial⟩, rfl⟩ (by dsimp only; omega)
          intro x hxm
          dsimp only at hxm
          rw [htk] at hxm
          rcases List.mem_append.1 hxm with hxm | hxm
          · exact hall x hxm
          · rw [List.mem_singleton] at hxm; subst hxm; exact ⟨hl2, hz2⟩
        | true =>
          have hk1 : k < l.length := by simp at t3; omega
          have hn2 : k < (l.map strV).length := by omega
          have hy : (l.map strV)[k]? = some (strV l[k]) := by rw [List.getElem?_map, List.getElem?_eq_getElem hk1]; rfl
          have hlk : lenT (l.take (k + 1)) = lenT (l.take k) + (12 + l[k].size) := by rw [List.take_succ_eq_append_getElem hk1, lenT_snoc]
          have z2 := hzx _ (List.getElem_mem hk1)
          refine ok_learn (VwIn.base (VwIn.here hvx) (by intro e; rw [e] at hn2; simp at hn2)) ?_
          rintro ⟨bv, ov, rfl⟩
          generalize l[k] = t at hy hlk z2
          have hsum : (((s + lenT (l.take k) : Nat) : Int) + 12) + (t.size : Int) = ((s + lenT (l.take (k + 1)) : Nat) : Int) := by omega
          repeat' (first | (refine go_Z ?_; intros) | (refine gs_Z ?_ ?_ <;> (intro hgd; try (simp only [Bool.not_true, Bool.not_false] at hgd))) | (refine gc_Z ?_ ?_ <;> intro _) | fail)
          rw [hsum]
          refine cont_back (k + 1) ⟨hk1, ⟨rfl, rfl, rfl, rfl, trivial⟩, rfl⟩ (by omega)

def sameT : List BA → List BA → Bool
  | [], [] => true
  | x :: xs, y :: ys => (x.toList == y.toList) && sameT xs ys
  | _, _ => false
theorem sameT_len : ∀ {xs ys : List BA}, xs.length ≠ ys.length → sameT xs ys = false
  | [], [], h => absurd rfl h
  | [], _ :: _, _ => rfl
  | _ :: _, [], _ => rfl
  | x :: xs, y :: ys, h => by simp only [sameT, sameT_len (xs := xs) (ys := ys) (by simpa using h), Bool.and_false]
theorem sameT_iff : ∀ {xs ys : List BA}, sameT xs ys = true ↔ xs = ys
  | [], [] => by simp [sameT]
  | [], _ :: _ => by simp [sameT]
  | _ :: _, [] => by simp [sameT]
  | x :: xs, y :: ys => by simp only [sameT, Bool.and_eq_true, eqS_iff, sameT_iff (xs := xs), List.cons.injEq]
theorem sameT_self (xs : List BA) : sameT xs xs = true := sameT_iff.2 rfl

theorem SameT_spec (u v : Value) (A B : HProp) (xs ys : List BA) (hA : Vw A 1 u (xs.map strV)) (hB : Vw B 1 v (ys.map strV)) (hb : xs.length ≤ 4611686018427387904) :
    FSpec Try.prog 84 [u, v] [A, B] Unit (fun _ => True) (fun _ => .bool (sameT xs ys)) (fun _ => [A, B]) := by
  have hlm : (xs.map strV).length = xs.length := by simp
  have hlm' : (ys.map strV).length = ys.length := by simp
  refine spec_intro [] _ Try.func84 rfl Try.ntmps84 (by rfl) (fun w0 R => ?_)
  refine ok_learn (VwIn.slice (VwIn.here hA)) ?_
  rintro ⟨pu, cu, rfl⟩
  refine ok_learn (VwIn.slice (VwIn.there (VwIn.here hB))) ?_
  rintro ⟨pv, cv, rfl⟩
  cases hl : (!decide (((xs.map strV).length : Int) = ((ys.map strV).length : Int))) with
  | true =>
    have e1 : sameT xs ys = false := sameT_len (by simp only [List.length_map, Bool.not_eq_true', decide_eq_false_iff_not] at hl; omega)
    rw [e1]
    repeat' (first | (refine go_Z ?_; intros) | (refine gs_Z ?_ ?_ <;> (intro hgd; try (simp only [Bool.not_true, Bool.not_false] at hgd))) | (refine gc_Z ?_ ?_ <;> intro _) | fail)
    (refine rt_Z (y := ()) (hrs := Try.results84) (hv := ?_) (hφ := ?_))
    · rfl
    · trivial
  | false =>
    have e1 : xs.length = ys.length := by simp only [List.length_map, Bool.not_eq_false', decide_eq_true_eq] at hl; omega
    repeat' (first | (refine go_Z ?_; intros) | (refine gs_Z ?_ ?_ <;> (intro hgd; try (simp only [Bool.not_true, Bool.not_false] at hgd))) | (refine gc_Z ?_ ?_ <;> intro _) | fail)
    refine ok_loop' (γ := Nat) (fun n ρ L => n ≤ xs.length ∧ sameT (xs.drop n) (ys.drop n) = sameT xs ys ∧ Knows ρ [(0, .slice pu (xs.map strV).length cu), (1, .slice pv (ys.map strV).length cv), (5, .int .i64 n)] ∧ L = [A, B] ++ R) (fun n => xs.length - n) 0 ⟨Nat.zero_le _, rfl, ⟨rfl, rfl, rfl, trivial⟩, rfl⟩ ?_
    rintro n ρ L ⟨hn, hsm, hk, rfl⟩
    refine ok_regs hk ?_
    rcases Nat.lt_or_ge n xs.length with h | h
    · have t1 : decide ((n : Int) < ((xs.map strV).length : Int)) = true := by simp only [decide_eq_true_eq]; omega
      have hn1 : n < (xs.map strV).length := by omega
      have hn2 : n < (ys.map strV).length := by omega
      have h' : n < ys.length := by omega
      have hx : (xs.map strV)[n]? = some (strV xs[n]) := by rw [List.getElem?_map, List.getElem?_eq_getElem h]; rfl
      have hy : (ys.map strV)[n]? = some (strV ys[n]) := by rw [List.getElem?_map, List.getElem?_eq_getElem h']; rfl
      have hd : sameT xs ys = ((xs[n].toList == ys[n].toList) && sameT (xs.drop (n + 1)) (ys.drop (n + 1))) := by
        rw [← hsm, List.drop_eq_getElem_cons h, List.drop_eq_getElem_cons h']; rfl
      refine ok_learn (VwIn.base (VwIn.here hA) (by intro e; rw [e] at hn1; simp at hn1)) ?_
      rintro ⟨bu, ou, rfl⟩
      refine ok_learn (VwIn.base (VwIn.there (VwIn.here hB)) (by intro e; rw [e] at hn2; simp at hn2)) ?_
      rintro ⟨bv, ov, rfl⟩
      generalize xs[n] = x at hx hd
      generalize ys[n] = y at hy hd
      cases hc : (!(x.toList == y.toList)) with
      | true =>
        have e2 : (x.toList == y.toList) = false := by simpa using hc
        rw [e2, Bool.false_and] at hd
        rw [hd]
        repeat' (first | (refine go_Z ?_; intros) | (refine gs_Z ?_ ?_ <;> (intro hgd; try (simp only [Bool.not_true, Bool.not_false] at hgd))) | (refine gc_Z ?_ ?_ <;> intro _) | fail)
        (refine rt_Z (y := ()) (hrs := Try.results84) (hv := ?_) (hφ := ?_))
        · rfl
        · trivial
      | false =>
        have e2 : (x.toList == y.toList) = true := by simpa using hc
        rw [e2, Bool.true_and] at hd
        repeat' (first | (refine go_Z ?_; intros) | (refine gs_Z ?_ ?_ <;> (intro hgd; try (simp only [Bool.not_true, Bool.not_false] at hgd))) | (refine gc_Z ?_ ?_ <;> intro _) | fail)
        refine cont_back (n + 1) ⟨h, hd.symm, ⟨rfl, rfl, rfl, trivial⟩, rfl⟩ (by omega)
    · have t1 : decide ((n : Int) < ((xs.map strV).length : Int)) = false := by simp only [decide_eq_false_iff_not, List.length_map]; omega
      have e2 : sameT xs ys = true := by
        rw [← hsm, List.drop_eq_nil_of_le h, List.drop_eq_nil_of_le (by omega)]; rfl
      rw [e2]
      repeat' (first | (refine go_Z ?_; intros) | (refine gs_Z ?_ ?_ <;> (intro hgd; try (simp only [Bool.not_true, Bool.not_false] at hgd))) | (refine gc_Z ?_ ?_ <;> intro _) | fail)
      (refine rt_Z (y := ()) (hrs := Try.results84) (hv := ?_) (hφ := ?_))
      · rfl
      · trivial

def begB (xs ys : List BA) : Bool := decide ((xs.length : Int) ≤ (ys.length : Int)) && sameT xs (ys.take xs.length)
theorem begB_of {xs ys : List BA} (h : xs <+: ys) : begB xs ys = true := by
  unfold begB
  rw [Bool.and_eq_true]
  have := h.length_le
  exact ⟨by simpa using this, sameT_iff.2 (List.prefix_iff_eq_take.1 h)⟩

/-- A slice as it is cut. -/
def plainV (v : Value) : Prop := ∃ p len cap, v = .slice p len cap ∧ len ≤ cap ∧ ∀ q, p = some q → q.spot = none
theorem begins_spec (u v : Value) (A B : HProp) (xs ys : List BA) (hA : Vw A 1 u (xs.map strV)) (hB : Vw B 1 v (ys.map strV)) (hc : plainV v) (hb : xs.length ≤ 4611686018427387904) :
    FSpec Try.prog 40 [u, v] [A, B] Unit (fun _ => True) (fun _ => .bool (begB xs ys)) (fun _ => [A, B]) := by
  have hlm : (xs.map strV).length = xs.length := by simp
  have hlm' : (ys.map strV).length = ys.length := by simp
  obtain ⟨pv, len, cv, rfl, hcv, hsp⟩ := hc
  unfold begB
  refine spec_intro [] _ Try.func40 rfl Try.ntmps40 (by rfl) (fun w0 R => ?_)
  refine ok_learn (VwIn.slice (VwIn.here hA)) ?_
  rintro ⟨pu, cu, rfl⟩
  refine ok_learn (VwIn.slice (VwIn.there (VwIn.here hB))) ?_
  rintro ⟨_, _, e⟩
  simp only [Value.slice.injEq] at e
  obtain ⟨rfl, rfl, rfl⟩ := e
  cases t1 : decide (((xs.map strV).length : Int) ≤ ((ys.map strV).length : Int)) with
  | false =>
    rw [hlm, hlm'] at t1
    have t1' := t1
    rw [← hlm, ← hlm'] at t1'
    rw [t1, Bool.false_and]
    repeat' (first | (refine go_Z ?_; intros) | (refine gs_Z ?_ ?_ <;> (intro hgd; try (simp only [Bool.not_true, Bool.not_false] at hgd))) | (refine gc_Z ?_ ?_ <;> intro _) | fail)
    (refine rt_Z (y := ()) (hrs := Try.results40) (hv := ?_) (hφ := ?_))
    · rfl
    · trivial
  | true =>
    have hle : xs.length ≤ ys.length := by simp at t1; omega
    have t2 : decide ((xs.length : Int) ≤ (ys.length : Int)) = true := by simpa using hle
    rw [t2, Bool.true_and]
    have hB' := Vw.take hB (k := (xs.map strV).length) (by omega)
    rw [← List.map_take, hlm] at hB'
    have hS := SameT_spec _ _ A B xs (ys.take xs.length) hA hB' hb
    rw [← hlm] at hS
    have hcap : (xs.map strV).length ≤ cv := by omega
    rw [← hlm]
    repeat' (first | (refine go_Z ?_; intros) | (refine gs_Z ?_ ?_ <;> (intro hgd; try (simp only [Bool.not_true, Bool.not_false] at hgd))) | (refine gc_Z ?_ ?_ <;> intro _) | fail)
    refine cl_Z (hS) ?_
    intro _ _
    repeat' (first | (refine go_Z ?_; intros) | (refine gs_Z ?_ ?_ <;> (intro hgd; try (simp only [Bool.not_true, Bool.not_false] at hgd))) | (refine gc_Z ?_ ?_ <;> intro _) | fail)
    (refine rt_Z (y := ()) (hrs := Try.results40) (hv := ?_) (hφ := ?_))
    · rfl
    · trivial
end Go.Proofs.Ytgmobpngcilgjaa
