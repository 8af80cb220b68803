import Derived.Test.YtadgdikijdmceaaGreatTqV
import Derived.Test.YtadgdikijdmceaaGreatG8
set_option linter.unusedSimpArgs false
set_option linter.unusedVariables false
set_option maxRecDepth 100000
namespace Go.Proofs.YtadgdikijdmceaaGreat
open Go Go.Fx Go.Proofs Go.Pl

abbrev rtP (rb : Nat) (v : Value) (f sg : Nat) : HProp := pts rb (.cells [v, .int .u64 (f : Int), .int .u64 (sg : Int)].toArray 55)
abbrev rwS (v : Value) (l : List BA) : HProp := row 9 1 v (l.map strV)
def rReadL (f : Nat) (all : List BA) (off : Nat) (most : Int) : List BA := if off < f ∨ all.length < off then [] else (all.drop off).take most.toNat
def rReadE (f : Nat) (all : List BA) (off : Nat) : Int := if off < f ∨ all.length < off then 3 else 0
def rDropF (sg off n : Nat) : Nat → Nat → Nat
  | 0, f => f
  | k + 1, f => if f + sg ≤ off ∧ f + sg < n then rDropF sg off n k (f + sg) else f
structure Ts where
  op : Int
  l : List BA
  v : V1s
  off : Nat
  n : Int
  m : Int
def tsV (x : Ts) : List Value := [.int .i64 x.op, x.v.1, .int .u64 (x.off : Int), .int .i64 x.n, .int .i64 x.m]
def wtL (l : List BA) : Nat := 20 * l.length + sumZ l
def wtS (xs : List Ts) : Nat := (xs.map fun x => wtL x.l).sum
theorem wtS_take {xs : List Ts} {n : Nat} (h : n < xs.length) : wtS (xs.take (n + 1)) = wtS (xs.take n) + wtL xs[n].l := by
  unfold wtS
  rw [List.take_succ_eq_append_getElem h, List.map_append, List.sum_append]
  simp
theorem wtL_take {l : List BA} {n : Nat} (h : n < l.length) : wtL (l.take (n + 1)) = wtL (l.take n) + (20 + l[n].size) := by
  unfold wtL
  rw [sumZ_take h, List.length_take, List.length_take]
  omega
theorem wtL_lenT (l : List BA) : lenT l ≤ wtL l := by
  unfold wtL
  rw [lenT_sumZ]; omega
set_option maxHeartbeats 4000000 in
theorem HeavyT_spec (u : Value) (A : HProp) (xs : List Ts) (hA : Vw A 5 u (xs.map tsV)) (hv : ∀ x ∈ xs, Vw A 1 x.v.1 (x.l.map strV) ∧ ∀ s ∈ x.l, s.size ≤ 140737488355328) :
    FSpec Tryz.prog 8 [u] [A] Bool (fun y => y = false → xs.length ≤ 80 ∧ wtS xs ≤ 16384 ∧ ∀ x ∈ xs, x.l.length ≤ 200 ∧ sumZ x.l ≤ 32768) (fun y => .bool y) (fun _ => [A]) := by
  have hlen : (xs.map tsV).length = xs.length := by simp
  refine spec_intro [] _ Tryz.func8 rfl Tryz.ntmps8 (by rfl) (fun w0 R => ?_)
  refine ok_learn (VwIn.slice (VwIn.here hA)) ?_
  rintro ⟨pu, cu, rfl⟩
  repeat' (first | (refine go_Y ?_; intros) | (refine gs_Y ?_ ?_ <;> (intro hgd; try (simp only [Bool.not_true, Bool.not_false] at hgd))) | (refine gc_Y ?_ ?_ <;> intro _) | fail)
  refine ok_loop' (γ := Nat) (fun g ρ L => g ≤ xs.length ∧ g ≤ 200 ∧ (∀ x ∈ xs.take g, x.l.length ≤ 200 ∧ sumZ x.l ≤ 32768) ∧ wtS (xs.take g) ≤ g * 40000 ∧ Knows ρ [(0, .slice pu (xs.map tsV).length cu), (3, .int .i64 (wtS (xs.take g))), (4, .int .i64 g)] ∧ L = [A] ++ R) (fun g => xs.length - g) 0 ⟨by simp, by simp, by simp, by simp [wtS], ⟨rfl, rfl, rfl, trivial⟩, rfl⟩ ?_
  rintro i ρ L ⟨hi, hi1, hall, hs, hk, rfl⟩
  refine ok_regs hk ?_
  cases t1 : decide ((i : Int) < ((xs.map tsV).length : Int)) with
  | false =>
    have hie : i = xs.length := by have := of_decide_eq_false t1; omega
    have hfull : xs.take i = xs := by rw [hie]; exact List.take_length
    rw [hfull] at hall hs ⊢
    cases t5 : decide ((80 : Int) < ((xs.map tsV).length : Int)) with
    | true =>
      repeat' (first | (refine go_Y ?_; intros) | (refine gs_Y ?_ ?_ <;> (intro hgd; try (simp only [Bool.not_true, Bool.not_false] at hgd))) | (refine gc_Y ?_ ?_ <;> intro _) | fail)
      (refine rt_Y (y := true) (hrs := Tryz.results8) (hv := ?_) (hφ := ?_))
      · rfl
      · exact fun h => by cases h
    | false =>
      repeat' (first | (refine go_Y ?_; intros) | (refine gs_Y ?_ ?_ <;> (intro hgd; try (simp only [Bool.not_true, Bool.not_false] at hgd))) | (refine gc_Y ?_ ?_ <;> intro _) | fail)
      (refine rt_Y (y := decide ((16384 : Int) < (wtS xs : Int))) (hrs := Tryz.results8) (hv := ?_) (hφ := ?_))
      · rfl
      · exact fun h => ⟨by have := of_decide_eq_false t5; omega, by have := of_decide_eq_false h; omega, hall⟩
  | true =>
    have h : i < xs.length := by have := of_decide_eq_true t1; omega
    cases t2 : decide ((i : Int) < 200) with
    | false =>
      have hbig : decide ((80 : Int) < ((xs.map tsV).length : Int)) = true := decide_eq_true (by have := of_decide_eq_false t2; omega)
      repeat' (first | (refine go_Y ?_; intros) | (refine gs_Y ?_ ?_ <;> (intro hgd; try (simp only [Bool.not_true, Bool.not_false] at hgd))) | (refine gc_Y ?_ ?_ <;> intro _) | fail)
      (refine rt_Y (y := true) (hrs := Tryz.results8) (hv := ?_) (hφ := ?_))
      · rfl
      · exact fun h => by cases h
    | true =>
      have h3 : i < 200 := by have := of_decide_eq_true t2; omega
      have hn1 : i < (xs.map tsV).length := by omega
      have hx : (xs.map tsV)[i]? = some (tsV xs[i]) := by rw [List.getElem?_map, List.getElem?_eq_getElem h]; rfl
      have htk : xs.take (i + 1) = xs.take i ++ [xs[i]] := List.take_succ_eq_append_getElem h
      have hwt := wtS_take h
      obtain ⟨hvx, hzx⟩ := hv _ (List.getElem_mem h)
      refine ok_learn (VwIn.base (VwIn.here hA) (by intro e; rw [e] at hn1; simp at hn1)) ?_
      rintro ⟨bu, ou, rfl⟩
      generalize xs[i] = x at hx htk hvx hzx hwt
      obtain ⟨o, l, ⟨v, hvc⟩, off, n, k⟩ := x
      dsimp only at hvx hzx hwt
      dsimp only [tsV] at hx
      have hll : (l.map strV).length = l.length := by simp
      have hL := LargeT_spec v A l hvx hzx
      repeat' (first | (refine go_Y ?_; intros) | (refine gs_Y ?_ ?_ <;> (intro hgd; try (simp only [Bool.not_true, Bool.not_false] at hgd))) | (refine gc_Y ?_ ?_ <;> intro _) | fail)
      refine cl_Y (hL) ?_
      intro y hy
      cases y with
      | true =>
        repeat' (first | (refine go_Y ?_; intros) | (refine gs_Y ?_ ?_ <;> (intro hgd; try (simp only [Bool.not_true, Bool.not_false] at hgd))) | (refine gc_Y ?_ ?_ <;> intro _) | fail)
        (refine rt_Y (y := true) (hrs := Tryz.results8) (hv := ?_) (hφ := ?_))
        · rfl
        · exact fun h => by cases h
      | false =>
        obtain ⟨hl2, hz2⟩ := hy rfl
        refine ops_learn (VwIn.slice (VwIn.here hvx)) ?_
        rintro ⟨pv, cv, rfl⟩
        repeat' (first | (refine go_Y ?_; intros) | (refine gs_Y ?_ ?_ <;> (intro hgd; try (simp only [Bool.not_true, Bool.not_false] at hgd))) | (refine gc_Y ?_ ?_ <;> intro _) | fail)
        refine ok_loop' (γ := Nat) (fun k ρ L => k ≤ l.length ∧ Knows ρ [(0, .slice (some ⟨bu, ou, none⟩) (xs.map tsV).length cu), (3, .int .i64 ((wtS (xs.take i) + wtL (l.take k) : Nat) : Int)), (4, .int .i64 i), (5, .int .i64 k)] ∧ L = [A] ++ R) (fun k => l.length - k) 0 ⟨by simp, ⟨rfl, rfl, rfl, rfl, trivial⟩, rfl⟩ ?_
        rintro k ρ L ⟨hkl, hk, rfl⟩
        refine ok_regs hk ?_
        have hpre : wtL (l.take k) ≤ 37000 := by
          unfold wtL
          have h1 : sumZ (l.take k) ≤ sumZ l := by
            have := congrArg sumZ (List.take_append_drop k l)
            rw [sumZ_app] at this
            omega
          rw [List.length_take]
          omega
        cases t3 : decide ((k : Int) < ((l.map strV).length : Int)) with
        | false =>
          have hke : k = l.length := by have := of_decide_eq_false t3; omega
          subst hke
          rw [List.take_length] at hpre
          rw [List.take_length]
          repeat' (first | (refine go_Y ?_; intros) | (refine gs_Y ?_ ?_ <;> (intro hgd; try (simp only [Bool.not_true, Bool.not_false] at hgd))) | (refine gc_Y ?_ ?_ <;> intro _) | fail)
          refine cont_back (i + 1) ⟨h, by omega, ?_, by omega, ⟨rfl, by rw [hwt]; rfl, rfl, trivial⟩, rfl⟩ (by omega)
          intro x hxm
          rw [htk] at hxm
          rcases List.mem_append.1 hxm with hxm | hxm
          · exact hall x hxm
          · rw [List.mem_singleton] at hxm; subst hxm; exact ⟨hl2, hz2⟩
        | true =>
          have hk1 : k < l.length := by have := of_decide_eq_true t3; omega
          have hn2 : k < (l.map strV).length := by omega
          have hy : (l.map strV)[k]? = some (strV l[k]) := by rw [List.getElem?_map, List.getElem?_eq_getElem hk1]; rfl
          have hlk := wtL_take hk1
          have z2 := hzx _ (List.getElem_mem hk1)
          refine ok_learn (VwIn.base (VwIn.here hvx) (by intro e; rw [e] at hn2; simp at hn2)) ?_
          rintro ⟨bv, ov, rfl⟩
          generalize l[k] = t at hy hlk z2
          dsimp only [strV] at hy
          have hsum : (((wtS (xs.take i) + wtL (l.take k) : Nat) : Int) + 20) + (t.size : Int) = ((wtS (xs.take i) + wtL (l.take (k + 1)) : Nat) : Int) := by omega
          repeat' (first | (refine go_Y ?_; intros) | (refine gs_Y ?_ ?_ <;> (intro hgd; try (simp only [Bool.not_true, Bool.not_false] at hgd))) | (refine gc_Y ?_ ?_ <;> intro _) | fail)
          refine cont_back (k + 1) ⟨hk1, ⟨rfl, congrArg (Value.int .i64) hsum, rfl, rfl, trivial⟩, rfl⟩ (by omega)
end Go.Proofs.YtadgdikijdmceaaGreat
