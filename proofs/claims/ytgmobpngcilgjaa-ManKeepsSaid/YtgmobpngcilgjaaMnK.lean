/- The walk of ManKeeps. -/
import Derived.Test.YtgmobpngcilgjaaMnS
-- @DEFS Z
set_option linter.unusedSimpArgs false
set_option linter.unusedVariables false
set_option maxRecDepth 4000
namespace Go.Proofs.Ytgmobpngcilgjaa
open Go Go.Fx Go.Proofs Go.Pl

def Dk.roomTo (d : Dk) (n : Int) : Dk := if n < 0 ∨ 16777216 < n then d else { d with room := n }
theorem room_ok {d : Dk} (h : d.Ok) (n : Int) : (Dk.roomTo d n).Ok := by
  unfold Dk.roomTo
  split
  · exact h
  · exact { h with room0 := by show 0 ≤ n; omega, roomM := by show n ≤ 16777216; omega }
theorem room_spec (b : Nat) (d : Dk) (n : Int) : FSpec Try.prog 52 [.pointer (some ⟨b, 0, none⟩), .int .i64 n] [diskP b d] Unit (fun _ => True) (fun _ => .int .i64 (if n < 0 ∨ 16777216 < n then 2 else 0)) (fun _ => [diskP b (Dk.roomTo d n)]) := by
  refine fspec_ex ?_
  rintro ⟨⟨m1, m2, v, vs⟩, hv, hvs⟩
  unfold diskL Dk.roomTo
  dsimp only at hv hvs ⊢
  cases t1 : decide (n < 0) with
  | true =>
    have h1 : n < 0 ∨ 16777216 < n := .inl (by simpa using t1)
    rw [if_pos h1, if_pos h1]
    refine spec_intro [] _ Try.func52 rfl Try.ntmps52 (by rfl) (fun w0 R => ?_)
    repeat' (first | (refine go_Z ?_; intros) | (refine gs_Z ?_ ?_ <;> (intro hgd; try (simp only [Bool.not_true, Bool.not_false] at hgd))) | (refine gc_Z ?_ ?_ <;> intro _) | fail)
    refine cont_map (fun _ h => disk_in (b := b) (m1 := m1) (m2 := m2) (d := d) (v := v) (vs := vs) hv hvs (Take.out takeD h)) ?_
    (refine rt_Z (y := ()) (hrs := Try.results52) (hv := ?_) (hφ := ?_))
    · rfl
    · trivial
  | false =>
    cases t2 : decide (16777216 < n) with
    | true =>
      have h1 : n < 0 ∨ 16777216 < n := .inr (by simpa using t2)
      rw [if_pos h1, if_pos h1]
      refine spec_intro [] _ Try.func52 rfl Try.ntmps52 (by rfl) (fun w0 R => ?_)
      repeat' (first | (refine go_Z ?_; intros) | (refine gs_Z ?_ ?_ <;> (intro hgd; try (simp only [Bool.not_true, Bool.not_false] at hgd))) | (refine gc_Z ?_ ?_ <;> intro _) | fail)
      refine cont_map (fun _ h => disk_in (b := b) (m1 := m1) (m2 := m2) (d := d) (v := v) (vs := vs) hv hvs (Take.out takeD h)) ?_
      (refine rt_Z (y := ()) (hrs := Try.results52) (hv := ?_) (hφ := ?_))
      · rfl
      · trivial
    | false =>
      have h1 : ¬ (n < 0 ∨ 16777216 < n) := by simp at t1 t2; omega
      rw [if_neg h1, if_neg h1]
      refine spec_intro [] _ Try.func52 rfl Try.ntmps52 (by rfl) (fun w0 R => ?_)
      repeat' (first | (refine go_Z ?_; intros) | (refine gs_Z ?_ ?_ <;> (intro hgd; try (simp only [Bool.not_true, Bool.not_false] at hgd))) | (refine gc_Z ?_ ?_ <;> intro _) | fail)
      refine cont_map (fun _ h => disk_in (b := b) (m1 := m1) (m2 := m2) (d := { d with room := n }) (v := v) (vs := vs) hv hvs (Take.out takeD h)) ?_
      (refine rt_Z (y := ()) (hrs := Try.results52) (hv := ?_) (hφ := ?_))
      · rfl
      · trivial

/-- A step of a script. -/
structure Sm where
  op : Int
  m : Mn
  v : { v : Value // v.oneCell' = true }
  n : Int
  k : Int
def smV (x : Sm) : List Value := [.int .i64 x.op, .int .u64 x.m.wal, x.v.1, .int .u64 x.m.next, .int .i64 x.n, .int .i64 x.k]

theorem heavyM_spec (u : Value) (A : HProp) (xs : List Sm) (hA : Vw A 6 u (xs.map smV)) (hv : ∀ x ∈ xs, Vw A 1 x.v.1 (x.m.runs.map uV)) :
    FSpec Try.prog 51 [u] [A] Bool (fun y => y = false → xs.length ≤ 60 ∧ ∀ x ∈ xs, x.m.runs.length ≤ 20) (fun y => .bool y) (fun _ => [A]) := by
  refine spec_intro [] _ Try.func51 rfl Try.ntmps51 (by rfl) (fun w0 R => ?_)
  refine ok_learn (VwIn.slice (VwIn.here hA)) ?_
  rintro ⟨pu, cu, rfl⟩
  repeat' (first | (refine go_Z ?_; intros) | (refine gs_Z ?_ ?_ <;> (intro hgd; try (simp only [Bool.not_true, Bool.not_false] at hgd))) | (refine gc_Z ?_ ?_ <;> intro _) | fail)
  have hlen : (xs.map smV).length = xs.length := by simp
  refine ok_loop' (γ := Nat) (fun i ρ L => i ≤ xs.length ∧ i ≤ 100 ∧ (∀ x ∈ xs.take i, x.m.runs.length ≤ 20) ∧ Knows ρ [(0, .slice pu (xs.map smV).length cu), (3, .int .i64 i)] ∧ L = [A] ++ R) (fun i => xs.length - i) 0 ⟨by simp, by simp, by simp, ⟨rfl, rfl, trivial⟩, rfl⟩ ?_
  rintro i ρ L ⟨hi, hi1, hall, hk, rfl⟩
  refine ok_regs hk ?_
  cases t1 : decide ((i : Int) < ((xs.map smV).length : Int)) with
  | false =>
    have hie : i = xs.length := by simp at t1; omega
    have hfull : xs.take i = xs := by rw [hie]; exact List.take_length
    rw [hfull] at hall
    repeat' (first | (refine go_Z ?_; intros) | (refine gs_Z ?_ ?_ <;> (intro hgd; try (simp only [Bool.not_true, Bool.not_false] at hgd))) | (refine gc_Z ?_ ?_ <;> intro _) | fail)
    (refine rt_Z (y := decide ((60 : Int) < ((xs.map smV).length : Int))) (hrs := Try.results51) (hv := ?_) (hφ := ?_))
    · rfl
    · intro hb
      simp only [decide_eq_false_iff_not, hlen] at hb
      exact ⟨by omega, hall⟩
  | true =>
    have h : i < xs.length := by simp at t1; omega
    cases t2 : decide ((i : Int) < 100) with
    | false =>
      have h100 : i = 100 := by simp at t2; omega
      repeat' (first | (refine go_Z ?_; intros) | (refine gs_Z ?_ ?_ <;> (intro hgd; try (simp only [Bool.not_true, Bool.not_false] at hgd))) | (refine gc_Z ?_ ?_ <;> intro _) | fail)
      (refine rt_Z (y := decide ((60 : Int) < ((xs.map smV).length : Int))) (hrs := Try.results51) (hv := ?_) (hφ := ?_))
      · rfl
      · intro hb
        simp only [decide_eq_false_iff_not, hlen] at hb
        omega
    | true =>
      have h100 : i < 100 := by simp at t2; omega
      have hn1 : i < (xs.map smV).length := by omega
      have hx : (xs.map smV)[i]? = some (smV xs[i]) := by rw [List.getElem?_map, List.getElem?_eq_getElem h]; rfl
      have htk : xs.take (i + 1) = xs.take i ++ [xs[i]] := by rw [List.take_add_one, List.getElem?_eq_getElem h]; rfl
      have hvx := hv _ (List.getElem_mem h)
      refine ok_learn (VwIn.base (VwIn.here hA) (by intro e; rw [e] at hn1; simp at hn1)) ?_
      rintro ⟨bu, ou, rfl⟩
      generalize xs[i] = x at hx htk hvx
      obtain ⟨o, m, ⟨v, hvc⟩, n, k⟩ := x
      dsimp only at hvx
      have hlr : (m.runs.map uV).length = m.runs.length := by simp
      cases t3 : decide ((20 : Int) < ((m.runs.map uV).length : Int)) with
      | true =>
        repeat' (first | (refine go_Z ?_; intros) | (refine gs_Z ?_ ?_ <;> (intro hgd; try (simp only [Bool.not_true, Bool.not_false] at hgd))) | (refine gc_Z ?_ ?_ <;> intro _) | fail)
        (refine rt_Z (y := true) (hrs := Try.results51) (hv := ?_) (hφ := ?_))
        · rfl
        · intro hb; cases hb
      | false =>
        have h20 : m.runs.length ≤ 20 := by simp at t3; omega
        repeat' (first | (refine go_Z ?_; intros) | (refine gs_Z ?_ ?_ <;> (intro hgd; try (simp only [Bool.not_true, Bool.not_false] at hgd))) | (refine gc_Z ?_ ?_ <;> intro _) | fail)
        refine cont_back (i + 1) ⟨h, by omega, ?_, ⟨rfl, rfl, trivial⟩, rfl⟩ (by omega)
        intro x hxm
        rw [htk] at hxm
        rcases List.mem_append.1 hxm with hxm | hxm
        · exact hall x hxm
        · rw [List.mem_singleton] at hxm; subst hxm; exact h20
end Go.Proofs.Ytgmobpngcilgjaa
