/- The walks of package disk, part C: live (over slices.ContainsFunc). -/
import Derived.Test.YtgmobpngcilgjaaDkB
-- @DEFS Z
set_option linter.unusedSimpArgs false
set_option linter.unusedVariables false
set_option maxRecDepth 4000
namespace Go.Proofs.Ytgmobpngcilgjaa
open Go Go.Fx Go.Proofs Go.Pl

def strL (l : List ByteArray) : List (List Value) := l.map fun s => [.string s]

theorem live1_spec (s : ByteArray) (hs : s.size ≤ 4611686018427387904) : FSpec Try.prog 130 [.string s] [] Unit (fun _ => True) (fun _ => .bool (!mayN s)) (fun _ => []) := by
  refine spec_intro [] _ Try.func130 rfl Try.ntmps130 (by rfl) (fun w0 R => ?_)
  repeat' (first | (refine go_Z ?_; intros) | (refine gs_Z ?_ ?_ <;> (intro hgd; try (simp only [Bool.not_true, Bool.not_false] at hgd))) | (refine gc_Z ?_ ?_ <;> intro _) | fail)
  refine cl_Z (may_spec s hs) ?_
  intro _ _
  repeat' (first | (refine go_Z ?_; intros) | (refine gs_Z ?_ ?_ <;> (intro hgd; try (simp only [Bool.not_true, Bool.not_false] at hgd))) | (refine gc_Z ?_ ?_ <;> intro _) | fail)
  (refine rt_Z (y := ()) (hrs := Try.results130) (hv := ?_) (hφ := ?_))
  · rfl
  · trivial


theorem live1_v (s : ByteArray) (hs : s.size ≤ 4611686018427387904) : VSpec Try.prog (.func (.func 130) #[] #[]) [.string s] [] Unit (fun _ => True) (fun _ => .bool (!mayN s)) (fun _ => []) :=
  vspec_fn (live1_spec s hs)

/-- The library's IndexFunc over texts. -/
theorem indexFunc_spec (fv u : Value) (A : HProp) (p : ByteArray → Bool) (l : List ByteArray) (hA : Vw A 1 u (strL l)) (hf : ∀ s ∈ l, VSpec Try.prog fv [.string s] [] Unit (fun _ => True) (fun _ => .bool (p s)) (fun _ => [])) (hl : l.length ≤ 4611686018427387904) :
    FSpec Try.prog 153 [u, fv] [A] Int (fun y => decide (0 ≤ y) = l.any p) (fun y => .int .i64 y) (fun _ => [A]) := by
  refine spec_intro [] _ Try.func153 rfl Try.ntmps153 (by rfl) (fun w0 R => ?_)
  refine ok_learn (VwIn.slice (VwIn.here hA)) ?_
  rintro ⟨pu, cu, rfl⟩
  repeat' (first | (refine go_Z ?_; intros) | (refine gs_Z ?_ ?_ <;> (intro hgd; try (simp only [Bool.not_true, Bool.not_false] at hgd))) | (refine gc_Z ?_ ?_ <;> intro _) | fail)
  refine ok_loop' (γ := Nat) (fun n ρ L => n ≤ l.length ∧ (l.take n).any p = false ∧ Knows ρ [(0, .slice pu (strL l).length cu), (1, fv), (7, .int .i64 (strL l).length), (8, .int .i64 n)] ∧ L = [A] ++ R) (fun n => l.length - n) 0 ⟨by omega, rfl, ⟨rfl, rfl, rfl, rfl, trivial⟩, rfl⟩ ?_
  rintro n ρ L ⟨hn, hall, hk, rfl⟩
  refine ok_regs hk ?_
  have hlen : (strL l).length = l.length := by simp [strL]
  cases t1 : decide ((n : Int) < ((strL l).length : Int)) with
  | false =>
    have hn' : n = l.length := by simp at t1; omega
    have hfull : l.any p = false := by rw [hn', List.take_of_length_le (Nat.le_refl _)] at hall; exact hall
    repeat' (first | (refine go_Z ?_; intros) | (refine gs_Z ?_ ?_ <;> (intro hgd; try (simp only [Bool.not_true, Bool.not_false] at hgd))) | (refine gc_Z ?_ ?_ <;> intro _) | fail)
    (refine rt_Z (y := (-1)) (hrs := Try.results153) (hv := ?_) (hφ := ?_))
    · rfl
    · rw [hfull]; rfl
  | true =>
    have h : n < l.length := by simp at t1; omega
    have hx : (strL l)[n]? = some [.string l[n]] := by unfold strL; rw [List.getElem?_map, List.getElem?_eq_getElem h]; rfl
    have hn1 : n < (strL l).length := by omega
    have htk : l.take (n + 1) = l.take n ++ [l[n]] := List.take_succ_eq_append_getElem h
    have hin : l[n] ∈ l := List.getElem_mem h
    have hfs := hf l[n] hin
    refine ok_learn (VwIn.base (VwIn.here hA) (by intro e; rw [e] at hn1; simp at hn1)) ?_
    rintro ⟨bu, ou, rfl⟩
    generalize hc : l[n] = c at hx htk hin hfs
    repeat' (first | (refine go_Z ?_; intros) | (refine gs_Z ?_ ?_ <;> (intro hgd; try (simp only [Bool.not_true, Bool.not_false] at hgd))) | (refine gc_Z ?_ ?_ <;> intro _) | fail)
    refine clV_Z (hfs) ?_
    intro _ _
    cases hp : p c with
    | true =>
      repeat' (first | (refine go_Z ?_; intros) | (refine gs_Z ?_ ?_ <;> (intro hgd; try (simp only [Bool.not_true, Bool.not_false] at hgd))) | (refine gc_Z ?_ ?_ <;> intro _) | fail)
      (refine rt_Z (y := (n : Int)) (hrs := Try.results153) (hv := ?_) (hφ := ?_))
      · rfl
      · rw [List.any_eq_true.2 ⟨c, hin, hp⟩]; simp
    | false =>
      repeat' (first | (refine go_Z ?_; intros) | (refine gs_Z ?_ ?_ <;> (intro hgd; try (simp only [Bool.not_true, Bool.not_false] at hgd))) | (refine gc_Z ?_ ?_ <;> intro _) | fail)
      refine cont_back (n + 1) ⟨h, by rw [htk, List.any_append, hall]; simp [hp], ⟨rfl, rfl, rfl, rfl, trivial⟩, rfl⟩ (by omega)

theorem containsFunc_spec (fv u : Value) (A : HProp) (p : ByteArray → Bool) (l : List ByteArray) (hA : Vw A 1 u (strL l)) (hf : ∀ s ∈ l, VSpec Try.prog fv [.string s] [] Unit (fun _ => True) (fun _ => .bool (p s)) (fun _ => [])) (hl : l.length ≤ 4611686018427387904) :
    FSpec Try.prog 129 [u, fv] [A] Unit (fun _ => True) (fun _ => .bool (l.any p)) (fun _ => [A]) := by
  refine spec_intro [] _ Try.func129 rfl Try.ntmps129 (by rfl) (fun w0 R => ?_)
  repeat' (first | (refine go_Z ?_; intros) | (refine gs_Z ?_ ?_ <;> (intro hgd; try (simp only [Bool.not_true, Bool.not_false] at hgd))) | (refine gc_Z ?_ ?_ <;> intro _) | fail)
  refine cl_Z (indexFunc_spec fv u A p l hA hf hl) ?_
  intro y hy
  repeat' (first | (refine go_Z ?_; intros) | (refine gs_Z ?_ ?_ <;> (intro hgd; try (simp only [Bool.not_true, Bool.not_false] at hgd))) | (refine gc_Z ?_ ?_ <;> intro _) | fail)
  rw [← hy]
  (refine rt_Z (y := ()) (hrs := Try.results129) (hv := ?_) (hφ := ?_))
  · rfl
  · trivial

theorem live_nil (u : Value) : FSpec Try.prog 77 [.pointer none, u] [] Unit (fun _ => True) (fun _ => .int .i64 1) (fun _ => []) := by
  refine spec_intro [] _ Try.func77 rfl Try.ntmps77 (by rfl) (fun w0 R => ?_)
  repeat' (first | (refine go_Z ?_; intros) | (refine gs_Z ?_ ?_ <;> (intro hgd; try (simp only [Bool.not_true, Bool.not_false] at hgd))) | (refine gc_Z ?_ ?_ <;> intro _) | fail)
  (refine rt_Z (y := ()) (hrs := Try.results77) (hv := ?_) (hφ := ?_))
  · rfl
  · trivial

theorem live_spec (b : Nat) (cs : List Value) (a0 a1 a2 a3 a4 : Value) (d : Dk) (u : Value) (A : HProp) (l : List ByteArray) (hA : Vw A 1 u (strL l)) (hs : ∀ s ∈ l, s.size ≤ 4611686018427387904) (hl : l.length ≤ 4611686018427387904) :
    FSpec Try.prog 77 [.pointer (some ⟨b, 0, none⟩), u] [pts b (.cells [a0, a1, a2, a3, a4, .bool d.still].toArray 122), A] Unit (fun _ => True) (fun _ => .int .i64 (d.live l)) (fun _ => [pts b (.cells [a0, a1, a2, a3, a4, .bool d.still].toArray 122), A]) := by
  unfold Dk.live
  cases hst : d.still with
  | true =>
    refine spec_intro [] _ Try.func77 rfl Try.ntmps77 (by rfl) (fun w0 R => ?_)
    repeat' (first | (refine go_Z ?_; intros) | (refine gs_Z ?_ ?_ <;> (intro hgd; try (simp only [Bool.not_true, Bool.not_false] at hgd))) | (refine gc_Z ?_ ?_ <;> intro _) | fail)
    (refine rt_Z (y := ()) (hrs := Try.results77) (hv := ?_) (hφ := ?_))
    · rfl
    · trivial
  | false =>
    refine spec_intro [] _ Try.func77 rfl Try.ntmps77 (by rfl) (fun w0 R => ?_)
    repeat' (first | (refine go_Z ?_; intros) | (refine gs_Z ?_ ?_ <;> (intro hgd; try (simp only [Bool.not_true, Bool.not_false] at hgd))) | (refine gc_Z ?_ ?_ <;> intro _) | fail)
    refine cl_Z (containsFunc_spec (.func (.func 130) #[] #[]) u A (fun s => !mayN s) l hA (fun s hx => live1_v s (hs s hx)) hl) ?_
    intro _ _
    cases hp : l.any (fun s => !mayN s) with
    | true =>
      repeat' (first | (refine go_Z ?_; intros) | (refine gs_Z ?_ ?_ <;> (intro hgd; try (simp only [Bool.not_true, Bool.not_false] at hgd))) | (refine gc_Z ?_ ?_ <;> intro _) | fail)
      (refine rt_Z (y := ()) (hrs := Try.results77) (hv := ?_) (hφ := ?_))
      · rfl
      · trivial
    | false =>
      repeat' (first | (refine go_Z ?_; intros) | (refine gs_Z ?_ ?_ <;> (intro hgd; try (simp only [Bool.not_true, Bool.not_false] at hgd))) | (refine gc_Z ?_ ?_ <;> intro _) | fail)
      (refine rt_Z (y := ()) (hrs := Try.results77) (hv := ?_) (hφ := ?_))
      · rfl
      · trivial
end Go.Proofs.Ytgmobpngcilgjaa
