/- The walk of frame.All. -/
import Derived.Test.YtgmobpngcilgjaaFrC
-- @DEFS Z
set_option linter.unusedSimpArgs false
set_option linter.unusedVariables false
set_option maxRecDepth 4000
namespace Go.Proofs.Ytgmobpngcilgjaa
open Go Go.Fx Go.Proofs Go.Pl

/-- The frames of texts. -/
def framesOf : List BA → BA
  | [] => ⟨#[]⟩
  | s :: l => frameOf s ++ framesOf l
theorem frameOf_size (s : BA) : (frameOf s).size = 12 + s.size := by
  unfold frameOf
  rw [ByteArray.size_append, ByteArray.size_append, ByteArray.size_append, put4_size, put4_size, put4_size]
theorem framesOf_size : ∀ l : List BA, (framesOf l).size = lenT l
  | [] => rfl
  | s :: l => by
    show (frameOf s ++ framesOf l).size = _
    rw [ByteArray.size_append, frameOf_size, framesOf_size l]; simp [lenT]
theorem framesOf_append : ∀ (l m : List BA), framesOf (l ++ m) = framesOf l ++ framesOf m
  | [], m => (ByteArray.empty_append).symm
  | s :: l, m => by
    show frameOf s ++ framesOf (l ++ m) = frameOf s ++ framesOf l ++ framesOf m
    rw [framesOf_append l m, ByteArray.append_assoc]
theorem framesOf_snoc (l : List BA) (s : BA) : framesOf (l ++ [s]) = framesOf l ++ frameOf s := by
  rw [framesOf_append]
  show framesOf l ++ (frameOf s ++ ⟨#[]⟩) = _
  congr 1
  exact ByteArray.append_empty
def allOk (l : List BA) : Bool := l.all fun s => decide (s.size ≤ 4194304)
def allF (l : List BA) : BA := bif allOk l then framesOf l else ⟨#[]⟩

theorem All_spec (u : Value) (A : HProp) (xs : List BA) (hA : Vw A 1 u (xs.map strV)) (hz : lenT xs ≤ 1099511627776) :
    FSpec Try.prog 87 [u] [A] Unit (fun _ => True) (fun _ => .tuple #[.string (allF xs), .int .i64 (bif allOk xs then 0 else 5)]) (fun _ => [A]) := by
  have hcnt : xs.length ≤ lenT xs := by
    clear hA hz
    induction xs with
    | nil => simp
    | cons s l ih => simp only [lenT, List.map_cons, List.sum_cons, List.length_cons] at ih ⊢; omega
  refine spec_intro [] _ Try.func87 rfl Try.ntmps87 (by rfl) (fun w0 R => ?_)
  refine ok_learn (VwIn.slice (VwIn.here hA)) ?_
  rintro ⟨pu, cu, rfl⟩
  repeat' (first | (refine go_Z ?_; intros) | (refine gs_Z ?_ ?_ <;> (intro hgd; try (simp only [Bool.not_true, Bool.not_false] at hgd))) | (refine gc_Z ?_ ?_ <;> intro _) | fail)
  rename_i bb
  refine ok_map (fun _ h => bld_new h) ?_
  have hlen : (xs.map strV).length = xs.length := by simp
  refine ok_loop' (γ := Nat) (fun i ρ L => i ≤ xs.length ∧ allOk (xs.take i) = true ∧ Knows ρ [(4, .pointer (some ⟨bb, 0, none⟩)), (9, .slice pu (xs.map strV).length cu), (10, .int .i64 (xs.map strV).length), (11, .int .i64 i)] ∧ L = [bldP bb (framesOf (xs.take i)), A] ++ R) (fun i => xs.length - i) 0 ⟨by simp, rfl, ⟨rfl, rfl, rfl, rfl, trivial⟩, rfl⟩ ?_
  rintro i ρ L ⟨hi, hok, hk, rfl⟩
  refine ok_regs hk ?_
  cases t1 : decide ((i : Int) < ((xs.map strV).length : Int)) with
  | true =>
    have h : i < xs.length := by simp at t1; omega
    have hn1 : i < (xs.map strV).length := by omega
    have hx : (xs.map strV)[i]? = some (strV xs[i]) := by rw [List.getElem?_map, List.getElem?_eq_getElem h]; rfl
    have htk : xs.take (i + 1) = xs.take i ++ [xs[i]] := by rw [List.take_add_one, List.getElem?_eq_getElem h]; rfl
    have hle : lenT (xs.take i ++ [xs[i]]) ≤ lenT xs := by rw [← htk]; exact lenT_pre (List.take_prefix ..)
    rw [lenT_snoc] at hle
    have hall : allOk (xs.take (i + 1)) = (allOk (xs.take i) && decide (xs[i].size ≤ 4194304)) := by rw [htk]; simp only [allOk, List.all_append, List.all_cons, List.all_nil, Bool.and_true]
    have hmem : xs[i] ∈ xs := List.getElem_mem h
    refine ok_learn (VwIn.base (VwIn.there (VwIn.here hA)) (by intro e; rw [e] at hn1; simp at hn1)) ?_
    rintro ⟨bu, ou, rfl⟩
    generalize xs[i] = x at hx htk hle hall hmem
    have hfs := framesOf_size (xs.take i)
    by_cases hlong : x.size ≤ 4194304
    · repeat' (first | (refine go_Z ?_; intros) | (refine gs_Z ?_ ?_ <;> (intro hgd; try (simp only [Bool.not_true, Bool.not_false] at hgd))) | (refine gc_Z ?_ ?_ <;> intro _) | fail)
      refine cl_Z (fPut_spec x hlong) ?_
      intro _ _
      repeat' (first | (refine go_Z ?_; intros) | (refine gs_Z ?_ ?_ <;> (intro hgd; try (simp only [Bool.not_true, Bool.not_false] at hgd))) | (refine gc_Z ?_ ?_ <;> intro _) | fail)
      refine cl_Z (writeString_spec bb (framesOf (xs.take i)) (frameOf x) (by rw [hfs, frameOf_size]; omega)) ?_
      intro _ _
      repeat' (first | (refine go_Z ?_; intros) | (refine gs_Z ?_ ?_ <;> (intro hgd; try (simp only [Bool.not_true, Bool.not_false] at hgd))) | (refine gc_Z ?_ ?_ <;> intro _) | fail)
      rw [← framesOf_snoc, ← htk]
      refine cont_map (L' := [bldP bb (framesOf (xs.take (i + 1))), A] ++ R) entD ?_
      refine cont_back (i + 1) ⟨h, by rw [hall, hok]; simpa using hlong, ⟨rfl, rfl, rfl, rfl, trivial⟩, rfl⟩ (by omega)
    · have hno : allOk xs = false := by
        simp only [allOk, List.all_eq_false]
        exact ⟨x, hmem, by simpa using hlong⟩
      rw [show allF xs = ⟨#[]⟩ by unfold allF; rw [hno]; rfl, hno]
      repeat' (first | (refine go_Z ?_; intros) | (refine gs_Z ?_ ?_ <;> (intro hgd; try (simp only [Bool.not_true, Bool.not_false] at hgd))) | (refine gc_Z ?_ ?_ <;> intro _) | fail)
      refine cl_Z (fPut_long x (by omega) (by omega)) ?_
      intro _ _
      repeat' (first | (refine go_Z ?_; intros) | (refine gs_Z ?_ ?_ <;> (intro hgd; try (simp only [Bool.not_true, Bool.not_false] at hgd))) | (refine gc_Z ?_ ?_ <;> intro _) | fail)
      (refine rt_Z (y := ()) (hrs := Try.results87) (hv := ?_) (hφ := ?_))
      · rfl
      · trivial
  | false =>
    have hie : i = xs.length := by simp at t1; omega
    subst hie
    rw [List.take_length] at hok ⊢
    rw [show allF xs = framesOf xs by unfold allF; rw [hok]; rfl, hok]
    have hfs := framesOf_size xs
    repeat' (first | (refine go_Z ?_; intros) | (refine gs_Z ?_ ?_ <;> (intro hgd; try (simp only [Bool.not_true, Bool.not_false] at hgd))) | (refine gc_Z ?_ ?_ <;> intro _) | fail)
    refine cl_Z (string_spec bb (framesOf xs) (by omega)) ?_
    intro _ _
    repeat' (first | (refine go_Z ?_; intros) | (refine gs_Z ?_ ?_ <;> (intro hgd; try (simp only [Bool.not_true, Bool.not_false] at hgd))) | (refine gc_Z ?_ ?_ <;> intro _) | fail)
    (refine rt_Z (y := ()) (hrs := Try.results87) (hv := ?_) (hφ := ?_))
    · rfl
    · trivial
end Go.Proofs.Ytgmobpngcilgjaa
