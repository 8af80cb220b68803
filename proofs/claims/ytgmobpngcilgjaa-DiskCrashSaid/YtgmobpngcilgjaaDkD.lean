/- The walks of package disk, part D: used, has, maps.Clone, settle. -/
import Derived.Test.YtgmobpngcilgjaaDkC
import Derived.Laws.Externs
-- @DEFS Z
set_option linter.unusedSimpArgs false
set_option linter.unusedVariables false
set_option maxRecDepth 4000
namespace Go.Proofs.Ytgmobpngcilgjaa
open Go Go.Fx Go.Proofs Go.Pl

theorem encF_split {F : FS} {pre post : List (ByteArray × Value)} {x : ByteArray × Value} (h : encF F = pre ++ x :: post) : ∃ pre' k s post', F = pre' ++ (k, s) :: post' ∧ pre = encF pre' ∧ x = (k, .agg #[.string s]) ∧ post = encF post' := by
  obtain ⟨pre', rest, rfl, h1, h2⟩ := List.map_eq_append_iff.1 h
  obtain ⟨y, post', rfl, h3, h4⟩ := List.map_eq_cons_iff.1 h2
  exact ⟨pre', y.1, y.2, post', rfl, h1.symm, h3.symm, h4.symm⟩
theorem encF_append (a b : FS) : encF (a ++ b) = encF a ++ encF b := List.map_append
theorem fused_append (a b : FS) : fused (a ++ b) = fused a + fused b := by simp [fused]
theorem encF_nil {F : FS} (h : encF F = []) : F = [] := List.map_eq_nil_iff.1 h

theorem used_spec (b m : Nat) (F : FS) (a1 a2 a3 a4 a5 : Value) (hF : fused F ≤ 4611686018427387904) : FSpec Try.prog 76 [.pointer (some ⟨b, 0, none⟩)] [pts b (.cells [.map (some m), a1, a2, a3, a4, a5].toArray 122), mapK KStr m (encF F)] Unit (fun _ => True)
    (fun _ => .int .i64 (fused F)) (fun _ => [pts b (.cells [.map (some m), a1, a2, a3, a4, a5].toArray 122), mapK KStr m (encF F)]) := by
  refine spec_intro [] _ Try.func76 rfl Try.ntmps76 (by rfl) (fun w0 R => ?_)
  repeat' (first | (refine go_Z ?_; intros) | (refine gs_Z ?_ ?_ <;> (intro hgd; try (simp only [Bool.not_true, Bool.not_false] at hgd))) | (refine gc_Z ?_ ?_ <;> intro _) | fail)
  rename_i it
  refine ok_loop' (γ := FS) (fun rem ρ L => ∃ (cur : Option (ByteArray × Value)) (n : Nat), n + fused rem = fused F ∧ Knows ρ [(2, .int .i64 n), (9, .pointer (some ⟨it, 0, none⟩))] ∧ L = [rangeK KStr it m (encF F) (encF rem) cur, pts b (.cells [.map (some m), a1, a2, a3, a4, a5].toArray 122)] ++ R) (fun rem => rem.length) F ⟨none, 0, by simp, ⟨rfl, rfl, trivial⟩, rfl⟩ ?_
  rintro rem ρ L ⟨cur, n, hn, hk, rfl⟩
  refine ok_regs hk ?_
  repeat' (first | (refine go_Z ?_; intros) | (refine gs_Z ?_ ?_ <;> (intro hgd; try (simp only [Bool.not_true, Bool.not_false] at hgd))) | (refine gc_Z ?_ ?_ <;> intro _) | fail)
  refine nx_Z ?_ ?_
  · intro hrem
    have hrem' := encF_nil hrem
    subst hrem'
    have hn' : n = fused F := by simpa [fused] using hn
    subst hn'
    repeat' (first | (refine go_Z ?_; intros) | (refine gs_Z ?_ ?_ <;> (intro hgd; try (simp only [Bool.not_true, Bool.not_false] at hgd))) | (refine gc_Z ?_ ?_ <;> intro _) | fail)
    refine cont_map (fun _ h => (Take.out1 (A := rangeK KStr it m (encF F) (encF []) cur) takeD h).headMono fun _ h => rangeK.map h) ?_
    (refine rt_Z (y := ()) (hrs := Try.results76) (hv := ?_) (hφ := ?_))
    · rfl
    · trivial
  · intro x pre post hrem
    obtain ⟨pre', k, s, post', rfl, rfl, rfl, rfl⟩ := encF_split hrem
    rw [← encF_append]
    have hs : fused (pre' ++ (k, s) :: post') = fused (pre' ++ post') + s.size := by simp [fused_append, fused]; omega
    repeat' (first | (refine go_Z ?_; intros) | (refine gs_Z ?_ ?_ <;> (intro hgd; try (simp only [Bool.not_true, Bool.not_false] at hgd))) | (refine gc_Z ?_ ?_ <;> intro _) | fail)
    refine cont_map (L' := [rangeK KStr it m (encF F) (encF (pre' ++ post')) (some (k, .agg #[.string s])), pts b (.cells [.map (some m), a1, a2, a3, a4, a5].toArray 122)] ++ R) entD ?_
    refine cont_back (pre' ++ post') ⟨_, n + s.size, by omega, ⟨rfl, rfl, trivial⟩, rfl⟩ (by simp)

theorem has_spec (b m : Nat) (F : FS) (name : ByteArray) (a1 a2 a3 a4 a5 : Value) : FSpec Try.prog 82 [.pointer (some ⟨b, 0, none⟩), .string name] [pts b (.cells [.map (some m), a1, a2, a3, a4, a5].toArray 122), mapK KStr m (encF F)] Unit (fun _ => True)
    (fun _ => .bool (fget name F).isSome) (fun _ => [pts b (.cells [.map (some m), a1, a2, a3, a4, a5].toArray 122), mapK KStr m (encF F)]) := by
  have hg := getK_encF name F
  cases hx : fget name F with
  | none =>
    rw [hx] at hg
    simp only [Option.map_none] at hg
    refine spec_intro [] _ Try.func82 rfl Try.ntmps82 (by rfl) (fun w0 R => ?_)
    repeat' (first | (refine go_Z ?_; intros) | (refine gs_Z ?_ ?_ <;> (intro hgd; try (simp only [Bool.not_true, Bool.not_false] at hgd))) | (refine gc_Z ?_ ?_ <;> intro _) | fail)
    (refine rt_Z (y := ()) (hrs := Try.results82) (hv := ?_) (hφ := ?_))
    · rfl
    · trivial
  | some s =>
    rw [hx] at hg
    simp only [Option.map_some] at hg
    refine spec_intro [] _ Try.func82 rfl Try.ntmps82 (by rfl) (fun w0 R => ?_)
    repeat' (first | (refine go_Z ?_; intros) | (refine gs_Z ?_ ?_ <;> (intro hgd; try (simp only [Bool.not_true, Bool.not_false] at hgd))) | (refine gc_Z ?_ ?_ <;> intro _) | fail)
    (refine rt_Z (y := ()) (hrs := Try.results82) (hv := ?_) (hφ := ?_))
    · rfl
    · trivial

theorem clone_call (args : Array Value) (w : World) : (callFunc 135 args).run Try.prog w = ((Extern.MapsClone.clone args).run Try.prog w).andThen fun v w' => .ok (.value v) w' :=
  run_callFunc_extern Try.func135 (by kernel_rfl) (by kernel_rfl) (by kernel_rfl) (by kernel_rfl) args w

theorem clone_spec (m : Nat) (l : List (ByteArray × Value)) : FSpec Try.prog 92 [.map (some m)] [mapK KStr m l] Nat (fun _ => True) (fun b => .map (some b)) (fun b => [mapK KStr b l, mapK KStr m l]) := by
  refine spec_intro [] _ Try.func92 rfl Try.ntmps92 (by rfl) (fun w0 R => ?_)
  repeat' (first | (refine go_Z ?_; intros) | (refine gs_Z ?_ ?_ <;> (intro hgd; try (simp only [Bool.not_true, Bool.not_false] at hgd))) | (refine gc_Z ?_ ?_ <;> intro _) | fail)
  refine clV_Z (vspec_clone clone_call KStr 119 m l) ?_
  intro y _
  repeat' (first | (refine go_Z ?_; intros) | (refine gs_Z ?_ ?_ <;> (intro hgd; try (simp only [Bool.not_true, Bool.not_false] at hgd))) | (refine gc_Z ?_ ?_ <;> intro _) | fail)
  (refine rt_Z (y := y) (hrs := Try.results92) (hv := ?_) (hφ := ?_))
  · rfl
  · trivial

theorem settle_spec (b : Nat) (F S : FS) (m1 m2 : Nat) (v a3 a4 a5 : Value) (L : HProp) : FSpec Try.prog 79 [.pointer (some ⟨b, 0, none⟩)] [pts b (.cells [.map (some m1), .map (some m2), v, a3, a4, a5].toArray 122), mapK KStr m1 (encF F), mapK KStr m2 (encF S), L] Nat (fun _ => True)
    (fun _ => .tuple #[]) (fun m => [pts b (.cells [.map (some m1), .map (some m), .slice none 0 0, a3, a4, a5].toArray 122), mapK KStr m1 (encF F), mapK KStr m (encF F)]) := by
  refine spec_intro [] _ Try.func79 rfl Try.ntmps79 (by rfl) (fun w0 R => ?_)
  repeat' (first | (refine go_Z ?_; intros) | (refine gs_Z ?_ ?_ <;> (intro hgd; try (simp only [Bool.not_true, Bool.not_false] at hgd))) | (refine gc_Z ?_ ?_ <;> intro _) | fail)
  refine cl_Z (clone_spec m1 (encF F)) ?_
  intro y _
  repeat' (first | (refine go_Z ?_; intros) | (refine gs_Z ?_ ?_ <;> (intro hgd; try (simp only [Bool.not_true, Bool.not_false] at hgd))) | (refine gc_Z ?_ ?_ <;> intro _) | fail)
  (refine rt_Z (y := y) (hrs := Try.results79) (hv := ?_) (hφ := ?_))
  · rfl
  · trivial
end Go.Proofs.Ytgmobpngcilgjaa
