/- The walks of package disk, part E: the closures of a call. -/
import Derived.Test.YtgmobpngcilgjaaDkD
-- @DEFS Z
set_option linter.unusedSimpArgs false
set_option linter.unusedVariables false
set_option maxRecDepth 4000
namespace Go.Proofs.Ytgmobpngcilgjaa
open Go Go.Fx Go.Proofs Go.Pl

theorem lay_spec (m bn bs : Nat) (F : FS) (n s : ByteArray) (k : Int) (hk : 0 ≤ k) (hz : (ftext n F).size + s.size ≤ 1099511627776) : FSpec Try.prog 125 [.map (some m), .int .i64 k, .pointer (some ⟨bn, 0, none⟩), .pointer (some ⟨bs, 0, none⟩)]
    [mapK KStr m (encF F), pts bn (.cells [.string n].toArray 9), pts bs (.cells [.string s].toArray 9)] Unit (fun _ => True) (fun _ => .tuple #[])
    (fun _ => [mapK KStr m (encF (fput n (ftext n F ++ s.extract 0 (if (s.size : Int) < k then (s.size : Int) else k).toNat) F)), pts bn (.cells [.string n].toArray 9), pts bs (.cells [.string s].toArray 9)]) := by
  have hg := getK_encF n F
  have hr : 0 ≤ (if (s.size : Int) < k then (s.size : Int) else k) ∧ (if (s.size : Int) < k then (s.size : Int) else k) ≤ (s.size : Int) := by split <;> omega
  have hx : (s.extract 0 (if (s.size : Int) < k then (s.size : Int) else k).toNat).size ≤ s.size := by rw [ByteArray.size_extract]; omega
  have hp := putK_encF n (ftext n F ++ s.extract 0 (if (s.size : Int) < k then (s.size : Int) else k).toNat) F
  rw [← hp]
  clear hp
  cases hf : fget n F with
  | none =>
    rw [hf] at hg
    simp only [Option.map_none] at hg
    have ht : ftext n F = ({ data := #[] } : ByteArray) := by unfold ftext; rw [hf]; rfl
    rw [ht] at hz ⊢
    refine spec_intro [] _ Try.func125 rfl Try.ntmps125 (by rfl) (fun w0 R => ?_)
    repeat' (first | (refine go_Z ?_; intros) | (refine gs_Z ?_ ?_ <;> (intro hgd; try (simp only [Bool.not_true, Bool.not_false] at hgd))) | (refine gc_Z ?_ ?_ <;> intro _) | fail)
    (refine rt_Z (y := ()) (hrs := Try.results125) (hv := ?_) (hφ := ?_))
    · rfl
    · trivial
  | some t =>
    rw [hf] at hg
    simp only [Option.map_some] at hg
    have ht : ftext n F = t := by unfold ftext; rw [hf]; rfl
    rw [ht] at hz ⊢
    refine spec_intro [] _ Try.func125 rfl Try.ntmps125 (by rfl) (fun w0 R => ?_)
    repeat' (first | (refine go_Z ?_; intros) | (refine gs_Z ?_ ?_ <;> (intro hgd; try (simp only [Bool.not_true, Bool.not_false] at hgd))) | (refine gc_Z ?_ ?_ <;> intro _) | fail)
    (refine rt_Z (y := ()) (hrs := Try.results125) (hv := ?_) (hφ := ?_))
    · rfl
    · trivial

theorem lay_whole {s : ByteArray} : s.extract 0 (if (s.size : Int) < (s.size : Int) then (s.size : Int) else (s.size : Int)).toNat = s := by
  rw [if_neg (by omega)]
  have : ((s.size : Int)).toNat = s.size := by simp
  rw [this]
  exact ByteArray.extract_zero_size

theorem app2_spec (m bn bs bl : Nat) (F : FS) (n s : ByteArray) (hz : (ftext n F).size + s.size ≤ 1099511627776) : FSpec Try.prog 127 [.map (some m), .pointer (some ⟨bl, 0, none⟩), .pointer (some ⟨bs, 0, none⟩)]
    [mapK KStr m (encF F), pts bn (.cells [.string n].toArray 9), pts bs (.cells [.string s].toArray 9), pts bl (.cells [.func (.func 125) #[] [.pointer (some ⟨bn, 0, none⟩), .pointer (some ⟨bs, 0, none⟩)].toArray].toArray 137)] Unit (fun _ => True) (fun _ => .tuple #[])
    (fun _ => [mapK KStr m (encF (Cl.run (.app n s) F)), pts bn (.cells [.string n].toArray 9), pts bs (.cells [.string s].toArray 9), pts bl (.cells [.func (.func 125) #[] [.pointer (some ⟨bn, 0, none⟩), .pointer (some ⟨bs, 0, none⟩)].toArray].toArray 137)]) := by
  have hv := vspec_func (args := [.map (some m), .int .i64 (s.size : Int)]) (cap := [.pointer (some ⟨bn, 0, none⟩), .pointer (some ⟨bs, 0, none⟩)]) (lay_spec m bn bs F n s s.size (by omega) hz)
  rw [lay_whole] at hv
  refine spec_intro [] _ Try.func127 rfl Try.ntmps127 (by rfl) (fun w0 R => ?_)
  repeat' (first | (refine go_Z ?_; intros) | (refine gs_Z ?_ ?_ <;> (intro hgd; try (simp only [Bool.not_true, Bool.not_false] at hgd))) | (refine gc_Z ?_ ?_ <;> intro _) | fail)
  refine clV_Z (hv) ?_
  intro _ _
  repeat' (first | (refine go_Z ?_; intros) | (refine gs_Z ?_ ?_ <;> (intro hgd; try (simp only [Bool.not_true, Bool.not_false] at hgd))) | (refine gc_Z ?_ ?_ <;> intro _) | fail)
  (refine rt_Z (y := ()) (hrs := Try.results127) (hv := ?_) (hφ := ?_))
  · rfl
  · trivial

theorem trunc1_spec (m bn bk : Nat) (F : FS) (n : ByteArray) (k : Int) (h0 : 0 ≤ k) (h1 : k ≤ ((ftext n F).size : Int)) : FSpec Try.prog 132 [.map (some m), .pointer (some ⟨bn, 0, none⟩), .pointer (some ⟨bk, 0, none⟩)]
    [mapK KStr m (encF F), pts bn (.cells [.string n].toArray 9), pts bk (.cells [.int .i64 k].toArray 3)] Unit (fun _ => True) (fun _ => .tuple #[])
    (fun _ => [mapK KStr m (encF (Cl.run (.trunc n k) F)), pts bn (.cells [.string n].toArray 9), pts bk (.cells [.int .i64 k].toArray 3)]) := by
  have hg := getK_encF n F
  have hp := putK_encF n ((ftext n F).extract 0 k.toNat) F
  have hrun : Cl.run (.trunc n k) F = fput n ((ftext n F).extract 0 k.toNat) F := rfl
  rw [hrun, ← hp]
  clear hp hrun
  cases hf : fget n F with
  | none =>
    rw [hf] at hg
    simp only [Option.map_none] at hg
    have ht : ftext n F = ({ data := #[] } : ByteArray) := by unfold ftext; rw [hf]; rfl
    rw [ht] at h1 ⊢
    refine spec_intro [] _ Try.func132 rfl Try.ntmps132 (by rfl) (fun w0 R => ?_)
    repeat' (first | (refine go_Z ?_; intros) | (refine gs_Z ?_ ?_ <;> (intro hgd; try (simp only [Bool.not_true, Bool.not_false] at hgd))) | (refine gc_Z ?_ ?_ <;> intro _) | fail)
    (refine rt_Z (y := ()) (hrs := Try.results132) (hv := ?_) (hφ := ?_))
    · rfl
    · trivial
  | some t =>
    rw [hf] at hg
    simp only [Option.map_some] at hg
    have ht : ftext n F = t := by unfold ftext; rw [hf]; rfl
    rw [ht] at h1 ⊢
    refine spec_intro [] _ Try.func132 rfl Try.ntmps132 (by rfl) (fun w0 R => ?_)
    repeat' (first | (refine go_Z ?_; intros) | (refine gs_Z ?_ ?_ <;> (intro hgd; try (simp only [Bool.not_true, Bool.not_false] at hgd))) | (refine gc_Z ?_ ?_ <;> intro _) | fail)
    (refine rt_Z (y := ()) (hrs := Try.results132) (hv := ?_) (hφ := ?_))
    · rfl
    · trivial

theorem ren1_spec (m ba bb : Nat) (F : FS) (a b : ByteArray) : FSpec Try.prog 128 [.map (some m), .pointer (some ⟨ba, 0, none⟩), .pointer (some ⟨bb, 0, none⟩)]
    [mapK KStr m (encF F), pts ba (.cells [.string a].toArray 9), pts bb (.cells [.string b].toArray 9)] Unit (fun _ => True) (fun _ => .tuple #[])
    (fun _ => [mapK KStr m (encF (Cl.run (.ren a b) F)), pts ba (.cells [.string a].toArray 9), pts bb (.cells [.string b].toArray 9)]) := by
  have hg := getK_encF a F
  have hp := putK_encF b (ftext a F) F
  have hd := delK_encF a (fput b (ftext a F) F)
  have hrun : Cl.run (.ren a b) F = fdel a (fput b (ftext a F) F) := rfl
  rw [hrun, ← hd, ← hp]
  clear hp hrun hd
  cases hf : fget a F with
  | none =>
    rw [hf] at hg
    simp only [Option.map_none] at hg
    have ht : ftext a F = ({ data := #[] } : ByteArray) := by unfold ftext; rw [hf]; rfl
    rw [ht]
    refine spec_intro [] _ Try.func128 rfl Try.ntmps128 (by rfl) (fun w0 R => ?_)
    repeat' (first | (refine go_Z ?_; intros) | (refine gs_Z ?_ ?_ <;> (intro hgd; try (simp only [Bool.not_true, Bool.not_false] at hgd))) | (refine gc_Z ?_ ?_ <;> intro _) | fail)
    (refine rt_Z (y := ()) (hrs := Try.results128) (hv := ?_) (hφ := ?_))
    · rfl
    · trivial
  | some t =>
    rw [hf] at hg
    simp only [Option.map_some] at hg
    have ht : ftext a F = t := by unfold ftext; rw [hf]; rfl
    rw [ht]
    refine spec_intro [] _ Try.func128 rfl Try.ntmps128 (by rfl) (fun w0 R => ?_)
    repeat' (first | (refine go_Z ?_; intros) | (refine gs_Z ?_ ?_ <;> (intro hgd; try (simp only [Bool.not_true, Bool.not_false] at hgd))) | (refine gc_Z ?_ ?_ <;> intro _) | fail)
    (refine rt_Z (y := ()) (hrs := Try.results128) (hv := ?_) (hφ := ?_))
    · rfl
    · trivial

theorem rem1_spec (m ba : Nat) (F : FS) (a : ByteArray) : FSpec Try.prog 133 [.map (some m), .pointer (some ⟨ba, 0, none⟩)]
    [mapK KStr m (encF F), pts ba (.cells [.string a].toArray 9)] Unit (fun _ => True) (fun _ => .tuple #[])
    (fun _ => [mapK KStr m (encF (Cl.run (.rem a) F)), pts ba (.cells [.string a].toArray 9)]) := by
  have hrun : Cl.run (.rem a) F = fdel a F := rfl
  rw [hrun, ← delK_encF]
  refine spec_intro [] _ Try.func133 rfl Try.ntmps133 (by rfl) (fun w0 R => ?_)
  repeat' (first | (refine go_Z ?_; intros) | (refine gs_Z ?_ ?_ <;> (intro hgd; try (simp only [Bool.not_true, Bool.not_false] at hgd))) | (refine gc_Z ?_ ?_ <;> intro _) | fail)
  (refine rt_Z (y := ()) (hrs := Try.results133) (hv := ?_) (hφ := ?_))
  · rfl
  · trivial
end Go.Proofs.Ytgmobpngcilgjaa
