/- The walks of package disk, part J: Read. -/
import Derived.Test.YtgmobpngcilgjaaDkI
-- @DEFS Z
set_option linter.unusedSimpArgs false
set_option linter.unusedVariables false
set_option maxRecDepth 4000
namespace Go.Proofs.Ytgmobpngcilgjaa
open Go Go.Fx Go.Proofs Go.Pl

theorem min_rng {a : Int} {n : Nat} (h : 0 ≤ a) : 0 ≤ (if (n : Int) < a then (n : Int) else a) ∧ (if (n : Int) < a then (n : Int) else a) ≤ (n : Int) := by split <;> omega

theorem read_spec (b : Nat) (d : Dk) (name : ByteArray) (off n : Int) (hn : name.size ≤ 4611686018427387904) :
    FSpec Try.prog 31 [.pointer (some ⟨b, 0, none⟩), .string name, .int .i64 off, .int .i64 n] [diskP b d] Unit (fun _ => True) (fun _ => .tuple #[.string (d.read name off n).1, .int .i64 (d.read name off n).2]) (fun _ => [diskP b d]) := by
  refine fspec_ex ?_
  rintro ⟨⟨m1, m2, v, vs⟩, hv, hvs⟩
  unfold diskL
  dsimp only at hv hvs ⊢
  have hns : ∀ x ∈ [name], x.size ≤ 4611686018427387904 := by simpa using hn
  have hg := getK_encF name d.files
  have hh : d.has name = (fget name d.files).isSome := rfl
  unfold Dk.read
  by_cases h1 : d.live [name] = 0
  · have t1 : (!decide (d.live [name] = 0)) = false := by simp [h1]
    rw [if_neg (by simp [h1])]
    by_cases h2 : off < 0 ∨ n < 0
    · rw [if_pos h2]
      cases t2 : decide (off < 0) with
      | true =>
        cases hf : fget name d.files with
        | none =>
          rw [hf] at hg
          simp only [Option.map_none] at hg
          refine spec_intro [] _ Try.func31 rfl Try.ntmps31 (by rfl) (fun w0 R => ?_)
          repeat' (first | (refine go_Z ?_; intros) | (refine gs_Z ?_ ?_ <;> (intro hgd; try (simp only [Bool.not_true, Bool.not_false] at hgd))) | (refine gc_Z ?_ ?_ <;> intro _) | fail)
          rename_i vn hvn
          refine cl_Z (live_spec b [] (.map (some m1)) (.map (some m2)) v (.int .i64 d.room) (.int .i64 d.fuse) d vn (row 9 1 vn [[.string name]]) [name] Vw.row hns (by simp)) ?_
          intro _ _
          rw [h1]
          repeat' (first | (refine go_Z ?_; intros) | (refine gs_Z ?_ ?_ <;> (intro hgd; try (simp only [Bool.not_true, Bool.not_false] at hgd))) | (refine gc_Z ?_ ?_ <;> intro _) | fail)
          refine cont_map (fun _ h => disk_in (b := b) (m1 := m1) (m2 := m2) (d := d) (v := v) (vs := vs) hv hvs (Take.out takeD h)) ?_
          (refine rt_Z (y := ()) (hrs := Try.results31) (hv := ?_) (hφ := ?_))
          · rfl
          · trivial
        | some t =>
          rw [hf] at hg
          simp only [Option.map_some] at hg
          refine spec_intro [] _ Try.func31 rfl Try.ntmps31 (by rfl) (fun w0 R => ?_)
          repeat' (first | (refine go_Z ?_; intros) | (refine gs_Z ?_ ?_ <;> (intro hgd; try (simp only [Bool.not_true, Bool.not_false] at hgd))) | (refine gc_Z ?_ ?_ <;> intro _) | fail)
          rename_i vn hvn
          refine cl_Z (live_spec b [] (.map (some m1)) (.map (some m2)) v (.int .i64 d.room) (.int .i64 d.fuse) d vn (row 9 1 vn [[.string name]]) [name] Vw.row hns (by simp)) ?_
          intro _ _
          rw [h1]
          repeat' (first | (refine go_Z ?_; intros) | (refine gs_Z ?_ ?_ <;> (intro hgd; try (simp only [Bool.not_true, Bool.not_false] at hgd))) | (refine gc_Z ?_ ?_ <;> intro _) | fail)
          refine cont_map (fun _ h => disk_in (b := b) (m1 := m1) (m2 := m2) (d := d) (v := v) (vs := vs) hv hvs (Take.out takeD h)) ?_
          (refine rt_Z (y := ()) (hrs := Try.results31) (hv := ?_) (hφ := ?_))
          · rfl
          · trivial
      | false =>
        have t3 : decide (n < 0) = true := by simp at t2 ⊢; omega
        cases hf : fget name d.files with
        | none =>
          rw [hf] at hg
          simp only [Option.map_none] at hg
          refine spec_intro [] _ Try.func31 rfl Try.ntmps31 (by rfl) (fun w0 R => ?_)
          repeat' (first | (refine go_Z ?_; intros) | (refine gs_Z ?_ ?_ <;> (intro hgd; try (simp only [Bool.not_true, Bool.not_false] at hgd))) | (refine gc_Z ?_ ?_ <;> intro _) | fail)
          rename_i vn hvn
          refine cl_Z (live_spec b [] (.map (some m1)) (.map (some m2)) v (.int .i64 d.room) (.int .i64 d.fuse) d vn (row 9 1 vn [[.string name]]) [name] Vw.row hns (by simp)) ?_
          intro _ _
          rw [h1]
          repeat' (first | (refine go_Z ?_; intros) | (refine gs_Z ?_ ?_ <;> (intro hgd; try (simp only [Bool.not_true, Bool.not_false] at hgd))) | (refine gc_Z ?_ ?_ <;> intro _) | fail)
          refine cont_map (fun _ h => disk_in (b := b) (m1 := m1) (m2 := m2) (d := d) (v := v) (vs := vs) hv hvs (Take.out takeD h)) ?_
          (refine rt_Z (y := ()) (hrs := Try.results31) (hv := ?_) (hφ := ?_))
          · rfl
          · trivial
        | some t =>
          rw [hf] at hg
          simp only [Option.map_some] at hg
          refine spec_intro [] _ Try.func31 rfl Try.ntmps31 (by rfl) (fun w0 R => ?_)
          repeat' (first | (refine go_Z ?_; intros) | (refine gs_Z ?_ ?_ <;> (intro hgd; try (simp only [Bool.not_true, Bool.not_false] at hgd))) | (refine gc_Z ?_ ?_ <;> intro _) | fail)
          rename_i vn hvn
          refine cl_Z (live_spec b [] (.map (some m1)) (.map (some m2)) v (.int .i64 d.room) (.int .i64 d.fuse) d vn (row 9 1 vn [[.string name]]) [name] Vw.row hns (by simp)) ?_
          intro _ _
          rw [h1]
          repeat' (first | (refine go_Z ?_; intros) | (refine gs_Z ?_ ?_ <;> (intro hgd; try (simp only [Bool.not_true, Bool.not_false] at hgd))) | (refine gc_Z ?_ ?_ <;> intro _) | fail)
          refine cont_map (fun _ h => disk_in (b := b) (m1 := m1) (m2 := m2) (d := d) (v := v) (vs := vs) hv hvs (Take.out takeD h)) ?_
          (refine rt_Z (y := ()) (hrs := Try.results31) (hv := ?_) (hφ := ?_))
          · rfl
          · trivial
    · rw [if_neg h2]
      have t2 : decide (off < 0) = false := by simp; omega
      have t3 : decide (n < 0) = false := by simp; omega
      cases hf : fget name d.files with
      | none =>
        rw [if_pos (by rw [hh, hf]; rfl)]
        rw [hf] at hg
        simp only [Option.map_none] at hg
        refine spec_intro [] _ Try.func31 rfl Try.ntmps31 (by rfl) (fun w0 R => ?_)
        repeat' (first | (refine go_Z ?_; intros) | (refine gs_Z ?_ ?_ <;> (intro hgd; try (simp only [Bool.not_true, Bool.not_false] at hgd))) | (refine gc_Z ?_ ?_ <;> intro _) | fail)
        rename_i vn hvn
        refine cl_Z (live_spec b [] (.map (some m1)) (.map (some m2)) v (.int .i64 d.room) (.int .i64 d.fuse) d vn (row 9 1 vn [[.string name]]) [name] Vw.row hns (by simp)) ?_
        intro _ _
        rw [h1]
        repeat' (first | (refine go_Z ?_; intros) | (refine gs_Z ?_ ?_ <;> (intro hgd; try (simp only [Bool.not_true, Bool.not_false] at hgd))) | (refine gc_Z ?_ ?_ <;> intro _) | fail)
        refine cl_Z (has_spec b m1 d.files name (.map (some m2)) v (.int .i64 d.room) (.int .i64 d.fuse) (.bool d.still)) ?_
        intro _ _
        rw [hf]
        repeat' (first | (refine go_Z ?_; intros) | (refine gs_Z ?_ ?_ <;> (intro hgd; try (simp only [Bool.not_true, Bool.not_false] at hgd))) | (refine gc_Z ?_ ?_ <;> intro _) | fail)
        refine cont_map (fun _ h => disk_in (b := b) (m1 := m1) (m2 := m2) (d := d) (v := v) (vs := vs) hv hvs (Take.out takeD h)) ?_
        (refine rt_Z (y := ()) (hrs := Try.results31) (hv := ?_) (hφ := ?_))
        · rfl
        · trivial
      | some t =>
        have ht : ftext name d.files = t := by unfold ftext; rw [hf]; rfl
        rw [if_neg (by rw [hh, hf]; simp), ht]
        rw [hf] at hg
        simp only [Option.map_some] at hg
        have r1 := min_rng (a := off) (n := t.size) (by omega)
        have r2 := min_rng (a := n) (n := (t.extract (if (t.size : Int) < off then (t.size : Int) else off).toNat t.size).size) (by omega)
        refine spec_intro [] _ Try.func31 rfl Try.ntmps31 (by rfl) (fun w0 R => ?_)
        repeat' (first | (refine go_Z ?_; intros) | (refine gs_Z ?_ ?_ <;> (intro hgd; try (simp only [Bool.not_true, Bool.not_false] at hgd))) | (refine gc_Z ?_ ?_ <;> intro _) | fail)
        rename_i vn hvn
        refine cl_Z (live_spec b [] (.map (some m1)) (.map (some m2)) v (.int .i64 d.room) (.int .i64 d.fuse) d vn (row 9 1 vn [[.string name]]) [name] Vw.row hns (by simp)) ?_
        intro _ _
        rw [h1]
        repeat' (first | (refine go_Z ?_; intros) | (refine gs_Z ?_ ?_ <;> (intro hgd; try (simp only [Bool.not_true, Bool.not_false] at hgd))) | (refine gc_Z ?_ ?_ <;> intro _) | fail)
        refine cl_Z (has_spec b m1 d.files name (.map (some m2)) v (.int .i64 d.room) (.int .i64 d.fuse) (.bool d.still)) ?_
        intro _ _
        rw [hf]
        repeat' (first | (refine go_Z ?_; intros) | (refine gs_Z ?_ ?_ <;> (intro hgd; try (simp only [Bool.not_true, Bool.not_false] at hgd))) | (refine gc_Z ?_ ?_ <;> intro _) | fail)
        refine cont_map (fun _ h => disk_in (b := b) (m1 := m1) (m2 := m2) (d := d) (v := v) (vs := vs) hv hvs (Take.out takeD h)) ?_
        (refine rt_Z (y := ()) (hrs := Try.results31) (hv := ?_) (hφ := ?_))
        · rfl
        · trivial
  · have t1 : (!decide (d.live [name] = 0)) = true := by simp [h1]
    rw [if_pos h1]
    refine spec_intro [] _ Try.func31 rfl Try.ntmps31 (by rfl) (fun w0 R => ?_)
    repeat' (first | (refine go_Z ?_; intros) | (refine gs_Z ?_ ?_ <;> (intro hgd; try (simp only [Bool.not_true, Bool.not_false] at hgd))) | (refine gc_Z ?_ ?_ <;> intro _) | fail)
    rename_i vn hvn
    refine cl_Z (live_spec b [] (.map (some m1)) (.map (some m2)) v (.int .i64 d.room) (.int .i64 d.fuse) d vn (row 9 1 vn [[.string name]]) [name] Vw.row hns (by simp)) ?_
    intro _ _
    repeat' (first | (refine go_Z ?_; intros) | (refine gs_Z ?_ ?_ <;> (intro hgd; try (simp only [Bool.not_true, Bool.not_false] at hgd))) | (refine gc_Z ?_ ?_ <;> intro _) | fail)
    refine cont_map (fun _ h => disk_in (b := b) (m1 := m1) (m2 := m2) (d := d) (v := v) (vs := vs) hv hvs (Take.out takeD h)) ?_
    (refine rt_Z (y := ()) (hrs := Try.results31) (hv := ?_) (hφ := ?_))
    · rfl
    · trivial
end Go.Proofs.Ytgmobpngcilgjaa
