/- The walks of package disk, part H: Truncate, Rename, Remove. -/
import Derived.Test.YtgmobpngcilgjaaDkG
-- @DEFS Z
set_option linter.unusedSimpArgs false
set_option linter.unusedVariables false
set_option maxRecDepth 4000
namespace Go.Proofs.Ytgmobpngcilgjaa
open Go Go.Fx Go.Proofs Go.Pl

theorem truncate_spec (b : Nat) (d : Dk) (name : ByteArray) (n : Int) (hd : d.Ok) (hl : d.loose.length ≤ 1099511627776) (hn : name.size ≤ 4611686018427387904) :
    FSpec Try.prog 80 [.pointer (some ⟨b, 0, none⟩), .string name, .int .i64 n] [diskP b d] Unit (fun _ => True) (fun _ => .int .i64 (d.truncate name n).2) (fun _ => [diskP b (d.truncate name n).1]) := by
  refine fspec_ex ?_
  rintro ⟨⟨m1, m2, v, vs⟩, hv, hvs⟩
  unfold diskL
  dsimp only at hv hvs ⊢
  have hns : ∀ x ∈ [name], x.size ≤ 4611686018427387904 := by simpa using hn
  unfold Dk.truncate
  by_cases h1 : d.live [name] = 0
  · have t1 : (!decide (d.live [name] = 0)) = false := by simp [h1]
    rw [if_neg (by simp [h1])]
    cases h2 : decide (n < 0) with
    | true =>
      rw [if_pos (by simpa using h2)]
      refine spec_intro [] _ Try.func80 rfl Try.ntmps80 (by rfl) (fun w0 R => ?_)
      repeat' (first | (refine go_Z ?_; intros) | (refine gs_Z ?_ ?_ <;> (intro hgd; try (simp only [Bool.not_true, Bool.not_false] at hgd))) | (refine gc_Z ?_ ?_ <;> intro _) | fail)
      rename_i bn bk vn hvn
      refine cl_Z (live_spec b [] (.map (some m1)) (.map (some m2)) v (.int .i64 d.room) (.int .i64 d.fuse) d vn (row 9 1 vn [[.string name]]) [name] Vw.row hns (by simp)) ?_
      intro _ _
      rw [h1]
      repeat' (first | (refine go_Z ?_; intros) | (refine gs_Z ?_ ?_ <;> (intro hgd; try (simp only [Bool.not_true, Bool.not_false] at hgd))) | (refine gc_Z ?_ ?_ <;> intro _) | fail)
      refine cont_map (fun _ h => disk_in (b := b) (m1 := m1) (m2 := m2) (d := d) (v := v) (vs := vs) hv hvs (Take.out takeD h)) ?_
      (refine rt_Z (y := ()) (hrs := Try.results80) (hv := ?_) (hφ := ?_))
      · rfl
      · trivial
    | false =>
      rw [if_neg (by simpa using h2)]
      have hg := getK_encF name d.files
      have hh : d.has name = (fget name d.files).isSome := rfl
      cases hf : fget name d.files with
      | none =>
        rw [if_pos (by rw [hh, hf]; rfl)]
        refine spec_intro [] _ Try.func80 rfl Try.ntmps80 (by rfl) (fun w0 R => ?_)
        repeat' (first | (refine go_Z ?_; intros) | (refine gs_Z ?_ ?_ <;> (intro hgd; try (simp only [Bool.not_true, Bool.not_false] at hgd))) | (refine gc_Z ?_ ?_ <;> intro _) | fail)
        rename_i bn bk vn hvn
        refine cl_Z (live_spec b [] (.map (some m1)) (.map (some m2)) v (.int .i64 d.room) (.int .i64 d.fuse) d vn (row 9 1 vn [[.string name]]) [name] Vw.row hns (by simp)) ?_
        intro _ _
        rw [h1]
        repeat' (first | (refine go_Z ?_; intros) | (refine gs_Z ?_ ?_ <;> (intro hgd; try (simp only [Bool.not_true, Bool.not_false] at hgd))) | (refine gc_Z ?_ ?_ <;> intro _) | fail)
        refine cl_Z (has_spec b m1 d.files name (.map (some m2)) v (.int .i64 d.room) (.int .i64 d.fuse) (.bool d.still)) ?_
        intro _ _
        rw [hf]
        repeat' (first | (refine go_Z ?_; intros) | (refine gs_Z ?_ ?_ <;> (intro hgd; try (simp only [Bool.not_true, Bool.not_false] at hgd))) | (refine gc_Z ?_ ?_ <;> intro _) | fail)
        refine cont_map (fun _ h => disk_in (b := b) (m1 := m1) (m2 := m2) (d := d) (v := v) (vs := vs) hv hvs (Take.out takeD h)) ?_
        (refine rt_Z (y := ()) (hrs := Try.results80) (hv := ?_) (hφ := ?_))
        · rfl
        · trivial
      | some t =>
        have ht : ftext name d.files = t := by unfold ftext; rw [hf]; rfl
        rw [if_neg (by rw [hh, hf]; simp), ht]
        rw [hf] at hg
        simp only [Option.map_some] at hg
        cases h3 : decide ((t.size : Int) < n) with
        | true =>
          rw [if_pos (by simpa using h3)]
          refine spec_intro [] _ Try.func80 rfl Try.ntmps80 (by rfl) (fun w0 R => ?_)
          repeat' (first | (refine go_Z ?_; intros) | (refine gs_Z ?_ ?_ <;> (intro hgd; try (simp only [Bool.not_true, Bool.not_false] at hgd))) | (refine gc_Z ?_ ?_ <;> intro _) | fail)
          rename_i bn bk vn hvn
          refine cl_Z (live_spec b [] (.map (some m1)) (.map (some m2)) v (.int .i64 d.room) (.int .i64 d.fuse) d vn (row 9 1 vn [[.string name]]) [name] Vw.row hns (by simp)) ?_
          intro _ _
          rw [h1]
          repeat' (first | (refine go_Z ?_; intros) | (refine gs_Z ?_ ?_ <;> (intro hgd; try (simp only [Bool.not_true, Bool.not_false] at hgd))) | (refine gc_Z ?_ ?_ <;> intro _) | fail)
          refine cl_Z (has_spec b m1 d.files name (.map (some m2)) v (.int .i64 d.room) (.int .i64 d.fuse) (.bool d.still)) ?_
          intro _ _
          rw [hf]
          repeat' (first | (refine go_Z ?_; intros) | (refine gs_Z ?_ ?_ <;> (intro hgd; try (simp only [Bool.not_true, Bool.not_false] at hgd))) | (refine gc_Z ?_ ?_ <;> intro _) | fail)
          refine cont_map (fun _ h => disk_in (b := b) (m1 := m1) (m2 := m2) (d := d) (v := v) (vs := vs) hv hvs (Take.out takeD h)) ?_
          (refine rt_Z (y := ()) (hrs := Try.results80) (hv := ?_) (hφ := ?_))
          · rfl
          · trivial
        | false =>
          rw [if_neg (by simpa using h3)]
          have hok : Cl.ok (.trunc name n) d.files := ⟨by simpa using h2, by rw [ht]; simpa using h3⟩
          have hdo := do_spec b d (.trunc name n)
          refine spec_intro [] _ Try.func80 rfl Try.ntmps80 (by rfl) (fun w0 R => ?_)
          repeat' (first | (refine go_Z ?_; intros) | (refine gs_Z ?_ ?_ <;> (intro hgd; try (simp only [Bool.not_true, Bool.not_false] at hgd))) | (refine gc_Z ?_ ?_ <;> intro _) | fail)
          rename_i bn bk vn hvn
          refine cl_Z (live_spec b [] (.map (some m1)) (.map (some m2)) v (.int .i64 d.room) (.int .i64 d.fuse) d vn (row 9 1 vn [[.string name]]) [name] Vw.row hns (by simp)) ?_
          intro _ _
          rw [h1]
          repeat' (first | (refine go_Z ?_; intros) | (refine gs_Z ?_ ?_ <;> (intro hgd; try (simp only [Bool.not_true, Bool.not_false] at hgd))) | (refine gc_Z ?_ ?_ <;> intro _) | fail)
          refine cl_Z (has_spec b m1 d.files name (.map (some m2)) v (.int .i64 d.room) (.int .i64 d.fuse) (.bool d.still)) ?_
          intro _ _
          rw [hf]
          repeat' (first | (refine go_Z ?_; intros) | (refine gs_Z ?_ ?_ <;> (intro hgd; try (simp only [Bool.not_true, Bool.not_false] at hgd))) | (refine gc_Z ?_ ?_ <;> intro _) | fail)
          refine opsL_map (fun _ h => disk_in (b := b) (m1 := m1) (m2 := m2) (d := d) (v := v) (vs := vs) hv hvs (Take.out takeD h)) ?_
          refine opsL_map (fun _ h => cl_trunc (bn := bn) (bk := bk) (n := name) (j := n) (Take.out takeD h)) ?_
          refine cl_Z (hdo _ _ rfl rfl hd hok hl) ?_
          intro _ _
          repeat' (first | (refine go_Z ?_; intros) | (refine gs_Z ?_ ?_ <;> (intro hgd; try (simp only [Bool.not_true, Bool.not_false] at hgd))) | (refine gc_Z ?_ ?_ <;> intro _) | fail)
          (refine rt_Z (y := ()) (hrs := Try.results80) (hv := ?_) (hφ := ?_))
          · rfl
          · trivial
  · have t1 : (!decide (d.live [name] = 0)) = true := by simp [h1]
    rw [if_pos h1]
    refine spec_intro [] _ Try.func80 rfl Try.ntmps80 (by rfl) (fun w0 R => ?_)
    repeat' (first | (refine go_Z ?_; intros) | (refine gs_Z ?_ ?_ <;> (intro hgd; try (simp only [Bool.not_true, Bool.not_false] at hgd))) | (refine gc_Z ?_ ?_ <;> intro _) | fail)
    rename_i bn bs vn hvn
    refine cl_Z (live_spec b [] (.map (some m1)) (.map (some m2)) v (.int .i64 d.room) (.int .i64 d.fuse) d vn (row 9 1 vn [[.string name]]) [name] Vw.row hns (by simp)) ?_
    intro _ _
    repeat' (first | (refine go_Z ?_; intros) | (refine gs_Z ?_ ?_ <;> (intro hgd; try (simp only [Bool.not_true, Bool.not_false] at hgd))) | (refine gc_Z ?_ ?_ <;> intro _) | fail)
    refine cont_map (fun _ h => disk_in (b := b) (m1 := m1) (m2 := m2) (d := d) (v := v) (vs := vs) hv hvs (Take.out takeD h)) ?_
    (refine rt_Z (y := ()) (hrs := Try.results80) (hv := ?_) (hφ := ?_))
    · rfl
    · trivial

theorem rename_spec (b : Nat) (d : Dk) (x y : ByteArray) (hd : d.Ok) (hl : d.loose.length ≤ 1099511627776) (hx : x.size ≤ 4611686018427387904) (hy : y.size ≤ 4611686018427387904) :
    FSpec Try.prog 75 [.pointer (some ⟨b, 0, none⟩), .string x, .string y] [diskP b d] Unit (fun _ => True) (fun _ => .int .i64 (d.rename x y).2) (fun _ => [diskP b (d.rename x y).1]) := by
  refine fspec_ex ?_
  rintro ⟨⟨m1, m2, v, vs⟩, hv, hvs⟩
  unfold diskL
  dsimp only at hv hvs ⊢
  have hns : ∀ z ∈ [x, y], z.size ≤ 4611686018427387904 := by simp [hx, hy]
  unfold Dk.rename
  by_cases h1 : d.live [x, y] = 0
  · have t1 : (!decide (d.live [x, y] = 0)) = false := by simp [h1]
    rw [if_neg (by simp [h1])]
    cases h2 : (x.toList == y.toList) with
    | true =>
      rw [if_pos rfl]
      refine spec_intro [] _ Try.func75 rfl Try.ntmps75 (by rfl) (fun w0 R => ?_)
      repeat' (first | (refine go_Z ?_; intros) | (refine gs_Z ?_ ?_ <;> (intro hgd; try (simp only [Bool.not_true, Bool.not_false] at hgd))) | (refine gc_Z ?_ ?_ <;> intro _) | fail)
      rename_i bx by_ vn hvn
      refine cl_Z (live_spec b [] (.map (some m1)) (.map (some m2)) v (.int .i64 d.room) (.int .i64 d.fuse) d vn (row 9 1 vn [[.string x], [.string y]]) [x, y] Vw.row hns (by simp)) ?_
      intro _ _
      rw [h1]
      repeat' (first | (refine go_Z ?_; intros) | (refine gs_Z ?_ ?_ <;> (intro hgd; try (simp only [Bool.not_true, Bool.not_false] at hgd))) | (refine gc_Z ?_ ?_ <;> intro _) | fail)
      refine cont_map (fun _ h => disk_in (b := b) (m1 := m1) (m2 := m2) (d := d) (v := v) (vs := vs) hv hvs (Take.out takeD h)) ?_
      (refine rt_Z (y := ()) (hrs := Try.results75) (hv := ?_) (hφ := ?_))
      · rfl
      · trivial
    | false =>
      rw [if_neg (by simp)]
      have hh : d.has x = (fget x d.files).isSome := rfl
      cases hf : fget x d.files with
      | none =>
        rw [if_pos (by rw [hh, hf]; rfl)]
        refine spec_intro [] _ Try.func75 rfl Try.ntmps75 (by rfl) (fun w0 R => ?_)
        repeat' (first | (refine go_Z ?_; intros) | (refine gs_Z ?_ ?_ <;> (intro hgd; try (simp only [Bool.not_true, Bool.not_false] at hgd))) | (refine gc_Z ?_ ?_ <;> intro _) | fail)
        rename_i bx by_ vn hvn
        refine cl_Z (live_spec b [] (.map (some m1)) (.map (some m2)) v (.int .i64 d.room) (.int .i64 d.fuse) d vn (row 9 1 vn [[.string x], [.string y]]) [x, y] Vw.row hns (by simp)) ?_
        intro _ _
        rw [h1]
        repeat' (first | (refine go_Z ?_; intros) | (refine gs_Z ?_ ?_ <;> (intro hgd; try (simp only [Bool.not_true, Bool.not_false] at hgd))) | (refine gc_Z ?_ ?_ <;> intro _) | fail)
        refine cl_Z (has_spec b m1 d.files x (.map (some m2)) v (.int .i64 d.room) (.int .i64 d.fuse) (.bool d.still)) ?_
        intro _ _
        rw [hf]
        repeat' (first | (refine go_Z ?_; intros) | (refine gs_Z ?_ ?_ <;> (intro hgd; try (simp only [Bool.not_true, Bool.not_false] at hgd))) | (refine gc_Z ?_ ?_ <;> intro _) | fail)
        refine cont_map (fun _ h => disk_in (b := b) (m1 := m1) (m2 := m2) (d := d) (v := v) (vs := vs) hv hvs (Take.out takeD h)) ?_
        (refine rt_Z (y := ()) (hrs := Try.results75) (hv := ?_) (hφ := ?_))
        · rfl
        · trivial
      | some t =>
        rw [if_neg (by rw [hh, hf]; simp)]
        have hdo := do_spec b d (.ren x y)
        refine spec_intro [] _ Try.func75 rfl Try.ntmps75 (by rfl) (fun w0 R => ?_)
        repeat' (first | (refine go_Z ?_; intros) | (refine gs_Z ?_ ?_ <;> (intro hgd; try (simp only [Bool.not_true, Bool.not_false] at hgd))) | (refine gc_Z ?_ ?_ <;> intro _) | fail)
        rename_i bx by_ vn hvn
        refine cl_Z (live_spec b [] (.map (some m1)) (.map (some m2)) v (.int .i64 d.room) (.int .i64 d.fuse) d vn (row 9 1 vn [[.string x], [.string y]]) [x, y] Vw.row hns (by simp)) ?_
        intro _ _
        rw [h1]
        repeat' (first | (refine go_Z ?_; intros) | (refine gs_Z ?_ ?_ <;> (intro hgd; try (simp only [Bool.not_true, Bool.not_false] at hgd))) | (refine gc_Z ?_ ?_ <;> intro _) | fail)
        refine cl_Z (has_spec b m1 d.files x (.map (some m2)) v (.int .i64 d.room) (.int .i64 d.fuse) (.bool d.still)) ?_
        intro _ _
        rw [hf]
        repeat' (first | (refine go_Z ?_; intros) | (refine gs_Z ?_ ?_ <;> (intro hgd; try (simp only [Bool.not_true, Bool.not_false] at hgd))) | (refine gc_Z ?_ ?_ <;> intro _) | fail)
        refine opsL_map (fun _ h => disk_in (b := b) (m1 := m1) (m2 := m2) (d := d) (v := v) (vs := vs) hv hvs (Take.out takeD h)) ?_
        refine opsL_map (fun _ h => cl_ren (ba := bx) (bb := by_) (a := x) (b := y) (Take.out takeD h)) ?_
        refine cl_Z (hdo _ _ rfl rfl hd trivial hl) ?_
        intro _ _
        repeat' (first | (refine go_Z ?_; intros) | (refine gs_Z ?_ ?_ <;> (intro hgd; try (simp only [Bool.not_true, Bool.not_false] at hgd))) | (refine gc_Z ?_ ?_ <;> intro _) | fail)
        (refine rt_Z (y := ()) (hrs := Try.results75) (hv := ?_) (hφ := ?_))
        · rfl
        · trivial
  · have t1 : (!decide (d.live [x, y] = 0)) = true := by simp [h1]
    rw [if_pos h1]
    refine spec_intro [] _ Try.func75 rfl Try.ntmps75 (by rfl) (fun w0 R => ?_)
    repeat' (first | (refine go_Z ?_; intros) | (refine gs_Z ?_ ?_ <;> (intro hgd; try (simp only [Bool.not_true, Bool.not_false] at hgd))) | (refine gc_Z ?_ ?_ <;> intro _) | fail)
    rename_i bx by_ vn hvn
    refine cl_Z (live_spec b [] (.map (some m1)) (.map (some m2)) v (.int .i64 d.room) (.int .i64 d.fuse) d vn (row 9 1 vn [[.string x], [.string y]]) [x, y] Vw.row hns (by simp)) ?_
    intro _ _
    repeat' (first | (refine go_Z ?_; intros) | (refine gs_Z ?_ ?_ <;> (intro hgd; try (simp only [Bool.not_true, Bool.not_false] at hgd))) | (refine gc_Z ?_ ?_ <;> intro _) | fail)
    refine cont_map (fun _ h => disk_in (b := b) (m1 := m1) (m2 := m2) (d := d) (v := v) (vs := vs) hv hvs (Take.out takeD h)) ?_
    (refine rt_Z (y := ()) (hrs := Try.results75) (hv := ?_) (hφ := ?_))
    · rfl
    · trivial

theorem remove_spec (b : Nat) (d : Dk) (x : ByteArray) (hd : d.Ok) (hl : d.loose.length ≤ 1099511627776) (hx : x.size ≤ 4611686018427387904) :
    FSpec Try.prog 81 [.pointer (some ⟨b, 0, none⟩), .string x] [diskP b d] Unit (fun _ => True) (fun _ => .int .i64 (d.remove x).2) (fun _ => [diskP b (d.remove x).1]) := by
  refine fspec_ex ?_
  rintro ⟨⟨m1, m2, v, vs⟩, hv, hvs⟩
  unfold diskL
  dsimp only at hv hvs ⊢
  have hns : ∀ z ∈ [x], z.size ≤ 4611686018427387904 := by simp [hx]
  unfold Dk.remove
  by_cases h1 : d.live [x] = 0
  · have t1 : (!decide (d.live [x] = 0)) = false := by simp [h1]
    rw [if_neg (by simp [h1])]
    have hh : d.has x = (fget x d.files).isSome := rfl
    cases hf : fget x d.files with
    | none =>
      rw [if_pos (by rw [hh, hf]; rfl)]
      refine spec_intro [] _ Try.func81 rfl Try.ntmps81 (by rfl) (fun w0 R => ?_)
      repeat' (first | (refine go_Z ?_; intros) | (refine gs_Z ?_ ?_ <;> (intro hgd; try (simp only [Bool.not_true, Bool.not_false] at hgd))) | (refine gc_Z ?_ ?_ <;> intro _) | fail)
      rename_i bx vn hvn
      refine cl_Z (live_spec b [] (.map (some m1)) (.map (some m2)) v (.int .i64 d.room) (.int .i64 d.fuse) d vn (row 9 1 vn [[.string x]]) [x] Vw.row hns (by simp)) ?_
      intro _ _
      rw [h1]
      repeat' (first | (refine go_Z ?_; intros) | (refine gs_Z ?_ ?_ <;> (intro hgd; try (simp only [Bool.not_true, Bool.not_false] at hgd))) | (refine gc_Z ?_ ?_ <;> intro _) | fail)
      refine cl_Z (has_spec b m1 d.files x (.map (some m2)) v (.int .i64 d.room) (.int .i64 d.fuse) (.bool d.still)) ?_
      intro _ _
      rw [hf]
      repeat' (first | (refine go_Z ?_; intros) | (refine gs_Z ?_ ?_ <;> (intro hgd; try (simp only [Bool.not_true, Bool.not_false] at hgd))) | (refine gc_Z ?_ ?_ <;> intro _) | fail)
      refine cont_map (fun _ h => disk_in (b := b) (m1 := m1) (m2 := m2) (d := d) (v := v) (vs := vs) hv hvs (Take.out takeD h)) ?_
      (refine rt_Z (y := ()) (hrs := Try.results81) (hv := ?_) (hφ := ?_))
      · rfl
      · trivial
    | some t =>
      rw [if_neg (by rw [hh, hf]; simp)]
      have hdo := do_spec b d (.rem x)
      refine spec_intro [] _ Try.func81 rfl Try.ntmps81 (by rfl) (fun w0 R => ?_)
      repeat' (first | (refine go_Z ?_; intros) | (refine gs_Z ?_ ?_ <;> (intro hgd; try (simp only [Bool.not_true, Bool.not_false] at hgd))) | (refine gc_Z ?_ ?_ <;> intro _) | fail)
      rename_i bx vn hvn
      refine cl_Z (live_spec b [] (.map (some m1)) (.map (some m2)) v (.int .i64 d.room) (.int .i64 d.fuse) d vn (row 9 1 vn [[.string x]]) [x] Vw.row hns (by simp)) ?_
      intro _ _
      rw [h1]
      repeat' (first | (refine go_Z ?_; intros) | (refine gs_Z ?_ ?_ <;> (intro hgd; try (simp only [Bool.not_true, Bool.not_false] at hgd))) | (refine gc_Z ?_ ?_ <;> intro _) | fail)
      refine cl_Z (has_spec b m1 d.files x (.map (some m2)) v (.int .i64 d.room) (.int .i64 d.fuse) (.bool d.still)) ?_
      intro _ _
      rw [hf]
      repeat' (first | (refine go_Z ?_; intros) | (refine gs_Z ?_ ?_ <;> (intro hgd; try (simp only [Bool.not_true, Bool.not_false] at hgd))) | (refine gc_Z ?_ ?_ <;> intro _) | fail)
      refine opsL_map (fun _ h => disk_in (b := b) (m1 := m1) (m2 := m2) (d := d) (v := v) (vs := vs) hv hvs (Take.out takeD h)) ?_
      refine opsL_map (fun _ h => cl_rem (ba := bx) (a := x) (Take.out takeD h)) ?_
      refine cl_Z (hdo _ _ rfl rfl hd trivial hl) ?_
      intro _ _
      repeat' (first | (refine go_Z ?_; intros) | (refine gs_Z ?_ ?_ <;> (intro hgd; try (simp only [Bool.not_true, Bool.not_false] at hgd))) | (refine gc_Z ?_ ?_ <;> intro _) | fail)
      (refine rt_Z (y := ()) (hrs := Try.results81) (hv := ?_) (hφ := ?_))
      · rfl
      · trivial
  · have t1 : (!decide (d.live [x] = 0)) = true := by simp [h1]
    rw [if_pos h1]
    refine spec_intro [] _ Try.func81 rfl Try.ntmps81 (by rfl) (fun w0 R => ?_)
    repeat' (first | (refine go_Z ?_; intros) | (refine gs_Z ?_ ?_ <;> (intro hgd; try (simp only [Bool.not_true, Bool.not_false] at hgd))) | (refine gc_Z ?_ ?_ <;> intro _) | fail)
    rename_i bx vn hvn
    refine cl_Z (live_spec b [] (.map (some m1)) (.map (some m2)) v (.int .i64 d.room) (.int .i64 d.fuse) d vn (row 9 1 vn [[.string x]]) [x] Vw.row hns (by simp)) ?_
    intro _ _
    repeat' (first | (refine go_Z ?_; intros) | (refine gs_Z ?_ ?_ <;> (intro hgd; try (simp only [Bool.not_true, Bool.not_false] at hgd))) | (refine gc_Z ?_ ?_ <;> intro _) | fail)
    refine cont_map (fun _ h => disk_in (b := b) (m1 := m1) (m2 := m2) (d := d) (v := v) (vs := vs) hv hvs (Take.out takeD h)) ?_
    (refine rt_Z (y := ()) (hrs := Try.results81) (hv := ?_) (hφ := ?_))
    · rfl
    · trivial
end Go.Proofs.Ytgmobpngcilgjaa
