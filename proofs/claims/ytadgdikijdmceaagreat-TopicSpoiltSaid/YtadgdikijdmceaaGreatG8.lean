/- Texts merged: DkI DkJ DkK DkT. -/
import Derived.Test.YtadgdikijdmceaaGreatG7
import Derived.Test.YtadgdikijdmceaaGreatG3
set_option linter.unusedSimpArgs false
set_option linter.unusedVariables false
set_option maxRecDepth 100000
namespace Go.Proofs.YtadgdikijdmceaaGreat
open Go Go.Fx Go.Proofs Go.Pl

theorem strRow0 {L : List HProp} {h : Frag} (s : SatL L h) : SatL (row 9 1 (.slice none 0 0) [] :: L) h := satL_emp (A := row 9 1 (.slice none 0 0) []) ⟨fun _ hx => by simp at hx, .inl ⟨rfl, rfl⟩⟩ s
theorem clRow0 {L : List HProp} {h : Frag} (s : SatL L h) : SatL (row 98 2 (.slice none 0 0) [] :: (fun h => SatL (clsP [] []) h) :: L) h :=
  satL_emp (A := row 98 2 (.slice none 0 0) []) ⟨fun _ hx => by simp at hx, .inl ⟨rfl, rfl⟩⟩ (satL_emp (A := fun h => SatL (clsP [] []) h) trivial s)

theorem new_spec (room : Int) (h0 : 0 ≤ room) (h1 : room ≤ 16777216) : FSpec Tryz.prog 13 [.int .i64 room] [] Nat (fun _ => True) (fun b => .tuple #[.pointer (some ⟨b, 0, none⟩), .int .i64 0]) (fun b => [diskP b (newD room)]) := by
  have t1 : decide (room < 0) = false := by simp; omega
  have t2 : decide (16777216 < room) = false := by simp; omega
  refine spec_intro [] _ Tryz.func13 rfl Tryz.ntmps13 (by rfl) (fun w0 R => ?_)
  repeat' (first | (refine go_Z ?_; intros) | (refine gs_Z ?_ ?_ <;> (intro hgd; try (simp only [Bool.not_true, Bool.not_false] at hgd))) | (refine gc_Z ?_ ?_ <;> intro _) | fail)
  rename_i m1 m2 b
  refine cont_map (fun _ h => clRow0 h) ?_
  refine cont_map (fun _ h => disk_in (b := b) (m1 := m1) (m2 := m2) (d := newD room) (v := .slice none 0 0) (vs := []) rfl rfl (Take.out takeD h)) ?_
  (refine rt_Z (y := b) (hrs := Tryz.results13) (hv := ?_) (hφ := ?_))
  · rfl
  · trivial

theorem Loose_spec (b : Nat) (d : Dk) : FSpec Tryz.prog 53 [.pointer (some ⟨b, 0, none⟩)] [diskP b d] Unit (fun _ => True) (fun _ => .int .i64 d.loose.length) (fun _ => [diskP b d]) := by
  refine fspec_ex ?_
  rintro ⟨⟨m1, m2, v, vs⟩, hv, hvs⟩
  unfold diskL
  dsimp only at hv hvs ⊢
  refine spec_intro [] _ Tryz.func53 rfl Tryz.ntmps53 (by rfl) (fun w0 R => ?_)
  repeat' (first | (refine go_Z ?_; intros) | (refine gs_Z ?_ ?_ <;> (intro hgd; try (simp only [Bool.not_true, Bool.not_false] at hgd))) | (refine gc_Z ?_ ?_ <;> intro _) | fail)
  refine cont_map (fun _ h => disk_in (b := b) (m1 := m1) (m2 := m2) (d := d) (v := v) (vs := vs) hv hvs (Take.out takeD h)) ?_
  rw [← hvs]
  (refine rt_Z (y := ()) (hrs := Tryz.results53) (hv := ?_) (hφ := ?_))
  · rfl
  · trivial

theorem sync_spec (b : Nat) (d : Dk) (hd : d.Ok) : FSpec Tryz.prog 38 [.pointer (some ⟨b, 0, none⟩)] [diskP b d] Unit (fun _ => True) (fun _ => .int .i64 d.sync.2) (fun _ => [diskP b d.sync.1]) := by
  refine fspec_ex ?_
  rintro ⟨⟨m1, m2, v, vs⟩, hv, hvs⟩
  unfold diskL
  dsimp only at hv hvs ⊢
  have f0 := hd.fuse0
  have fM := hd.fuseM
  unfold Dk.sync
  by_cases h1 : d.live [] = 0
  · have t1 : (!decide (d.live [] = 0)) = false := by simp [h1]
    rw [if_neg (by simp [h1])]
    by_cases hf : d.fuse = 0
    · rw [if_pos hf]
      refine spec_intro [] _ Tryz.func38 rfl Tryz.ntmps38 (by rfl) (fun w0 R => ?_)
      repeat' (first | (refine go_Z ?_; intros) | (refine gs_Z ?_ ?_ <;> (intro hgd; try (simp only [Bool.not_true, Bool.not_false] at hgd))) | (refine gc_Z ?_ ?_ <;> intro _) | fail)
      refine opsL_map (fun _ h => strRow0 h) ?_
      refine cl_Z (live_spec b [] (.map (some m1)) (.map (some m2)) v (.int .i64 d.room) (.int .i64 d.fuse) d (.slice none 0 0) (row 9 1 (.slice none 0 0) []) [] Vw.row (by simp) (by simp)) ?_
      intro _ _
      rw [h1]
      repeat' (first | (refine go_Z ?_; intros) | (refine gs_Z ?_ ?_ <;> (intro hgd; try (simp only [Bool.not_true, Bool.not_false] at hgd))) | (refine gc_Z ?_ ?_ <;> intro _) | fail)
      refine cl_Z (burn_spec b [] (.map (some m1)) (.map (some m2)) v (.int .i64 d.room) d.fuse d.still f0 fM) ?_
      intro _ _
      rw [if_pos hf, if_pos hf, if_pos hf]
      repeat' (first | (refine go_Z ?_; intros) | (refine gs_Z ?_ ?_ <;> (intro hgd; try (simp only [Bool.not_true, Bool.not_false] at hgd))) | (refine gc_Z ?_ ?_ <;> intro _) | fail)
      refine cont_map (fun _ h => disk_in (b := b) (m1 := m1) (m2 := m2) (d := { d with still := true }) (v := v) (vs := vs) hv hvs (Take.out takeD h)) ?_
      (refine rt_Z (y := ()) (hrs := Tryz.results38) (hv := ?_) (hφ := ?_))
      · rfl
      · trivial
    · rw [if_neg hf]
      refine spec_intro [] _ Tryz.func38 rfl Tryz.ntmps38 (by rfl) (fun w0 R => ?_)
      repeat' (first | (refine go_Z ?_; intros) | (refine gs_Z ?_ ?_ <;> (intro hgd; try (simp only [Bool.not_true, Bool.not_false] at hgd))) | (refine gc_Z ?_ ?_ <;> intro _) | fail)
      refine opsL_map (fun _ h => strRow0 h) ?_
      refine cl_Z (live_spec b [] (.map (some m1)) (.map (some m2)) v (.int .i64 d.room) (.int .i64 d.fuse) d (.slice none 0 0) (row 9 1 (.slice none 0 0) []) [] Vw.row (by simp) (by simp)) ?_
      intro _ _
      rw [h1]
      repeat' (first | (refine go_Z ?_; intros) | (refine gs_Z ?_ ?_ <;> (intro hgd; try (simp only [Bool.not_true, Bool.not_false] at hgd))) | (refine gc_Z ?_ ?_ <;> intro _) | fail)
      refine cl_Z (burn_spec b [] (.map (some m1)) (.map (some m2)) v (.int .i64 d.room) d.fuse d.still f0 fM) ?_
      intro _ _
      rw [if_neg hf, if_neg hf, if_neg hf]
      repeat' (first | (refine go_Z ?_; intros) | (refine gs_Z ?_ ?_ <;> (intro hgd; try (simp only [Bool.not_true, Bool.not_false] at hgd))) | (refine gc_Z ?_ ?_ <;> intro _) | fail)
      refine cl_Z (settle_spec b d.files d.sure m1 m2 v (.int .i64 d.room) _ (.bool d.still) (row 98 2 v vs)) ?_
      intro m3 _
      repeat' (first | (refine go_Z ?_; intros) | (refine gs_Z ?_ ?_ <;> (intro hgd; try (simp only [Bool.not_true, Bool.not_false] at hgd))) | (refine gc_Z ?_ ?_ <;> intro _) | fail)
      refine cont_map (fun _ h => clRow0 h) ?_
      refine cont_map (fun _ h => disk_in (b := b) (m1 := m1) (m2 := m3) (d := { d with fuse := if (-1 : Int) > d.fuse - 1 then -1 else d.fuse - 1, sure := d.files, loose := [] }) (v := .slice none 0 0) (vs := []) rfl rfl (Take.out takeD h)) ?_
      (refine rt_Z (y := ()) (hrs := Tryz.results38) (hv := ?_) (hφ := ?_))
      · rfl
      · trivial
  · have t1 : (!decide (d.live [] = 0)) = true := by simp [h1]
    rw [if_pos h1]
    refine spec_intro [] _ Tryz.func38 rfl Tryz.ntmps38 (by rfl) (fun w0 R => ?_)
    repeat' (first | (refine go_Z ?_; intros) | (refine gs_Z ?_ ?_ <;> (intro hgd; try (simp only [Bool.not_true, Bool.not_false] at hgd))) | (refine gc_Z ?_ ?_ <;> intro _) | fail)
    refine opsL_map (fun _ h => strRow0 h) ?_
    refine cl_Z (live_spec b [] (.map (some m1)) (.map (some m2)) v (.int .i64 d.room) (.int .i64 d.fuse) d (.slice none 0 0) (row 9 1 (.slice none 0 0) []) [] Vw.row (by simp) (by simp)) ?_
    intro _ _
    repeat' (first | (refine go_Z ?_; intros) | (refine gs_Z ?_ ?_ <;> (intro hgd; try (simp only [Bool.not_true, Bool.not_false] at hgd))) | (refine gc_Z ?_ ?_ <;> intro _) | fail)
    refine cont_map (fun _ h => disk_in (b := b) (m1 := m1) (m2 := m2) (d := d) (v := v) (vs := vs) hv hvs (Take.out takeD h)) ?_
    (refine rt_Z (y := ()) (hrs := Tryz.results38) (hv := ?_) (hφ := ?_))
    · rfl
    · trivial
end Go.Proofs.YtadgdikijdmceaaGreat
set_option linter.unusedSimpArgs false
set_option linter.unusedVariables false
set_option maxRecDepth 100000
namespace Go.Proofs.YtadgdikijdmceaaGreat
open Go Go.Fx Go.Proofs Go.Pl

theorem min_rng {a : Int} {n : Nat} (h : 0 ≤ a) : 0 ≤ (if (n : Int) < a then (n : Int) else a) ∧ (if (n : Int) < a then (n : Int) else a) ≤ (n : Int) := by split <;> omega

theorem read_spec (b : Nat) (d : Dk) (name : ByteArray) (off n : Int) (hn : name.size ≤ 4611686018427387904) :
    FSpec Tryz.prog 46 [.pointer (some ⟨b, 0, none⟩), .string name, .int .i64 off, .int .i64 n] [diskP b d] Unit (fun _ => True) (fun _ => .tuple #[.string (d.read name off n).1, .int .i64 (d.read name off n).2]) (fun _ => [diskP b d]) := by
  refine fspec_ex ?_
  rintro ⟨⟨m1, m2, v, vs⟩, hv, hvs⟩
  unfold diskL
  dsimp only at hv hvs ⊢
  have hns : ∀ x ∈ [name], x.size ≤ 4611686018427387904 := by simpa using hn
  have hg := getK_encF name d.files
  have hh : d.has name = (fget name d.files).isSome := rfl
  unfold Dk.read
  by_cases h1 : d.live [name] = 0
  · have t1 : (!decide (d.live [name] = 0)) = false := by simp [h1]
    rw [if_neg (by simp [h1])]
    by_cases h2 : off < 0 ∨ n < 0
    · rw [if_pos h2]
      cases t2 : decide (off < 0) with
      | true =>
        cases hf : fget name d.files with
        | none =>
          rw [hf] at hg
          simp only [Option.map_none] at hg
          refine spec_intro [] _ Tryz.func46 rfl Tryz.ntmps46 (by rfl) (fun w0 R => ?_)
          repeat' (first | (refine go_Z ?_; intros) | (refine gs_Z ?_ ?_ <;> (intro hgd; try (simp only [Bool.not_true, Bool.not_false] at hgd))) | (refine gc_Z ?_ ?_ <;> intro _) | fail)
          rename_i vn hvn
          refine cl_Z (live_spec b [] (.map (some m1)) (.map (some m2)) v (.int .i64 d.room) (.int .i64 d.fuse) d vn (row 9 1 vn [[.string name]]) [name] Vw.row hns (by simp)) ?_
          intro _ _
          rw [h1]
          repeat' (first | (refine go_Z ?_; intros) | (refine gs_Z ?_ ?_ <;> (intro hgd; try (simp only [Bool.not_true, Bool.not_false] at hgd))) | (refine gc_Z ?_ ?_ <;> intro _) | fail)
          refine cont_map (fun _ h => disk_in (b := b) (m1 := m1) (m2 := m2) (d := d) (v := v) (vs := vs) hv hvs (Take.out takeD h)) ?_
          (refine rt_Z (y := ()) (hrs := Tryz.results46) (hv := ?_) (hφ := ?_))
          · rfl
          · trivial
        | some t =>
          rw [hf] at hg
          simp only [Option.map_some] at hg
          refine spec_intro [] _ Tryz.func46 rfl Tryz.ntmps46 (by rfl) (fun w0 R => ?_)
          repeat' (first | (refine go_Z ?_; intros) | (refine gs_Z ?_ ?_ <;> (intro hgd; try (simp only [Bool.not_true, Bool.not_false] at hgd))) | (refine gc_Z ?_ ?_ <;> intro _) | fail)
          rename_i vn hvn
          refine cl_Z (live_spec b [] (.map (some m1)) (.map (some m2)) v (.int .i64 d.room) (.int .i64 d.fuse) d vn (row 9 1 vn [[.string name]]) [name] Vw.row hns (by simp)) ?_
          intro _ _
          rw [h1]
          repeat' (first | (refine go_Z ?_; intros) | (refine gs_Z ?_ ?_ <;> (intro hgd; try (simp only [Bool.not_true, Bool.not_false] at hgd))) | (refine gc_Z ?_ ?_ <;> intro _) | fail)
          refine cont_map (fun _ h => disk_in (b := b) (m1 := m1) (m2 := m2) (d := d) (v := v) (vs := vs) hv hvs (Take.out takeD h)) ?_
          (refine rt_Z (y := ()) (hrs := Tryz.results46) (hv := ?_) (hφ := ?_))
          · rfl
          · trivial
      | false =>
        have t3 : decide (n < 0) = true := by simp at t2 ⊢; omega
        cases hf : fget name d.files with
        | none =>
          rw [hf] at hg
          simp only [Option.map_none] at hg
          refine spec_intro [] _ Tryz.func46 rfl Tryz.ntmps46 (by rfl) (fun w0 R => ?_)
          repeat' (first | (refine go_Z ?_; intros) | (refine gs_Z ?_ ?_ <;> (intro hgd; try (simp only [Bool.not_true, Bool.not_false] at hgd))) | (refine gc_Z ?_ ?_ <;> intro _) | fail)
          rename_i vn hvn
          refine cl_Z (live_spec b [] (.map (some m1)) (.map (some m2)) v (.int .i64 d.room) (.int .i64 d.fuse) d vn (row 9 1 vn [[.string name]]) [name] Vw.row hns (by simp)) ?_
          intro _ _
          rw [h1]
          repeat' (first | (refine go_Z ?_; intros) | (refine gs_Z ?_ ?_ <;> (intro hgd; try (simp only [Bool.not_true, Bool.not_false] at hgd))) | (refine gc_Z ?_ ?_ <;> intro _) | fail)
          refine cont_map (fun _ h => disk_in (b := b) (m1 := m1) (m2 := m2) (d := d) (v := v) (vs := vs) hv hvs (Take.out takeD h)) ?_
          (refine rt_Z (y := ()) (hrs := Tryz.results46) (hv := ?_) (hφ := ?_))
          · rfl
          · trivial
        | some t =>
          rw [hf] at hg
          simp only [Option.map_some] at hg
          refine spec_intro [] _ Tryz.func46 rfl Tryz.ntmps46 (by rfl) (fun w0 R => ?_)
          repeat' (first | (refine go_Z ?_; intros) | (refine gs_Z ?_ ?_ <;> (intro hgd; try (simp only [Bool.not_true, Bool.not_false] at hgd))) | (refine gc_Z ?_ ?_ <;> intro _) | fail)
          rename_i vn hvn
          refine cl_Z (live_spec b [] (.map (some m1)) (.map (some m2)) v (.int .i64 d.room) (.int .i64 d.fuse) d vn (row 9 1 vn [[.string name]]) [name] Vw.row hns (by simp)) ?_
          intro _ _
          rw [h1]
          repeat' (first | (refine go_Z ?_; intros) | (refine gs_Z ?_ ?_ <;> (intro hgd; try (simp only [Bool.not_true, Bool.not_false] at hgd))) | (refine gc_Z ?_ ?_ <;> intro _) | fail)
          refine cont_map (fun _ h => disk_in (b := b) (m1 := m1) (m2 := m2) (d := d) (v := v) (vs := vs) hv hvs (Take.out takeD h)) ?_
          (refine rt_Z (y := ()) (hrs := Tryz.results46) (hv := ?_) (hφ := ?_))
          · rfl
          · trivial
    · rw [if_neg h2]
      have t2 : decide (off < 0) = false := by simp; omega
      have t3 : decide (n < 0) = false := by simp; omega
      cases hf : fget name d.files with
      | none =>
        rw [if_pos (by rw [hh, hf]; rfl)]
        rw [hf] at hg
        simp only [Option.map_none] at hg
        refine spec_intro [] _ Tryz.func46 rfl Tryz.ntmps46 (by rfl) (fun w0 R => ?_)
        repeat' (first | (refine go_Z ?_; intros) | (refine gs_Z ?_ ?_ <;> (intro hgd; try (simp only [Bool.not_true, Bool.not_false] at hgd))) | (refine gc_Z ?_ ?_ <;> intro _) | fail)
        rename_i vn hvn
        refine cl_Z (live_spec b [] (.map (some m1)) (.map (some m2)) v (.int .i64 d.room) (.int .i64 d.fuse) d vn (row 9 1 vn [[.string name]]) [name] Vw.row hns (by simp)) ?_
        intro _ _
        rw [h1]
        repeat' (first | (refine go_Z ?_; intros) | (refine gs_Z ?_ ?_ <;> (intro hgd; try (simp only [Bool.not_true, Bool.not_false] at hgd))) | (refine gc_Z ?_ ?_ <;> intro _) | fail)
        refine cl_Z (has_spec b m1 d.files name (.map (some m2)) v (.int .i64 d.room) (.int .i64 d.fuse) (.bool d.still)) ?_
        intro _ _
        rw [hf]
        repeat' (first | (refine go_Z ?_; intros) | (refine gs_Z ?_ ?_ <;> (intro hgd; try (simp only [Bool.not_true, Bool.not_false] at hgd))) | (refine gc_Z ?_ ?_ <;> intro _) | fail)
        refine cont_map (fun _ h => disk_in (b := b) (m1 := m1) (m2 := m2) (d := d) (v := v) (vs := vs) hv hvs (Take.out takeD h)) ?_
        (refine rt_Z (y := ()) (hrs := Tryz.results46) (hv := ?_) (hφ := ?_))
        · rfl
        · trivial
      | some t =>
        have ht : ftext name d.files = t := by unfold ftext; rw [hf]; rfl
        rw [if_neg (by rw [hh, hf]; simp), ht]
        rw [hf] at hg
        simp only [Option.map_some] at hg
        have r1 := min_rng (a := off) (n := t.size) (by omega)
        have r2 := min_rng (a := n) (n := (t.extract (if (t.size : Int) < off then (t.size : Int) else off).toNat t.size).size) (by omega)
        refine spec_intro [] _ Tryz.func46 rfl Tryz.ntmps46 (by rfl) (fun w0 R => ?_)
        repeat' (first | (refine go_Z ?_; intros) | (refine gs_Z ?_ ?_ <;> (intro hgd; try (simp only [Bool.not_true, Bool.not_false] at hgd))) | (refine gc_Z ?_ ?_ <;> intro _) | fail)
        rename_i vn hvn
        refine cl_Z (live_spec b [] (.map (some m1)) (.map (some m2)) v (.int .i64 d.room) (.int .i64 d.fuse) d vn (row 9 1 vn [[.string name]]) [name] Vw.row hns (by simp)) ?_
        intro _ _
        rw [h1]
        repeat' (first | (refine go_Z ?_; intros) | (refine gs_Z ?_ ?_ <;> (intro hgd; try (simp only [Bool.not_true, Bool.not_false] at hgd))) | (refine gc_Z ?_ ?_ <;> intro _) | fail)
        refine cl_Z (has_spec b m1 d.files name (.map (some m2)) v (.int .i64 d.room) (.int .i64 d.fuse) (.bool d.still)) ?_
        intro _ _
        rw [hf]
        repeat' (first | (refine go_Z ?_; intros) | (refine gs_Z ?_ ?_ <;> (intro hgd; try (simp only [Bool.not_true, Bool.not_false] at hgd))) | (refine gc_Z ?_ ?_ <;> intro _) | fail)
        refine cont_map (fun _ h => disk_in (b := b) (m1 := m1) (m2 := m2) (d := d) (v := v) (vs := vs) hv hvs (Take.out takeD h)) ?_
        (refine rt_Z (y := ()) (hrs := Tryz.results46) (hv := ?_) (hφ := ?_))
        · rfl
        · trivial
  · have t1 : (!decide (d.live [name] = 0)) = true := by simp [h1]
    rw [if_pos h1]
    refine spec_intro [] _ Tryz.func46 rfl Tryz.ntmps46 (by rfl) (fun w0 R => ?_)
    repeat' (first | (refine go_Z ?_; intros) | (refine gs_Z ?_ ?_ <;> (intro hgd; try (simp only [Bool.not_true, Bool.not_false] at hgd))) | (refine gc_Z ?_ ?_ <;> intro _) | fail)
    rename_i vn hvn
    refine cl_Z (live_spec b [] (.map (some m1)) (.map (some m2)) v (.int .i64 d.room) (.int .i64 d.fuse) d vn (row 9 1 vn [[.string name]]) [name] Vw.row hns (by simp)) ?_
    intro _ _
    repeat' (first | (refine go_Z ?_; intros) | (refine gs_Z ?_ ?_ <;> (intro hgd; try (simp only [Bool.not_true, Bool.not_false] at hgd))) | (refine gc_Z ?_ ?_ <;> intro _) | fail)
    refine cont_map (fun _ h => disk_in (b := b) (m1 := m1) (m2 := m2) (d := d) (v := v) (vs := vs) hv hvs (Take.out takeD h)) ?_
    (refine rt_Z (y := ()) (hrs := Tryz.results46) (hv := ?_) (hφ := ?_))
    · rfl
    · trivial
end Go.Proofs.YtadgdikijdmceaaGreat
set_option linter.unusedSimpArgs false
set_option linter.unusedVariables false
set_option maxRecDepth 100000
namespace Go.Proofs.YtadgdikijdmceaaGreat
open Go Go.Fx Go.Proofs Go.Pl

end Go.Proofs.YtadgdikijdmceaaGreat
set_option linter.unusedSimpArgs false
set_option linter.unusedVariables false
set_option maxRecDepth 100000
namespace Go.Proofs.YtadgdikijdmceaaGreat
open Go Go.Fx Go.Proofs Go.Pl

theorem sizeD_spec (b : Nat) (d : Dk) (nm : BA) (hn : nm.size ≤ 4611686018427387904) :
    FSpec Tryz.prog 21 [.pointer (some ⟨b, 0, none⟩), .string nm] [diskP b d] Unit (fun _ => True) (fun _ => .tuple #[.int .i64 (if (d.read nm 0 0).2 = 0 then ((ftext nm d.files).size : Int) else 0), .int .i64 (d.read nm 0 0).2]) (fun _ => [diskP b d]) := by
  have hr := read_spec b d nm 0 0 hn
  generalize d.read nm 0 0 = r at hr
  obtain ⟨s, e⟩ := r
  dsimp only at hr ⊢
  cases t1 : (!decide (e = 0)) with
  | true =>
    have h0 : ¬ e = 0 := by simpa using t1
    rw [if_neg h0]
    refine spec_intro [] _ Tryz.func21 rfl Tryz.ntmps21 (by rfl) (fun w0 R => ?_)
    repeat' (first | (refine go_Z ?_; intros) | (refine gs_Z ?_ ?_ <;> (intro hgd; try (simp only [Bool.not_true, Bool.not_false] at hgd))) | (refine gc_Z ?_ ?_ <;> intro _) | fail)
    refine cl_Z (hr) ?_
    intro _ _
    repeat' (first | (refine go_Z ?_; intros) | (refine gs_Z ?_ ?_ <;> (intro hgd; try (simp only [Bool.not_true, Bool.not_false] at hgd))) | (refine gc_Z ?_ ?_ <;> intro _) | fail)
    (refine rt_Z (y := ()) (hrs := Tryz.results21) (hv := ?_) (hφ := ?_))
    · rfl
    · trivial
  | false =>
    have h0 : e = 0 := by simpa using t1
    subst h0
    rw [if_pos rfl]
    refine spec_intro [] _ Tryz.func21 rfl Tryz.ntmps21 (by rfl) (fun w0 R => ?_)
    repeat' (first | (refine go_Z ?_; intros) | (refine gs_Z ?_ ?_ <;> (intro hgd; try (simp only [Bool.not_true, Bool.not_false] at hgd))) | (refine gc_Z ?_ ?_ <;> intro _) | fail)
    refine cl_Z (hr) ?_
    intro _ _
    repeat' (first | (refine ro_Z ?_; intros) | fail)
    refine cont_then (ok_seq (ok_region ?_))
    repeat' (first | (refine ro_Z ?_; intros) | fail)
    refine cont_then (ok_cond_false ?_ (ok_skip ?_))
    · ((conv => lhs; whnf); first | done | with_reducible rfl | (refine congrArg Value.bool ?_; with_reducible assumption))
    refine cont_then ?_
    (refine ok_ex selD ?_)
    rintro ⟨⟨m1, m2, v, vs⟩, hv, hvs⟩
    dsimp only [diskL]
    dsimp only at hv hvs
    have hg := getK_encF nm d.files
    cases hf : fget nm d.files with
    | none =>
      have ht : ftext nm d.files = ⟨#[]⟩ := by unfold ftext; rw [hf]; rfl
      rw [hf] at hg
      simp only [Option.map_none] at hg
      rw [ht]
      repeat' (first | (refine go_Z ?_; intros) | (refine gs_Z ?_ ?_ <;> (intro hgd; try (simp only [Bool.not_true, Bool.not_false] at hgd))) | (refine gc_Z ?_ ?_ <;> intro _) | fail)
      refine cont_map (fun _ h => disk_in (b := b) (m1 := m1) (m2 := m2) (d := d) (v := v) (vs := vs) hv hvs (Take.out takeD h)) ?_
      (refine rt_Z (y := ()) (hrs := Tryz.results21) (hv := ?_) (hφ := ?_))
      · rfl
      · trivial
    | some t =>
      have ht : ftext nm d.files = t := by unfold ftext; rw [hf]; rfl
      rw [hf] at hg
      simp only [Option.map_some] at hg
      rw [ht]
      repeat' (first | (refine go_Z ?_; intros) | (refine gs_Z ?_ ?_ <;> (intro hgd; try (simp only [Bool.not_true, Bool.not_false] at hgd))) | (refine gc_Z ?_ ?_ <;> intro _) | fail)
      refine cont_map (fun _ h => disk_in (b := b) (m1 := m1) (m2 := m2) (d := d) (v := v) (vs := vs) hv hvs (Take.out takeD h)) ?_
      (refine rt_Z (y := ()) (hrs := Tryz.results21) (hv := ?_) (hφ := ?_))
      · rfl
      · trivial
def roomD (d : Dk) (n : Int) : Dk := if n < 0 ∨ 16777216 < n then d else { d with room := n }
theorem roomD_ok {d : Dk} (h : d.Ok) (n : Int) : (roomD d n).Ok := by
  unfold roomD
  split
  · exact h
  · exact { h with room0 := by show 0 ≤ n; omega, roomM := by show n ≤ 16777216; omega }
end Go.Proofs.YtadgdikijdmceaaGreat
