/- The walks of package disk, part I: New, Fuse, Used, Loose, Sync, Read. -/
import Derived.Test.YtgmobpngcilgjaaDkH
-- @DEFS Z
set_option linter.unusedSimpArgs false
set_option linter.unusedVariables false
set_option maxRecDepth 4000
namespace Go.Proofs.Ytgmobpngcilgjaa
open Go Go.Fx Go.Proofs Go.Pl

theorem strRow0 {L : List HProp} {h : Frag} (s : SatL L h) : SatL (row 9 1 (.slice none 0 0) [] :: L) h := satL_emp (A := row 9 1 (.slice none 0 0) []) ⟨fun _ hx => by simp at hx, .inl ⟨rfl, rfl⟩⟩ s
theorem clRow0 {L : List HProp} {h : Frag} (s : SatL L h) : SatL (row 139 2 (.slice none 0 0) [] :: (fun h => SatL (clsP [] []) h) :: L) h :=
  satL_emp (A := row 139 2 (.slice none 0 0) []) ⟨fun _ hx => by simp at hx, .inl ⟨rfl, rfl⟩⟩ (satL_emp (A := fun h => SatL (clsP [] []) h) trivial s)

theorem new_bad (room : Int) (h : room < 0 ∨ 16777216 < room) : FSpec Try.prog 24 [.int .i64 room] [] Unit (fun _ => True) (fun _ => .tuple #[.pointer none, .int .i64 2]) (fun _ => []) := by
  cases t1 : decide (room < 0) with
  | true =>
    refine spec_intro [] _ Try.func24 rfl Try.ntmps24 (by rfl) (fun w0 R => ?_)
    repeat' (first | (refine go_Z ?_; intros) | (refine gs_Z ?_ ?_ <;> (intro hgd; try (simp only [Bool.not_true, Bool.not_false] at hgd))) | (refine gc_Z ?_ ?_ <;> intro _) | fail)
    (refine rt_Z (y := ()) (hrs := Try.results24) (hv := ?_) (hφ := ?_))
    · rfl
    · trivial
  | false =>
    have t2 : decide (16777216 < room) = true := by simp at t1 ⊢; omega
    refine spec_intro [] _ Try.func24 rfl Try.ntmps24 (by rfl) (fun w0 R => ?_)
    repeat' (first | (refine go_Z ?_; intros) | (refine gs_Z ?_ ?_ <;> (intro hgd; try (simp only [Bool.not_true, Bool.not_false] at hgd))) | (refine gc_Z ?_ ?_ <;> intro _) | fail)
    (refine rt_Z (y := ()) (hrs := Try.results24) (hv := ?_) (hφ := ?_))
    · rfl
    · trivial

theorem new_spec (room : Int) (h0 : 0 ≤ room) (h1 : room ≤ 16777216) : FSpec Try.prog 24 [.int .i64 room] [] Nat (fun _ => True) (fun b => .tuple #[.pointer (some ⟨b, 0, none⟩), .int .i64 0]) (fun b => [diskP b (newD room)]) := by
  have t1 : decide (room < 0) = false := by simp; omega
  have t2 : decide (16777216 < room) = false := by simp; omega
  refine spec_intro [] _ Try.func24 rfl Try.ntmps24 (by rfl) (fun w0 R => ?_)
  repeat' (first | (refine go_Z ?_; intros) | (refine gs_Z ?_ ?_ <;> (intro hgd; try (simp only [Bool.not_true, Bool.not_false] at hgd))) | (refine gc_Z ?_ ?_ <;> intro _) | fail)
  rename_i m1 m2 b
  refine cont_map (fun _ h => clRow0 h) ?_
  refine cont_map (fun _ h => disk_in (b := b) (m1 := m1) (m2 := m2) (d := newD room) (v := .slice none 0 0) (vs := []) rfl rfl (Take.out takeD h)) ?_
  (refine rt_Z (y := b) (hrs := Try.results24) (hv := ?_) (hφ := ?_))
  · rfl
  · trivial

theorem fuse_spec (b : Nat) (d : Dk) (n : Int) : FSpec Try.prog 25 [.pointer (some ⟨b, 0, none⟩), .int .i64 n] [diskP b d] Unit (fun _ => True) (fun _ => .int .i64 0) (fun _ => [diskP b (d.fuseTo n)]) := by
  refine fspec_ex ?_
  rintro ⟨⟨m1, m2, v, vs⟩, hv, hvs⟩
  unfold diskL
  dsimp only at hv hvs ⊢
  cases hst : d.still with
  | false =>
    have e : d.fuseTo n = { d with fuse := if (-1 : Int) > n then -1 else n, still := false } := by unfold Dk.fuseTo; rw [hst]; rfl
    rw [e]
    refine spec_intro [] _ Try.func25 rfl Try.ntmps25 (by rfl) (fun w0 R => ?_)
    repeat' (first | (refine go_Z ?_; intros) | (refine gs_Z ?_ ?_ <;> (intro hgd; try (simp only [Bool.not_true, Bool.not_false] at hgd))) | (refine gc_Z ?_ ?_ <;> intro _) | fail)
    refine cont_map (fun _ h => disk_in (b := b) (m1 := m1) (m2 := m2) (d := { d with fuse := if (-1 : Int) > n then -1 else n, still := false }) (v := v) (vs := vs) hv hvs (Take.out takeD h)) ?_
    (refine rt_Z (y := ()) (hrs := Try.results25) (hv := ?_) (hφ := ?_))
    · rfl
    · trivial
  | true =>
    have e : d.fuseTo n = { d with fuse := if (-1 : Int) > n then -1 else n, still := decide (0 ≤ n) } := by unfold Dk.fuseTo; rw [hst]; rfl
    rw [e]
    refine spec_intro [] _ Try.func25 rfl Try.ntmps25 (by rfl) (fun w0 R => ?_)
    repeat' (first | (refine go_Z ?_; intros) | (refine gs_Z ?_ ?_ <;> (intro hgd; try (simp only [Bool.not_true, Bool.not_false] at hgd))) | (refine gc_Z ?_ ?_ <;> intro _) | fail)
    refine cont_map (fun _ h => disk_in (b := b) (m1 := m1) (m2 := m2) (d := { d with fuse := if (-1 : Int) > n then -1 else n, still := decide (0 ≤ n) }) (v := v) (vs := vs) hv hvs (Take.out takeD h)) ?_
    (refine rt_Z (y := ()) (hrs := Try.results25) (hv := ?_) (hφ := ?_))
    · rfl
    · trivial

theorem Used_spec (b : Nat) (d : Dk) (hd : d.Ok) : FSpec Try.prog 27 [.pointer (some ⟨b, 0, none⟩)] [diskP b d] Unit (fun _ => True) (fun _ => .int .i64 (fused d.files)) (fun _ => [diskP b d]) := by
  refine fspec_ex ?_
  rintro ⟨⟨m1, m2, v, vs⟩, hv, hvs⟩
  unfold diskL
  dsimp only at hv hvs ⊢
  have hu := hd.used
  refine spec_intro [] _ Try.func27 rfl Try.ntmps27 (by rfl) (fun w0 R => ?_)
  repeat' (first | (refine go_Z ?_; intros) | (refine gs_Z ?_ ?_ <;> (intro hgd; try (simp only [Bool.not_true, Bool.not_false] at hgd))) | (refine gc_Z ?_ ?_ <;> intro _) | fail)
  refine cl_Z (used_spec b m1 d.files (.map (some m2)) v (.int .i64 d.room) (.int .i64 d.fuse) (.bool d.still) (by omega)) ?_
  intro _ _
  repeat' (first | (refine go_Z ?_; intros) | (refine gs_Z ?_ ?_ <;> (intro hgd; try (simp only [Bool.not_true, Bool.not_false] at hgd))) | (refine gc_Z ?_ ?_ <;> intro _) | fail)
  refine cont_map (fun _ h => disk_in (b := b) (m1 := m1) (m2 := m2) (d := d) (v := v) (vs := vs) hv hvs (Take.out takeD h)) ?_
  (refine rt_Z (y := ()) (hrs := Try.results27) (hv := ?_) (hφ := ?_))
  · rfl
  · trivial

theorem Loose_spec (b : Nat) (d : Dk) : FSpec Try.prog 28 [.pointer (some ⟨b, 0, none⟩)] [diskP b d] Unit (fun _ => True) (fun _ => .int .i64 d.loose.length) (fun _ => [diskP b d]) := by
  refine fspec_ex ?_
  rintro ⟨⟨m1, m2, v, vs⟩, hv, hvs⟩
  unfold diskL
  dsimp only at hv hvs ⊢
  refine spec_intro [] _ Try.func28 rfl Try.ntmps28 (by rfl) (fun w0 R => ?_)
  repeat' (first | (refine go_Z ?_; intros) | (refine gs_Z ?_ ?_ <;> (intro hgd; try (simp only [Bool.not_true, Bool.not_false] at hgd))) | (refine gc_Z ?_ ?_ <;> intro _) | fail)
  refine cont_map (fun _ h => disk_in (b := b) (m1 := m1) (m2 := m2) (d := d) (v := v) (vs := vs) hv hvs (Take.out takeD h)) ?_
  rw [← hvs]
  (refine rt_Z (y := ()) (hrs := Try.results28) (hv := ?_) (hφ := ?_))
  · rfl
  · trivial

theorem sync_spec (b : Nat) (d : Dk) (hd : d.Ok) : FSpec Try.prog 29 [.pointer (some ⟨b, 0, none⟩)] [diskP b d] Unit (fun _ => True) (fun _ => .int .i64 d.sync.2) (fun _ => [diskP b d.sync.1]) := by
  refine fspec_ex ?_
  rintro ⟨⟨m1, m2, v, vs⟩, hv, hvs⟩
  unfold diskL
  dsimp only at hv hvs ⊢
  have f0 := hd.fuse0
  have fM := hd.fuseM
  unfold Dk.sync
  by_cases h1 : d.live [] = 0
  · have t1 : (!decide (d.live [] = 0)) = false := by simp [h1]
    rw [if_neg (by simp [h1])]
    by_cases hf : d.fuse = 0
    · rw [if_pos hf]
      refine spec_intro [] _ Try.func29 rfl Try.ntmps29 (by rfl) (fun w0 R => ?_)
      repeat' (first | (refine go_Z ?_; intros) | (refine gs_Z ?_ ?_ <;> (intro hgd; try (simp only [Bool.not_true, Bool.not_false] at hgd))) | (refine gc_Z ?_ ?_ <;> intro _) | fail)
      refine opsL_map (fun _ h => strRow0 h) ?_
      refine cl_Z (live_spec b [] (.map (some m1)) (.map (some m2)) v (.int .i64 d.room) (.int .i64 d.fuse) d (.slice none 0 0) (row 9 1 (.slice none 0 0) []) [] Vw.row (by simp) (by simp)) ?_
      intro _ _
      rw [h1]
      repeat' (first | (refine go_Z ?_; intros) | (refine gs_Z ?_ ?_ <;> (intro hgd; try (simp only [Bool.not_true, Bool.not_false] at hgd))) | (refine gc_Z ?_ ?_ <;> intro _) | fail)
      refine cl_Z (burn_spec b [] (.map (some m1)) (.map (some m2)) v (.int .i64 d.room) d.fuse d.still f0 fM) ?_
      intro _ _
      rw [if_pos hf, if_pos hf, if_pos hf]
      repeat' (first | (refine go_Z ?_; intros) | (refine gs_Z ?_ ?_ <;> (intro hgd; try (simp only [Bool.not_true, Bool.not_false] at hgd))) | (refine gc_Z ?_ ?_ <;> intro _) | fail)
      refine cont_map (fun _ h => disk_in (b := b) (m1 := m1) (m2 := m2) (d := { d with still := true }) (v := v) (vs := vs) hv hvs (Take.out takeD h)) ?_
      (refine rt_Z (y := ()) (hrs := Try.results29) (hv := ?_) (hφ := ?_))
      · rfl
      · trivial
    · rw [if_neg hf]
      refine spec_intro [] _ Try.func29 rfl Try.ntmps29 (by rfl) (fun w0 R => ?_)
      repeat' (first | (refine go_Z ?_; intros) | (refine gs_Z ?_ ?_ <;> (intro hgd; try (simp only [Bool.not_true, Bool.not_false] at hgd))) | (refine gc_Z ?_ ?_ <;> intro _) | fail)
      refine opsL_map (fun _ h => strRow0 h) ?_
      refine cl_Z (live_spec b [] (.map (some m1)) (.map (some m2)) v (.int .i64 d.room) (.int .i64 d.fuse) d (.slice none 0 0) (row 9 1 (.slice none 0 0) []) [] Vw.row (by simp) (by simp)) ?_
      intro _ _
      rw [h1]
      repeat' (first | (refine go_Z ?_; intros) | (refine gs_Z ?_ ?_ <;> (intro hgd; try (simp only [Bool.not_true, Bool.not_false] at hgd))) | (refine gc_Z ?_ ?_ <;> intro _) | fail)
      refine cl_Z (burn_spec b [] (.map (some m1)) (.map (some m2)) v (.int .i64 d.room) d.fuse d.still f0 fM) ?_
      intro _ _
      rw [if_neg hf, if_neg hf, if_neg hf]
      repeat' (first | (refine go_Z ?_; intros) | (refine gs_Z ?_ ?_ <;> (intro hgd; try (simp only [Bool.not_true, Bool.not_false] at hgd))) | (refine gc_Z ?_ ?_ <;> intro _) | fail)
      refine cl_Z (settle_spec b d.files d.sure m1 m2 v (.int .i64 d.room) _ (.bool d.still) (row 139 2 v vs)) ?_
      intro m3 _
      repeat' (first | (refine go_Z ?_; intros) | (refine gs_Z ?_ ?_ <;> (intro hgd; try (simp only [Bool.not_true, Bool.not_false] at hgd))) | (refine gc_Z ?_ ?_ <;> intro _) | fail)
      refine cont_map (fun _ h => clRow0 h) ?_
      refine cont_map (fun _ h => disk_in (b := b) (m1 := m1) (m2 := m3) (d := { d with fuse := if (-1 : Int) > d.fuse - 1 then -1 else d.fuse - 1, sure := d.files, loose := [] }) (v := .slice none 0 0) (vs := []) rfl rfl (Take.out takeD h)) ?_
      (refine rt_Z (y := ()) (hrs := Try.results29) (hv := ?_) (hφ := ?_))
      · rfl
      · trivial
  · have t1 : (!decide (d.live [] = 0)) = true := by simp [h1]
    rw [if_pos h1]
    refine spec_intro [] _ Try.func29 rfl Try.ntmps29 (by rfl) (fun w0 R => ?_)
    repeat' (first | (refine go_Z ?_; intros) | (refine gs_Z ?_ ?_ <;> (intro hgd; try (simp only [Bool.not_true, Bool.not_false] at hgd))) | (refine gc_Z ?_ ?_ <;> intro _) | fail)
    refine opsL_map (fun _ h => strRow0 h) ?_
    refine cl_Z (live_spec b [] (.map (some m1)) (.map (some m2)) v (.int .i64 d.room) (.int .i64 d.fuse) d (.slice none 0 0) (row 9 1 (.slice none 0 0) []) [] Vw.row (by simp) (by simp)) ?_
    intro _ _
    repeat' (first | (refine go_Z ?_; intros) | (refine gs_Z ?_ ?_ <;> (intro hgd; try (simp only [Bool.not_true, Bool.not_false] at hgd))) | (refine gc_Z ?_ ?_ <;> intro _) | fail)
    refine cont_map (fun _ h => disk_in (b := b) (m1 := m1) (m2 := m2) (d := d) (v := v) (vs := vs) hv hvs (Take.out takeD h)) ?_
    (refine rt_Z (y := ()) (hrs := Try.results29) (hv := ?_) (hφ := ?_))
    · rfl
    · trivial
end Go.Proofs.Ytgmobpngcilgjaa
