/- Texts merged: DkI DkJ DkK. -/
import Derived.Test.YtmnafjonbeihiaaGreatDoorG19
import Derived.Test.YtmnafjonbeihiaaGreatDoorJ1
set_option linter.unusedSimpArgs false
set_option linter.unusedVariables false
set_option maxRecDepth 100000
namespace Go.Proofs.YtmnafjonbeihiaaGreatDoor
open Go Go.Fx Go.Proofs Go.Pl
theorem strRow0 {L : List HProp} {h : Frag} (s : SatL L h) : SatL (row 9 1 (.slice none 0 0) [] :: L) h := satL_emp (A := row 9 1 (.slice none 0 0) []) ⟨fun _ hx => by simp at hx, .inl ⟨rfl, rfl⟩⟩ s
theorem clRow0 {L : List HProp} {h : Frag} (s : SatL L h) : SatL (row 148 2 (.slice none 0 0) [] :: (fun h => SatL (clsP [] []) h) :: L) h :=
  satL_emp (A := row 148 2 (.slice none 0 0) []) ⟨fun _ hx => by simp at hx, .inl ⟨rfl, rfl⟩⟩ (satL_emp (A := fun h => SatL (clsP [] []) h) trivial s)
theorem new_spec (room : Int) (h0 : 0 ≤ room) (h1 : room ≤ 16777216) : FSpec Tryz.prog 21 [.int .i64 room] [] Nat (fun _ => True) (fun b => .tuple #[.pointer (some ⟨b, 0, none⟩), .int .i64 0]) (fun b => [diskP b (newD room)]) := by
  have t1 : decide (room < 0) = false := by simp; omega
  have t2 : decide (16777216 < room) = false := by simp; omega
  refine spec_intro [] _ Tryz.func21 rfl Tryz.ntmps21 (by rfl) (fun w0 R => ?_)
  repeat' (first | (refine gY ?_; intros) | (refine hY ?_ ?_ <;> (intro hgd; try simp only [bn] at hgd)) | (refine jY ?_ ?_ <;> intro _) | fail)
  rename_i m1 m2 b
  refine cont_map (fun _ h => clRow0 h) ?_
  refine cont_map (fun _ h => disk_in (b := b) (m1 := m1) (m2 := m2) (d := newD room) (v := .slice none 0 0) (vs := []) rfl rfl (Take.out takeD h)) ?_
  (refine rt_Y (y := b) (hrs := Tryz.results21) (hv := ?_) (hφ := ?_))
  · rfl
  · trivial
theorem Loose_spec (b : Nat) (d : Dk) : FSpec Tryz.prog 38 [.pointer (some ⟨b, 0, none⟩)] [diskP b d] Unit (fun _ => True) (fun _ => .int .i64 d.loose.length) (fun _ => [diskP b d]) := by
  refine fspec_ex ?_
  rintro ⟨⟨m1, m2, v, vs⟩, hv, hvs⟩
  unfold diskL
  dsimp only at hv hvs ⊢
  refine spec_intro [] _ Tryz.func38 rfl Tryz.ntmps38 (by rfl) (fun w0 R => ?_)
  repeat' (first | (refine gY ?_; intros) | (refine hY ?_ ?_ <;> (intro hgd; try simp only [bn] at hgd)) | (refine jY ?_ ?_ <;> intro _) | fail)
  refine cont_map (fun _ h => disk_in (b := b) (m1 := m1) (m2 := m2) (d := d) (v := v) (vs := vs) hv hvs (Take.out takeD h)) ?_
  rw [← hvs]
  (refine rt_Y (y := ()) (hrs := Tryz.results38) (hv := ?_) (hφ := ?_))
  · rfl
  · trivial
theorem sync_spec (b : Nat) (d : Dk) (hd : d.Ok) : FSpec Tryz.prog 99 [.pointer (some ⟨b, 0, none⟩)] [diskP b d] Unit (fun _ => True) (fun _ => .int .i64 d.sync.2) (fun _ => [diskP b d.sync.1]) := by
  refine fspec_ex ?_
  rintro ⟨⟨m1, m2, v, vs⟩, hv, hvs⟩
  unfold diskL
  dsimp only at hv hvs ⊢
  have f0 := hd.fuse0
  have fM := hd.fuseM
  unfold Dk.sync
  by_cases h1 : d.live [] = 0
  · have t1 : (!decide (d.live [] = 0)) = false := by simp [h1]
    rw [if_neg (by simp [h1])]
    by_cases hf : d.fuse = 0
    · rw [if_pos hf]
      refine spec_intro [] _ Tryz.func99 rfl Tryz.ntmps99 (by rfl) (fun w0 R => ?_)
      repeat' (first | (refine gY ?_; intros) | (refine hY ?_ ?_ <;> (intro hgd; try simp only [bn] at hgd)) | (refine jY ?_ ?_ <;> intro _) | fail)
      refine opsL_map (fun _ h => strRow0 h) ?_
      refine cl_Y (live_spec b [] (.map (some m1)) (.map (some m2)) v (.int .i64 d.room) (.int .i64 d.fuse) d (.slice none 0 0) (row 9 1 (.slice none 0 0) []) [] Vw.row (by simp) (by simp)) ?_
      intro _ _
      rw [h1]
      repeat' (first | (refine gY ?_; intros) | (refine hY ?_ ?_ <;> (intro hgd; try simp only [bn] at hgd)) | (refine jY ?_ ?_ <;> intro _) | fail)
      refine cl_Y (burn_spec b [] (.map (some m1)) (.map (some m2)) v (.int .i64 d.room) d.fuse d.still f0 fM) ?_
      intro _ _
      rw [if_pos hf, if_pos hf, if_pos hf]
      repeat' (first | (refine gY ?_; intros) | (refine hY ?_ ?_ <;> (intro hgd; try simp only [bn] at hgd)) | (refine jY ?_ ?_ <;> intro _) | fail)
      refine cont_map (fun _ h => disk_in (b := b) (m1 := m1) (m2 := m2) (d := { d with still := true }) (v := v) (vs := vs) hv hvs (Take.out takeD h)) ?_
      (refine rt_Y (y := ()) (hrs := Tryz.results99) (hv := ?_) (hφ := ?_))
      · rfl
      · trivial
    · rw [if_neg hf]
      refine spec_intro [] _ Tryz.func99 rfl Tryz.ntmps99 (by rfl) (fun w0 R => ?_)
      repeat' (first | (refine gY ?_; intros) | (refine hY ?_ ?_ <;> (intro hgd; try simp only [bn] at hgd)) | (refine jY ?_ ?_ <;> intro _) | fail)
      refine opsL_map (fun _ h => strRow0 h) ?_
      refine cl_Y (live_spec b [] (.map (some m1)) (.map (some m2)) v (.int .i64 d.room) (.int .i64 d.fuse) d (.slice none 0 0) (row 9 1 (.slice none 0 0) []) [] Vw.row (by simp) (by simp)) ?_
      intro _ _
      rw [h1]
      repeat' (first | (refine gY ?_; intros) | (refine hY ?_ ?_ <;> (intro hgd; try simp only [bn] at hgd)) | (refine jY ?_ ?_ <;> intro _) | fail)
      refine cl_Y (burn_spec b [] (.map (some m1)) (.map (some m2)) v (.int .i64 d.room) d.fuse d.still f0 fM) ?_
      intro _ _
      rw [if_neg hf, if_neg hf, if_neg hf]
      repeat' (first | (refine gY ?_; intros) | (refine hY ?_ ?_ <;> (intro hgd; try simp only [bn] at hgd)) | (refine jY ?_ ?_ <;> intro _) | fail)
      refine cl_Y (settle_spec b d.files d.sure m1 m2 v (.int .i64 d.room) _ (.bool d.still) (row 148 2 v vs)) ?_
      intro m3 _
      repeat' (first | (refine gY ?_; intros) | (refine hY ?_ ?_ <;> (intro hgd; try simp only [bn] at hgd)) | (refine jY ?_ ?_ <;> intro _) | fail)
      refine cont_map (fun _ h => clRow0 h) ?_
      refine cont_map (fun _ h => disk_in (b := b) (m1 := m1) (m2 := m3) (d := { d with fuse := if (-1 : Int) > d.fuse - 1 then -1 else d.fuse - 1, sure := d.files, loose := [] }) (v := .slice none 0 0) (vs := []) rfl rfl (Take.out takeD h)) ?_
      (refine rt_Y (y := ()) (hrs := Tryz.results99) (hv := ?_) (hφ := ?_))
      · rfl
      · trivial
  · have t1 : (!decide (d.live [] = 0)) = true := by simp [h1]
    rw [if_pos h1]
    refine spec_intro [] _ Tryz.func99 rfl Tryz.ntmps99 (by rfl) (fun w0 R => ?_)
    repeat' (first | (refine gY ?_; intros) | (refine hY ?_ ?_ <;> (intro hgd; try simp only [bn] at hgd)) | (refine jY ?_ ?_ <;> intro _) | fail)
    refine opsL_map (fun _ h => strRow0 h) ?_
    refine cl_Y (live_spec b [] (.map (some m1)) (.map (some m2)) v (.int .i64 d.room) (.int .i64 d.fuse) d (.slice none 0 0) (row 9 1 (.slice none 0 0) []) [] Vw.row (by simp) (by simp)) ?_
    intro _ _
    repeat' (first | (refine gY ?_; intros) | (refine hY ?_ ?_ <;> (intro hgd; try simp only [bn] at hgd)) | (refine jY ?_ ?_ <;> intro _) | fail)
    refine cont_map (fun _ h => disk_in (b := b) (m1 := m1) (m2 := m2) (d := d) (v := v) (vs := vs) hv hvs (Take.out takeD h)) ?_
    (refine rt_Y (y := ()) (hrs := Tryz.results99) (hv := ?_) (hφ := ?_))
    · rfl
    · trivial
theorem min_rng {a : Int} {n : Nat} (h : 0 ≤ a) : 0 ≤ (if (n : Int) < a then (n : Int) else a) ∧ (if (n : Int) < a then (n : Int) else a) ≤ (n : Int) := by split <;> omega
theorem read_spec (b : Nat) (d : Dk) (name : ByteArray) (off n : Int) (hn : name.size ≤ 4611686018427387904) :
    FSpec Tryz.prog 104 [.pointer (some ⟨b, 0, none⟩), .string name, .int .i64 off, .int .i64 n] [diskP b d] Unit (fun _ => True) (fun _ => .tuple #[.string (d.read name off n).1, .int .i64 (d.read name off n).2]) (fun _ => [diskP b d]) := by
  refine fspec_ex ?_
  rintro ⟨⟨m1, m2, v, vs⟩, hv, hvs⟩
  unfold diskL
  dsimp only at hv hvs ⊢
  have hns : ∀ x ∈ [name], x.size ≤ 4611686018427387904 := by simpa using hn
  have hg := getK_encF name d.files
  have hh : d.has name = (fget name d.files).isSome := rfl
  unfold Dk.read
  by_cases h1 : d.live [name] = 0
  · have t1 : (!decide (d.live [name] = 0)) = false := by simp [h1]
    rw [if_neg (by simp [h1])]
    by_cases h2 : off < 0 ∨ n < 0
    · rw [if_pos h2]
      cases t2 : decide (off < 0) with
      | true =>
        cases hf : fget name d.files with
        | none =>
          rw [hf] at hg
          simp only [Option.map_none] at hg
          refine spec_intro [] _ Tryz.func104 rfl Tryz.ntmps104 (by rfl) (fun w0 R => ?_)
          repeat' (first | (refine gY ?_; intros) | (refine hY ?_ ?_ <;> (intro hgd; try simp only [bn] at hgd)) | (refine jY ?_ ?_ <;> intro _) | fail)
          rename_i vn hvn
          refine cl_Y (live_spec b [] (.map (some m1)) (.map (some m2)) v (.int .i64 d.room) (.int .i64 d.fuse) d vn (row 9 1 vn [[.string name]]) [name] Vw.row hns (by simp)) ?_
          intro _ _
          rw [h1]
          repeat' (first | (refine gY ?_; intros) | (refine hY ?_ ?_ <;> (intro hgd; try simp only [bn] at hgd)) | (refine jY ?_ ?_ <;> intro _) | fail)
          refine cont_map (fun _ h => disk_in (b := b) (m1 := m1) (m2 := m2) (d := d) (v := v) (vs := vs) hv hvs (Take.out takeD h)) ?_
          (refine rt_Y (y := ()) (hrs := Tryz.results104) (hv := ?_) (hφ := ?_))
          · rfl
          · trivial
        | some t =>
          rw [hf] at hg
          simp only [Option.map_some] at hg
          refine spec_intro [] _ Tryz.func104 rfl Tryz.ntmps104 (by rfl) (fun w0 R => ?_)
          repeat' (first | (refine gY ?_; intros) | (refine hY ?_ ?_ <;> (intro hgd; try simp only [bn] at hgd)) | (refine jY ?_ ?_ <;> intro _) | fail)
          rename_i vn hvn
          refine cl_Y (live_spec b [] (.map (some m1)) (.map (some m2)) v (.int .i64 d.room) (.int .i64 d.fuse) d vn (row 9 1 vn [[.string name]]) [name] Vw.row hns (by simp)) ?_
          intro _ _
          rw [h1]
          repeat' (first | (refine gY ?_; intros) | (refine hY ?_ ?_ <;> (intro hgd; try simp only [bn] at hgd)) | (refine jY ?_ ?_ <;> intro _) | fail)
          refine cont_map (fun _ h => disk_in (b := b) (m1 := m1) (m2 := m2) (d := d) (v := v) (vs := vs) hv hvs (Take.out takeD h)) ?_
          (refine rt_Y (y := ()) (hrs := Tryz.results104) (hv := ?_) (hφ := ?_))
          · rfl
          · trivial
      | false =>
        have t3 : decide (n < 0) = true := by simp at t2 ⊢; omega
        cases hf : fget name d.files with
        | none =>
          rw [hf] at hg
          simp only [Option.map_none] at hg
          refine spec_intro [] _ Tryz.func104 rfl Tryz.ntmps104 (by rfl) (fun w0 R => ?_)
          repeat' (first | (refine gY ?_; intros) | (refine hY ?_ ?_ <;> (intro hgd; try simp only [bn] at hgd)) | (refine jY ?_ ?_ <;> intro _) | fail)
          rename_i vn hvn
          refine cl_Y (live_spec b [] (.map (some m1)) (.map (some m2)) v (.int .i64 d.room) (.int .i64 d.fuse) d vn (row 9 1 vn [[.string name]]) [name] Vw.row hns (by simp)) ?_
          intro _ _
          rw [h1]
          repeat' (first | (refine gY ?_; intros) | (refine hY ?_ ?_ <;> (intro hgd; try simp only [bn] at hgd)) | (refine jY ?_ ?_ <;> intro _) | fail)
          refine cont_map (fun _ h => disk_in (b := b) (m1 := m1) (m2 := m2) (d := d) (v := v) (vs := vs) hv hvs (Take.out takeD h)) ?_
          (refine rt_Y (y := ()) (hrs := Tryz.results104) (hv := ?_) (hφ := ?_))
          · rfl
          · trivial
        | some t =>
          rw [hf] at hg
          simp only [Option.map_some] at hg
          refine spec_intro [] _ Tryz.func104 rfl Tryz.ntmps104 (by rfl) (fun w0 R => ?_)
          repeat' (first | (refine gY ?_; intros) | (refine hY ?_ ?_ <;> (intro hgd; try simp only [bn] at hgd)) | (refine jY ?_ ?_ <;> intro _) | fail)
          rename_i vn hvn
          refine cl_Y (live_spec b [] (.map (some m1)) (.map (some m2)) v (.int .i64 d.room) (.int .i64 d.fuse) d vn (row 9 1 vn [[.string name]]) [name] Vw.row hns (by simp)) ?_
          intro _ _
          rw [h1]
          repeat' (first | (refine gY ?_; intros) | (refine hY ?_ ?_ <;> (intro hgd; try simp only [bn] at hgd)) | (refine jY ?_ ?_ <;> intro _) | fail)
          refine cont_map (fun _ h => disk_in (b := b) (m1 := m1) (m2 := m2) (d := d) (v := v) (vs := vs) hv hvs (Take.out takeD h)) ?_
          (refine rt_Y (y := ()) (hrs := Tryz.results104) (hv := ?_) (hφ := ?_))
          · rfl
          · trivial
    · rw [if_neg h2]
      have t2 : decide (off < 0) = false := by simp; omega
      have t3 : decide (n < 0) = false := by simp; omega
      cases hf : fget name d.files with
      | none =>
        rw [if_pos (by rw [hh, hf]; rfl)]
        rw [hf] at hg
        simp only [Option.map_none] at hg
        refine spec_intro [] _ Tryz.func104 rfl Tryz.ntmps104 (by rfl) (fun w0 R => ?_)
        repeat' (first | (refine gY ?_; intros) | (refine hY ?_ ?_ <;> (intro hgd; try simp only [bn] at hgd)) | (refine jY ?_ ?_ <;> intro _) | fail)
        rename_i vn hvn
        refine cl_Y (live_spec b [] (.map (some m1)) (.map (some m2)) v (.int .i64 d.room) (.int .i64 d.fuse) d vn (row 9 1 vn [[.string name]]) [name] Vw.row hns (by simp)) ?_
        intro _ _
        rw [h1]
        repeat' (first | (refine gY ?_; intros) | (refine hY ?_ ?_ <;> (intro hgd; try simp only [bn] at hgd)) | (refine jY ?_ ?_ <;> intro _) | fail)
        refine cl_Y (has_spec b m1 d.files name (.map (some m2)) v (.int .i64 d.room) (.int .i64 d.fuse) (.bool d.still)) ?_
        intro _ _
        rw [hf]
        repeat' (first | (refine gY ?_; intros) | (refine hY ?_ ?_ <;> (intro hgd; try simp only [bn] at hgd)) | (refine jY ?_ ?_ <;> intro _) | fail)
        refine cont_map (fun _ h => disk_in (b := b) (m1 := m1) (m2 := m2) (d := d) (v := v) (vs := vs) hv hvs (Take.out takeD h)) ?_
        (refine rt_Y (y := ()) (hrs := Tryz.results104) (hv := ?_) (hφ := ?_))
        · rfl
        · trivial
      | some t =>
        have ht : ftext name d.files = t := by unfold ftext; rw [hf]; rfl
        rw [if_neg (by rw [hh, hf]; simp), ht]
        rw [hf] at hg
        simp only [Option.map_some] at hg
        have r1 := min_rng (a := off) (n := t.size) (by omega)
        have r2 := min_rng (a := n) (n := (t.extract (if (t.size : Int) < off then (t.size : Int) else off).toNat t.size).size) (by omega)
        refine spec_intro [] _ Tryz.func104 rfl Tryz.ntmps104 (by rfl) (fun w0 R => ?_)
        repeat' (first | (refine gY ?_; intros) | (refine hY ?_ ?_ <;> (intro hgd; try simp only [bn] at hgd)) | (refine jY ?_ ?_ <;> intro _) | fail)
        rename_i vn hvn
        refine cl_Y (live_spec b [] (.map (some m1)) (.map (some m2)) v (.int .i64 d.room) (.int .i64 d.fuse) d vn (row 9 1 vn [[.string name]]) [name] Vw.row hns (by simp)) ?_
        intro _ _
        rw [h1]
        repeat' (first | (refine gY ?_; intros) | (refine hY ?_ ?_ <;> (intro hgd; try simp only [bn] at hgd)) | (refine jY ?_ ?_ <;> intro _) | fail)
        refine cl_Y (has_spec b m1 d.files name (.map (some m2)) v (.int .i64 d.room) (.int .i64 d.fuse) (.bool d.still)) ?_
        intro _ _
        rw [hf]
        repeat' (first | (refine gY ?_; intros) | (refine hY ?_ ?_ <;> (intro hgd; try simp only [bn] at hgd)) | (refine jY ?_ ?_ <;> intro _) | fail)
        refine cont_map (fun _ h => disk_in (b := b) (m1 := m1) (m2 := m2) (d := d) (v := v) (vs := vs) hv hvs (Take.out takeD h)) ?_
        (refine rt_Y (y := ()) (hrs := Tryz.results104) (hv := ?_) (hφ := ?_))
        · rfl
        · trivial
  · have t1 : (!decide (d.live [name] = 0)) = true := by simp [h1]
    rw [if_pos h1]
    refine spec_intro [] _ Tryz.func104 rfl Tryz.ntmps104 (by rfl) (fun w0 R => ?_)
    repeat' (first | (refine gY ?_; intros) | (refine hY ?_ ?_ <;> (intro hgd; try simp only [bn] at hgd)) | (refine jY ?_ ?_ <;> intro _) | fail)
    rename_i vn hvn
    refine cl_Y (live_spec b [] (.map (some m1)) (.map (some m2)) v (.int .i64 d.room) (.int .i64 d.fuse) d vn (row 9 1 vn [[.string name]]) [name] Vw.row hns (by simp)) ?_
    intro _ _
    repeat' (first | (refine gY ?_; intros) | (refine hY ?_ ?_ <;> (intro hgd; try simp only [bn] at hgd)) | (refine jY ?_ ?_ <;> intro _) | fail)
    refine cont_map (fun _ h => disk_in (b := b) (m1 := m1) (m2 := m2) (d := d) (v := v) (vs := vs) hv hvs (Take.out takeD h)) ?_
    (refine rt_Y (y := ()) (hrs := Tryz.results104) (hv := ?_) (hφ := ?_))
    · rfl
    · trivial
theorem vspec_frameD {P : Program} {fv : Value} {args : List Value} {pre : List HProp} {Y : Type} {φ : Y → Prop} {ret : Y → Value} {post : Y → List HProp} (s : VSpec P fv args pre Y φ ret post) (F : List HProp) : VSpec P fv args (pre ++ F) Y φ ret (fun y => post y ++ F) := by
  intro w0 w R hs
  refine (s w0 w (F ++ R) (by rw [List.append_assoc] at hs; exact hs)).mono ?_
  rintro v w' ⟨y, hy, rfl, hs'⟩
  exact ⟨y, hy, rfl, by rw [List.append_assoc]; exact hs'⟩
end Go.Proofs.YtmnafjonbeihiaaGreatDoor
