/- The walks of package disk, part G: Append, Truncate, Rename, Remove. -/
import Derived.Test.YtgmobpngcilgjaaDkF
-- @DEFS Z
set_option linter.unusedSimpArgs false
set_option linter.unusedVariables false
set_option maxRecDepth 4000
namespace Go.Proofs.Ytgmobpngcilgjaa
open Go Go.Fx Go.Proofs Go.Pl

theorem cl_app {bn bs bl : Nat} {n s : ByteArray} {L : List HProp} {h : Frag} (k : SatL ([pts bn (.cells [.string n].toArray 9), pts bs (.cells [.string s].toArray 9), pts bl (.cells [.func (.func 125) #[] [.pointer (some ⟨bn, 0, none⟩), .pointer (some ⟨bs, 0, none⟩)].toArray].toArray 137)] ++ L) h) :
    SatL (clP (.app n s) [.func (.func 127) #[] [.pointer (some ⟨bl, 0, none⟩), .pointer (some ⟨bs, 0, none⟩)].toArray, .func (.func 125) #[] [.pointer (some ⟨bn, 0, none⟩), .pointer (some ⟨bs, 0, none⟩)].toArray] :: L) h := ex_in ⟨(bn, bs, bl), rfl⟩ rfl k
theorem cl_trunc {bn bk : Nat} {n : ByteArray} {j : Int} {L : List HProp} {h : Frag} (k : SatL ([pts bn (.cells [.string n].toArray 9), pts bk (.cells [.int .i64 j].toArray 3)] ++ L) h) :
    SatL (clP (.trunc n j) [.func (.func 132) #[] [.pointer (some ⟨bn, 0, none⟩), .pointer (some ⟨bk, 0, none⟩)].toArray, .nilFunc] :: L) h := ex_in ⟨(bn, bk), rfl⟩ rfl k
theorem cl_ren {ba bb : Nat} {a b : ByteArray} {L : List HProp} {h : Frag} (k : SatL ([pts ba (.cells [.string a].toArray 9), pts bb (.cells [.string b].toArray 9)] ++ L) h) :
    SatL (clP (.ren a b) [.func (.func 128) #[] [.pointer (some ⟨ba, 0, none⟩), .pointer (some ⟨bb, 0, none⟩)].toArray, .nilFunc] :: L) h := ex_in ⟨(ba, bb), rfl⟩ rfl k
theorem cl_rem {ba : Nat} {a : ByteArray} {L : List HProp} {h : Frag} (k : SatL ([pts ba (.cells [.string a].toArray 9)] ++ L) h) :
    SatL (clP (.rem a) [.func (.func 133) #[] [.pointer (some ⟨ba, 0, none⟩)].toArray, .nilFunc] :: L) h := ex_in ⟨ba, rfl⟩ rfl k

theorem append_spec (b : Nat) (d : Dk) (name s : ByteArray) (hd : d.Ok) (hl : d.loose.length ≤ 1099511627776) (hn : name.size ≤ 4611686018427387904) (hs : s.size ≤ 549755813888) :
    FSpec Try.prog 74 [.pointer (some ⟨b, 0, none⟩), .string name, .string s] [diskP b d] Unit (fun _ => True) (fun _ => .int .i64 (d.append name s).2) (fun _ => [diskP b (d.append name s).1]) := by
  refine fspec_ex ?_
  rintro ⟨⟨m1, m2, v, vs⟩, hv, hvs⟩
  unfold diskL
  dsimp only at hv hvs ⊢
  have hu := hd.used
  have hns : ∀ x ∈ [name], x.size ≤ 4611686018427387904 := by simpa using hn
  have ht := ftext_le name d.files
  have hus : fused d.files ≤ 4611686018427387904 := by omega
  unfold Dk.append
  by_cases h1 : d.live [name] = 0
  · have t1 : (!decide (d.live [name] = 0)) = false := by simp [h1]
    rw [if_neg (by simp [h1])]
    cases h2 : (!(s.toList == [])) with
    | false =>
      have t2 : (!(s.toList == ({ data := #[] } : ByteArray).toList)) = false := by rw [nil_toList]; exact h2
      rw [Bool.false_and, if_neg (by simp)]
      have hdo := do_spec b d (.app name s)
      refine spec_intro [] _ Try.func74 rfl Try.ntmps74 (by rfl) (fun w0 R => ?_)
      repeat' (first | (refine go_Z ?_; intros) | (refine gs_Z ?_ ?_ <;> (intro hgd; try (simp only [Bool.not_true, Bool.not_false] at hgd))) | (refine gc_Z ?_ ?_ <;> intro _) | fail)
      rename_i bn bs vn hvn
      refine cl_Z (live_spec b [] (.map (some m1)) (.map (some m2)) v (.int .i64 d.room) (.int .i64 d.fuse) d vn (row 9 1 vn [[.string name]]) [name] Vw.row hns (by simp)) ?_
      intro _ _
      rw [h1]
      repeat' (first | (refine go_Z ?_; intros) | (refine gs_Z ?_ ?_ <;> (intro hgd; try (simp only [Bool.not_true, Bool.not_false] at hgd))) | (refine gc_Z ?_ ?_ <;> intro _) | fail)
      refine ok_drawL (cv := []) [4] ([pts bs _, pts b _]) (takeD) (by kernel_rfl) rfl (by decide +kernel) ?_
      repeat' (first | (refine go_Z ?_; intros) | (refine gs_Z ?_ ?_ <;> (intro hgd; try (simp only [Bool.not_true, Bool.not_false] at hgd))) | (refine gc_Z ?_ ?_ <;> intro _) | fail)
      refine opsL_map (fun _ h => disk_in (b := b) (m1 := m1) (m2 := m2) (d := d) (v := v) (vs := vs) hv hvs (Take.out takeD h)) ?_
      rename_i bl
      refine opsL_map (fun _ h => cl_app (bn := bn) (bs := bs) (bl := bl) (n := name) (s := s) (Take.out takeD h)) ?_
      refine cl_Z (hdo _ _ rfl rfl hd (by show (ftext name d.files).size + s.size ≤ _; omega) hl) ?_
      intro _ _
      repeat' (first | (refine go_Z ?_; intros) | (refine gs_Z ?_ ?_ <;> (intro hgd; try (simp only [Bool.not_true, Bool.not_false] at hgd))) | (refine gc_Z ?_ ?_ <;> intro _) | fail)
      (refine rt_Z (y := ()) (hrs := Try.results74) (hv := ?_) (hφ := ?_))
      · rfl
      · trivial
    | true =>
      have t2 : (!(s.toList == ({ data := #[] } : ByteArray).toList)) = true := by rw [nil_toList]; exact h2
      rw [Bool.true_and]
      cases h3 : decide (d.room < (fused d.files : Int) + s.size) with
      | true =>
        rw [if_pos rfl]
        refine spec_intro [] _ Try.func74 rfl Try.ntmps74 (by rfl) (fun w0 R => ?_)
        repeat' (first | (refine go_Z ?_; intros) | (refine gs_Z ?_ ?_ <;> (intro hgd; try (simp only [Bool.not_true, Bool.not_false] at hgd))) | (refine gc_Z ?_ ?_ <;> intro _) | fail)
        rename_i bn bs vn hvn
        refine cl_Z (live_spec b [] (.map (some m1)) (.map (some m2)) v (.int .i64 d.room) (.int .i64 d.fuse) d vn (row 9 1 vn [[.string name]]) [name] Vw.row hns (by simp)) ?_
        intro _ _
        rw [h1]
        repeat' (first | (refine go_Z ?_; intros) | (refine gs_Z ?_ ?_ <;> (intro hgd; try (simp only [Bool.not_true, Bool.not_false] at hgd))) | (refine gc_Z ?_ ?_ <;> intro _) | fail)
        refine ok_drawL (cv := []) [4] ([pts bs _, pts b _]) (takeD) (by kernel_rfl) rfl (by decide +kernel) ?_
        repeat' (first | (refine go_Z ?_; intros) | (refine gs_Z ?_ ?_ <;> (intro hgd; try (simp only [Bool.not_true, Bool.not_false] at hgd))) | (refine gc_Z ?_ ?_ <;> intro _) | fail)
        refine clN_Z (used_spec b m1 d.files (.map (some m2)) v (.int .i64 d.room) (.int .i64 d.fuse) (.bool d.still) hus) ?_
        intro _ _
        repeat' (first | (refine go_Z ?_; intros) | (refine gs_Z ?_ ?_ <;> (intro hgd; try (simp only [Bool.not_true, Bool.not_false] at hgd))) | (refine gc_Z ?_ ?_ <;> intro _) | fail)
        refine cont_map (fun _ h => disk_in (b := b) (m1 := m1) (m2 := m2) (d := d) (v := v) (vs := vs) hv hvs (Take.out takeD h)) ?_
        (refine rt_Z (y := ()) (hrs := Try.results74) (hv := ?_) (hφ := ?_))
        · rfl
        · trivial
      | false =>
        rw [if_neg (by simp)]
        have hok : (ftext name d.files).size + s.size ≤ 1099511627776 := by
          have hr := hd.roomM
          simp only [decide_eq_false_iff_not] at h3
          omega
        have hdo := do_spec b d (.app name s)
        refine spec_intro [] _ Try.func74 rfl Try.ntmps74 (by rfl) (fun w0 R => ?_)
        repeat' (first | (refine go_Z ?_; intros) | (refine gs_Z ?_ ?_ <;> (intro hgd; try (simp only [Bool.not_true, Bool.not_false] at hgd))) | (refine gc_Z ?_ ?_ <;> intro _) | fail)
        rename_i bn bs vn hvn
        refine cl_Z (live_spec b [] (.map (some m1)) (.map (some m2)) v (.int .i64 d.room) (.int .i64 d.fuse) d vn (row 9 1 vn [[.string name]]) [name] Vw.row hns (by simp)) ?_
        intro _ _
        rw [h1]
        repeat' (first | (refine go_Z ?_; intros) | (refine gs_Z ?_ ?_ <;> (intro hgd; try (simp only [Bool.not_true, Bool.not_false] at hgd))) | (refine gc_Z ?_ ?_ <;> intro _) | fail)
        refine ok_drawL (cv := []) [4] ([pts bs _, pts b _]) (takeD) (by kernel_rfl) rfl (by decide +kernel) ?_
        repeat' (first | (refine go_Z ?_; intros) | (refine gs_Z ?_ ?_ <;> (intro hgd; try (simp only [Bool.not_true, Bool.not_false] at hgd))) | (refine gc_Z ?_ ?_ <;> intro _) | fail)
        refine clN_Z (used_spec b m1 d.files (.map (some m2)) v (.int .i64 d.room) (.int .i64 d.fuse) (.bool d.still) hus) ?_
        intro _ _
        repeat' (first | (refine go_Z ?_; intros) | (refine gs_Z ?_ ?_ <;> (intro hgd; try (simp only [Bool.not_true, Bool.not_false] at hgd))) | (refine gc_Z ?_ ?_ <;> intro _) | fail)
        refine opsL_map (fun _ h => disk_in (b := b) (m1 := m1) (m2 := m2) (d := d) (v := v) (vs := vs) hv hvs (Take.out takeD h)) ?_
        rename_i bl
        refine opsL_map (fun _ h => cl_app (bn := bn) (bs := bs) (bl := bl) (n := name) (s := s) (Take.out takeD h)) ?_
        refine cl_Z (hdo _ _ rfl rfl hd hok hl) ?_
        intro _ _
        repeat' (first | (refine go_Z ?_; intros) | (refine gs_Z ?_ ?_ <;> (intro hgd; try (simp only [Bool.not_true, Bool.not_false] at hgd))) | (refine gc_Z ?_ ?_ <;> intro _) | fail)
        (refine rt_Z (y := ()) (hrs := Try.results74) (hv := ?_) (hφ := ?_))
        · rfl
        · trivial
  · have t1 : (!decide (d.live [name] = 0)) = true := by simp [h1]
    rw [if_pos h1]
    refine spec_intro [] _ Try.func74 rfl Try.ntmps74 (by rfl) (fun w0 R => ?_)
    repeat' (first | (refine go_Z ?_; intros) | (refine gs_Z ?_ ?_ <;> (intro hgd; try (simp only [Bool.not_true, Bool.not_false] at hgd))) | (refine gc_Z ?_ ?_ <;> intro _) | fail)
    rename_i bn bs vn hvn
    refine cl_Z (live_spec b [] (.map (some m1)) (.map (some m2)) v (.int .i64 d.room) (.int .i64 d.fuse) d vn (row 9 1 vn [[.string name]]) [name] Vw.row hns (by simp)) ?_
    intro _ _
    repeat' (first | (refine go_Z ?_; intros) | (refine gs_Z ?_ ?_ <;> (intro hgd; try (simp only [Bool.not_true, Bool.not_false] at hgd))) | (refine gc_Z ?_ ?_ <;> intro _) | fail)
    refine cont_map (fun _ h => disk_in (b := b) (m1 := m1) (m2 := m2) (d := d) (v := v) (vs := vs) hv hvs (Take.out takeD h)) ?_
    (refine rt_Z (y := ()) (hrs := Try.results74) (hv := ?_) (hφ := ?_))
    · rfl
    · trivial
end Go.Proofs.Ytgmobpngcilgjaa
