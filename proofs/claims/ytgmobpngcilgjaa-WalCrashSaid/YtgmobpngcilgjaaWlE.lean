/- The walks of wal.Reset. -/
import Derived.Test.YtgmobpngcilgjaaWlD
-- @DEFS Z
set_option linter.unusedSimpArgs false
set_option linter.unusedVariables false
set_option maxRecDepth 4000
namespace Go.Proofs.Ytgmobpngcilgjaa
open Go Go.Fx Go.Proofs Go.Pl

theorem Res1_spec (wb b b1 b4 : Nat) (nm : BA) (w : Wv) (d : Dk) (hd : d.Ok) (hl : d.loose.length ≤ 1099511627776) (hn : nm.size ≤ 4611686018427387904) :
    FSpec Try.prog 90 [.pointer (some ⟨b1, 0, none⟩), .pointer (some ⟨b4, 0, none⟩)] [pts b1 (.cells [.pointer (some ⟨wb, 0, none⟩)].toArray 51), pts b4 (.cells [.bool true].toArray 4), diskP b d, walP wb b nm w] Unit (fun _ => True)
      (fun _ => .int .i64 (rem3 d nm)) (fun _ => [pts b1 (.cells [.pointer (some ⟨wb, 0, none⟩)].toArray 51), pts b4 (.cells [.bool (!decide ((d.remove nm).2 = 3))].toArray 4), diskP b (d.remove nm).1, walP wb b nm w]) := by
  have hr := remove_spec b d nm hd hl hn
  unfold walP rem3
  generalize d.remove nm = r at hr
  obtain ⟨d1, e⟩ := r
  dsimp only at hr ⊢
  cases t1 : decide (e = 3) with
  | true =>
    have h3 : e = 3 := by simpa using t1
    subst h3
    refine spec_intro [] _ Try.func90 rfl Try.ntmps90 (by rfl) (fun w0 R => ?_)
    repeat' (first | (refine go_Z ?_; intros) | (refine gs_Z ?_ ?_ <;> (intro hgd; try (simp only [Bool.not_true, Bool.not_false] at hgd))) | (refine gc_Z ?_ ?_ <;> intro _) | fail)
    refine cl_Z (hr) ?_
    intro _ _
    repeat' (first | (refine go_Z ?_; intros) | (refine gs_Z ?_ ?_ <;> (intro hgd; try (simp only [Bool.not_true, Bool.not_false] at hgd))) | (refine gc_Z ?_ ?_ <;> intro _) | fail)
    (refine rt_Z (y := ()) (hrs := Try.results90) (hv := ?_) (hφ := ?_))
    · rfl
    · trivial
  | false =>
    have h3 : ¬ e = 3 := by simpa using t1
    rw [if_neg h3]
    refine spec_intro [] _ Try.func90 rfl Try.ntmps90 (by rfl) (fun w0 R => ?_)
    repeat' (first | (refine go_Z ?_; intros) | (refine gs_Z ?_ ?_ <;> (intro hgd; try (simp only [Bool.not_true, Bool.not_false] at hgd))) | (refine gc_Z ?_ ?_ <;> intro _) | fail)
    refine cl_Z (hr) ?_
    intro _ _
    repeat' (first | (refine go_Z ?_; intros) | (refine gs_Z ?_ ?_ <;> (intro hgd; try (simp only [Bool.not_true, Bool.not_false] at hgd))) | (refine gc_Z ?_ ?_ <;> intro _) | fail)
    (refine rt_Z (y := ()) (hrs := Try.results90) (hv := ?_) (hφ := ?_))
    · rfl
    · trivial

def resT (th : Bool) (d : Dk) : Dk × Int := if th then d.sync else (d, 0)
theorem Res2_spec (wb b b1 b4 : Nat) (nm : BA) (w : Wv) (d : Dk) (th : Bool) (hd : d.Ok) :
    FSpec Try.prog 91 [.pointer (some ⟨b4, 0, none⟩), .pointer (some ⟨b1, 0, none⟩)] [pts b1 (.cells [.pointer (some ⟨wb, 0, none⟩)].toArray 51), pts b4 (.cells [.bool th].toArray 4), diskP b d, walP wb b nm w] Unit (fun _ => True)
      (fun _ => .int .i64 (resT th d).2) (fun _ => [pts b1 (.cells [.pointer (some ⟨wb, 0, none⟩)].toArray 51), pts b4 (.cells [.bool th].toArray 4), diskP b (resT th d).1, walP wb b nm w]) := by
  have hs := sync_spec b d hd
  unfold walP resT
  cases th with
  | true =>
    simp only [if_true]
    refine spec_intro [] _ Try.func91 rfl Try.ntmps91 (by rfl) (fun w0 R => ?_)
    repeat' (first | (refine go_Z ?_; intros) | (refine gs_Z ?_ ?_ <;> (intro hgd; try (simp only [Bool.not_true, Bool.not_false] at hgd))) | (refine gc_Z ?_ ?_ <;> intro _) | fail)
    refine cl_Z (hs) ?_
    intro _ _
    repeat' (first | (refine go_Z ?_; intros) | (refine gs_Z ?_ ?_ <;> (intro hgd; try (simp only [Bool.not_true, Bool.not_false] at hgd))) | (refine gc_Z ?_ ?_ <;> intro _) | fail)
    (refine rt_Z (y := ()) (hrs := Try.results91) (hv := ?_) (hφ := ?_))
    · rfl
    · trivial
  | false =>
    simp only [Bool.false_eq_true, if_false]
    refine spec_intro [] _ Try.func91 rfl Try.ntmps91 (by rfl) (fun w0 R => ?_)
    repeat' (first | (refine go_Z ?_; intros) | (refine gs_Z ?_ ?_ <;> (intro hgd; try (simp only [Bool.not_true, Bool.not_false] at hgd))) | (refine gc_Z ?_ ?_ <;> intro _) | fail)
    (refine rt_Z (y := ()) (hrs := Try.results91) (hv := ?_) (hφ := ?_))
    · rfl
    · trivial

abbrev pkRL (wb b b1 b4 : Nat) (th : Bool) (d : Dk) : List HProp := [pts b1 (.cells [.pointer (some ⟨wb, 0, none⟩)].toArray 51), pts b4 (.cells [.bool th].toArray 4), diskP b d]
def pkR (wb b b1 b4 : Nat) (th : Bool) (d : Dk) : HProp := fun h => SatL (pkRL wb b b1 b4 th d) h
theorem pkR_out {wb b b1 b4 : Nat} {th : Bool} {d : Dk} {W : HProp} {R : List HProp} {h : Frag} (k : SatL ([W, pkR wb b b1 b4 th d] ++ R) h) : SatL ((pkRL wb b b1 b4 th d ++ [W]) ++ R) h := by
  have k' : SatL (pkR wb b b1 b4 th d :: W :: R) h := SatL.swap k
  rw [List.append_assoc]
  exact SatL.flat (M := pkRL wb b b1 b4 th d) k'
theorem pkR_in {wb b b1 b4 : Nat} {th : Bool} {d : Dk} {W : HProp} {R : List HProp} {h : Frag} (k : SatL ((pkRL wb b b1 b4 th d ++ [W]) ++ R) h) : SatL ([W, pkR wb b b1 b4 th d] ++ R) h := by
  rw [List.append_assoc] at k
  have k' : SatL (pkR wb b b1 b4 th d :: W :: R) h := SatL.unflat (M := pkRL wb b b1 b4 th d) k
  exact SatL.swap k'
theorem Res1_v (wb b b1 b4 : Nat) (nm : BA) (w : Wv) (d : Dk) (hd : d.Ok) (hl : d.loose.length ≤ 1099511627776) (hn : nm.size ≤ 4611686018427387904) :
    VSpec Try.prog (.func (.func 90) #[] [.pointer (some ⟨b1, 0, none⟩), .pointer (some ⟨b4, 0, none⟩)].toArray) [] [walP wb b nm w, pkR wb b b1 b4 true d] Unit (fun _ => True) (fun _ => .int .i64 (rem3 d nm)) (fun _ => [walP wb b nm w, pkR wb b b1 b4 (!decide ((d.remove nm).2 = 3)) (d.remove nm).1]) :=
  (vspec_func (args := []) (cap := [.pointer (some ⟨b1, 0, none⟩), .pointer (some ⟨b4, 0, none⟩)]) (Res1_spec wb b b1 b4 nm w d hd hl hn)).conseq (fun _ _ k => pkR_out k) (fun y _ => ⟨y, trivial, rfl, fun _ _ k => pkR_in k⟩)
theorem Res2_v (wb b b1 b4 : Nat) (nm : BA) (w : Wv) (d : Dk) (th : Bool) (hd : d.Ok) :
    VSpec Try.prog (.func (.func 91) #[] [.pointer (some ⟨b4, 0, none⟩), .pointer (some ⟨b1, 0, none⟩)].toArray) [] [walP wb b nm w, pkR wb b b1 b4 th d] Unit (fun _ => True) (fun _ => .int .i64 (resT th d).2) (fun _ => [walP wb b nm w, pkR wb b b1 b4 th (resT th d).1]) :=
  (vspec_func (args := []) (cap := [.pointer (some ⟨b4, 0, none⟩), .pointer (some ⟨b1, 0, none⟩)]) (Res2_spec wb b b1 b4 nm w d th hd)).conseq (fun _ _ k => pkR_out k) (fun y _ => ⟨y, trivial, rfl, fun _ _ k => pkR_in k⟩)

theorem remS_eq (d : Dk) (nm : BA) : remS d nm = resT (!decide ((d.remove nm).2 = 3)) (d.remove nm).1 := by
  unfold remS resT
  by_cases h : (d.remove nm).2 = 3
  · simp [h]
  · simp [h]

theorem Reset_spec (wb b : Nat) (nm : BA) (w : Wv) (d : Dk) (hd : d.Ok) (hl : d.loose.length ≤ 1000000000) (hn : nm.size ≤ 4611686018427387904) :
    FSpec Try.prog 36 [.pointer (some ⟨wb, 0, none⟩)] [walP wb b nm w, diskP b d] Unit (fun _ => True) (fun _ => .int .i64 (resetW w d nm).2.2) (fun _ => [walP wb b nm (resetW w d nm).1, diskP b (resetW w d nm).2.1]) := by
  unfold resetW
  by_cases h0 : w.fault ≠ 0
  · have u0 : (!decide (w.fault = 0)) = true := by simpa using h0
    rw [if_pos h0]
    refine spec_intro [] _ Try.func36 rfl Try.ntmps36 (by rfl) (fun w0 R => ?_)
    repeat' (first | (refine go_Z ?_; intros) | (refine gs_Z ?_ ?_ <;> (intro hgd; try (simp only [Bool.not_true, Bool.not_false] at hgd))) | (refine gc_Z ?_ ?_ <;> intro _) | fail)
    refine cl_Z (Fault_spec wb b nm w) ?_
    intro _ _
    repeat' (first | (refine go_Z ?_; intros) | (refine gs_Z ?_ ?_ <;> (intro hgd; try (simp only [Bool.not_true, Bool.not_false] at hgd))) | (refine gc_Z ?_ ?_ <;> intro _) | fail)
    (refine rt_Z (y := ()) (hrs := Try.results36) (hv := ?_) (hφ := ?_))
    · rfl
    · trivial
  · have u0 : (!decide (w.fault = 0)) = false := by simpa using h0
    rw [if_neg h0, remS_eq]
    refine spec_intro [] _ Try.func36 rfl Try.ntmps36 (by rfl) (fun w0 R => ?_)
    repeat' (first | (refine go_Z ?_; intros) | (refine gs_Z ?_ ?_ <;> (intro hgd; try (simp only [Bool.not_true, Bool.not_false] at hgd))) | (refine gc_Z ?_ ?_ <;> intro _) | fail)
    refine cl_Z (Fault_spec wb b nm w) ?_
    intro _ _
    repeat' (first | (refine go_Z ?_; intros) | (refine gs_Z ?_ ?_ <;> (intro hgd; try (simp only [Bool.not_true, Bool.not_false] at hgd))) | (refine gc_Z ?_ ?_ <;> intro _) | fail)
    rename_i b1 _ _ b4 v' hv'
    have hf := Res1_v wb b b1 b4 nm w d hd (by omega) hn
    have hok : (d.remove nm).1.Ok := hd.remove
    generalize (!decide ((d.remove nm).2 = 3)) = th at hf
    generalize rem3 d nm = e1 at hf
    generalize (d.remove nm).1 = d1 at hf hok
    have hg := Res2_v wb b b1 b4 nm w d1 th hok
    generalize resT th d1 = r2 at hg
    obtain ⟨d2, e2⟩ := r2
    dsimp only at hg ⊢
    refine opsL_map (L' := [pts b1 (.cells [.pointer (some ⟨wb, 0, none⟩)].toArray 51), pts b4 (.cells [.bool true].toArray 4), diskP b d, walP wb b nm w, row 44 1 v' [[.func (.func 90) #[] #[.pointer (some ⟨b1, 0, none⟩), .pointer (some ⟨b4, 0, none⟩)]], [.func (.func 91) #[] #[.pointer (some ⟨b4, 0, none⟩), .pointer (some ⟨b1, 0, none⟩)]]]] ++ R) entD ?_
    refine opsL_map (L' := [pkR wb b b1 b4 true d, walP wb b nm w, row 44 1 v' [[.func (.func 90) #[] #[.pointer (some ⟨b1, 0, none⟩), .pointer (some ⟨b4, 0, none⟩)]], [.func (.func 91) #[] #[.pointer (some ⟨b4, 0, none⟩), .pointer (some ⟨b1, 0, none⟩)]]]] ++ R) (fun _ h => SatL.unflat (M := pkRL wb b b1 b4 true d) (L := [walP wb b nm w, row 44 1 v' [[.func (.func 90) #[] #[.pointer (some ⟨b1, 0, none⟩), .pointer (some ⟨b4, 0, none⟩)]], [.func (.func 91) #[] #[.pointer (some ⟨b4, 0, none⟩), .pointer (some ⟨b1, 0, none⟩)]]]] ++ R) h) ?_
    by_cases he1 : e1 ≠ 0
    · have u7 : decide (e1 = 0) = false := by simpa using he1
      have hst := steps_1 wb b nm w v' (.func (.func 90) #[] #[.pointer (some ⟨b1, 0, none⟩), .pointer (some ⟨b4, 0, none⟩)]) (.func (.func 91) #[] #[.pointer (some ⟨b4, 0, none⟩), .pointer (some ⟨b1, 0, none⟩)]) (pkR wb b b1 b4 true d) (pkR wb b b1 b4 th d1) e1 he1 hf
      rw [if_pos he1]
      refine cl_Z (hst) ?_
      intro _ _
      repeat' (first | (refine go_Z ?_; intros) | (refine gs_Z ?_ ?_ <;> (intro hgd; try (simp only [Bool.not_true, Bool.not_false] at hgd))) | (refine gc_Z ?_ ?_ <;> intro _) | fail)
      refine cont_map (fun _ h => pkR_out (R := R) h) ?_
      dsimp only
      (refine rt_Z (y := ()) (hrs := Try.results36) (hv := ?_) (hφ := ?_))
      · rfl
      · trivial
    · have he0 : e1 = 0 := by simpa using he1
      subst he0
      rw [if_neg (by simp)]
      have hst := steps_2 wb b nm w v' (.func (.func 90) #[] #[.pointer (some ⟨b1, 0, none⟩), .pointer (some ⟨b4, 0, none⟩)]) (.func (.func 91) #[] #[.pointer (some ⟨b4, 0, none⟩), .pointer (some ⟨b1, 0, none⟩)]) (pkR wb b b1 b4 true d) (pkR wb b b1 b4 th d1) (pkR wb b b1 b4 th d2) e2 hf hg
      by_cases he2 : e2 ≠ 0
      · have u7 : decide (e2 = 0) = false := by simpa using he2
        rw [if_pos he2]
        refine cl_Z (hst) ?_
        intro _ _
        repeat' (first | (refine go_Z ?_; intros) | (refine gs_Z ?_ ?_ <;> (intro hgd; try (simp only [Bool.not_true, Bool.not_false] at hgd))) | (refine gc_Z ?_ ?_ <;> intro _) | fail)
        refine cont_map (fun _ h => pkR_out (R := R) h) ?_
        dsimp only
        (refine rt_Z (y := ()) (hrs := Try.results36) (hv := ?_) (hφ := ?_))
        · rfl
        · trivial
      · have he0 : e2 = 0 := by simpa using he2
        subst he0
        rw [if_neg (by simp)]
        rw [down_0] at hst
        refine cl_Z (hst) ?_
        intro _ _
        repeat' (first | (refine go_Z ?_; intros) | (refine gs_Z ?_ ?_ <;> (intro hgd; try (simp only [Bool.not_true, Bool.not_false] at hgd))) | (refine gc_Z ?_ ?_ <;> intro _) | fail)
        refine ok_map (fun _ h => pkR_out (R := R) h) ?_
        unfold walP walV
        refine ok_drawS (cv := []) [] [1] ([pts b1 (.cells [.pointer (some ⟨wb, 0, none⟩)].toArray 51)]) _ (by kernel_rfl) rfl (by decide +kernel) (fun _ h => h) (takeS) ?_
        repeat' (first | (refine go_Z ?_; intros) | (refine gs_Z ?_ ?_ <;> (intro hgd; try (simp only [Bool.not_true, Bool.not_false] at hgd))) | (refine gc_Z ?_ ?_ <;> intro _) | fail)
        (refine rt_Z (y := ()) (hrs := Try.results36) (hv := ?_) (hφ := ?_))
        · rfl
        · trivial
end Go.Proofs.Ytgmobpngcilgjaa
