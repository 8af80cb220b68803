/- The walk of the law's own example for WalCrash. -/
import Derived.Test.YtgmobpngcilgjaaWlF
import Derived.Test.YtgmobpngcilgjaaWlQ
-- @DEFS Z
set_option linter.unusedSimpArgs false
set_option linter.unusedVariables false
set_option maxRecDepth 4000
namespace Go.Proofs.Ytgmobpngcilgjaa
open Go Go.Fx Go.Proofs Go.Pl

theorem WGood.fuse {d : Dk} {w : Wv} {h : List BA} (g : WGood d w h) {n : Int} (hn : n ≤ 9223372036854775807) : WGood (d.fuseTo n) w h := ⟨g.ok.fuseTo hn, g.okh, g.loose, g.txt, g.wv⟩
theorem open_new (r : Int) (h0 : 0 ≤ r) (h1 : r ≤ 16777216) : (openW (newD r) nW).2 = (0, [], 0) ∧ WGood (openW (newD r) nW).1 ⟨0, 0, 0⟩ [] := by
  obtain ⟨j, e1, e2⟩ := wal_text (d := newD r) (h := []) (l := []) (k := 0) (.new h0 h1) rfl rfl rfl rfl rfl rfl
  simp only [List.take_nil, List.append_nil] at e1 e2
  exact ⟨e1, e2⟩
theorem WGood.wbound {d : Dk} {w : Wv} {h : List BA} (g : WGood d w h) : 0 ≤ w.n ∧ w.n ≤ 1099511627776 ∧ 0 ≤ w.size ∧ w.size ≤ 1099511627776 := by
  have hw := g.wv
  have h1 := framesOf_size h
  have h2 := ftext_le nW d.files
  rw [g.txt] at h2
  have h3 := g.ok.used
  have h4 := lenT_ge h
  rw [hw]
  dsimp only
  omega

def L0 : Dk := (openW (newD 1000) nW).1
def L1 : Wv × Dk × Int := appendW ⟨0, 0, 0⟩ L0 nW [⟨#[97]⟩]
def L2 : Dk := L1.2.1.fuseTo 1
def L3 : Wv × Dk × Int := appendW L1.1 L2 nW [⟨#[98]⟩]
def L4 : Dk := L3.2.1.crash 0 5
def L5 : Dk × Int × List BA × Nat := openW L4 nW
def L6 : Wv × Dk × Int := resetW ⟨1, 13, 0⟩ L5.1 nW
theorem L1_e : L1.2.2 = 0 := by decide +kernel
theorem L3_e : L3.2.2 = 20 := by decide +kernel
theorem L5_e : L5.2.1 = 0 := by decide +kernel
theorem L5_l : sameT L5.2.2.1 [⟨#[97]⟩] = true := by decide +kernel
theorem L5_n : L5.2.2.2 = 13 := by decide +kernel
theorem L6_e : L6.2.2 = 0 := by decide +kernel
theorem L0_g : WGood L0 ⟨0, 0, 0⟩ [] := (open_new 1000 (by decide) (by decide)).2
theorem L1_g : WGood L1.2.1 L1.1 [⟨#[97]⟩] := by
  rcases append_good L0_g [⟨#[97]⟩] (by decide) (by decide) with ⟨_, h⟩ | ⟨e, _⟩ | ⟨e, _⟩
  · exact h
  · exact absurd (L1_e.symm.trans e) (by decide)
  · exact absurd (L1_e.symm.trans e) (by decide)
theorem L2_g : WGood L2 L1.1 [⟨#[97]⟩] := L1_g.fuse (by decide)
theorem L3_g : L3.1.fault = 20 ∧ WInv L3.2.1 [⟨#[97]⟩] [⟨#[98]⟩] false := by
  rcases append_good L2_g [⟨#[98]⟩] (by decide) (by decide) with ⟨e, _⟩ | ⟨e, _⟩ | ⟨e, h1, h2, _⟩
  · exact absurd (L3_e.symm.trans e) (by decide)
  · exact absurd (L3_e.symm.trans e) (by decide)
  · exact ⟨h1, h2⟩
theorem L4_ok : L4.Ok := L3_g.2.ok.crash 0 5
theorem L5_g : WGood L5.1 ⟨1, 13, 0⟩ [⟨#[97]⟩] := by
  obtain ⟨r, h1, h2, _⟩ := open_inv L3_g.2 0 5
  have e1 : L5.2 = (0, r, lenT r) := h1
  have e2 : r = [⟨#[97]⟩] := by
    have := sameT_iff.1 L5_l
    rw [e1] at this; exact this
  subst e2
  exact h2
theorem L6_g : WGood L6.2.1 L6.1 [] := by
  rcases reset_good L5_g with ⟨_, h⟩ | ⟨e, _⟩
  · exact h
  · exact absurd (L6_e.symm.trans e) (by decide)

theorem L0_open (b : Nat) : FSpec Try.prog 34 [.pointer (some ⟨b, 0, none⟩), .string nW] [diskP b (newD 1000)] (Nat × { v : Value // v.oneCell' = true }) (fun _ => True) (fun y => .tuple #[.pointer (some ⟨y.1, 0, none⟩), y.2.1, .int .i64 0])
    (fun y => [diskP b L0, walP y.1 b nW ⟨0, 0, 0⟩, row 9 1 y.2.1 (([] : List BA).map strV)]) := by
  have h := Open_good b (newD 1000) nW (.new (by decide) (by decide)) (by decide) (by decide) (by rw [(open_new 1000 (by decide) (by decide)).1])
  rw [(open_new 1000 (by decide) (by decide)).1, show (openW (newD 1000) nW).1 = L0 from rfl] at h
  exact h
theorem L4_open (b : Nat) : FSpec Try.prog 34 [.pointer (some ⟨b, 0, none⟩), .string nW] [diskP b L4] (Nat × { v : Value // v.oneCell' = true }) (fun _ => True) (fun y => .tuple #[.pointer (some ⟨y.1, 0, none⟩), y.2.1, .int .i64 0])
    (fun y => [diskP b L5.1, walP y.1 b nW ⟨1, 13, 0⟩, row 9 1 y.2.1 (([⟨#[97]⟩] : List BA).map strV)]) := by
  have h := Open_good b L4 nW L4_ok (by decide) (by decide) L5_e
  rw [show openW L4 nW = L5 from rfl, sameT_iff.1 L5_l, L5_n] at h
  exact h

theorem alive_wal : FSpec Try.prog 33 [] [] Unit (fun _ => True) (fun _ => .bool true) (fun _ => []) := by
  have hw1 : L1.1 = ⟨1, 13, 0⟩ := L1_g.wv
  have hf3 := L3_g.1
  have hw6 : L6.1 = ⟨0, 0, 0⟩ := L6_g.wv
  have t0 : (!decide (((([] : List BA).map strV).length : Int) = 0)) = false := rfl
  refine spec_intro [] _ Try.func33 rfl Try.ntmps33 (by rfl) (fun w0 R => ?_)
  repeat' (first | (refine go_Z ?_; intros) | (refine gs_Z ?_ ?_ <;> (intro hgd; try (simp only [Bool.not_true, Bool.not_false] at hgd))) | (refine gc_Z ?_ ?_ <;> intro _) | fail)
  refine cl_Z (new_spec 1000 (by decide) (by decide)) ?_
  intro b _
  repeat' (first | (refine go_Z ?_; intros) | (refine gs_Z ?_ ?_ <;> (intro hgd; try (simp only [Bool.not_true, Bool.not_false] at hgd))) | (refine gc_Z ?_ ?_ <;> intro _) | fail)
  refine cl_Z (L0_open b) ?_
  rintro ⟨wb, ⟨v, hv⟩⟩ _
  repeat' (first | (refine go_Z ?_; intros) | (refine gs_Z ?_ ?_ <;> (intro hgd; try (simp only [Bool.not_true, Bool.not_false] at hgd))) | (refine gc_Z ?_ ?_ <;> intro _) | fail)
  rename_i v1 hv1
  refine cl_Z (Append_spec wb b nW ⟨0, 0, 0⟩ L0 v1 (row 9 1 v1 (([⟨#[97]⟩] : List BA).map strV)) [⟨#[97]⟩] L0_g.ok (by rw [L0_g.loose]; simp) (by decide) Vw.row (by decide) (fun _ => by decide)) ?_
  intro _ _
  rw [show appendW ⟨0, 0, 0⟩ L0 nW [⟨#[97]⟩] = L1 from rfl, L1_e, hw1]
  repeat' (first | (refine go_Z ?_; intros) | (refine gs_Z ?_ ?_ <;> (intro hgd; try (simp only [Bool.not_true, Bool.not_false] at hgd))) | (refine gc_Z ?_ ?_ <;> intro _) | fail)
  refine cl_Z (fuse_spec b L1.2.1 1) ?_
  intro _ _
  rw [show L1.2.1.fuseTo 1 = L2 from rfl]
  repeat' (first | (refine go_Z ?_; intros) | (refine gs_Z ?_ ?_ <;> (intro hgd; try (simp only [Bool.not_true, Bool.not_false] at hgd))) | (refine gc_Z ?_ ?_ <;> intro _) | fail)
  rename_i v2 hv2
  refine cl_Z (Append_spec wb b nW ⟨1, 13, 0⟩ L2 v2 (row 9 1 v2 (([⟨#[98]⟩] : List BA).map strV)) [⟨#[98]⟩] L2_g.ok (by rw [L2_g.loose]; simp) (by decide) Vw.row (by decide) (fun _ => by decide)) ?_
  intro _ _
  rw [show appendW ⟨1, 13, 0⟩ L2 nW [⟨#[98]⟩] = L3 from by unfold L3; rw [hw1], L3_e]
  repeat' (first | (refine go_Z ?_; intros) | (refine gs_Z ?_ ?_ <;> (intro hgd; try (simp only [Bool.not_true, Bool.not_false] at hgd))) | (refine gc_Z ?_ ?_ <;> intro _) | fail)
  refine cl_Z (Fault_spec wb b nW L3.1) ?_
  intro _ _
  rw [hf3]
  repeat' (first | (refine go_Z ?_; intros) | (refine gs_Z ?_ ?_ <;> (intro hgd; try (simp only [Bool.not_true, Bool.not_false] at hgd))) | (refine gc_Z ?_ ?_ <;> intro _) | fail)
  refine cl_Z (crash_spec b L3.2.1 0 5 L3_g.2.ok (by have := L3_g.2.few; omega)) ?_
  intro _ _
  rw [show L3.2.1.crash 0 5 = L4 from rfl]
  repeat' (first | (refine go_Z ?_; intros) | (refine gs_Z ?_ ?_ <;> (intro hgd; try (simp only [Bool.not_true, Bool.not_false] at hgd))) | (refine gc_Z ?_ ?_ <;> intro _) | fail)
  refine cl_Z (L4_open b) ?_
  rintro ⟨wb2, ⟨v3, hv3⟩⟩ _
  repeat' (first | (refine go_Z ?_; intros) | (refine gs_Z ?_ ?_ <;> (intro hgd; try (simp only [Bool.not_true, Bool.not_false] at hgd))) | (refine gc_Z ?_ ?_ <;> intro _) | fail)
  rename_i v4 hv4
  refine cl_Z (SameT_spec v3 v4 (row 9 1 v3 (([⟨#[97]⟩] : List BA).map strV)) (row 9 1 v4 (([⟨#[97]⟩] : List BA).map strV)) [⟨#[97]⟩] [⟨#[97]⟩] Vw.row Vw.row (by decide)) ?_
  intro _ _
  rw [sameT_self]
  repeat' (first | (refine go_Z ?_; intros) | (refine gs_Z ?_ ?_ <;> (intro hgd; try (simp only [Bool.not_true, Bool.not_false] at hgd))) | (refine gc_Z ?_ ?_ <;> intro _) | fail)
  refine cl_Z (wLen_spec wb2 b nW ⟨1, 13, 0⟩) ?_
  intro _ _
  repeat' (first | (refine go_Z ?_; intros) | (refine gs_Z ?_ ?_ <;> (intro hgd; try (simp only [Bool.not_true, Bool.not_false] at hgd))) | (refine gc_Z ?_ ?_ <;> intro _) | fail)
  refine cl_Z (wSize_spec wb2 b nW ⟨1, 13, 0⟩) ?_
  intro _ _
  repeat' (first | (refine go_Z ?_; intros) | (refine gs_Z ?_ ?_ <;> (intro hgd; try (simp only [Bool.not_true, Bool.not_false] at hgd))) | (refine gc_Z ?_ ?_ <;> intro _) | fail)
  refine cl_Z (Reset_spec wb2 b nW ⟨1, 13, 0⟩ L5.1 L5_g.ok (by rw [L5_g.loose]; simp) (by decide)) ?_
  intro _ _
  rw [show resetW ⟨1, 13, 0⟩ L5.1 nW = L6 from rfl, L6_e, hw6]
  repeat' (first | (refine go_Z ?_; intros) | (refine gs_Z ?_ ?_ <;> (intro hgd; try (simp only [Bool.not_true, Bool.not_false] at hgd))) | (refine gc_Z ?_ ?_ <;> intro _) | fail)
  refine cl_Z (wLen_spec wb2 b nW ⟨0, 0, 0⟩) ?_
  intro _ _
  repeat' (first | (refine go_Z ?_; intros) | (refine gs_Z ?_ ?_ <;> (intro hgd; try (simp only [Bool.not_true, Bool.not_false] at hgd))) | (refine gc_Z ?_ ?_ <;> intro _) | fail)
  (refine rt_Z (y := ()) (hrs := Try.results33) (hv := ?_) (hφ := ?_))
  · rfl
  · trivial
end Go.Proofs.Ytgmobpngcilgjaa
