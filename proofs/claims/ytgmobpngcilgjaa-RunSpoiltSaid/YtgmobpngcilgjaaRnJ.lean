/- The walks of the law's own example for the runs, and of RunNil. -/
import Derived.Test.YtgmobpngcilgjaaRnW
-- @DEFS Z
set_option linter.unusedSimpArgs false
set_option linter.unusedVariables false
set_option maxRecDepth 4000
namespace Go.Proofs.Ytgmobpngcilgjaa
open Go Go.Fx Go.Proofs Go.Pl

def nR : BA := ⟨#[114]⟩
def nS : BA := ⟨#[115]⟩
def lR : List Pr := [⟨⟨#[97]⟩, ⟨#[49]⟩, false⟩, ⟨⟨#[98]⟩, ⟨#[]⟩, true⟩]
theorem may_nR : mayN nR = true := by decide +kernel
theorem may_nS : mayN nS = true := by decide +kernel
theorem lR_chk : chkR lR = 0 := by decide +kernel
theorem lR_bad : chkR [⟨⟨#[98]⟩, ⟨#[]⟩, true⟩, ⟨⟨#[97]⟩, ⟨#[49]⟩, false⟩] = 100 := by decide +kernel
theorem lR_arg : chkR [pr0] = 2 := by decide +kernel
theorem lR_size : (runB lR).size = 53 := by rw [runB_size]; decide +kernel
def dA : Dk := dR 1000 nR (runB lR)
theorem dA_ok : dA.Ok := dR_ok (by decide) (by decide) (by rw [lR_size]; decide)
theorem lR_sorted : Sorted ((ents lR).map (·.p)) := by
  rw [show (ents lR).map (·.p) = lR from entsF_p lR 20]
  exact rise_sorted (chkR_0 lR_chk).2
theorem dA_read : dA.read nR 0 16777216 = (runB lR, 0) := by
  have h := dR_read may_nR 1000 (runB lR) 0 16777216
  have hc : cut (runB lR) 0 16777216 = runB lR := cut_all _ _ (by rw [lR_size]; decide)
  rw [show ((0 : Nat) : Int) = 0 from rfl, show ((16777216 : Nat) : Int) = 16777216 from rfl, hc] at h
  exact h

theorem alive_run : FSpec Try.prog 54 [] [] Unit (fun _ => True) (fun _ => .bool true) (fun _ => []) := by
  have hok := (chkR_0 lR_chk).1
  have hw1 : ∀ b u A, Vw A 3 u (lR.map prV) → FSpec Try.prog 60 [.pointer (some ⟨b, 0, none⟩), .string nR, u] [diskP b (newD 1000), A] Unit (fun _ => True) (fun _ => .int .i64 0) (fun _ => [diskP b dA, A]) := fun b u A hA => by
    have h := Write_spec b (newD 1000) nR u A lR (.new (by decide) (by decide)) (by decide) (by decide) hA (by decide)
    rw [write_new (by decide) may_nR lR_chk (by rw [lR_size]; decide)] at h
    exact h
  have hw2 : ∀ b u A, Vw A 3 u (lR.map prV) → FSpec Try.prog 60 [.pointer (some ⟨b, 0, none⟩), .string nR, u] [diskP b dA, A] Unit (fun _ => True) (fun _ => .int .i64 9) (fun _ => [diskP b dA, A]) := fun b u A hA => by
    have h := Write_spec b dA nR u A lR dA_ok (by decide) (by decide) hA (by decide)
    rw [show writeR dA nR lR = (dA, 9) from write_again may_nR lR_chk] at h
    exact h
  have hw3 : ∀ b u A, Vw A 3 u (([⟨⟨#[98]⟩, ⟨#[]⟩, true⟩, ⟨⟨#[97]⟩, ⟨#[49]⟩, false⟩] : List Pr).map prV) → FSpec Try.prog 60 [.pointer (some ⟨b, 0, none⟩), .string nS, u] [diskP b dA, A] Unit (fun _ => True) (fun _ => .int .i64 100) (fun _ => [diskP b dA, A]) := fun b u A hA => by
    have h := Write_spec b dA nS u A [⟨⟨#[98]⟩, ⟨#[]⟩, true⟩, ⟨⟨#[97]⟩, ⟨#[49]⟩, false⟩] dA_ok (by decide) (by decide) hA (by decide)
    rw [write_bad (by rw [lR_bad]; decide), lR_bad] at h
    exact h
  have hw4 : ∀ b u A, Vw A 3 u (([pr0] : List Pr).map prV) → FSpec Try.prog 60 [.pointer (some ⟨b, 0, none⟩), .string nS, u] [diskP b dA, A] Unit (fun _ => True) (fun _ => .int .i64 2) (fun _ => [diskP b dA, A]) := fun b u A hA => by
    have h := Write_spec b dA nS u A [pr0] dA_ok (by decide) (by decide) hA (by decide)
    rw [write_bad (by rw [lR_arg]; decide), lR_arg] at h
    exact h
  have hop : ∀ b, FSpec Try.prog 57 [.pointer (some ⟨b, 0, none⟩), .string nR] [diskP b dA] (Nat × { v : Value // v.oneCell' = true }) (fun _ => True) (fun y => .tuple #[.pointer (some ⟨y.1, 0, none⟩), .int .i64 0])
      (fun y => [diskP b dA, rnP y.1 b nR y.2.1 53, enP y.2.1 (ents lR)]) := fun b => by
    have h := rOpen_spec b dA nR lR (by decide) dA_read hok (chkR_0 lR_chk).2
    rw [lR_size] at h
    exact h
  have hsc := scan_good (l := lR) (rise_sorted (chkR_0 lR_chk).2) ⟨#[]⟩ ⟨#[]⟩ 9 (by decide)
  have hsl : scanR lR ⟨#[]⟩ ⟨#[]⟩ 9 = lR := by
    have h : lR.all (withB ⟨#[]⟩ ⟨#[]⟩) = true := by decide +kernel
    unfold scanR
    rw [List.filter_eq_self.2 (fun p hp => List.all_eq_true.1 h p hp)]; rfl
  rw [hsl] at hsc
  have heq := eqP_self (⟨⟨#[98]⟩, ⟨#[]⟩, true⟩ : Pr)
  have hgt : ∀ b rb ve, FSpec Try.prog 55 [.pointer (some ⟨rb, 0, none⟩), .string ⟨#[98]⟩] [rnP rb b nR ve 53, enP ve (ents lR), diskP b dA] Unit (fun _ => True) (fun _ => .tuple #[.agg #[.string ⟨#[98]⟩, .string ⟨#[]⟩, .bool true], .bool true, .int .i64 0]) (fun _ => [rnP rb b nR ve 53, enP ve (ents lR), diskP b dA]) := fun b rb ve =>
    rGet_at rb b nR ve 53 (ents lR) ⟨#[98]⟩ (diskP b dA) 1 ⟨⟨#[98]⟩, ⟨#[]⟩, true⟩ 0 lR_sorted (by decide) (by decide) rfl (reads_good may_nR hok rb b ve 53 (by decide) _ (List.getElem_mem _))
  have hs9 : ∀ b rb ve, FSpec Try.prog 56 [.pointer (some ⟨rb, 0, none⟩), .string ⟨#[]⟩, .string ⟨#[]⟩, .int .i64 9] [rnP rb b nR ve 53, enP ve (ents lR), diskP b dA] { v : Value // v.oneCell' = true } (fun _ => True) (fun y => .tuple #[y.1, .int .i64 0]) (fun y => [rnP rb b nR ve 53, enP ve (ents lR), diskP b dA, row 23 3 y.1 (lR.map prV)]) := fun b rb ve => by
    have h := rScan_spec rb b ⟨#[]⟩ ⟨#[]⟩ nR ve 53 (ents lR) (diskP b dA) rdG 9 (by decide) lR_sorted (by decide) (reads_good may_nR hok rb b ve 53 (by decide))
    rw [show ((9 : Int)) = ((9 : Nat) : Int) from rfl, hsc.1, hsc.2] at h
    exact h
  have x1 : (lR.map prV)[1]? = some [.string ⟨#[98]⟩, .string ⟨#[]⟩, .bool true] := rfl
  have x2 : (lR.map prV)[0]? = some [.string ⟨#[97]⟩, .string ⟨#[49]⟩, .bool false] := rfl
  have l1 : 1 < (lR.map prV).length := by decide
  have l0 : 0 < (lR.map prV).length := by decide
  have hsm := samePr_self lR
  refine spec_intro [] _ Try.func54 rfl Try.ntmps54 (by rfl) (fun w0 R => ?_)
  repeat' (first | (refine go_Z ?_; intros) | (refine gs_Z ?_ ?_ <;> (intro hgd; try (simp only [Bool.not_true, Bool.not_false] at hgd))) | (refine gc_Z ?_ ?_ <;> intro _) | fail)
  refine cl_Z (new_spec 1000 (by decide) (by decide)) ?_
  intro b _
  repeat' (first | (refine go_Z ?_; intros) | (refine gs_Z ?_ ?_ <;> (intro hgd; try (simp only [Bool.not_true, Bool.not_false] at hgd))) | (refine gc_Z ?_ ?_ <;> intro _) | fail)
  rename_i v hv
  refine ops_learn (row_shape (e := 23) (n := 3) (v := v) (xs := lR.map prV) (by decide) takeD) ?_
  rintro ⟨pv, cv, rfl, hcv⟩
  refine ops_learn (VwIn.base (n := 3) (p := pv) (len := (lR.map prV).length) (cap := cv) (xs := lR.map prV) (VwIn.here Vw.row) (by simp [lR])) ?_
  rintro ⟨bv, ov, rfl⟩
  refine cl_Z (hw1 b (.slice (some ⟨bv, ov, none⟩) (lR.map prV).length cv) (row 23 3 (.slice (some ⟨bv, ov, none⟩) (lR.map prV).length cv) (lR.map prV)) Vw.row) ?_
  intro _ _
  repeat' (first | (refine go_Z ?_; intros) | (refine gs_Z ?_ ?_ <;> (intro hgd; try (simp only [Bool.not_true, Bool.not_false] at hgd))) | (refine gc_Z ?_ ?_ <;> intro _) | fail)
  refine cl_Z (hop b) ?_
  rintro ⟨rb, ⟨ve, hve⟩⟩ _
  repeat' (first | (refine go_Z ?_; intros) | (refine gs_Z ?_ ?_ <;> (intro hgd; try (simp only [Bool.not_true, Bool.not_false] at hgd))) | (refine gc_Z ?_ ?_ <;> intro _) | fail)
  refine cl_Z (hgt b rb ve) ?_
  intro _ _
  repeat' (first | (refine go_Z ?_; intros) | (refine gs_Z ?_ ?_ <;> (intro hgd; try (simp only [Bool.not_true, Bool.not_false] at hgd))) | (refine gc_Z ?_ ?_ <;> intro _) | fail)
  refine cl_Z (hs9 b rb ve) ?_
  rintro ⟨vm, hvm⟩ _
  repeat' (first | (refine go_Z ?_; intros) | (refine gs_Z ?_ ?_ <;> (intro hgd; try (simp only [Bool.not_true, Bool.not_false] at hgd))) | (refine gc_Z ?_ ?_ <;> intro _) | fail)
  refine cl_Z (prSame_spec vm (.slice (some ⟨bv, ov, none⟩) (lR.map prV).length cv) (row 23 3 vm (lR.map prV)) (row 23 3 (.slice (some ⟨bv, ov, none⟩) (lR.map prV).length cv) (lR.map prV)) lR lR Vw.row Vw.row (by decide)) ?_
  intro _ _
  repeat' (first | (refine go_Z ?_; intros) | (refine gs_Z ?_ ?_ <;> (intro hgd; try (simp only [Bool.not_true, Bool.not_false] at hgd))) | (refine gc_Z ?_ ?_ <;> intro _) | fail)
  refine cl_Z (hw2 b (.slice (some ⟨bv, ov, none⟩) (lR.map prV).length cv) (row 23 3 (.slice (some ⟨bv, ov, none⟩) (lR.map prV).length cv) (lR.map prV)) Vw.row) ?_
  intro _ _
  repeat' (first | (refine go_Z ?_; intros) | (refine gs_Z ?_ ?_ <;> (intro hgd; try (simp only [Bool.not_true, Bool.not_false] at hgd))) | (refine gc_Z ?_ ?_ <;> intro _) | fail)
  rename_i v3 hv3
  refine cl_Z (hw3 b v3 (row 23 3 v3 (([⟨⟨#[98]⟩, ⟨#[]⟩, true⟩, ⟨⟨#[97]⟩, ⟨#[49]⟩, false⟩] : List Pr).map prV)) Vw.row) ?_
  intro _ _
  repeat' (first | (refine go_Z ?_; intros) | (refine gs_Z ?_ ?_ <;> (intro hgd; try (simp only [Bool.not_true, Bool.not_false] at hgd))) | (refine gc_Z ?_ ?_ <;> intro _) | fail)
  rename_i v4 hv4
  refine cl_Z (hw4 b v4 (row 23 3 v4 (([pr0] : List Pr).map prV)) Vw.row) ?_
  intro _ _
  repeat' (first | (refine go_Z ?_; intros) | (refine gs_Z ?_ ?_ <;> (intro hgd; try (simp only [Bool.not_true, Bool.not_false] at hgd))) | (refine gc_Z ?_ ?_ <;> intro _) | fail)
  refine cl_Z (rLen_spec rb b nR ve 53 (ents lR)) ?_
  intro _ _
  repeat' (first | (refine go_Z ?_; intros) | (refine gs_Z ?_ ?_ <;> (intro hgd; try (simp only [Bool.not_true, Bool.not_false] at hgd))) | (refine gc_Z ?_ ?_ <;> intro _) | fail)
  rw [show decide (((ents lR).length : Int) = 2) = true from by decide]
  (refine rt_Z (y := ()) (hrs := Try.results54) (hv := ?_) (hφ := ?_))
  · rfl
  · trivial

/-! ### What no run answers, and no disk -/
theorem rGet_nil (key : BA) : FSpec Try.prog 55 [.pointer none, .string key] [] Unit (fun _ => True) (fun _ => .tuple #[.agg #[.string ⟨#[]⟩, .string ⟨#[]⟩, .bool false], .bool false, .int .i64 1]) (fun _ => []) := by
  refine spec_intro [] _ Try.func55 rfl Try.ntmps55 (by rfl) (fun w0 R => ?_)
  repeat' (first | (refine go_Z ?_; intros) | (refine gs_Z ?_ ?_ <;> (intro hgd; try (simp only [Bool.not_true, Bool.not_false] at hgd))) | (refine gc_Z ?_ ?_ <;> intro _) | fail)
  (refine rt_Z (y := ()) (hrs := Try.results55) (hv := ?_) (hφ := ?_))
  · rfl
  · trivial
theorem rScan_nil (fr to : BA) (most : Int) : FSpec Try.prog 56 [.pointer none, .string fr, .string to, .int .i64 most] [] Unit (fun _ => True) (fun _ => .tuple #[.slice none 0 0, .int .i64 1]) (fun _ => []) := by
  refine spec_intro [] _ Try.func56 rfl Try.ntmps56 (by rfl) (fun w0 R => ?_)
  repeat' (first | (refine go_Z ?_; intros) | (refine gs_Z ?_ ?_ <;> (intro hgd; try (simp only [Bool.not_true, Bool.not_false] at hgd))) | (refine gc_Z ?_ ?_ <;> intro _) | fail)
  (refine rt_Z (y := ()) (hrs := Try.results56) (hv := ?_) (hφ := ?_))
  · rfl
  · trivial
theorem rOpen_nil (nm : BA) : FSpec Try.prog 57 [.pointer none, .string nm] [] Unit (fun _ => True) (fun _ => .tuple #[.pointer none, .int .i64 1]) (fun _ => []) := by
  refine spec_intro [] _ Try.func57 rfl Try.ntmps57 (by rfl) (fun w0 R => ?_)
  repeat' (first | (refine go_Z ?_; intros) | (refine gs_Z ?_ ?_ <;> (intro hgd; try (simp only [Bool.not_true, Bool.not_false] at hgd))) | (refine gc_Z ?_ ?_ <;> intro _) | fail)
  (refine rt_Z (y := ()) (hrs := Try.results57) (hv := ?_) (hφ := ?_))
  · rfl
  · trivial
theorem rLen_nil : FSpec Try.prog 58 [.pointer none] [] Unit (fun _ => True) (fun _ => .int .i64 0) (fun _ => []) := by
  refine spec_intro [] _ Try.func58 rfl Try.ntmps58 (by rfl) (fun w0 R => ?_)
  repeat' (first | (refine go_Z ?_; intros) | (refine gs_Z ?_ ?_ <;> (intro hgd; try (simp only [Bool.not_true, Bool.not_false] at hgd))) | (refine gc_Z ?_ ?_ <;> intro _) | fail)
  (refine rt_Z (y := ()) (hrs := Try.results58) (hv := ?_) (hφ := ?_))
  · rfl
  · trivial
theorem rSize_nil : FSpec Try.prog 59 [.pointer none] [] Unit (fun _ => True) (fun _ => .int .i64 0) (fun _ => []) := by
  refine spec_intro [] _ Try.func59 rfl Try.ntmps59 (by rfl) (fun w0 R => ?_)
  repeat' (first | (refine go_Z ?_; intros) | (refine gs_Z ?_ ?_ <;> (intro hgd; try (simp only [Bool.not_true, Bool.not_false] at hgd))) | (refine gc_Z ?_ ?_ <;> intro _) | fail)
  (refine rt_Z (y := ()) (hrs := Try.results59) (hv := ?_) (hφ := ?_))
  · rfl
  · trivial
theorem rWrite_nil (nm : BA) (u : Value) : FSpec Try.prog 60 [.pointer none, .string nm, u] [] Unit (fun _ => True) (fun _ => .int .i64 1) (fun _ => []) := by
  refine spec_intro [] _ Try.func60 rfl Try.ntmps60 (by rfl) (fun w0 R => ?_)
  repeat' (first | (refine go_Z ?_; intros) | (refine gs_Z ?_ ?_ <;> (intro hgd; try (simp only [Bool.not_true, Bool.not_false] at hgd))) | (refine gc_Z ?_ ?_ <;> intro _) | fail)
  (refine rt_Z (y := ()) (hrs := Try.results60) (hv := ?_) (hφ := ?_))
  · rfl
  · trivial

theorem RunNil_spec (x : Sr) (B : HProp) (hv : Vw B 3 x.v.1 (x.l.map prV)) (hz : ∀ p ∈ x.l, p.k.size ≤ 140737488355328 ∧ p.v.size ≤ 140737488355328) :
    FSpec Try.prog 9 [.agg (srV x).toArray] [B] Unit (fun _ => True) (fun _ => .bool true) (fun _ => [B]) := by
  have hh : ∀ v A, Vw A 8 v (([x] : List Sr).map srV) → FSpec Try.prog 53 [v] [A, B] Bool (fun _ => True) (fun y => .bool y) (fun _ => [A, B]) := fun v A hA =>
    heavyR_spec v A B [x] hA (fun y hy => by rw [List.mem_singleton] at hy; subst hy; exact ⟨hv, hz⟩)
  obtain ⟨o, fi, l, ⟨v, hvc⟩, key, fr, to, n, m⟩ := x
  dsimp only at hv hz
  have hgb : goodB 8 [[Value.int .i64 o, .string fi, v, .string key, .string fr, .string to, .int .i64 n, .int .i64 m]] = true := by
    simp only [goodB, oneCells, List.all_cons, List.all_nil, hvc, Bool.and_true]; rfl
  dsimp only [srV] at hh ⊢
  have heq : nilB .eql (eqL [.string, .string, .bool] [.string ⟨#[]⟩, .string ⟨#[]⟩, .bool false] [.string ⟨#[]⟩, .string ⟨#[]⟩, .bool false]) = true := eqP_self pr0
  have t0 : decide (((0 : Nat) : Int) = 0) = true := rfl
  refine spec_intro [] _ Try.func9 rfl Try.ntmps9 (by rfl) (fun w0 R => ?_)
  repeat' (first | (refine go_Z ?_; intros) | (refine gs_Z ?_ ?_ <;> (intro hgd; try (simp only [Bool.not_true, Bool.not_false] at hgd))) | (refine gc_Z ?_ ?_ <;> intro _) | fail)
  rename_i b1 v' hv'
  refine cl_Z (hh v' (row 79 8 v' [[.int .i64 o, .string fi, v, .string key, .string fr, .string to, .int .i64 n, .int .i64 m]]) Vw.row) ?_
  intro y _
  cases y with
  | true =>
    repeat' (first | (refine go_Z ?_; intros) | (refine gs_Z ?_ ?_ <;> (intro hgd; try (simp only [Bool.not_true, Bool.not_false] at hgd))) | (refine gc_Z ?_ ?_ <;> intro _) | fail)
    refine cl_Z (alive_run) ?_
    intro _ _
    repeat' (first | (refine go_Z ?_; intros) | (refine gs_Z ?_ ?_ <;> (intro hgd; try (simp only [Bool.not_true, Bool.not_false] at hgd))) | (refine gc_Z ?_ ?_ <;> intro _) | fail)
    (refine rt_Z (y := ()) (hrs := Try.results9) (hv := ?_) (hφ := ?_))
    · rfl
    · trivial
  | false =>
    repeat' (first | (refine go_Z ?_; intros) | (refine gs_Z ?_ ?_ <;> (intro hgd; try (simp only [Bool.not_true, Bool.not_false] at hgd))) | (refine gc_Z ?_ ?_ <;> intro _) | fail)
    refine cl_Z (rGet_nil key) ?_
    intro _ _
    repeat' (first | (refine go_Z ?_; intros) | (refine gs_Z ?_ ?_ <;> (intro hgd; try (simp only [Bool.not_true, Bool.not_false] at hgd))) | (refine gc_Z ?_ ?_ <;> intro _) | fail)
    refine cl_Z (rScan_nil fr to n) ?_
    intro _ _
    repeat' (first | (refine go_Z ?_; intros) | (refine gs_Z ?_ ?_ <;> (intro hgd; try (simp only [Bool.not_true, Bool.not_false] at hgd))) | (refine gc_Z ?_ ?_ <;> intro _) | fail)
    refine cl_Z (rOpen_nil fi) ?_
    intro _ _
    repeat' (first | (refine go_Z ?_; intros) | (refine gs_Z ?_ ?_ <;> (intro hgd; try (simp only [Bool.not_true, Bool.not_false] at hgd))) | (refine gc_Z ?_ ?_ <;> intro _) | fail)
    refine cl_Z (rLen_nil) ?_
    intro _ _
    repeat' (first | (refine go_Z ?_; intros) | (refine gs_Z ?_ ?_ <;> (intro hgd; try (simp only [Bool.not_true, Bool.not_false] at hgd))) | (refine gc_Z ?_ ?_ <;> intro _) | fail)
    refine cl_Z (rSize_nil) ?_
    intro _ _
    repeat' (first | (refine go_Z ?_; intros) | (refine gs_Z ?_ ?_ <;> (intro hgd; try (simp only [Bool.not_true, Bool.not_false] at hgd))) | (refine gc_Z ?_ ?_ <;> intro _) | fail)
    refine cl_Z (rWrite_nil fi v) ?_
    intro _ _
    repeat' (first | (refine go_Z ?_; intros) | (refine gs_Z ?_ ?_ <;> (intro hgd; try (simp only [Bool.not_true, Bool.not_false] at hgd))) | (refine gc_Z ?_ ?_ <;> intro _) | fail)
    refine cl_Z (alive_run) ?_
    intro _ _
    repeat' (first | (refine go_Z ?_; intros) | (refine gs_Z ?_ ?_ <;> (intro hgd; try (simp only [Bool.not_true, Bool.not_false] at hgd))) | (refine gc_Z ?_ ?_ <;> intro _) | fail)
    (refine rt_Z (y := ()) (hrs := Try.results9) (hv := ?_) (hφ := ?_))
    · rfl
    · trivial
end Go.Proofs.Ytgmobpngcilgjaa
