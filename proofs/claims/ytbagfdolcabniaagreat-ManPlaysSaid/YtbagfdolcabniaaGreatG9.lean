/- Texts merged: RfK RfN RfL RfO. -/
import Derived.Test.YtbagfdolcabniaaGreatG8
import Derived.Test.YtbagfdolcabniaaGreatR11A
import Derived.Test.YtbagfdolcabniaaGreatG13
import Derived.Test.YtbagfdolcabniaaGreatG15
import Derived.Test.YtbagfdolcabniaaGreatDkY
/- The document's disk: Read of a whole file. -/
-- @DEFS Y
set_option linter.unusedSimpArgs false
set_option linter.unusedVariables false
set_option maxRecDepth 4000
namespace Go.Proofs.YtbagfdolcabniaaGreat
open Go Go.Fx Go.Proofs Go.Pl

theorem refRead_spec (b n : Nat) (d : Dk) (nm : BA) (hD : Dm n d) (hn : n ≤ 800000) (hnm : nm.size ≤ 1099511627776) :
    FSpec Tryz.prog 43 [.pointer (some ⟨b, 0, none⟩), .string nm, .int .i64 0, .int .i64 16777216] [rkP b d] Unit (fun _ => True) (fun _ => .tuple #[.string (d.read nm 0 16777216).1, .int .i64 (d.read nm 0 16777216).2]) (fun _ => [rkP b d]) := by
  refine fspec_ex ?_
  rintro ⟨⟨vL, vS, vC, P, lL, lS⟩, hy⟩
  have hy' := hy
  obtain ⟨cL, cS, cC, wL, wS, rL, rS⟩ := hy
  dsimp only at cL cS cC wL wS rL rS
  unfold rkL
  dsimp only
  have hlen := len_rel rL hD
  have hN := refName_spec nm (by omega)
  have hF := refFind_spec vL P lL nm wL (by omega)
  have hT := refText_spec vL P lL nm wL (by omega)
  rw [rL.get nm] at hF
  rw [rL.text nm] at hT
  unfold Dk.read Dk.live Dk.has
  cases hs : d.still with
  | true =>
    rw [if_pos (by simp)]
    refine spec_intro [] _ Tryz.func43 rfl Tryz.ntmps43 (by rfl) (fun w0 R => ?_)
    repeat' (first | (refine go_Y ?_; intros) | (refine gs_Y ?_ ?_ <;> (intro hgd; try (simp only [Bool.not_true, Bool.not_false] at hgd))) | (refine gc_Y ?_ ?_ <;> intro _) | fail)
    refine cont_map (fun _ h => rk_in (b := b) (d := d) (y := ⟨vL, vS, vC, P, lL, lS⟩) hy' (by rw [hs]; exact Take.out takeD h)) ?_
    (refine rt_Y (y := ()) (hrs := Tryz.results43) (hv := ?_) (hφ := ?_))
    · rfl
    · trivial
  | false =>
  cases hm : mayN nm with
  | false =>
    rw [hm] at hN
    rw [if_pos (by simp [hm])]
    refine spec_intro [] _ Tryz.func43 rfl Tryz.ntmps43 (by rfl) (fun w0 R => ?_)
    repeat' (first | (refine go_Y ?_; intros) | (refine gs_Y ?_ ?_ <;> (intro hgd; try (simp only [Bool.not_true, Bool.not_false] at hgd))) | (refine gc_Y ?_ ?_ <;> intro _) | fail)
    refine cl_Y (hN) ?_
    intro _ _
    repeat' (first | (refine go_Y ?_; intros) | (refine gs_Y ?_ ?_ <;> (intro hgd; try (simp only [Bool.not_true, Bool.not_false] at hgd))) | (refine gc_Y ?_ ?_ <;> intro _) | fail)
    refine cont_map (fun _ h => rk_in (b := b) (d := d) (y := ⟨vL, vS, vC, P, lL, lS⟩) hy' (by rw [hs]; exact Take.out takeD h)) ?_
    (refine rt_Y (y := ()) (hrs := Tryz.results43) (hv := ?_) (hφ := ?_))
    · simp [hm, retOf]
    · trivial
  | true =>
  rw [hm] at hN
  rw [if_neg (by simp [hm]), if_neg (by decide)]
  cases hi : (fget nm d.files).isSome with
  | false =>
    rw [hi] at hF
    rw [if_pos (by rfl)]
    refine spec_intro [] _ Tryz.func43 rfl Tryz.ntmps43 (by rfl) (fun w0 R => ?_)
    repeat' (first | (refine go_Y ?_; intros) | (refine gs_Y ?_ ?_ <;> (intro hgd; try (simp only [Bool.not_true, Bool.not_false] at hgd))) | (refine gc_Y ?_ ?_ <;> intro _) | fail)
    refine cl_Y (hN) ?_
    intro _ _
    repeat' (first | (refine go_Y ?_; intros) | (refine gs_Y ?_ ?_ <;> (intro hgd; try (simp only [Bool.not_true, Bool.not_false] at hgd))) | (refine gc_Y ?_ ?_ <;> intro _) | fail)
    refine cl_Y (hF) ?_
    intro i _
    repeat' (first | (refine go_Y ?_; intros) | (refine gs_Y ?_ ?_ <;> (intro hgd; try (simp only [Bool.not_true, Bool.not_false] at hgd))) | (refine gc_Y ?_ ?_ <;> intro _) | fail)
    refine cont_map (fun _ h => rk_in (b := b) (d := d) (y := ⟨vL, vS, vC, P, lL, lS⟩) hy' (by rw [hs]; exact Take.out takeD h)) ?_
    (refine rt_Y (y := ()) (hrs := Tryz.results43) (hv := ?_) (hφ := ?_))
    · rfl
    · trivial
  | true =>
    rw [hi] at hF
    rw [if_neg (by simp)]
    unfold cut
    dsimp only
    generalize ftext nm d.files = s at hT
    have h1 : 0 ≤ (if (s.size : Int) < 0 then (s.size : Int) else 0) ∧ (if (s.size : Int) < 0 then (s.size : Int) else 0) ≤ (s.size : Int) := by split <;> omega
    have h2 : 0 ≤ (if ((s.extract (if (s.size : Int) < 0 then (s.size : Int) else 0).toNat s.size).size : Int) < 16777216 then ((s.extract (if (s.size : Int) < 0 then (s.size : Int) else 0).toNat s.size).size : Int) else 16777216) ∧ (if ((s.extract (if (s.size : Int) < 0 then (s.size : Int) else 0).toNat s.size).size : Int) < 16777216 then ((s.extract (if (s.size : Int) < 0 then (s.size : Int) else 0).toNat s.size).size : Int) else 16777216) ≤ ((s.extract (if (s.size : Int) < 0 then (s.size : Int) else 0).toNat s.size).size : Int) := by split <;> omega
    refine spec_intro [] _ Tryz.func43 rfl Tryz.ntmps43 (by rfl) (fun w0 R => ?_)
    repeat' (first | (refine go_Y ?_; intros) | (refine gs_Y ?_ ?_ <;> (intro hgd; try (simp only [Bool.not_true, Bool.not_false] at hgd))) | (refine gc_Y ?_ ?_ <;> intro _) | fail)
    refine cl_Y (hN) ?_
    intro _ _
    repeat' (first | (refine go_Y ?_; intros) | (refine gs_Y ?_ ?_ <;> (intro hgd; try (simp only [Bool.not_true, Bool.not_false] at hgd))) | (refine gc_Y ?_ ?_ <;> intro _) | fail)
    refine cl_Y (hF) ?_
    intro i _
    repeat' (first | (refine go_Y ?_; intros) | (refine gs_Y ?_ ?_ <;> (intro hgd; try (simp only [Bool.not_true, Bool.not_false] at hgd))) | (refine gc_Y ?_ ?_ <;> intro _) | fail)
    refine cl_Y (hT) ?_
    intro _ _
    repeat' (first | (refine go_Y ?_; intros) | (refine gs_Y ?_ ?_ <;> (intro hgd; try (simp only [Bool.not_true, Bool.not_false] at hgd))) | (refine gc_Y ?_ ?_ <;> intro _) | fail)
    refine cont_map (fun _ h => rk_in (b := b) (d := d) (y := ⟨vL, vS, vC, P, lL, lS⟩) hy' (by rw [hs]; exact Take.out takeD h)) ?_
    (refine rt_Y (y := ()) (hrs := Tryz.results43) (hv := ?_) (hφ := ?_))
    · rfl
    · trivial
end Go.Proofs.YtbagfdolcabniaaGreat
/- The document's mans on the document's disk: Save, Load. -/
-- @DEFS Y
set_option linter.unusedSimpArgs false
set_option linter.unusedVariables false
set_option maxRecDepth 4000
namespace Go.Proofs.YtbagfdolcabniaaGreat
open Go Go.Fx Go.Proofs Go.Pl

theorem save_eq (nm s : BA) (d : Dk) : saveD nm s d =
    (if (d.remove (nm ++ dotNew)).2 ≠ 0 ∧ (d.remove (nm ++ dotNew)).2 ≠ 3 then d.remove (nm ++ dotNew) else
     if ((d.remove (nm ++ dotNew)).1.append (nm ++ dotNew) s).2 ≠ 0 then (d.remove (nm ++ dotNew)).1.append (nm ++ dotNew) s else
     if ((d.remove (nm ++ dotNew)).1.append (nm ++ dotNew) s).1.sync.2 ≠ 0 then ((d.remove (nm ++ dotNew)).1.append (nm ++ dotNew) s).1.sync else
     if (((d.remove (nm ++ dotNew)).1.append (nm ++ dotNew) s).1.sync.1.rename (nm ++ dotNew) nm).2 ≠ 0 then ((d.remove (nm ++ dotNew)).1.append (nm ++ dotNew) s).1.sync.1.rename (nm ++ dotNew) nm else
     (((d.remove (nm ++ dotNew)).1.append (nm ++ dotNew) s).1.sync.1.rename (nm ++ dotNew) nm).1.sync) := by
  rw [← save_run, show (5 - 0 : Nat) = 4 + 1 from rfl]
  have s0 := step0 nm s d
  generalize d.remove (nm ++ dotNew) = r1 at s0 ⊢
  obtain ⟨d1, e1⟩ := r1
  dsimp only at s0 ⊢
  by_cases h1 : e1 ≠ 0 ∧ e1 ≠ 3
  · rw [if_pos h1, run_bad (by rw [show (4 - 4 : Nat) = 0 from rfl, s0]; dsimp only; rw [if_neg h1.2]; exact h1.1), show (4 - 4 : Nat) = 0 from rfl, s0, if_neg h1.2]
  · rw [if_neg h1, run_good (by rw [show (4 - 4 : Nat) = 0 from rfl, s0]; dsimp only; split <;> omega), show (4 - 4 : Nat) = 0 from rfl, s0, show (4 : Nat) = 3 + 1 from rfl]
    dsimp only
    clear s0 h1
    have s1 := step1 nm s d1
    generalize d1.append (nm ++ dotNew) s = r2 at s1 ⊢
    obtain ⟨d2, e2⟩ := r2
    dsimp only at s1 ⊢
    by_cases h2 : e2 ≠ 0
    · rw [if_pos h2, run_bad (by rw [show (4 - 3 : Nat) = 1 from rfl, s1]; exact h2), show (4 - 3 : Nat) = 1 from rfl, s1]
    · rw [if_neg h2, run_good (by rw [show (4 - 3 : Nat) = 1 from rfl, s1]; dsimp only; omega), show (4 - 3 : Nat) = 1 from rfl, s1, show (3 : Nat) = 2 + 1 from rfl]
      dsimp only
      clear s1 h2
      have s2 := step2 nm s d2
      generalize d2.sync = r3 at s2 ⊢
      obtain ⟨d3, e3⟩ := r3
      dsimp only at s2 ⊢
      by_cases h3 : e3 ≠ 0
      · rw [if_pos h3, run_bad (by rw [show (4 - 2 : Nat) = 2 from rfl, s2]; exact h3), show (4 - 2 : Nat) = 2 from rfl, s2]
      · rw [if_neg h3, run_good (by rw [show (4 - 2 : Nat) = 2 from rfl, s2]; dsimp only; omega), show (4 - 2 : Nat) = 2 from rfl, s2, show (2 : Nat) = 1 + 1 from rfl]
        dsimp only
        clear s2 h3
        have s3 := step3 nm s d3
        generalize d3.rename (nm ++ dotNew) nm = r4 at s3 ⊢
        obtain ⟨d4, e4⟩ := r4
        dsimp only at s3 ⊢
        by_cases h4 : e4 ≠ 0
        · rw [if_pos h4, run_bad (by rw [show (4 - 1 : Nat) = 3 from rfl, s3]; exact h4), show (4 - 1 : Nat) = 3 from rfl, s3]
        · rw [if_neg h4, run_good (by rw [show (4 - 1 : Nat) = 3 from rfl, s3]; dsimp only; omega), show (4 - 1 : Nat) = 3 from rfl, s3, show (1 : Nat) = 0 + 1 from rfl]
          dsimp only
          clear s3 h4
          have s4 := step4 nm s d4
          generalize d4.sync = r5 at s4 ⊢
          obtain ⟨d5, e5⟩ := r5
          by_cases h5 : e5 ≠ 0
          · rw [run_bad (by rw [show (4 - 0 : Nat) = 4 from rfl, s4]; exact h5), show (4 - 0 : Nat) = 4 from rfl, s4]
          · have h5' : e5 = 0 := by omega
            subst h5'
            rw [run_good (by rw [show (4 - 0 : Nat) = 4 from rfl, s4]), show (4 - 0 : Nat) = 4 from rfl, s4, run_zero]

theorem refSave11_bad (b : Nat) (nm : BA) (m : Mn) (v : Value) (A : HProp) (hA : Vw A 1 v (m.runs.map uV)) (hz : m.runs.length ≤ 1099511627776) (hc : m.chk = false) :
    FSpec Tryz.prog 20 [.pointer (some ⟨b, 0, none⟩), .string nm, .agg (manV m v).toArray] [A] Unit (fun _ => True) (fun _ => .int .i64 2) (fun _ => [A]) := by
  refine spec_intro [] _ Tryz.func20 rfl Tryz.ntmps20 (by rfl) (fun w0 R => ?_)
  repeat' (first | (refine go_Y ?_; intros) | (refine gs_Y ?_ ?_ <;> (intro hgd; try (simp only [Bool.not_true, Bool.not_false] at hgd))) | (refine gc_Y ?_ ?_ <;> intro _) | fail)
  refine cl_Y (refPut11_bad m v A hA hz hc) ?_
  intro _ _
  repeat' (first | (refine go_Y ?_; intros) | (refine gs_Y ?_ ?_ <;> (intro hgd; try (simp only [Bool.not_true, Bool.not_false] at hgd))) | (refine gc_Y ?_ ?_ <;> intro _) | fail)
  (refine rt_Y (y := ()) (hrs := Tryz.results20) (hv := ?_) (hφ := ?_))
  · rfl
  · trivial

set_option maxHeartbeats 4000000 in
theorem refSave11_spec (b n : Nat) (d : Dk) (nm : BA) (m : Mn) (v : Value) (A : HProp) (hD : Dn n d) (hn : n + 10 ≤ 800000) (hnm : nm.size ≤ 549755813888) (hA : Vw A 1 v (m.runs.map uV)) (hz : m.runs.length ≤ 1099511627776) (hc : m.chk = true) (hw : m.wf) :
    FSpec Tryz.prog 20 [.pointer (some ⟨b, 0, none⟩), .string nm, .agg (manV m v).toArray] [rkP b d, A] Unit (fun _ => True) (fun _ => .int .i64 (saveD nm (mBytes m) d).2) (fun _ => [rkP b (saveD nm (mBytes m) d).1, A]) := by
  have hsz : (mBytes m).size ≤ 549755813888 := by
    have hh := Mn.chk_head hc
    simp only [Mn.head, Bool.or_eq_false_iff, decide_eq_false_iff_not] at hh
    unfold mBytes mBody
    rw [frameOf_size, put8s_size]
    simp [mNums]; omega
  have hP := refPut11_spec m v A hA hz hc hw
  rw [save_eq]
  generalize mBytes m = s at hsz hP ⊢
  have hz9 : (nm ++ dotNew).size ≤ 549755813892 := by rw [ByteArray.size_append]; show nm.size + 4 ≤ _; omega
  have hd4 : ByteArray.size ⟨#[46, 110, 101, 119]⟩ = 4 := rfl
  have h1 := refRem_spec b n d (nm ++ dotNew) hD.dm (by omega) (by omega)
  have D1 := hD.remove (nm := nm ++ dotNew)
  generalize d.remove (nm ++ dotNew) = r1 at h1 D1 ⊢
  obtain ⟨d1, e1⟩ := r1
  dsimp only at h1 D1 ⊢
  have h2 := refApp_spec b (n + 1) d1 (nm ++ dotNew) s D1.dm (by omega) (by omega) (by omega)
  have D2 := D1.append (nm := nm ++ dotNew) (s := s) hsz
  generalize d1.append (nm ++ dotNew) s = r2 at h2 D2 ⊢
  obtain ⟨d2, e2⟩ := r2
  dsimp only at h2 D2 ⊢
  have h3 := refSync_spec b d2 D2.ok
  have D3 := D2.sync
  generalize d2.sync = r3 at h3 D3 ⊢
  obtain ⟨d3, e3⟩ := r3
  dsimp only at h3 D3 ⊢
  have h4 := refRen_spec b (n + 1 + 1) d3 (nm ++ dotNew) nm D3.dm (by omega) (by omega) (by omega) (ne_new nm)
  have D4 := D3.rename (a := nm ++ dotNew) (b := nm) (ne_new nm)
  generalize d3.rename (nm ++ dotNew) nm = r4 at h4 D4 ⊢
  obtain ⟨d4, e4⟩ := r4
  dsimp only at h4 D4 ⊢
  have h5 := refSync_spec b d4 D4.ok
  generalize d4.sync = r5 at h5 ⊢
  obtain ⟨d5, e5⟩ := r5
  dsimp only [callV] at h1 h2 h3 h4 h5 ⊢
  rw [show (nm ++ dotNew) = (nm ++ ⟨#[46, 110, 101, 119]⟩ : BA) from rfl] at h1 h2 h4
  clear D1 D2 D3 D4 hD
  cases u1 : (!decide (e1 = 0)) with
  | true =>
    have v1 : e1 ≠ 0 := by simpa using u1
    cases u1' : (!decide (e1 = 3)) with
    | true =>
      have v1' : e1 ≠ 3 := by simpa using u1'
      rw [if_pos ⟨v1, v1'⟩]
      refine spec_intro [] _ Tryz.func20 rfl Tryz.ntmps20 (by rfl) (fun w0 R => ?_)
      repeat' (first | (refine go_Y ?_; intros) | (refine gs_Y ?_ ?_ <;> (intro hgd; try (simp only [Bool.not_true, Bool.not_false] at hgd))) | (refine gc_Y ?_ ?_ <;> intro _) | fail)
      refine cl_Y (hP) ?_
      intro _ _
      repeat' (first | (refine go_Y ?_; intros) | (refine gs_Y ?_ ?_ <;> (intro hgd; try (simp only [Bool.not_true, Bool.not_false] at hgd))) | (refine gc_Y ?_ ?_ <;> intro _) | fail)
      refine cl_Y (h1) ?_
      intro _ _
      repeat' (first | (refine go_Y ?_; intros) | (refine gs_Y ?_ ?_ <;> (intro hgd; try (simp only [Bool.not_true, Bool.not_false] at hgd))) | (refine gc_Y ?_ ?_ <;> intro _) | fail)
      (refine rt_Y (y := ()) (hrs := Tryz.results20) (hv := ?_) (hφ := ?_))
      · rfl
      · trivial
    | false =>
      have v1' : e1 = 3 := by simpa using u1'
      rw [if_neg (fun h => h.2 v1')]
      cases u2 : (!decide (e2 = 0)) with
      | true =>
        rw [if_pos (show e2 ≠ 0 by simpa using u2)]
        refine spec_intro [] _ Tryz.func20 rfl Tryz.ntmps20 (by rfl) (fun w0 R => ?_)
        repeat' (first | (refine go_Y ?_; intros) | (refine gs_Y ?_ ?_ <;> (intro hgd; try (simp only [Bool.not_true, Bool.not_false] at hgd))) | (refine gc_Y ?_ ?_ <;> intro _) | fail)
        refine cl_Y (hP) ?_
        intro _ _
        repeat' (first | (refine go_Y ?_; intros) | (refine gs_Y ?_ ?_ <;> (intro hgd; try (simp only [Bool.not_true, Bool.not_false] at hgd))) | (refine gc_Y ?_ ?_ <;> intro _) | fail)
        refine cl_Y (h1) ?_
        intro _ _
        repeat' (first | (refine go_Y ?_; intros) | (refine gs_Y ?_ ?_ <;> (intro hgd; try (simp only [Bool.not_true, Bool.not_false] at hgd))) | (refine gc_Y ?_ ?_ <;> intro _) | fail)
        refine cl_Y (h2) ?_
        intro _ _
        repeat' (first | (refine go_Y ?_; intros) | (refine gs_Y ?_ ?_ <;> (intro hgd; try (simp only [Bool.not_true, Bool.not_false] at hgd))) | (refine gc_Y ?_ ?_ <;> intro _) | fail)
        (refine rt_Y (y := ()) (hrs := Tryz.results20) (hv := ?_) (hφ := ?_))
        · rfl
        · trivial
      | false =>
        rw [if_neg (show ¬ e2 ≠ 0 by simpa using u2)]
        cases u3 : (!decide (e3 = 0)) with
        | true =>
          rw [if_pos (show e3 ≠ 0 by simpa using u3)]
          refine spec_intro [] _ Tryz.func20 rfl Tryz.ntmps20 (by rfl) (fun w0 R => ?_)
          repeat' (first | (refine go_Y ?_; intros) | (refine gs_Y ?_ ?_ <;> (intro hgd; try (simp only [Bool.not_true, Bool.not_false] at hgd))) | (refine gc_Y ?_ ?_ <;> intro _) | fail)
          refine cl_Y (hP) ?_
          intro _ _
          repeat' (first | (refine go_Y ?_; intros) | (refine gs_Y ?_ ?_ <;> (intro hgd; try (simp only [Bool.not_true, Bool.not_false] at hgd))) | (refine gc_Y ?_ ?_ <;> intro _) | fail)
          refine cl_Y (h1) ?_
          intro _ _
          repeat' (first | (refine go_Y ?_; intros) | (refine gs_Y ?_ ?_ <;> (intro hgd; try (simp only [Bool.not_true, Bool.not_false] at hgd))) | (refine gc_Y ?_ ?_ <;> intro _) | fail)
          refine cl_Y (h2) ?_
          intro _ _
          repeat' (first | (refine go_Y ?_; intros) | (refine gs_Y ?_ ?_ <;> (intro hgd; try (simp only [Bool.not_true, Bool.not_false] at hgd))) | (refine gc_Y ?_ ?_ <;> intro _) | fail)
          refine cl_Y (h3) ?_
          intro _ _
          repeat' (first | (refine go_Y ?_; intros) | (refine gs_Y ?_ ?_ <;> (intro hgd; try (simp only [Bool.not_true, Bool.not_false] at hgd))) | (refine gc_Y ?_ ?_ <;> intro _) | fail)
          (refine rt_Y (y := ()) (hrs := Tryz.results20) (hv := ?_) (hφ := ?_))
          · rfl
          · trivial
        | false =>
          rw [if_neg (show ¬ e3 ≠ 0 by simpa using u3)]
          cases u4 : (!decide (e4 = 0)) with
          | true =>
            rw [if_pos (show e4 ≠ 0 by simpa using u4)]
            refine spec_intro [] _ Tryz.func20 rfl Tryz.ntmps20 (by rfl) (fun w0 R => ?_)
            repeat' (first | (refine go_Y ?_; intros) | (refine gs_Y ?_ ?_ <;> (intro hgd; try (simp only [Bool.not_true, Bool.not_false] at hgd))) | (refine gc_Y ?_ ?_ <;> intro _) | fail)
            refine cl_Y (hP) ?_
            intro _ _
            repeat' (first | (refine go_Y ?_; intros) | (refine gs_Y ?_ ?_ <;> (intro hgd; try (simp only [Bool.not_true, Bool.not_false] at hgd))) | (refine gc_Y ?_ ?_ <;> intro _) | fail)
            refine cl_Y (h1) ?_
            intro _ _
            repeat' (first | (refine go_Y ?_; intros) | (refine gs_Y ?_ ?_ <;> (intro hgd; try (simp only [Bool.not_true, Bool.not_false] at hgd))) | (refine gc_Y ?_ ?_ <;> intro _) | fail)
            refine cl_Y (h2) ?_
            intro _ _
            repeat' (first | (refine go_Y ?_; intros) | (refine gs_Y ?_ ?_ <;> (intro hgd; try (simp only [Bool.not_true, Bool.not_false] at hgd))) | (refine gc_Y ?_ ?_ <;> intro _) | fail)
            refine cl_Y (h3) ?_
            intro _ _
            repeat' (first | (refine go_Y ?_; intros) | (refine gs_Y ?_ ?_ <;> (intro hgd; try (simp only [Bool.not_true, Bool.not_false] at hgd))) | (refine gc_Y ?_ ?_ <;> intro _) | fail)
            refine cl_Y (h4) ?_
            intro _ _
            repeat' (first | (refine go_Y ?_; intros) | (refine gs_Y ?_ ?_ <;> (intro hgd; try (simp only [Bool.not_true, Bool.not_false] at hgd))) | (refine gc_Y ?_ ?_ <;> intro _) | fail)
            (refine rt_Y (y := ()) (hrs := Tryz.results20) (hv := ?_) (hφ := ?_))
            · rfl
            · trivial
          | false =>
            rw [if_neg (show ¬ e4 ≠ 0 by simpa using u4)]
            refine spec_intro [] _ Tryz.func20 rfl Tryz.ntmps20 (by rfl) (fun w0 R => ?_)
            repeat' (first | (refine go_Y ?_; intros) | (refine gs_Y ?_ ?_ <;> (intro hgd; try (simp only [Bool.not_true, Bool.not_false] at hgd))) | (refine gc_Y ?_ ?_ <;> intro _) | fail)
            refine cl_Y (hP) ?_
            intro _ _
            repeat' (first | (refine go_Y ?_; intros) | (refine gs_Y ?_ ?_ <;> (intro hgd; try (simp only [Bool.not_true, Bool.not_false] at hgd))) | (refine gc_Y ?_ ?_ <;> intro _) | fail)
            refine cl_Y (h1) ?_
            intro _ _
            repeat' (first | (refine go_Y ?_; intros) | (refine gs_Y ?_ ?_ <;> (intro hgd; try (simp only [Bool.not_true, Bool.not_false] at hgd))) | (refine gc_Y ?_ ?_ <;> intro _) | fail)
            refine cl_Y (h2) ?_
            intro _ _
            repeat' (first | (refine go_Y ?_; intros) | (refine gs_Y ?_ ?_ <;> (intro hgd; try (simp only [Bool.not_true, Bool.not_false] at hgd))) | (refine gc_Y ?_ ?_ <;> intro _) | fail)
            refine cl_Y (h3) ?_
            intro _ _
            repeat' (first | (refine go_Y ?_; intros) | (refine gs_Y ?_ ?_ <;> (intro hgd; try (simp only [Bool.not_true, Bool.not_false] at hgd))) | (refine gc_Y ?_ ?_ <;> intro _) | fail)
            refine cl_Y (h4) ?_
            intro _ _
            repeat' (first | (refine go_Y ?_; intros) | (refine gs_Y ?_ ?_ <;> (intro hgd; try (simp only [Bool.not_true, Bool.not_false] at hgd))) | (refine gc_Y ?_ ?_ <;> intro _) | fail)
            refine cl_Y (h5) ?_
            intro _ _
            repeat' (first | (refine go_Y ?_; intros) | (refine gs_Y ?_ ?_ <;> (intro hgd; try (simp only [Bool.not_true, Bool.not_false] at hgd))) | (refine gc_Y ?_ ?_ <;> intro _) | fail)
            (refine rt_Y (y := ()) (hrs := Tryz.results20) (hv := ?_) (hφ := ?_))
            · rfl
            · trivial
  | false =>
    rw [if_neg (fun h => h.1 (show e1 = 0 by simpa using u1))]
    cases u2 : (!decide (e2 = 0)) with
    | true =>
      rw [if_pos (show e2 ≠ 0 by simpa using u2)]
      refine spec_intro [] _ Tryz.func20 rfl Tryz.ntmps20 (by rfl) (fun w0 R => ?_)
      repeat' (first | (refine go_Y ?_; intros) | (refine gs_Y ?_ ?_ <;> (intro hgd; try (simp only [Bool.not_true, Bool.not_false] at hgd))) | (refine gc_Y ?_ ?_ <;> intro _) | fail)
      refine cl_Y (hP) ?_
      intro _ _
      repeat' (first | (refine go_Y ?_; intros) | (refine gs_Y ?_ ?_ <;> (intro hgd; try (simp only [Bool.not_true, Bool.not_false] at hgd))) | (refine gc_Y ?_ ?_ <;> intro _) | fail)
      refine cl_Y (h1) ?_
      intro _ _
      repeat' (first | (refine go_Y ?_; intros) | (refine gs_Y ?_ ?_ <;> (intro hgd; try (simp only [Bool.not_true, Bool.not_false] at hgd))) | (refine gc_Y ?_ ?_ <;> intro _) | fail)
      refine cl_Y (h2) ?_
      intro _ _
      repeat' (first | (refine go_Y ?_; intros) | (refine gs_Y ?_ ?_ <;> (intro hgd; try (simp only [Bool.not_true, Bool.not_false] at hgd))) | (refine gc_Y ?_ ?_ <;> intro _) | fail)
      (refine rt_Y (y := ()) (hrs := Tryz.results20) (hv := ?_) (hφ := ?_))
      · rfl
      · trivial
    | false =>
      rw [if_neg (show ¬ e2 ≠ 0 by simpa using u2)]
      cases u3 : (!decide (e3 = 0)) with
      | true =>
        rw [if_pos (show e3 ≠ 0 by simpa using u3)]
        refine spec_intro [] _ Tryz.func20 rfl Tryz.ntmps20 (by rfl) (fun w0 R => ?_)
        repeat' (first | (refine go_Y ?_; intros) | (refine gs_Y ?_ ?_ <;> (intro hgd; try (simp only [Bool.not_true, Bool.not_false] at hgd))) | (refine gc_Y ?_ ?_ <;> intro _) | fail)
        refine cl_Y (hP) ?_
        intro _ _
        repeat' (first | (refine go_Y ?_; intros) | (refine gs_Y ?_ ?_ <;> (intro hgd; try (simp only [Bool.not_true, Bool.not_false] at hgd))) | (refine gc_Y ?_ ?_ <;> intro _) | fail)
        refine cl_Y (h1) ?_
        intro _ _
        repeat' (first | (refine go_Y ?_; intros) | (refine gs_Y ?_ ?_ <;> (intro hgd; try (simp only [Bool.not_true, Bool.not_false] at hgd))) | (refine gc_Y ?_ ?_ <;> intro _) | fail)
        refine cl_Y (h2) ?_
        intro _ _
        repeat' (first | (refine go_Y ?_; intros) | (refine gs_Y ?_ ?_ <;> (intro hgd; try (simp only [Bool.not_true, Bool.not_false] at hgd))) | (refine gc_Y ?_ ?_ <;> intro _) | fail)
        refine cl_Y (h3) ?_
        intro _ _
        repeat' (first | (refine go_Y ?_; intros) | (refine gs_Y ?_ ?_ <;> (intro hgd; try (simp only [Bool.not_true, Bool.not_false] at hgd))) | (refine gc_Y ?_ ?_ <;> intro _) | fail)
        (refine rt_Y (y := ()) (hrs := Tryz.results20) (hv := ?_) (hφ := ?_))
        · rfl
        · trivial
      | false =>
        rw [if_neg (show ¬ e3 ≠ 0 by simpa using u3)]
        cases u4 : (!decide (e4 = 0)) with
        | true =>
          rw [if_pos (show e4 ≠ 0 by simpa using u4)]
          refine spec_intro [] _ Tryz.func20 rfl Tryz.ntmps20 (by rfl) (fun w0 R => ?_)
          repeat' (first | (refine go_Y ?_; intros) | (refine gs_Y ?_ ?_ <;> (intro hgd; try (simp only [Bool.not_true, Bool.not_false] at hgd))) | (refine gc_Y ?_ ?_ <;> intro _) | fail)
          refine cl_Y (hP) ?_
          intro _ _
          repeat' (first | (refine go_Y ?_; intros) | (refine gs_Y ?_ ?_ <;> (intro hgd; try (simp only [Bool.not_true, Bool.not_false] at hgd))) | (refine gc_Y ?_ ?_ <;> intro _) | fail)
          refine cl_Y (h1) ?_
          intro _ _
          repeat' (first | (refine go_Y ?_; intros) | (refine gs_Y ?_ ?_ <;> (intro hgd; try (simp only [Bool.not_true, Bool.not_false] at hgd))) | (refine gc_Y ?_ ?_ <;> intro _) | fail)
          refine cl_Y (h2) ?_
          intro _ _
          repeat' (first | (refine go_Y ?_; intros) | (refine gs_Y ?_ ?_ <;> (intro hgd; try (simp only [Bool.not_true, Bool.not_false] at hgd))) | (refine gc_Y ?_ ?_ <;> intro _) | fail)
          refine cl_Y (h3) ?_
          intro _ _
          repeat' (first | (refine go_Y ?_; intros) | (refine gs_Y ?_ ?_ <;> (intro hgd; try (simp only [Bool.not_true, Bool.not_false] at hgd))) | (refine gc_Y ?_ ?_ <;> intro _) | fail)
          refine cl_Y (h4) ?_
          intro _ _
          repeat' (first | (refine go_Y ?_; intros) | (refine gs_Y ?_ ?_ <;> (intro hgd; try (simp only [Bool.not_true, Bool.not_false] at hgd))) | (refine gc_Y ?_ ?_ <;> intro _) | fail)
          (refine rt_Y (y := ()) (hrs := Tryz.results20) (hv := ?_) (hφ := ?_))
          · rfl
          · trivial
        | false =>
          rw [if_neg (show ¬ e4 ≠ 0 by simpa using u4)]
          refine spec_intro [] _ Tryz.func20 rfl Tryz.ntmps20 (by rfl) (fun w0 R => ?_)
          repeat' (first | (refine go_Y ?_; intros) | (refine gs_Y ?_ ?_ <;> (intro hgd; try (simp only [Bool.not_true, Bool.not_false] at hgd))) | (refine gc_Y ?_ ?_ <;> intro _) | fail)
          refine cl_Y (hP) ?_
          intro _ _
          repeat' (first | (refine go_Y ?_; intros) | (refine gs_Y ?_ ?_ <;> (intro hgd; try (simp only [Bool.not_true, Bool.not_false] at hgd))) | (refine gc_Y ?_ ?_ <;> intro _) | fail)
          refine cl_Y (h1) ?_
          intro _ _
          repeat' (first | (refine go_Y ?_; intros) | (refine gs_Y ?_ ?_ <;> (intro hgd; try (simp only [Bool.not_true, Bool.not_false] at hgd))) | (refine gc_Y ?_ ?_ <;> intro _) | fail)
          refine cl_Y (h2) ?_
          intro _ _
          repeat' (first | (refine go_Y ?_; intros) | (refine gs_Y ?_ ?_ <;> (intro hgd; try (simp only [Bool.not_true, Bool.not_false] at hgd))) | (refine gc_Y ?_ ?_ <;> intro _) | fail)
          refine cl_Y (h3) ?_
          intro _ _
          repeat' (first | (refine go_Y ?_; intros) | (refine gs_Y ?_ ?_ <;> (intro hgd; try (simp only [Bool.not_true, Bool.not_false] at hgd))) | (refine gc_Y ?_ ?_ <;> intro _) | fail)
          refine cl_Y (h4) ?_
          intro _ _
          repeat' (first | (refine go_Y ?_; intros) | (refine gs_Y ?_ ?_ <;> (intro hgd; try (simp only [Bool.not_true, Bool.not_false] at hgd))) | (refine gc_Y ?_ ?_ <;> intro _) | fail)
          refine cl_Y (h5) ?_
          intro _ _
          repeat' (first | (refine go_Y ?_; intros) | (refine gs_Y ?_ ?_ <;> (intro hgd; try (simp only [Bool.not_true, Bool.not_false] at hgd))) | (refine gc_Y ?_ ?_ <;> intro _) | fail)
          (refine rt_Y (y := ()) (hrs := Tryz.results20) (hv := ?_) (hφ := ?_))
          · rfl
          · trivial

theorem cut_size (s : BA) (off n : Int) (hn : 0 ≤ n) : ((cut s off n).size : Int) ≤ n := by
  unfold cut
  dsimp only
  generalize s.extract (if (s.size : Int) < off then (s.size : Int) else off).toNat s.size = u
  rw [ByteArray.size_extract]
  split <;> omega
theorem read_size (d : Dk) (nm : BA) (n : Int) (hn : 0 ≤ n) : ((d.read nm 0 n).1.size : Int) ≤ n := by
  unfold Dk.read
  split
  · exact hn
  · split
    · exact hn
    · split
      · exact hn
      · exact cut_size _ _ _ hn

theorem refLoad11_spec (b n : Nat) (d : Dk) (nm : BA) (hD : Dm n d) (hn : n ≤ 800000) (hnm : nm.size ≤ 1099511627776) :
    FSpec Tryz.prog 21 [.pointer (some ⟨b, 0, none⟩), .string nm] [rkP b d] ({ v : Value // v.oneCell' = true } × HProp) (fun y => Vw y.2 1 y.1.1 ((loadD nm d).1.runs.map uV)) (fun y => .tuple #[.agg (manV (loadD nm d).1 y.1.1).toArray, .int .i64 (loadD nm d).2]) (fun y => [y.2, rkP b d]) := by
  have hr := refRead_spec b n d nm hD hn hnm
  have hz := read_size d nm 16777216 (by decide)
  unfold loadD
  generalize d.read nm 0 16777216 = rd at hr hz
  obtain ⟨s, e⟩ := rd
  dsimp only at hr hz ⊢
  cases u1 : (!decide (e = 0)) with
  | true =>
    rw [if_pos (by simpa using u1)]
    refine spec_intro [] _ Tryz.func21 rfl Tryz.ntmps21 (by rfl) (fun w0 R => ?_)
    repeat' (first | (refine go_Y ?_; intros) | (refine gs_Y ?_ ?_ <;> (intro hgd; try (simp only [Bool.not_true, Bool.not_false] at hgd))) | (refine gc_Y ?_ ?_ <;> intro _) | fail)
    refine cl_Y (hr) ?_
    intro _ _
    repeat' (first | (refine go_Y ?_; intros) | (refine gs_Y ?_ ?_ <;> (intro hgd; try (simp only [Bool.not_true, Bool.not_false] at hgd))) | (refine gc_Y ?_ ?_ <;> intro _) | fail)
    refine cont_map (fun _ h => rowNil (e := 33) (n := 1) h) ?_
    (refine rt_Y (y := (⟨.slice none 0 0, rfl⟩, row 33 1 (.slice none 0 0) [])) (hrs := Tryz.results21) (hv := ?_) (hφ := ?_))
    · rfl
    · exact Vw.row
  | false =>
    rw [if_neg (by simpa using u1)]
    have hg := refGet11_spec s (by omega)
    generalize getM s = g at hg
    obtain ⟨m, e2⟩ := g
    dsimp only at hg ⊢
    refine spec_intro [] _ Tryz.func21 rfl Tryz.ntmps21 (by rfl) (fun w0 R => ?_)
    repeat' (first | (refine go_Y ?_; intros) | (refine gs_Y ?_ ?_ <;> (intro hgd; try (simp only [Bool.not_true, Bool.not_false] at hgd))) | (refine gc_Y ?_ ?_ <;> intro _) | fail)
    refine cl_Y (hr) ?_
    intro _ _
    repeat' (first | (refine go_Y ?_; intros) | (refine gs_Y ?_ ?_ <;> (intro hgd; try (simp only [Bool.not_true, Bool.not_false] at hgd))) | (refine gc_Y ?_ ?_ <;> intro _) | fail)
    refine cl_Y (hg) ?_
    rintro ⟨⟨v, hv⟩, B⟩ hB
    repeat' (first | (refine go_Y ?_; intros) | (refine gs_Y ?_ ?_ <;> (intro hgd; try (simp only [Bool.not_true, Bool.not_false] at hgd))) | (refine gc_Y ?_ ?_ <;> intro _) | fail)
    (refine rt_Y (y := (⟨v, hv⟩, B)) (hrs := Tryz.results21) (hv := ?_) (hφ := ?_))
    · rfl
    · exact hB
end Go.Proofs.YtbagfdolcabniaaGreat
/- The document's disk: Crash. -/
-- @DEFS Y
set_option linter.unusedSimpArgs false
set_option linter.unusedVariables false
set_option maxRecDepth 4000
namespace Go.Proofs.YtbagfdolcabniaaGreat
open Go Go.Fx Go.Proofs Go.Pl

theorem clG_at {n : Nat} {d : Dk} (hD : Dm n d) {j : Nat} {c : Cl} (hj : d.loose[j]? = some c) {l : FS} (h : RelF (play d.sure (d.loose.take j)) l) : clG l c ∧ okR c := by
  have h1 := okSeq_at j hD.ok.seq hj
  have h2 := hD.tr c (List.mem_of_getElem? hj)
  refine ⟨?_, h2.1⟩
  cases c with
  | app nm s =>
    show (ftext nm l).size + s.size ≤ 1099511627776
    rw [h.text]
    exact h1
  | trunc a k => exact absurd rfl (h2.2 a k)
  | ren a b => trivial
  | rem a => trivial
theorem play_len : ∀ (cs : List Cl) (l : FS), (play l cs).length ≤ l.length + cs.length
  | [], l => by simp [play]
  | c :: cs, l => by
    have h := play_len cs (c.run l)
    have h1 : (c.run l).length ≤ l.length + 1 := by
      cases c with
      | app n s => exact fput_len _ _ _
      | trunc n k => exact fput_len _ _ _
      | ren a b =>
        have h1 := fdel_len a (fput b (ftext a l) l)
        have h2 := fput_len b (ftext a l) l
        show (fdel a (fput b (ftext a l) l)).length ≤ _
        omega
      | rem a =>
        have h1 := fdel_len a l
        show (fdel a l).length ≤ _
        omega
    show (play (c.run l) cs).length ≤ _
    simp only [List.length_cons]; omega

set_option maxHeartbeats 4000000 in
theorem refCrash_spec (b n : Nat) (d : Dk) (keep torn : Int) (hD : Dm n d) (hn : n ≤ 400000) :
    FSpec Tryz.prog 23 [.pointer (some ⟨b, 0, none⟩), .int .i64 keep, .int .i64 torn] [rkP b d] Unit (fun _ => True) (fun _ => .tuple #[]) (fun _ => [rkP b (d.crash keep torn)]) := by
  refine fspec_ex ?_
  rintro ⟨⟨vL, vS, vC, P, lL, lS⟩, hy⟩
  obtain ⟨cL, cS, cC, wL, wS, rL, rS⟩ := hy
  dsimp only at cL cS cC wL wS rL rS
  unfold rkL
  dsimp only
  have hlm : (d.loose.map callV).length = d.loose.length := by simp
  obtain ⟨hk, hkI⟩ := kept_le d keep
  rw [keptI_eq, ← hlm] at hkI
  unfold Dk.crash
  generalize d.kept keep = k at hk hkI ⊢
  have hsl := hD.scnt
  have hll := hD.lcnt
  have hnd : ∀ j, ((play d.sure (d.loose.take j)).map (·.1)).Nodup := fun j => play_nodup _ hD.ok.nds
  refine spec_intro [] _ Tryz.func23 rfl Tryz.ntmps23 (by rfl) (fun w0 R => ?_)
  refine ok_learn (VwIn.slice (n := 4) (v := vC) (xs := d.loose.map callV) (VwIn.there (VwIn.there (VwIn.here Vw.row)))) ?_
  rintro ⟨pu, cu, rfl⟩
  repeat' (first | (refine go_Y ?_; intros) | (refine gs_Y ?_ ?_ <;> (intro hgd; try (simp only [Bool.not_true, Bool.not_false] at hgd))) | (refine gc_Y ?_ ?_ <;> intro _) | fail)
  refine ok_map (L' := [P, rdC b vL vS (.slice pu (d.loose.map callV).length cu) d.room d.fuse d.still, row 65 4 (.slice pu (d.loose.map callV).length cu) (d.loose.map callV)] ++ R) entD ?_
  refine ok_loop' (γ := Nat × { v : Value // v.oneCell' = true } × HProp × FS) (fun g ρ L => g.1 ≤ k ∧ Vw g.2.2.1 2 g.2.1.1 (g.2.2.2.map fileV) ∧ RelF (play d.sure (d.loose.take g.1)) g.2.2.2 ∧ Knows ρ [(0, .pointer (some ⟨b, 0, none⟩)), (2, .int .i64 torn), (6, .int .i64 k), (7, g.2.1.1), (8, .int .i64 g.1)] ∧
    L = [g.2.2.1, rdC b vL vS (.slice pu (d.loose.map callV).length cu) d.room d.fuse d.still, row 65 4 (.slice pu (d.loose.map callV).length cu) (d.loose.map callV)] ++ R) (fun g => k - g.1) (0, ⟨vS, cS⟩, P, lS) ⟨by omega, wS, rS, ⟨rfl, rfl, congrArg (Value.int .i64) hkI, rfl, rfl, trivial⟩, rfl⟩ ?_
  rintro ⟨j, ⟨v, hv⟩, A, l⟩ ρ L ⟨hj, hvw, hrel, hkn, rfl⟩
  dsimp only at hj hvw hrel hkn ⊢
  refine ok_regs hkn ?_
  have hlen : l.length ≤ 800000 := by
    have h1 := (hrel.perm (hnd j)).length_eq
    have h2 := play_len (d.loose.take j) d.sure
    have h3 : (d.loose.take j).length ≤ d.loose.length := by simp; omega
    omega
  cases t1 : decide ((j : Int) < (k : Int)) with
  | true =>
    have hjk : j < k := by simpa using t1
    have hjl : j < d.loose.length := by omega
    have hc : d.loose[j]? = some d.loose[j] := List.getElem?_eq_getElem hjl
    have hx : (d.loose.map callV)[j]? = some (callV d.loose[j]) := by rw [List.getElem?_map, hc]; rfl
    have hn1 : j < (d.loose.map callV).length := by omega
    have hpl := play_take_succ (l := d.sure) hc
    have hg := clG_at hD hc hrel
    generalize d.loose[j] = c at hc hpl hx hg
    have hdn := refDone_spec v A l c hvw (by omega) hrel.srt hg.1
    have hrd := hrel.done (hnd j) hg.2
    rw [← hpl] at hrd
    obtain ⟨e0, e1, e2, e3, ecv⟩ : ∃ e0 e1 e2 e3, callV c = [e0, e1, e2, e3] := by cases c <;> exact ⟨_, _, _, _, rfl⟩
    rw [ecv] at hx hdn
    refine ok_learn (VwIn.base (n := 4) (p := pu) (len := (d.loose.map callV).length) (cap := cu) (xs := d.loose.map callV) (VwIn.there (VwIn.there (VwIn.here Vw.row))) (by intro h; rw [h] at hx; simp at hx)) ?_
    rintro ⟨bu, ou, rfl⟩
    repeat' (first | (refine go_Y ?_; intros) | (refine gs_Y ?_ ?_ <;> (intro hgd; try (simp only [Bool.not_true, Bool.not_false] at hgd))) | (refine gc_Y ?_ ?_ <;> intro _) | fail)
    refine cl_Y (hdn) ?_
    rintro ⟨vN, hvN⟩ _
    repeat' (first | (refine go_Y ?_; intros) | (refine gs_Y ?_ ?_ <;> (intro hgd; try (simp only [Bool.not_true, Bool.not_false] at hgd))) | (refine gc_Y ?_ ?_ <;> intro _) | fail)
    refine cont_map (L' := [row 67 2 vN ((doneR l c).map fileV), rdC b vL vS (.slice (some ⟨bu, ou, none⟩) (d.loose.map callV).length cu) d.room d.fuse d.still, row 65 4 (.slice (some ⟨bu, ou, none⟩) (d.loose.map callV).length cu) (d.loose.map callV)] ++ R) entD ?_
    refine cont_back (j + 1, ⟨vN, hvN⟩, row 67 2 vN ((doneR l c).map fileV), doneR l c) ⟨hjk, Vw.row, hrd, ⟨rfl, rfl, rfl, rfl, rfl, trivial⟩, rfl⟩ (by show k - (j + 1) < k - j; omega)
  | false =>
    have hjk : j = k := by simp at t1; omega
    subst hjk
    cases t2 : decide ((j : Int) < ((d.loose.map callV).length : Int)) with
    | false =>
      have hjl : d.loose.length ≤ j := by simp at t2; omega
      have htorn : d.torn j torn = play d.sure (d.loose.take j) := by
        unfold Dk.torn; rw [List.getElem?_eq_none hjl]; rfl
      rw [htorn]
      have hsu := refSure_spec b v vS (.slice pu (d.loose.map callV).length cu) d.room d.fuse d.still hv cS rfl
      repeat' (first | (refine go_Y ?_; intros) | (refine gs_Y ?_ ?_ <;> (intro hgd; try (simp only [Bool.not_true, Bool.not_false] at hgd))) | (refine gc_Y ?_ ?_ <;> intro _) | fail)
      refine cl_Y (hsu) ?_
      intro _ _
      repeat' (first | (refine go_Y ?_; intros) | (refine gs_Y ?_ ?_ <;> (intro hgd; try (simp only [Bool.not_true, Bool.not_false] at hgd))) | (refine gc_Y ?_ ?_ <;> intro _) | fail)
      refine cont_map (fun _ h => rowNilK (e := 65) (n := 4) h) ?_
      refine cont_map (fun _ h => rk_in (b := b) (d := { d with files := play d.sure (d.loose.take j), sure := play d.sure (d.loose.take j), loose := [], fuse := -1, still := false }) (y := ⟨v, v, .slice none 0 0, A, l, l⟩) ⟨hv, hv, rfl, hvw, hvw, hrel, hrel⟩ (Take.out takeD h)) ?_
      (refine rt_Y (y := ()) (hrs := Tryz.results23) (hv := ?_) (hφ := ?_))
      · rfl
      · trivial
    | true =>
      have hjl : j < d.loose.length := by simp at t2; omega
      have hc : d.loose[j]? = some d.loose[j] := List.getElem?_eq_getElem hjl
      have hx : (d.loose.map callV)[j]? = some (callV d.loose[j]) := by rw [List.getElem?_map, hc]; rfl
      have hn1 : j < (d.loose.map callV).length := by omega
      have hg := clG_at hD hc hrel
      have htr := (hD.tr _ (List.mem_of_getElem? hc)).2
      have htorn : d.torn j torn = runO (d.loose[j].piece torn) (play d.sure (d.loose.take j)) := by
        unfold Dk.torn; rw [hc]; rfl
      rw [htorn]
      generalize d.loose[j] = c at hc hx hg htr
      refine ok_learn (VwIn.base (n := 4) (p := pu) (len := (d.loose.map callV).length) (cap := cu) (xs := d.loose.map callV) (VwIn.there (VwIn.there (VwIn.here Vw.row))) (by intro h; rw [h] at hx; simp at hx)) ?_
      rintro ⟨bu, ou, rfl⟩
      cases c with
      | trunc a q => exact absurd rfl (htr a q)
      | app nm s =>
        dsimp only [callV] at hx
        cases t3 : decide (0 < torn) with
        | true =>
          have ht : 0 < torn := by simpa using t3
          have hpe : (Cl.app nm s).piece torn = some (.app nm (s.extract 0 (if (s.size : Int) < torn then (s.size : Int) else torn).toNat)) := by simp only [Cl.piece, if_pos ht]
          have hrg : 0 ≤ (if (s.size : Int) < torn then (s.size : Int) else torn) ∧ (if (s.size : Int) < torn then (s.size : Int) else torn) ≤ (s.size : Int) := by split <;> omega
          have hzz : (s.extract 0 (if (s.size : Int) < torn then (s.size : Int) else torn).toNat).size ≤ s.size := by rw [ByteArray.size_extract]; omega
          rw [hpe]
          generalize hsx : s.extract 0 (if (s.size : Int) < torn then (s.size : Int) else torn).toNat = sx at hzz
          have hg1 : clG l (.app nm sx) := by
            have : (ftext nm l).size + s.size ≤ 1099511627776 := hg.1
            show (ftext nm l).size + sx.size ≤ 1099511627776
            omega
          have hdn := refDone_spec v A l (.app nm sx) hvw (by omega) hrel.srt hg1
          have hrd := hrel.done (hnd j) (c := .app nm sx) trivial
          dsimp only [callV] at hdn
          repeat' (first | (refine go_Y ?_; intros) | (refine gs_Y ?_ ?_ <;> (intro hgd; try (simp only [Bool.not_true, Bool.not_false] at hgd))) | (refine gc_Y ?_ ?_ <;> intro _) | fail)
          rw [hsx]
          repeat' (first | (refine go_Y ?_; intros) | (refine gs_Y ?_ ?_ <;> (intro hgd; try (simp only [Bool.not_true, Bool.not_false] at hgd))) | (refine gc_Y ?_ ?_ <;> intro _) | fail)
          refine cl_Y (hdn) ?_
          rintro ⟨vN, hvN⟩ _
          repeat' (first | (refine go_Y ?_; intros) | (refine gs_Y ?_ ?_ <;> (intro hgd; try (simp only [Bool.not_true, Bool.not_false] at hgd))) | (refine gc_Y ?_ ?_ <;> intro _) | fail)
          refine cl_Y (refSure_spec b vN vS (.slice (some ⟨bu, ou, none⟩) (d.loose.map callV).length cu) d.room d.fuse d.still hvN cS rfl) ?_
          intro _ _
          repeat' (first | (refine go_Y ?_; intros) | (refine gs_Y ?_ ?_ <;> (intro hgd; try (simp only [Bool.not_true, Bool.not_false] at hgd))) | (refine gc_Y ?_ ?_ <;> intro _) | fail)
          refine cont_map (fun _ h => rowNilK (e := 65) (n := 4) h) ?_
          refine cont_map (fun _ h => rk_in (b := b) (d := { d with files := (Cl.app nm sx).run (play d.sure (d.loose.take j)), sure := (Cl.app nm sx).run (play d.sure (d.loose.take j)), loose := [], fuse := -1, still := false }) (y := ⟨vN, vN, .slice none 0 0, row 67 2 vN ((doneR l (.app nm sx)).map fileV), doneR l (.app nm sx), doneR l (.app nm sx)⟩) ⟨hvN, hvN, rfl, Vw.row, Vw.row, hrd, hrd⟩ (Take.out takeD h)) ?_
          (refine rt_Y (y := ()) (hrs := Tryz.results23) (hv := ?_) (hφ := ?_))
          · rfl
          · trivial
        | false =>
          have hpn : runO ((Cl.app nm s).piece torn) (play d.sure (d.loose.take j)) = play d.sure (d.loose.take j) := by
            have ht : ¬ 0 < torn := by simpa using t3
            simp only [Cl.piece, if_neg ht]; rfl
          rw [hpn]
          repeat' (first | (refine go_Y ?_; intros) | (refine gs_Y ?_ ?_ <;> (intro hgd; try (simp only [Bool.not_true, Bool.not_false] at hgd))) | (refine gc_Y ?_ ?_ <;> intro _) | fail)
          refine cl_Y (refSure_spec b v vS (.slice (some ⟨bu, ou, none⟩) (d.loose.map callV).length cu) d.room d.fuse d.still hv cS rfl) ?_
          intro _ _
          repeat' (first | (refine go_Y ?_; intros) | (refine gs_Y ?_ ?_ <;> (intro hgd; try (simp only [Bool.not_true, Bool.not_false] at hgd))) | (refine gc_Y ?_ ?_ <;> intro _) | fail)
          refine cont_map (fun _ h => rowNilK (e := 65) (n := 4) h) ?_
          refine cont_map (fun _ h => rk_in (b := b) (d := { d with files := play d.sure (d.loose.take j), sure := play d.sure (d.loose.take j), loose := [], fuse := -1, still := false }) (y := ⟨v, v, .slice none 0 0, A, l, l⟩) ⟨hv, hv, rfl, hvw, hvw, hrel, hrel⟩ (Take.out takeD h)) ?_
          (refine rt_Y (y := ()) (hrs := Tryz.results23) (hv := ?_) (hφ := ?_))
          · rfl
          · trivial
      | ren x1 x2 =>
        dsimp only [callV] at hx
        have hpn : runO ((Cl.ren x1 x2).piece torn) (play d.sure (d.loose.take j)) = play d.sure (d.loose.take j) := rfl
        rw [hpn]
        repeat' (first | (refine go_Y ?_; intros) | (refine gs_Y ?_ ?_ <;> (intro hgd; try (simp only [Bool.not_true, Bool.not_false] at hgd))) | (refine gc_Y ?_ ?_ <;> intro _) | fail)
        refine cl_Y (refSure_spec b v vS (.slice (some ⟨bu, ou, none⟩) (d.loose.map callV).length cu) d.room d.fuse d.still hv cS rfl) ?_
        intro _ _
        repeat' (first | (refine go_Y ?_; intros) | (refine gs_Y ?_ ?_ <;> (intro hgd; try (simp only [Bool.not_true, Bool.not_false] at hgd))) | (refine gc_Y ?_ ?_ <;> intro _) | fail)
        refine cont_map (fun _ h => rowNilK (e := 65) (n := 4) h) ?_
        refine cont_map (fun _ h => rk_in (b := b) (d := { d with files := play d.sure (d.loose.take j), sure := play d.sure (d.loose.take j), loose := [], fuse := -1, still := false }) (y := ⟨v, v, .slice none 0 0, A, l, l⟩) ⟨hv, hv, rfl, hvw, hvw, hrel, hrel⟩ (Take.out takeD h)) ?_
        (refine rt_Y (y := ()) (hrs := Tryz.results23) (hv := ?_) (hφ := ?_))
        · rfl
        · trivial
      | rem x1 =>
        dsimp only [callV] at hx
        have hpn : runO ((Cl.rem x1).piece torn) (play d.sure (d.loose.take j)) = play d.sure (d.loose.take j) := rfl
        rw [hpn]
        repeat' (first | (refine go_Y ?_; intros) | (refine gs_Y ?_ ?_ <;> (intro hgd; try (simp only [Bool.not_true, Bool.not_false] at hgd))) | (refine gc_Y ?_ ?_ <;> intro _) | fail)
        refine cl_Y (refSure_spec b v vS (.slice (some ⟨bu, ou, none⟩) (d.loose.map callV).length cu) d.room d.fuse d.still hv cS rfl) ?_
        intro _ _
        repeat' (first | (refine go_Y ?_; intros) | (refine gs_Y ?_ ?_ <;> (intro hgd; try (simp only [Bool.not_true, Bool.not_false] at hgd))) | (refine gc_Y ?_ ?_ <;> intro _) | fail)
        refine cont_map (fun _ h => rowNilK (e := 65) (n := 4) h) ?_
        refine cont_map (fun _ h => rk_in (b := b) (d := { d with files := play d.sure (d.loose.take j), sure := play d.sure (d.loose.take j), loose := [], fuse := -1, still := false }) (y := ⟨v, v, .slice none 0 0, A, l, l⟩) ⟨hv, hv, rfl, hvw, hvw, hrel, hrel⟩ (Take.out takeD h)) ?_
        (refine rt_Y (y := ()) (hrs := Tryz.results23) (hv := ?_) (hφ := ?_))
        · rfl
        · trivial
end Go.Proofs.YtbagfdolcabniaaGreat
/- The walk of ManPlays: a step. -/
-- @DEFS Y
set_option linter.unusedSimpArgs false
set_option linter.unusedVariables false
set_option maxRecDepth 4000
namespace Go.Proofs.YtbagfdolcabniaaGreat
open Go Go.Fx Go.Proofs Go.Pl

theorem sameM_selfP (m : Mn) : sameM m m = true := by simp [sameM]
theorem getM_fewP (s : BA) : (getM s).1.runs.length ≤ 256 := by
  unfold getM
  split
  · show (0 : Nat) ≤ 256; omega
  · unfold getM1
    split
    · split
      · rename_i h
        simp only [takeM, Bool.and_eq_true] at h
        have := Mn.chk_head h.2
        simp only [Mn.head, Bool.or_eq_false_iff, decide_eq_false_iff_not] at this
        show (parseM _).1.runs.length ≤ 256
        omega
      · show (0 : Nat) ≤ 256; omega
    · show (0 : Nat) ≤ 256; omega
theorem loadD_few (nm : BA) (d : Dk) : (loadD nm d).1.runs.length ≤ 256 := by
  unfold loadD
  split
  · show (0 : Nat) ≤ 256; omega
  · exact getM_fewP _
def nN : BA := ⟨#[109, 46, 110, 101, 119]⟩
def sX : BA := ⟨#[120]⟩
/-- What a step does to a disk, and to its twin. -/
def doesD (x : Sm) (d : Dk) : Dk :=
  if x.op = 0 then (if x.m.chk then (saveD nM (mBytes x.m) d).1 else d) else if x.op = 1 then d else if x.op = 2 then d.fuseTo x.n else if x.op = 3 then d.crash x.n x.k else if x.op = 5 then (d.append nN sX).1 else d
theorem mBytes_sz {m : Mn} (hc : m.chk = true) : (mBytes m).size ≤ 549755813888 := by
  have hh := Mn.chk_head hc
  simp only [Mn.head, Bool.or_eq_false_iff, decide_eq_false_iff_not] at hh
  unfold mBytes mBody
  rw [frameOf_size, put8s_size]
  simp [mNums]; omega
theorem Dn.does {n : Nat} {d : Dk} (h : Dn n d) (x : Sm) (hx : x.n ≤ 9223372036854775807) : Dn (n + 6) (doesD x d) := by
  unfold doesD
  split
  · split
    · rename_i hc
      exact (h.save (mBytes_sz hc)).mono (by omega)
    · exact h.mono (by omega)
  split
  · exact h.mono (by omega)
  split
  · exact (h.fuseTo hx).mono (by omega)
  split
  · exact (h.crash _ _).mono (by omega)
  split
  · exact (h.append (by decide)).mono (by omega)
  · exact h.mono (by omega)

set_option maxHeartbeats 4000000 in
theorem does_spec (b rb n : Nat) (d : Dk) (x : Sm) (A : HProp) (hD : Dn n d) (hn : n ≤ 1000) (hA : Vw A 1 x.v.1 (x.m.runs.map uV)) (hcap : capOk x.v.1) (hw : x.m.wf) (hl : x.m.runs.length ≤ 20) :
    FSpec Tryz.prog 8 [.pointer (some ⟨b, 0, none⟩), .pointer (some ⟨rb, 0, none⟩), .agg (smV x).toArray] [diskP b d, rkP rb d, A] Unit (fun _ => True) (fun _ => .bool true) (fun _ => [diskP b (doesD x d), rkP rb (doesD x d), A]) := by
  obtain ⟨o, m, ⟨v, hvc⟩, nn, k⟩ := x
  dsimp only at hA hcap hw hl
  unfold doesD
  dsimp only [smV]
  have hlc := hD.lcnt
  cases o0 : decide (o = 0) with
  | true =>
    have e0 : o = 0 := of_decide_eq_true o0
    rw [if_pos e0]
    cases hc : m.chk with
    | true =>
      rw [if_pos rfl]
      have h1 := Save_spec b d nM m v A hD.ok (by omega) (by decide) hA hcap (by omega) hc hw
      have h2 := refSave11_spec rb n d nM m v A hD (by omega) (by decide) hA (by omega) hc hw
      generalize saveD nM (mBytes m) d = r at h1 h2
      obtain ⟨d', e⟩ := r
      dsimp only at h1 h2 ⊢
      dsimp only [manV] at h1 h2
      subst e0
      refine spec_intro [] _ Tryz.func8 rfl Tryz.ntmps8 (by rfl) (fun w0 R => ?_)
      repeat' (first | (refine go_Y ?_; intros) | (refine gs_Y ?_ ?_ <;> (intro hgd; try (simp only [Bool.not_true, Bool.not_false] at hgd))) | (refine gc_Y ?_ ?_ <;> intro _) | fail)
      rename_i b5
      refine ok_drawL (cv := []) [3] ([pts b5 (.cells [.int .i64 0, .int .u64 m.wal, v, .int .u64 m.next, .int .i64 nn, .int .i64 k].toArray 38)]) (takeD) (by kernel_rfl) rfl (by decide +kernel) ?_
      repeat' (first | (refine go_Y ?_; intros) | (refine gs_Y ?_ ?_ <;> (intro hgd; try (simp only [Bool.not_true, Bool.not_false] at hgd))) | (refine gc_Y ?_ ?_ <;> intro _) | fail)
      refine clN_Y (h1) ?_
      intro _ _
      repeat' (first | (refine go_Y ?_; intros) | (refine gs_Y ?_ ?_ <;> (intro hgd; try (simp only [Bool.not_true, Bool.not_false] at hgd))) | (refine gc_Y ?_ ?_ <;> intro _) | fail)
      refine cl_Y (h2) ?_
      intro _ _
      repeat' (first | (refine go_Y ?_; intros) | (refine gs_Y ?_ ?_ <;> (intro hgd; try (simp only [Bool.not_true, Bool.not_false] at hgd))) | (refine gc_Y ?_ ?_ <;> intro _) | fail)
      (refine rt_Y (y := ()) (hrs := Tryz.results8) (hv := ?_) (hφ := ?_))
      · simp [retOf, nilB]
      · trivial
    | false =>
      rw [if_neg (by simp)]
      have h1 := Save_bad b d nM m v A hA hcap (by omega) hc
      have h2 := refSave11_bad rb nM m v A hA (by omega) hc
      dsimp only [manV] at h1 h2
      subst e0
      refine spec_intro [] _ Tryz.func8 rfl Tryz.ntmps8 (by rfl) (fun w0 R => ?_)
      repeat' (first | (refine go_Y ?_; intros) | (refine gs_Y ?_ ?_ <;> (intro hgd; try (simp only [Bool.not_true, Bool.not_false] at hgd))) | (refine gc_Y ?_ ?_ <;> intro _) | fail)
      rename_i b5
      refine ok_drawL (cv := []) [3] ([pts b5 (.cells [.int .i64 0, .int .u64 m.wal, v, .int .u64 m.next, .int .i64 nn, .int .i64 k].toArray 38)]) (takeD) (by kernel_rfl) rfl (by decide +kernel) ?_
      repeat' (first | (refine go_Y ?_; intros) | (refine gs_Y ?_ ?_ <;> (intro hgd; try (simp only [Bool.not_true, Bool.not_false] at hgd))) | (refine gc_Y ?_ ?_ <;> intro _) | fail)
      refine clN_Y (h1) ?_
      intro _ _
      repeat' (first | (refine go_Y ?_; intros) | (refine gs_Y ?_ ?_ <;> (intro hgd; try (simp only [Bool.not_true, Bool.not_false] at hgd))) | (refine gc_Y ?_ ?_ <;> intro _) | fail)
      refine cl_Y (h2) ?_
      intro _ _
      repeat' (first | (refine go_Y ?_; intros) | (refine gs_Y ?_ ?_ <;> (intro hgd; try (simp only [Bool.not_true, Bool.not_false] at hgd))) | (refine gc_Y ?_ ?_ <;> intro _) | fail)
      (refine rt_Y (y := ()) (hrs := Tryz.results8) (hv := ?_) (hφ := ?_))
      · rfl
      · trivial
  | false =>
  have e0 : ¬ o = 0 := of_decide_eq_false o0
  rw [if_neg e0]
  cases o1 : decide (o = 1) with
  | true =>
    rw [if_pos (of_decide_eq_true o1)]
    have h1 := Load_spec b d nM hD.ok (by decide)
    have h2 := refLoad11_spec rb n d nM hD.dm (by omega) (by decide)
    have hf := loadD_few nM d
    generalize loadD nM d = r at h1 h2 hf
    obtain ⟨m', e⟩ := r
    dsimp only at h1 h2 hf
    have he : decide (e = e) = true := by simp
    dsimp only [manV] at h1 h2
    refine spec_intro [] _ Tryz.func8 rfl Tryz.ntmps8 (by rfl) (fun w0 R => ?_)
    repeat' (first | (refine go_Y ?_; intros) | (refine gs_Y ?_ ?_ <;> (intro hgd; try (simp only [Bool.not_true, Bool.not_false] at hgd))) | (refine gc_Y ?_ ?_ <;> intro _) | fail)
    refine cl_Y (h1) ?_
    rintro ⟨v1, hv1⟩ _
    repeat' (first | (refine go_Y ?_; intros) | (refine gs_Y ?_ ?_ <;> (intro hgd; try (simp only [Bool.not_true, Bool.not_false] at hgd))) | (refine gc_Y ?_ ?_ <;> intro _) | fail)
    refine cl_Y (h2) ?_
    rintro ⟨⟨v2, hv2⟩, B⟩ hB
    dsimp only at hB ⊢
    have hs := Same_spec m' m' v1 v2 (row 33 1 v1 (m'.runs.map uV)) B Vw.row hB (by omega) (by omega)
    rw [sameM_selfP] at hs
    dsimp only [manV] at hs
    repeat' (first | (refine go_Y ?_; intros) | (refine gs_Y ?_ ?_ <;> (intro hgd; try (simp only [Bool.not_true, Bool.not_false] at hgd))) | (refine gc_Y ?_ ?_ <;> intro _) | fail)
    refine cl_Y (hs) ?_
    intro _ _
    repeat' (first | (refine go_Y ?_; intros) | (refine gs_Y ?_ ?_ <;> (intro hgd; try (simp only [Bool.not_true, Bool.not_false] at hgd))) | (refine gc_Y ?_ ?_ <;> intro _) | fail)
    (refine rt_Y (y := ()) (hrs := Tryz.results8) (hv := ?_) (hφ := ?_))
    · rfl
    · trivial
  | false =>
  rw [if_neg (of_decide_eq_false o1)]
  cases o2 : decide (o = 2) with
  | true =>
    rw [if_pos (of_decide_eq_true o2)]
    refine spec_intro [] _ Tryz.func8 rfl Tryz.ntmps8 (by rfl) (fun w0 R => ?_)
    repeat' (first | (refine go_Y ?_; intros) | (refine gs_Y ?_ ?_ <;> (intro hgd; try (simp only [Bool.not_true, Bool.not_false] at hgd))) | (refine gc_Y ?_ ?_ <;> intro _) | fail)
    refine cl_Y (refFuse_spec rb d nn) ?_
    intro _ _
    repeat' (first | (refine go_Y ?_; intros) | (refine gs_Y ?_ ?_ <;> (intro hgd; try (simp only [Bool.not_true, Bool.not_false] at hgd))) | (refine gc_Y ?_ ?_ <;> intro _) | fail)
    refine cl_Y (fuse_spec b d nn) ?_
    intro _ _
    repeat' (first | (refine go_Y ?_; intros) | (refine gs_Y ?_ ?_ <;> (intro hgd; try (simp only [Bool.not_true, Bool.not_false] at hgd))) | (refine gc_Y ?_ ?_ <;> intro _) | fail)
    (refine rt_Y (y := ()) (hrs := Tryz.results8) (hv := ?_) (hφ := ?_))
    · rfl
    · trivial
  | false =>
  rw [if_neg (of_decide_eq_false o2)]
  cases o3 : decide (o = 3) with
  | true =>
    rw [if_pos (of_decide_eq_true o3)]
    refine spec_intro [] _ Tryz.func8 rfl Tryz.ntmps8 (by rfl) (fun w0 R => ?_)
    repeat' (first | (refine go_Y ?_; intros) | (refine gs_Y ?_ ?_ <;> (intro hgd; try (simp only [Bool.not_true, Bool.not_false] at hgd))) | (refine gc_Y ?_ ?_ <;> intro _) | fail)
    refine cl_Y (refCrash_spec rb n d nn k hD.dm (by omega)) ?_
    intro _ _
    repeat' (first | (refine go_Y ?_; intros) | (refine gs_Y ?_ ?_ <;> (intro hgd; try (simp only [Bool.not_true, Bool.not_false] at hgd))) | (refine gc_Y ?_ ?_ <;> intro _) | fail)
    refine cl_Y (crash_spec b d nn k hD.ok (by omega)) ?_
    intro _ _
    repeat' (first | (refine go_Y ?_; intros) | (refine gs_Y ?_ ?_ <;> (intro hgd; try (simp only [Bool.not_true, Bool.not_false] at hgd))) | (refine gc_Y ?_ ?_ <;> intro _) | fail)
    (refine rt_Y (y := ()) (hrs := Tryz.results8) (hv := ?_) (hφ := ?_))
    · rfl
    · trivial
  | false =>
  rw [if_neg (of_decide_eq_false o3)]
  cases o5 : decide (o = 5) with
  | true =>
    rw [if_pos (of_decide_eq_true o5)]
    have h1 := append_spec b d nN sX hD.ok (by omega) (by decide) (by decide)
    have h2 := refApp_spec rb n d nN sX hD.dm (by omega) (by decide) (by decide)
    generalize d.append nN sX = r at h1 h2
    obtain ⟨d', e⟩ := r
    dsimp only at h1 h2 ⊢
    dsimp only [callV] at h2
    refine spec_intro [] _ Tryz.func8 rfl Tryz.ntmps8 (by rfl) (fun w0 R => ?_)
    repeat' (first | (refine go_Y ?_; intros) | (refine gs_Y ?_ ?_ <;> (intro hgd; try (simp only [Bool.not_true, Bool.not_false] at hgd))) | (refine gc_Y ?_ ?_ <;> intro _) | fail)
    refine cl_Y (h1) ?_
    intro _ _
    repeat' (first | (refine go_Y ?_; intros) | (refine gs_Y ?_ ?_ <;> (intro hgd; try (simp only [Bool.not_true, Bool.not_false] at hgd))) | (refine gc_Y ?_ ?_ <;> intro _) | fail)
    refine cl_Y (h2) ?_
    intro _ _
    repeat' (first | (refine go_Y ?_; intros) | (refine gs_Y ?_ ?_ <;> (intro hgd; try (simp only [Bool.not_true, Bool.not_false] at hgd))) | (refine gc_Y ?_ ?_ <;> intro _) | fail)
    (refine rt_Y (y := ()) (hrs := Tryz.results8) (hv := ?_) (hφ := ?_))
    · simp [retOf, nilB]
    · trivial
  | false =>
    rw [if_neg (of_decide_eq_false o5)]
    refine spec_intro [] _ Tryz.func8 rfl Tryz.ntmps8 (by rfl) (fun w0 R => ?_)
    repeat' (first | (refine go_Y ?_; intros) | (refine gs_Y ?_ ?_ <;> (intro hgd; try (simp only [Bool.not_true, Bool.not_false] at hgd))) | (refine gc_Y ?_ ?_ <;> intro _) | fail)
    (refine rt_Y (y := ()) (hrs := Tryz.results8) (hv := ?_) (hφ := ?_))
    · rfl
    · trivial
end Go.Proofs.YtbagfdolcabniaaGreat
