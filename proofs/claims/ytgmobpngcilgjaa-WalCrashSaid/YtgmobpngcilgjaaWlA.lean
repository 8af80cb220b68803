/- The walks of package wal: Fault, Len, Size, Open. -/
import Derived.Test.YtgmobpngcilgjaaWlP
import Derived.Test.YtgmobpngcilgjaaDkL
-- @DEFS Z
set_option linter.unusedSimpArgs false
set_option linter.unusedVariables false
set_option maxRecDepth 4000
namespace Go.Proofs.Ytgmobpngcilgjaa
open Go Go.Fx Go.Proofs Go.Pl

def walV (b : Nat) (nm : BA) (w : Wv) : List Value := [.pointer (some ⟨b, 0, none⟩), .string nm, .int .i64 w.n, .int .i64 w.size, .int .i64 w.fault]
def walP (wb b : Nat) (nm : BA) (w : Wv) : HProp := pts wb (.cells (walV b nm w).toArray 132)

theorem Fault_spec (wb b : Nat) (nm : BA) (w : Wv) : FSpec Try.prog 37 [.pointer (some ⟨wb, 0, none⟩)] [walP wb b nm w] Unit (fun _ => True) (fun _ => .int .i64 w.fault) (fun _ => [walP wb b nm w]) := by
  unfold walP
  refine spec_intro [] _ Try.func37 rfl Try.ntmps37 (by rfl) (fun w0 R => ?_)
  repeat' (first | (refine go_Z ?_; intros) | (refine gs_Z ?_ ?_ <;> (intro hgd; try (simp only [Bool.not_true, Bool.not_false] at hgd))) | (refine gc_Z ?_ ?_ <;> intro _) | fail)
  (refine rt_Z (y := ()) (hrs := Try.results37) (hv := ?_) (hφ := ?_))
  · rfl
  · trivial
theorem wLen_spec (wb b : Nat) (nm : BA) (w : Wv) : FSpec Try.prog 39 [.pointer (some ⟨wb, 0, none⟩)] [walP wb b nm w] Unit (fun _ => True) (fun _ => .int .i64 w.n) (fun _ => [walP wb b nm w]) := by
  unfold walP
  refine spec_intro [] _ Try.func39 rfl Try.ntmps39 (by rfl) (fun w0 R => ?_)
  repeat' (first | (refine go_Z ?_; intros) | (refine gs_Z ?_ ?_ <;> (intro hgd; try (simp only [Bool.not_true, Bool.not_false] at hgd))) | (refine gc_Z ?_ ?_ <;> intro _) | fail)
  (refine rt_Z (y := ()) (hrs := Try.results39) (hv := ?_) (hφ := ?_))
  · rfl
  · trivial
theorem wSize_spec (wb b : Nat) (nm : BA) (w : Wv) : FSpec Try.prog 85 [.pointer (some ⟨wb, 0, none⟩)] [walP wb b nm w] Unit (fun _ => True) (fun _ => .int .i64 w.size) (fun _ => [walP wb b nm w]) := by
  unfold walP
  refine spec_intro [] _ Try.func85 rfl Try.ntmps85 (by rfl) (fun w0 R => ?_)
  repeat' (first | (refine go_Z ?_; intros) | (refine gs_Z ?_ ?_ <;> (intro hgd; try (simp only [Bool.not_true, Bool.not_false] at hgd))) | (refine gc_Z ?_ ?_ <;> intro _) | fail)
  (refine rt_Z (y := ()) (hrs := Try.results85) (hv := ?_) (hφ := ?_))
  · rfl
  · trivial

theorem read_size (d : Dk) (nm : BA) (n : Int) (h0 : 0 ≤ n) : ((d.read nm 0 n).1.size : Int) ≤ n := by
  unfold Dk.read
  split
  · exact h0
  · split
    · exact h0
    · split
      · exact h0
      · unfold cut
        simp only [ByteArray.size_extract]
        split <;> omega

theorem scan_e (b : BA) : (scanOf b).2.2 = 0 ∨ (scanOf b).2.2 = 70 ∨ (scanOf b).2.2 = 71 := by
  have key : ∀ (k : Nat) (b : BA), (scanF k b).2.2 = 0 ∨ (scanF k b).2.2 = 70 ∨ (scanF k b).2.2 = 71 := by
    intro k
    induction k with
    | zero => exact fun b => .inl rfl
    | succ k ih =>
      intro b
      unfold scanF
      by_cases h0 : b.size = 0
      · rw [if_pos h0]; exact .inl rfl
      · rw [if_neg h0]
        by_cases h1 : (nextF b).2 ≠ 0
        · rw [if_pos h1]
          dsimp only
          unfold nextF
          repeat' split
          all_goals simp
        · rw [if_neg h1]
          exact ih _
  exact key _ _

set_option maxHeartbeats 1000000 in
theorem Open_bad (b : Nat) (d : Dk) (nm : BA) (hd : d.Ok) (hl : d.loose.length ≤ 1000000000) (hn : nm.size ≤ 4611686018427387904) (he : (openW d nm).2.1 ≠ 0) :
    FSpec Try.prog 34 [.pointer (some ⟨b, 0, none⟩), .string nm] [diskP b d] Unit (fun _ => True) (fun _ => .tuple #[.pointer none, .slice none 0 0, .int .i64 (openW d nm).2.1]) (fun _ => [diskP b (openW d nm).1]) := by
  have hr := read_spec b d nm 0 16777216 hn
  have hz := read_size d nm 16777216 (by decide)
  have hse := scan_e (d.read nm 0 16777216).1
  have hS := Scan_spec (d.read nm 0 16777216).1 (by omega)
  have hT := truncate_spec b d nm ((scanOf (d.read nm 0 16777216).1).2.1 : Int) hd (by omega) hn
  have hTo : (d.truncate nm ((scanOf (d.read nm 0 16777216).1).2.1 : Int)).1.Ok := hd.truncate
  have hsl := scanF_len (d.read nm 0 16777216).1.size (d.read nm 0 16777216).1
  rw [show scanF (d.read nm 0 16777216).1.size (d.read nm 0 16777216).1 = scanOf (d.read nm 0 16777216).1 from rfl] at hsl
  unfold openW openT at he ⊢
  generalize d.read nm 0 16777216 = rd at hr hz he hse hS hT hTo hsl
  obtain ⟨s, e⟩ := rd
  dsimp only at hr hz he hse hS hT hTo hsl ⊢
  generalize scanOf s = sc at he hse hS hT hTo hsl
  obtain ⟨l, good, es⟩ := sc
  dsimp only at he hse hS hT hTo hsl ⊢
  generalize d.truncate nm (good : Int) = tr at he hT hTo
  obtain ⟨d1, et⟩ := tr
  dsimp only at he hT hTo ⊢
  by_cases h1 : e ≠ 0 ∧ e ≠ 3
  · have u1 : (!decide (e = 0)) = true := by simpa using h1.1
    have u2 : (!decide (e = 3)) = true := by simpa using h1.2
    rw [if_pos h1]
    refine spec_intro [] _ Try.func34 rfl Try.ntmps34 (by rfl) (fun w0 R => ?_)
    repeat' (first | (refine go_Z ?_; intros) | (refine gs_Z ?_ ?_ <;> (intro hgd; try (simp only [Bool.not_true, Bool.not_false] at hgd))) | (refine gc_Z ?_ ?_ <;> intro _) | fail)
    refine cl_Z (hr) ?_
    intro _ _
    repeat' (first | (refine go_Z ?_; intros) | (refine gs_Z ?_ ?_ <;> (intro hgd; try (simp only [Bool.not_true, Bool.not_false] at hgd))) | (refine gc_Z ?_ ?_ <;> intro _) | fail)
    (refine rt_Z (y := ()) (hrs := Try.results34) (hv := ?_) (hφ := ?_))
    · rfl
    · trivial
  · rw [if_neg h1] at he ⊢
    have hgo : ∀ (G : Prop), ((!decide (e = 0)) = false → G) → ((!decide (e = 0)) = true → (!decide (e = 3)) = false → G) → G := by
      intro G g1 g2
      cases u1 : (!decide (e = 0)) with
      | false => exact g1 u1
      | true => exact g2 u1 (by simp at u1 h1 ⊢; exact h1 u1)
    rcases hse with rfl | rfl | rfl
    · simp only [Int.reduceEq, if_false, if_true, ne_eq, not_true_eq_false] at he ⊢
      unfold openS at he ⊢
      cases t1 : decide (0 < (d.loose.length : Int)) with
      | false =>
        have h0 : ¬ 0 < d.loose.length := by first | (have := of_decide_eq_false t1; omega) | (have := of_decide_eq_true t1; omega)
        rw [if_neg h0] at he
        exact absurd rfl he
      | true =>
        have h0 : 0 < d.loose.length := by first | (have := of_decide_eq_false t1; omega) | (have := of_decide_eq_true t1; omega)
        rw [if_pos h0] at he ⊢
        have hy := sync_spec b d hd
        generalize d.sync = sy at he hy
        obtain ⟨d2, ey⟩ := sy
        dsimp only at he hy ⊢
        have hey : ey ≠ 0 := by
          intro h; rw [if_neg (by simpa using h)] at he; exact he rfl
        have hey : ¬ ey = 0 := hey
        have u5 : (!decide (ey = 0)) = true := by simpa using hey
        rw [if_pos hey]
        refine hgo _ (fun u1 => ?_) (fun u1 u2 => ?_)
        · refine spec_intro [] _ Try.func34 rfl Try.ntmps34 (by rfl) (fun w0 R => ?_)
          repeat' (first | (refine go_Z ?_; intros) | (refine gs_Z ?_ ?_ <;> (intro hgd; try (simp only [Bool.not_true, Bool.not_false] at hgd))) | (refine gc_Z ?_ ?_ <;> intro _) | fail)
          refine cl_Z (hr) ?_
          intro _ _
          repeat' (first | (refine go_Z ?_; intros) | (refine gs_Z ?_ ?_ <;> (intro hgd; try (simp only [Bool.not_true, Bool.not_false] at hgd))) | (refine gc_Z ?_ ?_ <;> intro _) | fail)
          refine cl_Z (hS) ?_
          rintro ⟨v, hv⟩ _
          repeat' (first | (refine go_Z ?_; intros) | (refine gs_Z ?_ ?_ <;> (intro hgd; try (simp only [Bool.not_true, Bool.not_false] at hgd))) | (refine gc_Z ?_ ?_ <;> intro _) | fail)
          refine cl_Z (Loose_spec b d) ?_
          intro _ _
          repeat' (first | (refine go_Z ?_; intros) | (refine gs_Z ?_ ?_ <;> (intro hgd; try (simp only [Bool.not_true, Bool.not_false] at hgd))) | (refine gc_Z ?_ ?_ <;> intro _) | fail)
          refine cl_Z (hy) ?_
          intro _ _
          repeat' (first | (refine go_Z ?_; intros) | (refine gs_Z ?_ ?_ <;> (intro hgd; try (simp only [Bool.not_true, Bool.not_false] at hgd))) | (refine gc_Z ?_ ?_ <;> intro _) | fail)
          (refine rt_Z (y := ()) (hrs := Try.results34) (hv := ?_) (hφ := ?_))
          · rfl
          · trivial
        · refine spec_intro [] _ Try.func34 rfl Try.ntmps34 (by rfl) (fun w0 R => ?_)
          repeat' (first | (refine go_Z ?_; intros) | (refine gs_Z ?_ ?_ <;> (intro hgd; try (simp only [Bool.not_true, Bool.not_false] at hgd))) | (refine gc_Z ?_ ?_ <;> intro _) | fail)
          refine cl_Z (hr) ?_
          intro _ _
          repeat' (first | (refine go_Z ?_; intros) | (refine gs_Z ?_ ?_ <;> (intro hgd; try (simp only [Bool.not_true, Bool.not_false] at hgd))) | (refine gc_Z ?_ ?_ <;> intro _) | fail)
          refine cl_Z (hS) ?_
          rintro ⟨v, hv⟩ _
          repeat' (first | (refine go_Z ?_; intros) | (refine gs_Z ?_ ?_ <;> (intro hgd; try (simp only [Bool.not_true, Bool.not_false] at hgd))) | (refine gc_Z ?_ ?_ <;> intro _) | fail)
          refine cl_Z (Loose_spec b d) ?_
          intro _ _
          repeat' (first | (refine go_Z ?_; intros) | (refine gs_Z ?_ ?_ <;> (intro hgd; try (simp only [Bool.not_true, Bool.not_false] at hgd))) | (refine gc_Z ?_ ?_ <;> intro _) | fail)
          refine cl_Z (hy) ?_
          intro _ _
          repeat' (first | (refine go_Z ?_; intros) | (refine gs_Z ?_ ?_ <;> (intro hgd; try (simp only [Bool.not_true, Bool.not_false] at hgd))) | (refine gc_Z ?_ ?_ <;> intro _) | fail)
          (refine rt_Z (y := ()) (hrs := Try.results34) (hv := ?_) (hφ := ?_))
          · rfl
          · trivial
    · simp only [Int.reduceEq, if_false, if_true, ne_eq, not_true_eq_false] at he ⊢
      by_cases het : ¬ et = 0
      · rw [if_pos het]
        have u4 : (!decide (et = 0)) = true := by simpa using het
        refine hgo _ (fun u1 => ?_) (fun u1 u2 => ?_)
        · refine spec_intro [] _ Try.func34 rfl Try.ntmps34 (by rfl) (fun w0 R => ?_)
          repeat' (first | (refine go_Z ?_; intros) | (refine gs_Z ?_ ?_ <;> (intro hgd; try (simp only [Bool.not_true, Bool.not_false] at hgd))) | (refine gc_Z ?_ ?_ <;> intro _) | fail)
          refine cl_Z (hr) ?_
          intro _ _
          repeat' (first | (refine go_Z ?_; intros) | (refine gs_Z ?_ ?_ <;> (intro hgd; try (simp only [Bool.not_true, Bool.not_false] at hgd))) | (refine gc_Z ?_ ?_ <;> intro _) | fail)
          refine cl_Z (hS) ?_
          rintro ⟨v, hv⟩ _
          repeat' (first | (refine go_Z ?_; intros) | (refine gs_Z ?_ ?_ <;> (intro hgd; try (simp only [Bool.not_true, Bool.not_false] at hgd))) | (refine gc_Z ?_ ?_ <;> intro _) | fail)
          refine cl_Z (hT) ?_
          intro _ _
          repeat' (first | (refine go_Z ?_; intros) | (refine gs_Z ?_ ?_ <;> (intro hgd; try (simp only [Bool.not_true, Bool.not_false] at hgd))) | (refine gc_Z ?_ ?_ <;> intro _) | fail)
          (refine rt_Z (y := ()) (hrs := Try.results34) (hv := ?_) (hφ := ?_))
          · rfl
          · trivial
        · refine spec_intro [] _ Try.func34 rfl Try.ntmps34 (by rfl) (fun w0 R => ?_)
          repeat' (first | (refine go_Z ?_; intros) | (refine gs_Z ?_ ?_ <;> (intro hgd; try (simp only [Bool.not_true, Bool.not_false] at hgd))) | (refine gc_Z ?_ ?_ <;> intro _) | fail)
          refine cl_Z (hr) ?_
          intro _ _
          repeat' (first | (refine go_Z ?_; intros) | (refine gs_Z ?_ ?_ <;> (intro hgd; try (simp only [Bool.not_true, Bool.not_false] at hgd))) | (refine gc_Z ?_ ?_ <;> intro _) | fail)
          refine cl_Z (hS) ?_
          rintro ⟨v, hv⟩ _
          repeat' (first | (refine go_Z ?_; intros) | (refine gs_Z ?_ ?_ <;> (intro hgd; try (simp only [Bool.not_true, Bool.not_false] at hgd))) | (refine gc_Z ?_ ?_ <;> intro _) | fail)
          refine cl_Z (hT) ?_
          intro _ _
          repeat' (first | (refine go_Z ?_; intros) | (refine gs_Z ?_ ?_ <;> (intro hgd; try (simp only [Bool.not_true, Bool.not_false] at hgd))) | (refine gc_Z ?_ ?_ <;> intro _) | fail)
          (refine rt_Z (y := ()) (hrs := Try.results34) (hv := ?_) (hφ := ?_))
          · rfl
          · trivial
      · rw [if_neg het] at he ⊢
        have u4 : (!decide (et = 0)) = false := by simpa using het
        unfold openS at he ⊢
        cases t1 : decide (0 < (d1.loose.length : Int)) with
        | false =>
          have h0 : ¬ 0 < d1.loose.length := by first | (have := of_decide_eq_false t1; omega) | (have := of_decide_eq_true t1; omega)
          rw [if_neg h0] at he
          exact absurd rfl he
        | true =>
          have h0 : 0 < d1.loose.length := by first | (have := of_decide_eq_false t1; omega) | (have := of_decide_eq_true t1; omega)
          rw [if_pos h0] at he ⊢
          have hy := sync_spec b d1 hTo
          generalize d1.sync = sy at he hy
          obtain ⟨d2, ey⟩ := sy
          dsimp only at he hy ⊢
          have hey : ey ≠ 0 := by
            intro h; rw [if_neg (by simpa using h)] at he; exact he rfl
          have hey : ¬ ey = 0 := hey
          have u5 : (!decide (ey = 0)) = true := by simpa using hey
          rw [if_pos hey]
          refine hgo _ (fun u1 => ?_) (fun u1 u2 => ?_)
          · refine spec_intro [] _ Try.func34 rfl Try.ntmps34 (by rfl) (fun w0 R => ?_)
            repeat' (first | (refine go_Z ?_; intros) | (refine gs_Z ?_ ?_ <;> (intro hgd; try (simp only [Bool.not_true, Bool.not_false] at hgd))) | (refine gc_Z ?_ ?_ <;> intro _) | fail)
            refine cl_Z (hr) ?_
            intro _ _
            repeat' (first | (refine go_Z ?_; intros) | (refine gs_Z ?_ ?_ <;> (intro hgd; try (simp only [Bool.not_true, Bool.not_false] at hgd))) | (refine gc_Z ?_ ?_ <;> intro _) | fail)
            refine cl_Z (hS) ?_
            rintro ⟨v, hv⟩ _
            repeat' (first | (refine go_Z ?_; intros) | (refine gs_Z ?_ ?_ <;> (intro hgd; try (simp only [Bool.not_true, Bool.not_false] at hgd))) | (refine gc_Z ?_ ?_ <;> intro _) | fail)
            refine cl_Z (hT) ?_
            intro _ _
            repeat' (first | (refine go_Z ?_; intros) | (refine gs_Z ?_ ?_ <;> (intro hgd; try (simp only [Bool.not_true, Bool.not_false] at hgd))) | (refine gc_Z ?_ ?_ <;> intro _) | fail)
            refine cl_Z (Loose_spec b d1) ?_
            intro _ _
            repeat' (first | (refine go_Z ?_; intros) | (refine gs_Z ?_ ?_ <;> (intro hgd; try (simp only [Bool.not_true, Bool.not_false] at hgd))) | (refine gc_Z ?_ ?_ <;> intro _) | fail)
            refine cl_Z (hy) ?_
            intro _ _
            repeat' (first | (refine go_Z ?_; intros) | (refine gs_Z ?_ ?_ <;> (intro hgd; try (simp only [Bool.not_true, Bool.not_false] at hgd))) | (refine gc_Z ?_ ?_ <;> intro _) | fail)
            (refine rt_Z (y := ()) (hrs := Try.results34) (hv := ?_) (hφ := ?_))
            · rfl
            · trivial
          · refine spec_intro [] _ Try.func34 rfl Try.ntmps34 (by rfl) (fun w0 R => ?_)
            repeat' (first | (refine go_Z ?_; intros) | (refine gs_Z ?_ ?_ <;> (intro hgd; try (simp only [Bool.not_true, Bool.not_false] at hgd))) | (refine gc_Z ?_ ?_ <;> intro _) | fail)
            refine cl_Z (hr) ?_
            intro _ _
            repeat' (first | (refine go_Z ?_; intros) | (refine gs_Z ?_ ?_ <;> (intro hgd; try (simp only [Bool.not_true, Bool.not_false] at hgd))) | (refine gc_Z ?_ ?_ <;> intro _) | fail)
            refine cl_Z (hS) ?_
            rintro ⟨v, hv⟩ _
            repeat' (first | (refine go_Z ?_; intros) | (refine gs_Z ?_ ?_ <;> (intro hgd; try (simp only [Bool.not_true, Bool.not_false] at hgd))) | (refine gc_Z ?_ ?_ <;> intro _) | fail)
            refine cl_Z (hT) ?_
            intro _ _
            repeat' (first | (refine go_Z ?_; intros) | (refine gs_Z ?_ ?_ <;> (intro hgd; try (simp only [Bool.not_true, Bool.not_false] at hgd))) | (refine gc_Z ?_ ?_ <;> intro _) | fail)
            refine cl_Z (Loose_spec b d1) ?_
            intro _ _
            repeat' (first | (refine go_Z ?_; intros) | (refine gs_Z ?_ ?_ <;> (intro hgd; try (simp only [Bool.not_true, Bool.not_false] at hgd))) | (refine gc_Z ?_ ?_ <;> intro _) | fail)
            refine cl_Z (hy) ?_
            intro _ _
            repeat' (first | (refine go_Z ?_; intros) | (refine gs_Z ?_ ?_ <;> (intro hgd; try (simp only [Bool.not_true, Bool.not_false] at hgd))) | (refine gc_Z ?_ ?_ <;> intro _) | fail)
            (refine rt_Z (y := ()) (hrs := Try.results34) (hv := ?_) (hφ := ?_))
            · rfl
            · trivial
    · rw [if_pos rfl]
      refine hgo _ (fun u1 => ?_) (fun u1 u2 => ?_)
      · refine spec_intro [] _ Try.func34 rfl Try.ntmps34 (by rfl) (fun w0 R => ?_)
        repeat' (first | (refine go_Z ?_; intros) | (refine gs_Z ?_ ?_ <;> (intro hgd; try (simp only [Bool.not_true, Bool.not_false] at hgd))) | (refine gc_Z ?_ ?_ <;> intro _) | fail)
        refine cl_Z (hr) ?_
        intro _ _
        repeat' (first | (refine go_Z ?_; intros) | (refine gs_Z ?_ ?_ <;> (intro hgd; try (simp only [Bool.not_true, Bool.not_false] at hgd))) | (refine gc_Z ?_ ?_ <;> intro _) | fail)
        refine cl_Z (hS) ?_
        rintro ⟨v, hv⟩ _
        repeat' (first | (refine go_Z ?_; intros) | (refine gs_Z ?_ ?_ <;> (intro hgd; try (simp only [Bool.not_true, Bool.not_false] at hgd))) | (refine gc_Z ?_ ?_ <;> intro _) | fail)
        (refine rt_Z (y := ()) (hrs := Try.results34) (hv := ?_) (hφ := ?_))
        · rfl
        · trivial
      · refine spec_intro [] _ Try.func34 rfl Try.ntmps34 (by rfl) (fun w0 R => ?_)
        repeat' (first | (refine go_Z ?_; intros) | (refine gs_Z ?_ ?_ <;> (intro hgd; try (simp only [Bool.not_true, Bool.not_false] at hgd))) | (refine gc_Z ?_ ?_ <;> intro _) | fail)
        refine cl_Z (hr) ?_
        intro _ _
        repeat' (first | (refine go_Z ?_; intros) | (refine gs_Z ?_ ?_ <;> (intro hgd; try (simp only [Bool.not_true, Bool.not_false] at hgd))) | (refine gc_Z ?_ ?_ <;> intro _) | fail)
        refine cl_Z (hS) ?_
        rintro ⟨v, hv⟩ _
        repeat' (first | (refine go_Z ?_; intros) | (refine gs_Z ?_ ?_ <;> (intro hgd; try (simp only [Bool.not_true, Bool.not_false] at hgd))) | (refine gc_Z ?_ ?_ <;> intro _) | fail)
        (refine rt_Z (y := ()) (hrs := Try.results34) (hv := ?_) (hφ := ?_))
        · rfl
        · trivial
end Go.Proofs.Ytgmobpngcilgjaa
