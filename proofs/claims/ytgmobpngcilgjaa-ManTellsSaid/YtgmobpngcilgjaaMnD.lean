/- The walks of man.Save, man.Load. -/
import Derived.Test.YtgmobpngcilgjaaMnC
import Derived.Test.YtgmobpngcilgjaaMnQ
import Derived.Test.YtgmobpngcilgjaaDkL
-- @DEFS Z
set_option linter.unusedSimpArgs false
set_option linter.unusedVariables false
set_option maxRecDepth 4000
namespace Go.Proofs.Ytgmobpngcilgjaa
open Go Go.Fx Go.Proofs Go.Pl

instance arrS : ArI Try.prog 159 5 158 1 := ⟨Try.underlying159, by kernel_rfl⟩
theorem Save1_spec (b b3 b9 : Nat) (d : Dk) (n : BA) (hd : d.Ok) (hl : d.loose.length ≤ 1099511627776) (hn : n.size ≤ 4611686018427387904) :
    FSpec Try.prog 107 [.pointer (some ⟨b3, 0, none⟩), .pointer (some ⟨b9, 0, none⟩)] [pts b3 (.cells [.pointer (some ⟨b, 0, none⟩)].toArray 37), pts b9 (.cells [.string n].toArray 9), diskP b d] Unit (fun _ => True)
      (fun _ => .int .i64 (if (d.remove n).2 = 3 then 0 else (d.remove n).2)) (fun _ => [pts b3 (.cells [.pointer (some ⟨b, 0, none⟩)].toArray 37), pts b9 (.cells [.string n].toArray 9), diskP b (d.remove n).1]) := by
  have hs := remove_spec b d n hd hl hn
  generalize d.remove n = r at hs
  obtain ⟨d', e⟩ := r
  dsimp only at hs ⊢
  cases u1 : (!decide (e = 3)) with
  | true =>
    rw [if_neg (by simpa using u1)]
    refine spec_intro [] _ Try.func107 rfl Try.ntmps107 (by rfl) (fun w0 R => ?_)
    repeat' (first | (refine go_Z ?_; intros) | (refine gs_Z ?_ ?_ <;> (intro hgd; try (simp only [Bool.not_true, Bool.not_false] at hgd))) | (refine gc_Z ?_ ?_ <;> intro _) | fail)
    refine cl_Z (hs) ?_
    intro _ _
    repeat' (first | (refine go_Z ?_; intros) | (refine gs_Z ?_ ?_ <;> (intro hgd; try (simp only [Bool.not_true, Bool.not_false] at hgd))) | (refine gc_Z ?_ ?_ <;> intro _) | fail)
    (refine rt_Z (y := ()) (hrs := Try.results107) (hv := ?_) (hφ := ?_))
    · rfl
    · trivial
  | false =>
    rw [if_pos (by simpa using u1)]
    refine spec_intro [] _ Try.func107 rfl Try.ntmps107 (by rfl) (fun w0 R => ?_)
    repeat' (first | (refine go_Z ?_; intros) | (refine gs_Z ?_ ?_ <;> (intro hgd; try (simp only [Bool.not_true, Bool.not_false] at hgd))) | (refine gc_Z ?_ ?_ <;> intro _) | fail)
    refine cl_Z (hs) ?_
    intro _ _
    repeat' (first | (refine go_Z ?_; intros) | (refine gs_Z ?_ ?_ <;> (intro hgd; try (simp only [Bool.not_true, Bool.not_false] at hgd))) | (refine gc_Z ?_ ?_ <;> intro _) | fail)
    (refine rt_Z (y := ()) (hrs := Try.results107) (hv := ?_) (hφ := ?_))
    · rfl
    · trivial

theorem Save2_spec (b b3 b9 b7 : Nat) (d : Dk) (n s : BA) (hd : d.Ok) (hl : d.loose.length ≤ 1099511627776) (hn : n.size ≤ 4611686018427387904) (hz : s.size ≤ 549755813888) :
    FSpec Try.prog 108 [.pointer (some ⟨b3, 0, none⟩), .pointer (some ⟨b9, 0, none⟩), .pointer (some ⟨b7, 0, none⟩)] [pts b3 (.cells [.pointer (some ⟨b, 0, none⟩)].toArray 37), pts b9 (.cells [.string n].toArray 9), pts b7 (.cells [.string s].toArray 9), diskP b d] Unit (fun _ => True)
      (fun _ => .int .i64 (d.append n s).2) (fun _ => [pts b3 (.cells [.pointer (some ⟨b, 0, none⟩)].toArray 37), pts b9 (.cells [.string n].toArray 9), pts b7 (.cells [.string s].toArray 9), diskP b (d.append n s).1]) := by
  refine spec_intro [] _ Try.func108 rfl Try.ntmps108 (by rfl) (fun w0 R => ?_)
  repeat' (first | (refine go_Z ?_; intros) | (refine gs_Z ?_ ?_ <;> (intro hgd; try (simp only [Bool.not_true, Bool.not_false] at hgd))) | (refine gc_Z ?_ ?_ <;> intro _) | fail)
  refine cl_Z (append_spec b d n s hd hl hn hz) ?_
  intro _ _
  repeat' (first | (refine go_Z ?_; intros) | (refine gs_Z ?_ ?_ <;> (intro hgd; try (simp only [Bool.not_true, Bool.not_false] at hgd))) | (refine gc_Z ?_ ?_ <;> intro _) | fail)
  (refine rt_Z (y := ()) (hrs := Try.results108) (hv := ?_) (hφ := ?_))
  · rfl
  · trivial

theorem Save3_spec (b b3 b9 b4 : Nat) (d : Dk) (n s : BA) (hd : d.Ok) (hl : d.loose.length ≤ 1099511627776) (hn : n.size ≤ 4611686018427387904) (hz : s.size ≤ 4611686018427387904) :
    FSpec Try.prog 109 [.pointer (some ⟨b3, 0, none⟩), .pointer (some ⟨b9, 0, none⟩), .pointer (some ⟨b4, 0, none⟩)] [pts b3 (.cells [.pointer (some ⟨b, 0, none⟩)].toArray 37), pts b9 (.cells [.string n].toArray 9), pts b4 (.cells [.string s].toArray 9), diskP b d] Unit (fun _ => True)
      (fun _ => .int .i64 (d.rename n s).2) (fun _ => [pts b3 (.cells [.pointer (some ⟨b, 0, none⟩)].toArray 37), pts b9 (.cells [.string n].toArray 9), pts b4 (.cells [.string s].toArray 9), diskP b (d.rename n s).1]) := by
  refine spec_intro [] _ Try.func109 rfl Try.ntmps109 (by rfl) (fun w0 R => ?_)
  repeat' (first | (refine go_Z ?_; intros) | (refine gs_Z ?_ ?_ <;> (intro hgd; try (simp only [Bool.not_true, Bool.not_false] at hgd))) | (refine gc_Z ?_ ?_ <;> intro _) | fail)
  refine cl_Z (rename_spec b d n s hd hl hn hz) ?_
  intro _ _
  repeat' (first | (refine go_Z ?_; intros) | (refine gs_Z ?_ ?_ <;> (intro hgd; try (simp only [Bool.not_true, Bool.not_false] at hgd))) | (refine gc_Z ?_ ?_ <;> intro _) | fail)
  (refine rt_Z (y := ()) (hrs := Try.results109) (hv := ?_) (hφ := ?_))
  · rfl
  · trivial

theorem Save_nil (nm : BA) (m : Mn) (v : Value) : FSpec Try.prog 50 [.pointer none, .string nm, .agg (manV m v).toArray] [] Unit (fun _ => True) (fun _ => .int .i64 1) (fun _ => []) := by
  refine spec_intro [] _ Try.func50 rfl Try.ntmps50 (by rfl) (fun w0 R => ?_)
  repeat' (first | (refine go_Z ?_; intros) | (refine gs_Z ?_ ?_ <;> (intro hgd; try (simp only [Bool.not_true, Bool.not_false] at hgd))) | (refine gc_Z ?_ ?_ <;> intro _) | fail)
  (refine rt_Z (y := ()) (hrs := Try.results50) (hv := ?_) (hφ := ?_))
  · rfl
  · trivial

theorem Load_nil (nm : BA) : FSpec Try.prog 49 [.pointer none, .string nm] [] Unit (fun _ => True) (fun _ => .tuple #[.agg (manV mn0 (.slice none 0 0)).toArray, .int .i64 1]) (fun _ => []) := by
  refine spec_intro [] _ Try.func49 rfl Try.ntmps49 (by rfl) (fun w0 R => ?_)
  repeat' (first | (refine go_Z ?_; intros) | (refine gs_Z ?_ ?_ <;> (intro hgd; try (simp only [Bool.not_true, Bool.not_false] at hgd))) | (refine gc_Z ?_ ?_ <;> intro _) | fail)
  (refine rt_Z (y := ()) (hrs := Try.results49) (hv := ?_) (hφ := ?_))
  · rfl
  · trivial

theorem Save_bad (b : Nat) (d : Dk) (nm : BA) (m : Mn) (v : Value) (A : HProp) (hA : Vw A 1 v (m.runs.map uV)) (hcap : capOk v) (hz : m.runs.length ≤ 1099511627776) (hc : m.chk = false) :
    FSpec Try.prog 50 [.pointer (some ⟨b, 0, none⟩), .string nm, .agg (manV m v).toArray] [A] Unit (fun _ => True) (fun _ => .int .i64 2) (fun _ => [A]) := by
  refine spec_intro [] _ Try.func50 rfl Try.ntmps50 (by rfl) (fun w0 R => ?_)
  repeat' (first | (refine go_Z ?_; intros) | (refine gs_Z ?_ ?_ <;> (intro hgd; try (simp only [Bool.not_true, Bool.not_false] at hgd))) | (refine gc_Z ?_ ?_ <;> intro _) | fail)
  refine cl_Z (mPut_bad m v A hA hcap hz hc) ?_
  intro _ _
  repeat' (first | (refine go_Z ?_; intros) | (refine gs_Z ?_ ?_ <;> (intro hgd; try (simp only [Bool.not_true, Bool.not_false] at hgd))) | (refine gc_Z ?_ ?_ <;> intro _) | fail)
  (refine rt_Z (y := ()) (hrs := Try.results50) (hv := ?_) (hφ := ?_))
  · rfl
  · trivial

set_option maxHeartbeats 1000000 in
theorem Save_spec (b : Nat) (d : Dk) (nm : BA) (m : Mn) (v : Value) (A : HProp) (hd : d.Ok) (hl : d.loose.length ≤ 1000000000) (hn : nm.size ≤ 1099511627776) (hA : Vw A 1 v (m.runs.map uV)) (hcap : capOk v) (hz : m.runs.length ≤ 1099511627776) (hc : m.chk = true) (hw : m.wf) :
    FSpec Try.prog 50 [.pointer (some ⟨b, 0, none⟩), .string nm, .agg (manV m v).toArray] [diskP b d, A] Unit (fun _ => True) (fun _ => .int .i64 (saveD nm (mBytes m) d).2) (fun _ => [diskP b (saveD nm (mBytes m) d).1, A]) := by
  have hsz : (mBytes m).size ≤ 549755813888 := by
    have hh := Mn.chk_head hc
    simp only [Mn.head, Bool.or_eq_false_iff, decide_eq_false_iff_not] at hh
    unfold mBytes mBody
    rw [frameOf_size, put8s_size]
    simp [mNums]; omega
  have hz9 : (nm ++ dotNew).size ≤ 1099511627780 := by rw [ByteArray.size_append]; show nm.size + 4 ≤ _; omega
  have hd4 : ByteArray.size ⟨#[46, 110, 101, 119]⟩ = 4 := rfl
  refine spec_intro [] _ Try.func50 rfl Try.ntmps50 (by rfl) (fun w0 R => ?_)
  repeat' (first | (refine go_Z ?_; intros) | (refine gs_Z ?_ ?_ <;> (intro hgd; try (simp only [Bool.not_true, Bool.not_false] at hgd))) | (refine gc_Z ?_ ?_ <;> intro _) | fail)
  rename_i b3 b4 b5
  refine cl_Z (mPut_spec m v A hA hcap hz hc hw) ?_
  intro _ _
  generalize mBytes m = s at hsz
  repeat' (first | (refine go_Z ?_; intros) | (refine gs_Z ?_ ?_ <;> (intro hgd; try (simp only [Bool.not_true, Bool.not_false] at hgd))) | (refine gc_Z ?_ ?_ <;> intro _) | fail)
  rename_i b7 b9
  rw [show (nm ++ ⟨#[46, 110, 101, 119]⟩ : BA) = nm ++ dotNew from rfl]
  have hfin := save_ok (nm := nm) hd hsz
  refine ok_map (L' := [diskP b d, pts b3 (.cells [.pointer (some ⟨b, 0, none⟩)].toArray 37), pts b4 (.cells [.string nm].toArray 9), pts b7 (.cells [.string s].toArray 9), pts b9 (.cells [.string (nm ++ dotNew)].toArray 9), A] ++ R) entD ?_
  refine ok_loop' (γ := Nat × Dk) (fun g ρ L => g.1 ≤ 5 ∧ runD nm s (5 - g.1) g.2 = saveD nm s d ∧ g.2.Ok ∧ g.2.loose.length ≤ d.loose.length + g.1 ∧
    Knows ρ [(39, .agg [.func (.func 107) #[] #[.pointer (some ⟨b3, 0, none⟩), .pointer (some ⟨b9, 0, none⟩)], .func (.func 108) #[] #[.pointer (some ⟨b3, 0, none⟩), .pointer (some ⟨b9, 0, none⟩), .pointer (some ⟨b7, 0, none⟩)], .func (.func 29) #[.pointer (some ⟨b, 0, none⟩)] #[], .func (.func 109) #[] #[.pointer (some ⟨b3, 0, none⟩), .pointer (some ⟨b9, 0, none⟩), .pointer (some ⟨b4, 0, none⟩)], .func (.func 29) #[.pointer (some ⟨b, 0, none⟩)] #[]].toArray), (40, .int .i64 g.1)] ∧
    L = [diskP b g.2, pts b3 (.cells [.pointer (some ⟨b, 0, none⟩)].toArray 37), pts b4 (.cells [.string nm].toArray 9), pts b7 (.cells [.string s].toArray 9), pts b9 (.cells [.string (nm ++ dotNew)].toArray 9), A] ++ R) (fun g => 5 - g.1) (0, d) ⟨by simp, save_run nm s d, hd, by simp, ⟨rfl, rfl, trivial⟩, rfl⟩ ?_
  rintro ⟨i, x⟩ ρ L ⟨hi, hr, hx, hxl, hk, rfl⟩
  dsimp only at hi hr hx hxl hk ⊢
  refine ok_regs hk ?_
  rw [← hr]
  clear hk hr hfin
  have hi' : i = 0 ∨ i = 1 ∨ i = 2 ∨ i = 3 ∨ i = 4 ∨ i = 5 := by omega
  rcases hi' with rfl | rfl | rfl | rfl | rfl | rfl
  · have t0 : decide (((0 : Nat) : Int) < 5) = true := by decide
    have hv := vspec_func (args := []) (cap := [.pointer (some ⟨b3, 0, none⟩), .pointer (some ⟨b9, 0, none⟩)]) (Save1_spec b b3 b9 x (nm ++ dotNew) hx (by omega) (by omega))
    have hst := step0 nm s x
    have hg := @run_good nm s 4 x
    have hb := @run_bad nm s 4 x
    have hok := step_ok (nm := nm) (i := 0) hx hsz
    have hlo := step_loose nm s 0 x
    rw [show (4 - 4 : Nat) = 0 from rfl] at hg hb
    rw [hst] at hg hb hok hlo
    rw [show (5 - 0 : Nat) = 4 + 1 from rfl]
    dsimp only at hg hb hok hlo
    generalize hr1 : (x.remove (nm ++ dotNew)).1 = d1 at hv hg hb hok hlo
    generalize hr2 : (if (x.remove (nm ++ dotNew)).2 = 3 then (0 : Int) else (x.remove (nm ++ dotNew)).2) = e1 at hv hg hb hok hlo
    cases u1 : (!decide (e1 = 0)) with
    | true =>
      rw [hb (by simpa using u1)]
      repeat' (first | (refine go_Z ?_; intros) | (refine gs_Z ?_ ?_ <;> (intro hgd; try (simp only [Bool.not_true, Bool.not_false] at hgd))) | (refine gc_Z ?_ ?_ <;> intro _) | fail)
      refine clV_Z (hv) ?_
      intro _ _
      repeat' (first | (refine go_Z ?_; intros) | (refine gs_Z ?_ ?_ <;> (intro hgd; try (simp only [Bool.not_true, Bool.not_false] at hgd))) | (refine gc_Z ?_ ?_ <;> intro _) | fail)
      (refine rt_Z (y := ()) (hrs := Try.results50) (hv := ?_) (hφ := ?_))
      · rfl
      · trivial
    | false =>
      rw [hg (by simpa using u1)]
      repeat' (first | (refine go_Z ?_; intros) | (refine gs_Z ?_ ?_ <;> (intro hgd; try (simp only [Bool.not_true, Bool.not_false] at hgd))) | (refine gc_Z ?_ ?_ <;> intro _) | fail)
      refine clV_Z (hv) ?_
      intro _ _
      repeat' (first | (refine go_Z ?_; intros) | (refine gs_Z ?_ ?_ <;> (intro hgd; try (simp only [Bool.not_true, Bool.not_false] at hgd))) | (refine gc_Z ?_ ?_ <;> intro _) | fail)
      refine cont_map (L' := [diskP b d1, pts b3 (.cells [.pointer (some ⟨b, 0, none⟩)].toArray 37), pts b4 (.cells [.string nm].toArray 9), pts b7 (.cells [.string s].toArray 9), pts b9 (.cells [.string (nm ++ dotNew)].toArray 9), A] ++ R) entD ?_
      refine cont_back (1, d1) ⟨by simp, rfl, hok, by dsimp only; omega, ⟨rfl, rfl, trivial⟩, rfl⟩ (by show 5 - 1 < 5 - 0; omega)
  · have t0 : decide (((1 : Nat) : Int) < 5) = true := by decide
    have hv := vspec_func (args := []) (cap := [.pointer (some ⟨b3, 0, none⟩), .pointer (some ⟨b9, 0, none⟩), .pointer (some ⟨b7, 0, none⟩)]) (Save2_spec b b3 b9 b7 x (nm ++ dotNew) s hx (by omega) (by omega) hsz)
    have hst := step1 nm s x
    have hg := @run_good nm s 3 x
    have hb := @run_bad nm s 3 x
    have hok := step_ok (nm := nm) (i := 1) hx hsz
    have hlo := step_loose nm s 1 x
    rw [show (4 - 3 : Nat) = 1 from rfl] at hg hb
    rw [hst] at hg hb hok hlo
    rw [show (5 - 1 : Nat) = 3 + 1 from rfl]
    generalize x.append (nm ++ dotNew) s = rr at hv hg hb hok hlo
    obtain ⟨d1, e1⟩ := rr
    dsimp only at hv hg hb hok hlo
    cases u1 : (!decide (e1 = 0)) with
    | true =>
      rw [hb (by simpa using u1)]
      repeat' (first | (refine go_Z ?_; intros) | (refine gs_Z ?_ ?_ <;> (intro hgd; try (simp only [Bool.not_true, Bool.not_false] at hgd))) | (refine gc_Z ?_ ?_ <;> intro _) | fail)
      refine clV_Z (hv) ?_
      intro _ _
      repeat' (first | (refine go_Z ?_; intros) | (refine gs_Z ?_ ?_ <;> (intro hgd; try (simp only [Bool.not_true, Bool.not_false] at hgd))) | (refine gc_Z ?_ ?_ <;> intro _) | fail)
      (refine rt_Z (y := ()) (hrs := Try.results50) (hv := ?_) (hφ := ?_))
      · rfl
      · trivial
    | false =>
      rw [hg (by simpa using u1)]
      repeat' (first | (refine go_Z ?_; intros) | (refine gs_Z ?_ ?_ <;> (intro hgd; try (simp only [Bool.not_true, Bool.not_false] at hgd))) | (refine gc_Z ?_ ?_ <;> intro _) | fail)
      refine clV_Z (hv) ?_
      intro _ _
      repeat' (first | (refine go_Z ?_; intros) | (refine gs_Z ?_ ?_ <;> (intro hgd; try (simp only [Bool.not_true, Bool.not_false] at hgd))) | (refine gc_Z ?_ ?_ <;> intro _) | fail)
      refine cont_map (L' := [diskP b d1, pts b3 (.cells [.pointer (some ⟨b, 0, none⟩)].toArray 37), pts b4 (.cells [.string nm].toArray 9), pts b7 (.cells [.string s].toArray 9), pts b9 (.cells [.string (nm ++ dotNew)].toArray 9), A] ++ R) entD ?_
      refine cont_back (2, d1) ⟨by simp, rfl, hok, by dsimp only; omega, ⟨rfl, rfl, trivial⟩, rfl⟩ (by show 5 - 2 < 5 - 1; omega)
  · have t0 : decide (((2 : Nat) : Int) < 5) = true := by decide
    have hv := vspec_bound (args := []) (sync_spec b x hx)
    have hst := step2 nm s x
    have hg := @run_good nm s 2 x
    have hb := @run_bad nm s 2 x
    have hok := step_ok (nm := nm) (i := 2) hx hsz
    have hlo := step_loose nm s 2 x
    rw [show (4 - 2 : Nat) = 2 from rfl] at hg hb
    rw [hst] at hg hb hok hlo
    rw [show (5 - 2 : Nat) = 2 + 1 from rfl]
    generalize x.sync = rr at hv hg hb hok hlo
    obtain ⟨d1, e1⟩ := rr
    dsimp only at hv hg hb hok hlo
    cases u1 : (!decide (e1 = 0)) with
    | true =>
      rw [hb (by simpa using u1)]
      repeat' (first | (refine go_Z ?_; intros) | (refine gs_Z ?_ ?_ <;> (intro hgd; try (simp only [Bool.not_true, Bool.not_false] at hgd))) | (refine gc_Z ?_ ?_ <;> intro _) | fail)
      refine clV_Z (hv) ?_
      intro _ _
      repeat' (first | (refine go_Z ?_; intros) | (refine gs_Z ?_ ?_ <;> (intro hgd; try (simp only [Bool.not_true, Bool.not_false] at hgd))) | (refine gc_Z ?_ ?_ <;> intro _) | fail)
      (refine rt_Z (y := ()) (hrs := Try.results50) (hv := ?_) (hφ := ?_))
      · rfl
      · trivial
    | false =>
      rw [hg (by simpa using u1)]
      repeat' (first | (refine go_Z ?_; intros) | (refine gs_Z ?_ ?_ <;> (intro hgd; try (simp only [Bool.not_true, Bool.not_false] at hgd))) | (refine gc_Z ?_ ?_ <;> intro _) | fail)
      refine clV_Z (hv) ?_
      intro _ _
      repeat' (first | (refine go_Z ?_; intros) | (refine gs_Z ?_ ?_ <;> (intro hgd; try (simp only [Bool.not_true, Bool.not_false] at hgd))) | (refine gc_Z ?_ ?_ <;> intro _) | fail)
      refine cont_map (L' := [diskP b d1, pts b3 (.cells [.pointer (some ⟨b, 0, none⟩)].toArray 37), pts b4 (.cells [.string nm].toArray 9), pts b7 (.cells [.string s].toArray 9), pts b9 (.cells [.string (nm ++ dotNew)].toArray 9), A] ++ R) entD ?_
      refine cont_back (3, d1) ⟨by simp, rfl, hok, by dsimp only; omega, ⟨rfl, rfl, trivial⟩, rfl⟩ (by show 5 - 3 < 5 - 2; omega)
  · have t0 : decide (((3 : Nat) : Int) < 5) = true := by decide
    have hv := vspec_func (args := []) (cap := [.pointer (some ⟨b3, 0, none⟩), .pointer (some ⟨b9, 0, none⟩), .pointer (some ⟨b4, 0, none⟩)]) (Save3_spec b b3 b9 b4 x (nm ++ dotNew) nm hx (by omega) (by omega) (by omega))
    have hst := step3 nm s x
    have hg := @run_good nm s 1 x
    have hb := @run_bad nm s 1 x
    have hok := step_ok (nm := nm) (i := 3) hx hsz
    have hlo := step_loose nm s 3 x
    rw [show (4 - 1 : Nat) = 3 from rfl] at hg hb
    rw [hst] at hg hb hok hlo
    rw [show (5 - 3 : Nat) = 1 + 1 from rfl]
    generalize x.rename (nm ++ dotNew) nm = rr at hv hg hb hok hlo
    obtain ⟨d1, e1⟩ := rr
    dsimp only at hv hg hb hok hlo
    cases u1 : (!decide (e1 = 0)) with
    | true =>
      rw [hb (by simpa using u1)]
      repeat' (first | (refine go_Z ?_; intros) | (refine gs_Z ?_ ?_ <;> (intro hgd; try (simp only [Bool.not_true, Bool.not_false] at hgd))) | (refine gc_Z ?_ ?_ <;> intro _) | fail)
      refine clV_Z (hv) ?_
      intro _ _
      repeat' (first | (refine go_Z ?_; intros) | (refine gs_Z ?_ ?_ <;> (intro hgd; try (simp only [Bool.not_true, Bool.not_false] at hgd))) | (refine gc_Z ?_ ?_ <;> intro _) | fail)
      (refine rt_Z (y := ()) (hrs := Try.results50) (hv := ?_) (hφ := ?_))
      · rfl
      · trivial
    | false =>
      rw [hg (by simpa using u1)]
      repeat' (first | (refine go_Z ?_; intros) | (refine gs_Z ?_ ?_ <;> (intro hgd; try (simp only [Bool.not_true, Bool.not_false] at hgd))) | (refine gc_Z ?_ ?_ <;> intro _) | fail)
      refine clV_Z (hv) ?_
      intro _ _
      repeat' (first | (refine go_Z ?_; intros) | (refine gs_Z ?_ ?_ <;> (intro hgd; try (simp only [Bool.not_true, Bool.not_false] at hgd))) | (refine gc_Z ?_ ?_ <;> intro _) | fail)
      refine cont_map (L' := [diskP b d1, pts b3 (.cells [.pointer (some ⟨b, 0, none⟩)].toArray 37), pts b4 (.cells [.string nm].toArray 9), pts b7 (.cells [.string s].toArray 9), pts b9 (.cells [.string (nm ++ dotNew)].toArray 9), A] ++ R) entD ?_
      refine cont_back (4, d1) ⟨by simp, rfl, hok, by dsimp only; omega, ⟨rfl, rfl, trivial⟩, rfl⟩ (by show 5 - 4 < 5 - 3; omega)
  · have t0 : decide (((4 : Nat) : Int) < 5) = true := by decide
    have hv := vspec_bound (args := []) (sync_spec b x hx)
    have hst := step4 nm s x
    have hg := @run_good nm s 0 x
    have hb := @run_bad nm s 0 x
    have hok := step_ok (nm := nm) (i := 4) hx hsz
    have hlo := step_loose nm s 4 x
    rw [show (4 - 0 : Nat) = 4 from rfl] at hg hb
    rw [hst] at hg hb hok hlo
    rw [show (5 - 4 : Nat) = 0 + 1 from rfl]
    generalize x.sync = rr at hv hg hb hok hlo
    obtain ⟨d1, e1⟩ := rr
    dsimp only at hv hg hb hok hlo
    cases u1 : (!decide (e1 = 0)) with
    | true =>
      rw [hb (by simpa using u1)]
      repeat' (first | (refine go_Z ?_; intros) | (refine gs_Z ?_ ?_ <;> (intro hgd; try (simp only [Bool.not_true, Bool.not_false] at hgd))) | (refine gc_Z ?_ ?_ <;> intro _) | fail)
      refine clV_Z (hv) ?_
      intro _ _
      repeat' (first | (refine go_Z ?_; intros) | (refine gs_Z ?_ ?_ <;> (intro hgd; try (simp only [Bool.not_true, Bool.not_false] at hgd))) | (refine gc_Z ?_ ?_ <;> intro _) | fail)
      (refine rt_Z (y := ()) (hrs := Try.results50) (hv := ?_) (hφ := ?_))
      · rfl
      · trivial
    | false =>
      rw [hg (by simpa using u1)]
      repeat' (first | (refine go_Z ?_; intros) | (refine gs_Z ?_ ?_ <;> (intro hgd; try (simp only [Bool.not_true, Bool.not_false] at hgd))) | (refine gc_Z ?_ ?_ <;> intro _) | fail)
      refine clV_Z (hv) ?_
      intro _ _
      repeat' (first | (refine go_Z ?_; intros) | (refine gs_Z ?_ ?_ <;> (intro hgd; try (simp only [Bool.not_true, Bool.not_false] at hgd))) | (refine gc_Z ?_ ?_ <;> intro _) | fail)
      refine cont_map (L' := [diskP b d1, pts b3 (.cells [.pointer (some ⟨b, 0, none⟩)].toArray 37), pts b4 (.cells [.string nm].toArray 9), pts b7 (.cells [.string s].toArray 9), pts b9 (.cells [.string (nm ++ dotNew)].toArray 9), A] ++ R) entD ?_
      refine cont_back (5, d1) ⟨by simp, rfl, hok, by dsimp only; omega, ⟨rfl, rfl, trivial⟩, rfl⟩ (by show 5 - 5 < 5 - 4; omega)
  · have t0 : decide (((5 : Nat) : Int) < 5) = false := by decide
    rw [show (5 - 5 : Nat) = 0 from rfl, run_zero]
    repeat' (first | (refine go_Z ?_; intros) | (refine gs_Z ?_ ?_ <;> (intro hgd; try (simp only [Bool.not_true, Bool.not_false] at hgd))) | (refine gc_Z ?_ ?_ <;> intro _) | fail)
    (refine rt_Z (y := ()) (hrs := Try.results50) (hv := ?_) (hφ := ?_))
    · rfl
    · trivial

theorem Load_spec (b : Nat) (d : Dk) (nm : BA) (hd : d.Ok) (hn : nm.size ≤ 4611686018427387904) :
    FSpec Try.prog 49 [.pointer (some ⟨b, 0, none⟩), .string nm] [diskP b d] { v : Value // v.oneCell' = true } (fun _ => True) (fun v => .tuple #[.agg (manV (loadD nm d).1 v.1).toArray, .int .i64 (loadD nm d).2]) (fun v => [row 60 1 v.1 ((loadD nm d).1.runs.map uV), diskP b d]) := by
  have hr := read_spec b d nm 0 16777216 hn
  have hz : (d.read nm 0 16777216).1.size ≤ 16777216 := by
    unfold Dk.read
    split
    · exact Nat.zero_le 16777216
    · split
      · exact Nat.zero_le 16777216
      · split
        · exact Nat.zero_le 16777216
        · unfold cut
          simp only [ByteArray.size_extract]
          split <;> omega
  unfold loadD
  generalize d.read nm 0 16777216 = rd at hr hz
  obtain ⟨s, e⟩ := rd
  dsimp only at hr hz ⊢
  cases u1 : (!decide (e = 0)) with
  | true =>
    rw [if_pos (by simpa using u1)]
    refine spec_intro [] _ Try.func49 rfl Try.ntmps49 (by rfl) (fun w0 R => ?_)
    repeat' (first | (refine go_Z ?_; intros) | (refine gs_Z ?_ ?_ <;> (intro hgd; try (simp only [Bool.not_true, Bool.not_false] at hgd))) | (refine gc_Z ?_ ?_ <;> intro _) | fail)
    refine cl_Z (hr) ?_
    intro _ _
    repeat' (first | (refine go_Z ?_; intros) | (refine gs_Z ?_ ?_ <;> (intro hgd; try (simp only [Bool.not_true, Bool.not_false] at hgd))) | (refine gc_Z ?_ ?_ <;> intro _) | fail)
    refine cont_map (fun _ h => rowNil (e := 60) (n := 1) h) ?_
    (refine rt_Z (y := ⟨.slice none 0 0, rfl⟩) (hrs := Try.results49) (hv := ?_) (hφ := ?_))
    · rfl
    · trivial
  | false =>
    rw [if_neg (by simpa using u1)]
    have hg := mGet_spec s (by omega)
    generalize getM s = g at hg
    obtain ⟨m, e2⟩ := g
    dsimp only at hg ⊢
    refine spec_intro [] _ Try.func49 rfl Try.ntmps49 (by rfl) (fun w0 R => ?_)
    repeat' (first | (refine go_Z ?_; intros) | (refine gs_Z ?_ ?_ <;> (intro hgd; try (simp only [Bool.not_true, Bool.not_false] at hgd))) | (refine gc_Z ?_ ?_ <;> intro _) | fail)
    refine cl_Z (hr) ?_
    intro _ _
    repeat' (first | (refine go_Z ?_; intros) | (refine gs_Z ?_ ?_ <;> (intro hgd; try (simp only [Bool.not_true, Bool.not_false] at hgd))) | (refine gc_Z ?_ ?_ <;> intro _) | fail)
    refine cl_Z (hg) ?_
    rintro ⟨v, hv⟩ _
    repeat' (first | (refine go_Z ?_; intros) | (refine gs_Z ?_ ?_ <;> (intro hgd; try (simp only [Bool.not_true, Bool.not_false] at hgd))) | (refine gc_Z ?_ ?_ <;> intro _) | fail)
    (refine rt_Z (y := ⟨v, hv⟩) (hrs := Try.results49) (hv := ?_) (hφ := ?_))
    · rfl
    · trivial
end Go.Proofs.Ytgmobpngcilgjaa
