/- The walks of txn.Txn.Abort, Check. -/
import Derived.Test.YtbagfdolcabniaaDoorTxD
-- @DEFS Y
set_option linter.unusedSimpArgs false
set_option linter.unusedVariables false
set_option maxRecDepth 100000
set_option pp.deepTerms true
set_option pp.maxSteps 200000
namespace Go.Pl
open Go
def Tx.abortT (x : Tx) : Tx := { x with over := true }
def Tx.checkT (x : Tx) (on : Rl) : Int := if x.over then 150 else if on.turns ≠ x.t0 then 151 else bif x.own.whole then 0 else 140
end Go.Pl
namespace Go.Proofs.YtbagfdolcabniaaDoor
open Go Go.Fx Go.Proofs Go.Pl

theorem tx_over {P : HProp} {b bn bw : Nat} {x : Tx} {vr vl : Value} {rs : List Rm} {cs : List Cm} (hy : TxOK P x ⟨bw, vr, rs, vl, cs⟩) {L : List HProp} {h : Frag}
    (s : SatL ([pts b (.cells [.pointer (some ⟨bn, 0, none⟩), .pointer (some ⟨bw, 0, none⟩), .int .u64 x.t0, vr, vl, .bool true].toArray 122), row 124 1 vr (rs.map rmF), row 82 4 vl (cs.map cmV), relP P bw x.own] ++ L) h) : SatL (txP P b bn x.abortT :: L) h :=
  tx_in (x := x.abortT) (y := ⟨bw, vr, rs, vl, cs⟩) ⟨hy.vr, hy.vl, hy.rs, hy.redo, hy.cs, hy.l⟩ s
theorem txAbort1_spec (b bn bt : Nat) (x : Tx) (P : HProp) : FSpec Tryd.prog 82 [.pointer (some ⟨bt, 0, none⟩)] [txP P b bn x, pts bt (.cells [.pointer (some ⟨b, 0, none⟩)].toArray 50)] Unit (fun _ => True) (fun _ => .int .i64 0) (fun _ => [txP P b bn x.abortT]) := by
  refine fspec_ex ?_
  rintro ⟨⟨bw, vr, rs, vl, cs⟩, hy⟩
  unfold txL
  dsimp only
  refine spec_intro [] _ Tryd.func82 rfl Tryd.ntmps82 (by rfl) (fun w0 R => ?_)
  repeat' (first | (refine go_Y ?_; intros) | (refine gs_Y ?_ ?_ <;> (intro hgd; try (simp only [Bool.not_true, Bool.not_false] at hgd))) | (refine gc_Y ?_ ?_ <;> intro _) | fail)
  refine cont_map (fun _ h => tx_over hy (Take.out takeD h)) ?_
  (refine rt_Y (y := ()) (hrs := Tryd.results82) (hv := ?_) (hφ := ?_))
  · rfl
  · trivial
theorem txAbort_spec (b bn : Nat) (x : Tx) (P : HProp) : FSpec Tryd.prog 40 [.pointer (some ⟨b, 0, none⟩)] [txP P b bn x] Unit (fun _ => True) (fun _ => .int .i64 (if x.over then 150 else 0)) (fun _ => [txP P b bn x.abortT]) := by
  have h1 := fun bt => txAbort1_spec b bn bt x P
  refine spec_intro [] _ Tryd.func40 rfl Tryd.ntmps40 (by rfl) (fun w0 R => ?_)
  repeat' (first | (refine go_Y ?_; intros) | (refine gs_Y ?_ ?_ <;> (intro hgd; try (simp only [Bool.not_true, Bool.not_false] at hgd))) | (refine gc_Y ?_ ?_ <;> intro _) | fail)
  rename_i bt
  have hm := mayV_spec b bn x P [pts bt (.cells [.pointer (some ⟨b, 0, none⟩)].toArray 50)]
  cases hov : x.over with
  | true =>
    have ha : x.abortT = x := by unfold Tx.abortT; rw [← hov]
    rw [hov, cond_true] at hm
    rw [if_pos rfl, ha]
    refine cl_Y (when_no _ (.func (.func 82) #[] #[.pointer (some ⟨bt, 0, none⟩)]) 150 (by decide) _ _ hm) ?_
    intro _ _
    repeat' (first | (refine go_Y ?_; intros) | (refine gs_Y ?_ ?_ <;> (intro hgd; try (simp only [Bool.not_true, Bool.not_false] at hgd))) | (refine gc_Y ?_ ?_ <;> intro _) | fail)
    (refine rt_Y (y := ()) (hrs := Tryd.results40) (hv := ?_) (hφ := ?_))
    · rfl
    · trivial
  | false =>
    rw [hov, cond_false] at hm
    rw [if_neg (by simp)]
    have hd := vspec_func (args := []) (cap := [.pointer (some ⟨bt, 0, none⟩)]) (h1 bt)
    refine cl_Y (when_yes _ _ _ _ hm (g := fun _ => 0) hd) ?_
    intro _ _
    repeat' (first | (refine go_Y ?_; intros) | (refine gs_Y ?_ ?_ <;> (intro hgd; try (simp only [Bool.not_true, Bool.not_false] at hgd))) | (refine gc_Y ?_ ?_ <;> intro _) | fail)
    (refine rt_Y (y := ()) (hrs := Tryd.results40) (hv := ?_) (hφ := ?_))
    · rfl
    · trivial
theorem nil_Abort : FSpec Tryd.prog 40 [.pointer none] [] Unit (fun _ => True) (fun _ => .int .i64 1) (fun _ => []) := by
  refine spec_intro [] _ Tryd.func40 rfl Tryd.ntmps40 (by rfl) (fun w0 R => ?_)
  repeat' (first | (refine go_Y ?_; intros) | (refine gs_Y ?_ ?_ <;> (intro hgd; try (simp only [Bool.not_true, Bool.not_false] at hgd))) | (refine gc_Y ?_ ?_ <;> intro _) | fail)
  rename_i bt
  refine cl_Y (when_no _ (.func (.func 82) #[] #[.pointer (some ⟨bt, 0, none⟩)]) 1 (by decide) _ _ (vspec_bound (args := []) may_nil)) ?_
  intro _ _
  repeat' (first | (refine go_Y ?_; intros) | (refine gs_Y ?_ ?_ <;> (intro hgd; try (simp only [Bool.not_true, Bool.not_false] at hgd))) | (refine gc_Y ?_ ?_ <;> intro _) | fail)
  (refine rt_Y (y := ()) (hrs := Tryd.results40) (hv := ?_) (hφ := ?_))
  · rfl
  · trivial

/-! ### Check -/
theorem txCheck1_spec (b bn bt : Nat) (x : Tx) (on : Rl) (P : HProp) (hx : x.Ok) (hov : x.over = false) (y : { y : TxY // TxOK P x y }) : FSpec Tryd.prog 81 [.pointer (some ⟨bt, 0, none⟩)] (txL P b bn x y ++ [relP P bn on, P, pts bt (.cells [.pointer (some ⟨b, 0, none⟩)].toArray 50)]) Unit (fun _ => True)
    (fun _ => .int .i64 (x.checkT on)) (fun _ => txL P b bn x y ++ [relP P bn on, P]) := by
  obtain ⟨⟨bw, vr, rs, vl, cs⟩, hy⟩ := y
  unfold txL
  dsimp only
  have ht := relTurns_spec bn on P
  have hw := relWhole_spec bw x.own P hx.own
  unfold Tx.checkT
  rw [hov, if_neg (by simp)]
  cases t1 : (!decide (on.turns = x.t0)) with
  | true =>
    rw [if_pos (by simpa using t1)]
    refine spec_intro [] _ Tryd.func81 rfl Tryd.ntmps81 (by rfl) (fun w0 R => ?_)
    repeat' (first | (refine go_Y ?_; intros) | (refine gs_Y ?_ ?_ <;> (intro hgd; try (simp only [Bool.not_true, Bool.not_false] at hgd))) | (refine gc_Y ?_ ?_ <;> intro _) | fail)
    refine ok_drawL (cv := []) [4] ([pts b (.cells [.pointer (some ⟨bn, 0, none⟩), .pointer (some ⟨bw, 0, none⟩), .int .u64 x.t0, vr, vl, .bool false].toArray 122), pts bt (.cells [.pointer (some ⟨b, 0, none⟩)].toArray 50)]) (takeD) (by kernel_rfl) rfl (by decide +kernel) ?_
    repeat' (first | (refine go_Y ?_; intros) | (refine gs_Y ?_ ?_ <;> (intro hgd; try (simp only [Bool.not_true, Bool.not_false] at hgd))) | (refine gc_Y ?_ ?_ <;> intro _) | fail)
    refine clN_Y (ht) ?_
    intro _ _
    repeat' (first | (refine go_Y ?_; intros) | (refine gs_Y ?_ ?_ <;> (intro hgd; try (simp only [Bool.not_true, Bool.not_false] at hgd))) | (refine gc_Y ?_ ?_ <;> intro _) | fail)
    (refine rt_Y (y := ()) (hrs := Tryd.results81) (hv := ?_) (hφ := ?_))
    · rfl
    · trivial
  | false =>
    rw [if_neg (by simpa using t1)]
    refine spec_intro [] _ Tryd.func81 rfl Tryd.ntmps81 (by rfl) (fun w0 R => ?_)
    repeat' (first | (refine go_Y ?_; intros) | (refine gs_Y ?_ ?_ <;> (intro hgd; try (simp only [Bool.not_true, Bool.not_false] at hgd))) | (refine gc_Y ?_ ?_ <;> intro _) | fail)
    refine ok_drawL (cv := []) [4] ([pts b (.cells [.pointer (some ⟨bn, 0, none⟩), .pointer (some ⟨bw, 0, none⟩), .int .u64 x.t0, vr, vl, .bool false].toArray 122), pts bt (.cells [.pointer (some ⟨b, 0, none⟩)].toArray 50)]) (takeD) (by kernel_rfl) rfl (by decide +kernel) ?_
    repeat' (first | (refine go_Y ?_; intros) | (refine gs_Y ?_ ?_ <;> (intro hgd; try (simp only [Bool.not_true, Bool.not_false] at hgd))) | (refine gc_Y ?_ ?_ <;> intro _) | fail)
    refine clN_Y (ht) ?_
    intro _ _
    repeat' (first | (refine go_Y ?_; intros) | (refine gs_Y ?_ ?_ <;> (intro hgd; try (simp only [Bool.not_true, Bool.not_false] at hgd))) | (refine gc_Y ?_ ?_ <;> intro _) | fail)
    refine cl_Y (hw) ?_
    intro _ _
    repeat' (first | (refine go_Y ?_; intros) | (refine gs_Y ?_ ?_ <;> (intro hgd; try (simp only [Bool.not_true, Bool.not_false] at hgd))) | (refine gc_Y ?_ ?_ <;> intro _) | fail)
    (refine rt_Y (y := ()) (hrs := Tryd.results81) (hv := ?_) (hφ := ?_))
    · rfl
    · trivial
theorem txCheckL_spec (b bn : Nat) (x : Tx) (on : Rl) (P : HProp) (hx : x.Ok) (y : { y : TxY // TxOK P x y }) : FSpec Tryd.prog 39 [.pointer (some ⟨b, 0, none⟩)] (txL P b bn x y ++ [relP P bn on, P]) Unit (fun _ => True)
    (fun _ => .int .i64 (x.checkT on)) (fun _ => txL P b bn x y ++ [relP P bn on, P]) := by
  have h1 := fun bt hov => txCheck1_spec b bn bt x on P hx hov y
  obtain ⟨⟨bw, vr, rs, vl, cs⟩, hy⟩ := y
  unfold txL at h1 ⊢
  dsimp only at h1 ⊢
  refine spec_intro [] _ Tryd.func39 rfl Tryd.ntmps39 (by rfl) (fun w0 R => ?_)
  repeat' (first | (refine go_Y ?_; intros) | (refine gs_Y ?_ ?_ <;> (intro hgd; try (simp only [Bool.not_true, Bool.not_false] at hgd))) | (refine gc_Y ?_ ?_ <;> intro _) | fail)
  rename_i bt
  have hm := vspec_frame (vspec_bound (args := []) (may_spec b (.pointer (some ⟨bn, 0, none⟩)) (.pointer (some ⟨bw, 0, none⟩)) (.int .u64 x.t0) vr vl x.over)) [row 124 1 vr (rs.map rmF), row 82 4 vl (cs.map cmV), relP P bw x.own, relP P bn on, P, pts bt (.cells [.pointer (some ⟨b, 0, none⟩)].toArray 50)]
  cases hov : x.over with
  | true =>
    rw [hov, cond_true] at hm
    have he : x.checkT on = 150 := by unfold Tx.checkT; rw [hov, if_pos rfl]
    rw [he]
    refine cl_Y (when_no _ (.func (.func 81) #[] #[.pointer (some ⟨bt, 0, none⟩)]) 150 (by decide) _ _ hm) ?_
    intro _ _
    repeat' (first | (refine go_Y ?_; intros) | (refine gs_Y ?_ ?_ <;> (intro hgd; try (simp only [Bool.not_true, Bool.not_false] at hgd))) | (refine gc_Y ?_ ?_ <;> intro _) | fail)
    (refine rt_Y (y := ()) (hrs := Tryd.results39) (hv := ?_) (hφ := ?_))
    · rfl
    · trivial
  | false =>
    rw [hov, cond_false] at hm
    have hd := vspec_func (args := []) (cap := [.pointer (some ⟨bt, 0, none⟩)]) (h1 bt hov)
    rw [hov] at hd
    refine cl_Y (when_yes _ _ _ _ hm (g := fun _ => x.checkT on) hd) ?_
    intro _ _
    repeat' (first | (refine go_Y ?_; intros) | (refine gs_Y ?_ ?_ <;> (intro hgd; try (simp only [Bool.not_true, Bool.not_false] at hgd))) | (refine gc_Y ?_ ?_ <;> intro _) | fail)
    (refine rt_Y (y := ()) (hrs := Tryd.results39) (hv := ?_) (hφ := ?_))
    · rfl
    · trivial
theorem txCheck_spec (b bn : Nat) (x : Tx) (on : Rl) (P : HProp) (hx : x.Ok) : FSpec Tryd.prog 39 [.pointer (some ⟨b, 0, none⟩)] [txP P b bn x, relP P bn on, P] Unit (fun _ => True)
    (fun _ => .int .i64 (x.checkT on)) (fun _ => [txP P b bn x, relP P bn on, P]) := by
  refine fspec_ex ?_
  intro y
  exact (txCheckL_spec b bn x on P hx y).conseq (fun _ _ s => s) (fun _ _ => ⟨(), trivial, rfl, fun R h s => tx_in (y := y.1) y.2 s⟩)
theorem nil_Check : FSpec Tryd.prog 39 [.pointer none] [] Unit (fun _ => True) (fun _ => .int .i64 1) (fun _ => []) := by
  refine spec_intro [] _ Tryd.func39 rfl Tryd.ntmps39 (by rfl) (fun w0 R => ?_)
  repeat' (first | (refine go_Y ?_; intros) | (refine gs_Y ?_ ?_ <;> (intro hgd; try (simp only [Bool.not_true, Bool.not_false] at hgd))) | (refine gc_Y ?_ ?_ <;> intro _) | fail)
  rename_i bt
  refine cl_Y (when_no _ (.func (.func 81) #[] #[.pointer (some ⟨bt, 0, none⟩)]) 1 (by decide) _ _ (vspec_bound (args := []) may_nil)) ?_
  intro _ _
  repeat' (first | (refine go_Y ?_; intros) | (refine gs_Y ?_ ?_ <;> (intro hgd; try (simp only [Bool.not_true, Bool.not_false] at hgd))) | (refine gc_Y ?_ ?_ <;> intro _) | fail)
  (refine rt_Y (y := ()) (hrs := Tryd.results39) (hv := ?_) (hφ := ?_))
  · rfl
  · trivial
theorem nil_Changes : FSpec Tryd.prog 38 [.pointer none] [] Unit (fun _ => True) (fun _ => .slice none 0 0) (fun _ => []) := by
  refine spec_intro [] _ Tryd.func38 rfl Tryd.ntmps38 (by rfl) (fun w0 R => ?_)
  repeat' (first | (refine go_Y ?_; intros) | (refine gs_Y ?_ ?_ <;> (intro hgd; try (simp only [Bool.not_true, Bool.not_false] at hgd))) | (refine gc_Y ?_ ?_ <;> intro _) | fail)
  (refine rt_Y (y := ()) (hrs := Tryd.results38) (hv := ?_) (hφ := ?_))
  · rfl
  · trivial
theorem nil_Commit : FSpec Tryd.prog 37 [.pointer none] [] Unit (fun _ => True) (fun _ => .tuple #[.slice none 0 0, .int .i64 1]) (fun _ => []) := by
  refine spec_intro [] _ Tryd.func37 rfl Tryd.ntmps37 (by rfl) (fun w0 R => ?_)
  repeat' (first | (refine go_Y ?_; intros) | (refine gs_Y ?_ ?_ <;> (intro hgd; try (simp only [Bool.not_true, Bool.not_false] at hgd))) | (refine gc_Y ?_ ?_ <;> intro _) | fail)
  refine cl_Y (nil_Check) ?_
  intro _ _
  repeat' (first | (refine go_Y ?_; intros) | (refine gs_Y ?_ ?_ <;> (intro hgd; try (simp only [Bool.not_true, Bool.not_false] at hgd))) | (refine gc_Y ?_ ?_ <;> intro _) | fail)
  (refine rt_Y (y := ()) (hrs := Tryd.results37) (hv := ?_) (hφ := ?_))
  · rfl
  · trivial
end Go.Proofs.YtbagfdolcabniaaDoor
