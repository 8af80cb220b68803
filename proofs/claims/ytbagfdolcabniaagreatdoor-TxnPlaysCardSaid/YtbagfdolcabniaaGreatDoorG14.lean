/- Texts merged: TxE TxF TxG TxH. -/
import Derived.Test.YtbagfdolcabniaaGreatDoorG12
/- The walks of txn.Txn.Abort, Check. -/
-- @DEFS Y
set_option linter.unusedSimpArgs false
set_option linter.unusedVariables false
set_option maxRecDepth 100000
set_option pp.deepTerms true
set_option pp.maxSteps 200000
namespace Go.Pl
open Go
def Tx.abortT (x : Tx) : Tx := { x with over := true }
def Tx.checkT (x : Tx) (on : Rl) : Int := if x.over then 150 else if on.turns ≠ x.t0 then 151 else bif x.own.whole then 0 else 140
end Go.Pl
namespace Go.Proofs.YtbagfdolcabniaaGreatDoor
open Go Go.Fx Go.Proofs Go.Pl

theorem tx_over {P : HProp} {b bn bw : Nat} {x : Tx} {vr vl : Value} {rs : List Rm} {cs : List Cm} (hy : TxOK P x ⟨bw, vr, rs, vl, cs⟩) {L : List HProp} {h : Frag}
    (s : SatL ([pts b (.cells [.pointer (some ⟨bn, 0, none⟩), .pointer (some ⟨bw, 0, none⟩), .int .u64 x.t0, vr, vl, .bool true].toArray 127), row 160 1 vr (rs.map rmF), row 129 4 vl (cs.map cmV), relP P bw x.own] ++ L) h) : SatL (txP P b bn x.abortT :: L) h :=
  tx_in (x := x.abortT) (y := ⟨bw, vr, rs, vl, cs⟩) ⟨hy.vr, hy.vl, hy.rs, hy.redo, hy.cs, hy.l⟩ s
theorem txAbort1_spec (b bn bt : Nat) (x : Tx) (P : HProp) : FSpec Tryz.prog 107 [.pointer (some ⟨bt, 0, none⟩)] [txP P b bn x, pts bt (.cells [.pointer (some ⟨b, 0, none⟩)].toArray 58)] Unit (fun _ => True) (fun _ => .int .i64 0) (fun _ => [txP P b bn x.abortT]) := by
  refine fspec_ex ?_
  rintro ⟨⟨bw, vr, rs, vl, cs⟩, hy⟩
  unfold txL
  dsimp only
  refine spec_intro [] _ Tryz.func107 rfl Tryz.ntmps107 (by rfl) (fun w0 R => ?_)
  repeat' (first | (refine go_Y ?_; intros) | (refine gs_Y ?_ ?_ <;> (intro hgd; try (simp only [Bool.not_true, Bool.not_false] at hgd))) | (refine gc_Y ?_ ?_ <;> intro _) | fail)
  refine cont_map (fun _ h => tx_over hy (Take.out takeD h)) ?_
  (refine rt_Y (y := ()) (hrs := Tryz.results107) (hv := ?_) (hφ := ?_))
  · rfl
  · trivial
theorem txAbort_spec (b bn : Nat) (x : Tx) (P : HProp) : FSpec Tryz.prog 73 [.pointer (some ⟨b, 0, none⟩)] [txP P b bn x] Unit (fun _ => True) (fun _ => .int .i64 (if x.over then 150 else 0)) (fun _ => [txP P b bn x.abortT]) := by
  have h1 := fun bt => txAbort1_spec b bn bt x P
  refine spec_intro [] _ Tryz.func73 rfl Tryz.ntmps73 (by rfl) (fun w0 R => ?_)
  repeat' (first | (refine go_Y ?_; intros) | (refine gs_Y ?_ ?_ <;> (intro hgd; try (simp only [Bool.not_true, Bool.not_false] at hgd))) | (refine gc_Y ?_ ?_ <;> intro _) | fail)
  rename_i bt
  have hm := mayV_spec b bn x P [pts bt (.cells [.pointer (some ⟨b, 0, none⟩)].toArray 58)]
  cases hov : x.over with
  | true =>
    have ha : x.abortT = x := by unfold Tx.abortT; rw [← hov]
    rw [hov, cond_true] at hm
    rw [if_pos rfl, ha]
    refine cl_Y (when_no _ (.func (.func 107) #[] #[.pointer (some ⟨bt, 0, none⟩)]) 150 (by decide) _ _ hm) ?_
    intro _ _
    repeat' (first | (refine go_Y ?_; intros) | (refine gs_Y ?_ ?_ <;> (intro hgd; try (simp only [Bool.not_true, Bool.not_false] at hgd))) | (refine gc_Y ?_ ?_ <;> intro _) | fail)
    (refine rt_Y (y := ()) (hrs := Tryz.results73) (hv := ?_) (hφ := ?_))
    · rfl
    · trivial
  | false =>
    rw [hov, cond_false] at hm
    rw [if_neg (by simp)]
    have hd := vspec_func (args := []) (cap := [.pointer (some ⟨bt, 0, none⟩)]) (h1 bt)
    refine cl_Y (when_yes _ _ _ _ hm (g := fun _ => 0) hd) ?_
    intro _ _
    repeat' (first | (refine go_Y ?_; intros) | (refine gs_Y ?_ ?_ <;> (intro hgd; try (simp only [Bool.not_true, Bool.not_false] at hgd))) | (refine gc_Y ?_ ?_ <;> intro _) | fail)
    (refine rt_Y (y := ()) (hrs := Tryz.results73) (hv := ?_) (hφ := ?_))
    · rfl
    · trivial
theorem nil_Abort : FSpec Tryz.prog 73 [.pointer none] [] Unit (fun _ => True) (fun _ => .int .i64 1) (fun _ => []) := by
  refine spec_intro [] _ Tryz.func73 rfl Tryz.ntmps73 (by rfl) (fun w0 R => ?_)
  repeat' (first | (refine go_Y ?_; intros) | (refine gs_Y ?_ ?_ <;> (intro hgd; try (simp only [Bool.not_true, Bool.not_false] at hgd))) | (refine gc_Y ?_ ?_ <;> intro _) | fail)
  rename_i bt
  refine cl_Y (when_no _ (.func (.func 107) #[] #[.pointer (some ⟨bt, 0, none⟩)]) 1 (by decide) _ _ (vspec_bound (args := []) may_nil)) ?_
  intro _ _
  repeat' (first | (refine go_Y ?_; intros) | (refine gs_Y ?_ ?_ <;> (intro hgd; try (simp only [Bool.not_true, Bool.not_false] at hgd))) | (refine gc_Y ?_ ?_ <;> intro _) | fail)
  (refine rt_Y (y := ()) (hrs := Tryz.results73) (hv := ?_) (hφ := ?_))
  · rfl
  · trivial

/-! ### Check -/
theorem txCheck1_spec (b bn bt : Nat) (x : Tx) (on : Rl) (P : HProp) (hx : x.Ok) (hov : x.over = false) (y : { y : TxY // TxOK P x y }) : FSpec Tryz.prog 106 [.pointer (some ⟨bt, 0, none⟩)] (txL P b bn x y ++ [relP P bn on, P, pts bt (.cells [.pointer (some ⟨b, 0, none⟩)].toArray 58)]) Unit (fun _ => True)
    (fun _ => .int .i64 (x.checkT on)) (fun _ => txL P b bn x y ++ [relP P bn on, P]) := by
  obtain ⟨⟨bw, vr, rs, vl, cs⟩, hy⟩ := y
  unfold txL
  dsimp only
  have ht := relTurns_spec bn on P
  have hw := relWhole_spec bw x.own P hx.own
  unfold Tx.checkT
  rw [hov, if_neg (by simp)]
  cases t1 : (!decide (on.turns = x.t0)) with
  | true =>
    rw [if_pos (by simpa using t1)]
    refine spec_intro [] _ Tryz.func106 rfl Tryz.ntmps106 (by rfl) (fun w0 R => ?_)
    repeat' (first | (refine go_Y ?_; intros) | (refine gs_Y ?_ ?_ <;> (intro hgd; try (simp only [Bool.not_true, Bool.not_false] at hgd))) | (refine gc_Y ?_ ?_ <;> intro _) | fail)
    refine ok_drawL (cv := []) [4] ([pts b (.cells [.pointer (some ⟨bn, 0, none⟩), .pointer (some ⟨bw, 0, none⟩), .int .u64 x.t0, vr, vl, .bool false].toArray 127), pts bt (.cells [.pointer (some ⟨b, 0, none⟩)].toArray 58)]) (takeD) (by kernel_rfl) rfl (by decide +kernel) ?_
    repeat' (first | (refine go_Y ?_; intros) | (refine gs_Y ?_ ?_ <;> (intro hgd; try (simp only [Bool.not_true, Bool.not_false] at hgd))) | (refine gc_Y ?_ ?_ <;> intro _) | fail)
    refine clN_Y (ht) ?_
    intro _ _
    repeat' (first | (refine go_Y ?_; intros) | (refine gs_Y ?_ ?_ <;> (intro hgd; try (simp only [Bool.not_true, Bool.not_false] at hgd))) | (refine gc_Y ?_ ?_ <;> intro _) | fail)
    (refine rt_Y (y := ()) (hrs := Tryz.results106) (hv := ?_) (hφ := ?_))
    · rfl
    · trivial
  | false =>
    rw [if_neg (by simpa using t1)]
    refine spec_intro [] _ Tryz.func106 rfl Tryz.ntmps106 (by rfl) (fun w0 R => ?_)
    repeat' (first | (refine go_Y ?_; intros) | (refine gs_Y ?_ ?_ <;> (intro hgd; try (simp only [Bool.not_true, Bool.not_false] at hgd))) | (refine gc_Y ?_ ?_ <;> intro _) | fail)
    refine ok_drawL (cv := []) [4] ([pts b (.cells [.pointer (some ⟨bn, 0, none⟩), .pointer (some ⟨bw, 0, none⟩), .int .u64 x.t0, vr, vl, .bool false].toArray 127), pts bt (.cells [.pointer (some ⟨b, 0, none⟩)].toArray 58)]) (takeD) (by kernel_rfl) rfl (by decide +kernel) ?_
    repeat' (first | (refine go_Y ?_; intros) | (refine gs_Y ?_ ?_ <;> (intro hgd; try (simp only [Bool.not_true, Bool.not_false] at hgd))) | (refine gc_Y ?_ ?_ <;> intro _) | fail)
    refine clN_Y (ht) ?_
    intro _ _
    repeat' (first | (refine go_Y ?_; intros) | (refine gs_Y ?_ ?_ <;> (intro hgd; try (simp only [Bool.not_true, Bool.not_false] at hgd))) | (refine gc_Y ?_ ?_ <;> intro _) | fail)
    refine cl_Y (hw) ?_
    intro _ _
    repeat' (first | (refine go_Y ?_; intros) | (refine gs_Y ?_ ?_ <;> (intro hgd; try (simp only [Bool.not_true, Bool.not_false] at hgd))) | (refine gc_Y ?_ ?_ <;> intro _) | fail)
    (refine rt_Y (y := ()) (hrs := Tryz.results106) (hv := ?_) (hφ := ?_))
    · rfl
    · trivial
theorem txCheckL_spec (b bn : Nat) (x : Tx) (on : Rl) (P : HProp) (hx : x.Ok) (y : { y : TxY // TxOK P x y }) : FSpec Tryz.prog 70 [.pointer (some ⟨b, 0, none⟩)] (txL P b bn x y ++ [relP P bn on, P]) Unit (fun _ => True)
    (fun _ => .int .i64 (x.checkT on)) (fun _ => txL P b bn x y ++ [relP P bn on, P]) := by
  have h1 := fun bt hov => txCheck1_spec b bn bt x on P hx hov y
  obtain ⟨⟨bw, vr, rs, vl, cs⟩, hy⟩ := y
  unfold txL at h1 ⊢
  dsimp only at h1 ⊢
  refine spec_intro [] _ Tryz.func70 rfl Tryz.ntmps70 (by rfl) (fun w0 R => ?_)
  repeat' (first | (refine go_Y ?_; intros) | (refine gs_Y ?_ ?_ <;> (intro hgd; try (simp only [Bool.not_true, Bool.not_false] at hgd))) | (refine gc_Y ?_ ?_ <;> intro _) | fail)
  rename_i bt
  have hm := vspec_frame (vspec_bound (args := []) (may_spec b (.pointer (some ⟨bn, 0, none⟩)) (.pointer (some ⟨bw, 0, none⟩)) (.int .u64 x.t0) vr vl x.over)) [row 160 1 vr (rs.map rmF), row 129 4 vl (cs.map cmV), relP P bw x.own, relP P bn on, P, pts bt (.cells [.pointer (some ⟨b, 0, none⟩)].toArray 58)]
  cases hov : x.over with
  | true =>
    rw [hov, cond_true] at hm
    have he : x.checkT on = 150 := by unfold Tx.checkT; rw [hov, if_pos rfl]
    rw [he]
    refine cl_Y (when_no _ (.func (.func 106) #[] #[.pointer (some ⟨bt, 0, none⟩)]) 150 (by decide) _ _ hm) ?_
    intro _ _
    repeat' (first | (refine go_Y ?_; intros) | (refine gs_Y ?_ ?_ <;> (intro hgd; try (simp only [Bool.not_true, Bool.not_false] at hgd))) | (refine gc_Y ?_ ?_ <;> intro _) | fail)
    (refine rt_Y (y := ()) (hrs := Tryz.results70) (hv := ?_) (hφ := ?_))
    · rfl
    · trivial
  | false =>
    rw [hov, cond_false] at hm
    have hd := vspec_func (args := []) (cap := [.pointer (some ⟨bt, 0, none⟩)]) (h1 bt hov)
    rw [hov] at hd
    refine cl_Y (when_yes _ _ _ _ hm (g := fun _ => x.checkT on) hd) ?_
    intro _ _
    repeat' (first | (refine go_Y ?_; intros) | (refine gs_Y ?_ ?_ <;> (intro hgd; try (simp only [Bool.not_true, Bool.not_false] at hgd))) | (refine gc_Y ?_ ?_ <;> intro _) | fail)
    (refine rt_Y (y := ()) (hrs := Tryz.results70) (hv := ?_) (hφ := ?_))
    · rfl
    · trivial
theorem txCheck_spec (b bn : Nat) (x : Tx) (on : Rl) (P : HProp) (hx : x.Ok) : FSpec Tryz.prog 70 [.pointer (some ⟨b, 0, none⟩)] [txP P b bn x, relP P bn on, P] Unit (fun _ => True)
    (fun _ => .int .i64 (x.checkT on)) (fun _ => [txP P b bn x, relP P bn on, P]) := by
  refine fspec_ex ?_
  intro y
  exact (txCheckL_spec b bn x on P hx y).conseq (fun _ _ s => s) (fun _ _ => ⟨(), trivial, rfl, fun R h s => tx_in (y := y.1) y.2 s⟩)
theorem nil_Check : FSpec Tryz.prog 70 [.pointer none] [] Unit (fun _ => True) (fun _ => .int .i64 1) (fun _ => []) := by
  refine spec_intro [] _ Tryz.func70 rfl Tryz.ntmps70 (by rfl) (fun w0 R => ?_)
  repeat' (first | (refine go_Y ?_; intros) | (refine gs_Y ?_ ?_ <;> (intro hgd; try (simp only [Bool.not_true, Bool.not_false] at hgd))) | (refine gc_Y ?_ ?_ <;> intro _) | fail)
  rename_i bt
  refine cl_Y (when_no _ (.func (.func 106) #[] #[.pointer (some ⟨bt, 0, none⟩)]) 1 (by decide) _ _ (vspec_bound (args := []) may_nil)) ?_
  intro _ _
  repeat' (first | (refine go_Y ?_; intros) | (refine gs_Y ?_ ?_ <;> (intro hgd; try (simp only [Bool.not_true, Bool.not_false] at hgd))) | (refine gc_Y ?_ ?_ <;> intro _) | fail)
  (refine rt_Y (y := ()) (hrs := Tryz.results70) (hv := ?_) (hφ := ?_))
  · rfl
  · trivial
theorem nil_Changes : FSpec Tryz.prog 29 [.pointer none] [] Unit (fun _ => True) (fun _ => .slice none 0 0) (fun _ => []) := by
  refine spec_intro [] _ Tryz.func29 rfl Tryz.ntmps29 (by rfl) (fun w0 R => ?_)
  repeat' (first | (refine go_Y ?_; intros) | (refine gs_Y ?_ ?_ <;> (intro hgd; try (simp only [Bool.not_true, Bool.not_false] at hgd))) | (refine gc_Y ?_ ?_ <;> intro _) | fail)
  (refine rt_Y (y := ()) (hrs := Tryz.results29) (hv := ?_) (hφ := ?_))
  · rfl
  · trivial
theorem nil_Commit : FSpec Tryz.prog 69 [.pointer none] [] Unit (fun _ => True) (fun _ => .tuple #[.slice none 0 0, .int .i64 1]) (fun _ => []) := by
  refine spec_intro [] _ Tryz.func69 rfl Tryz.ntmps69 (by rfl) (fun w0 R => ?_)
  repeat' (first | (refine go_Y ?_; intros) | (refine gs_Y ?_ ?_ <;> (intro hgd; try (simp only [Bool.not_true, Bool.not_false] at hgd))) | (refine gc_Y ?_ ?_ <;> intro _) | fail)
  refine cl_Y (nil_Check) ?_
  intro _ _
  repeat' (first | (refine go_Y ?_; intros) | (refine gs_Y ?_ ?_ <;> (intro hgd; try (simp only [Bool.not_true, Bool.not_false] at hgd))) | (refine gc_Y ?_ ?_ <;> intro _) | fail)
  (refine rt_Y (y := ()) (hrs := Tryz.results69) (hv := ?_) (hφ := ?_))
  · rfl
  · trivial
end Go.Proofs.YtbagfdolcabniaaGreatDoor
/- The walk of txn.Txn.Changes. -/
-- @DEFS Y
set_option linter.unusedSimpArgs false
set_option linter.unusedVariables false
set_option maxRecDepth 100000
set_option pp.deepTerms true
set_option pp.maxSteps 200000
namespace Go.Proofs.YtbagfdolcabniaaGreatDoor
open Go Go.Fx Go.Proofs Go.Pl

theorem cloneCh_spec (u : Value) (A : HProp) (l : List Cm) (hu : Vw A 4 u (l.map cmV)) (hl : l.length ≤ 1000000) :
    FSpec Tryz.prog 76 [u] [A] { v : Value // v.oneCell' = true } (fun _ => True) (fun y => y.1) (fun y => [row 129 4 y.1 (l.map cmV), A]) := by
  have hlm : (l.map cmV).length = l.length := by simp
  refine spec_intro [] _ Tryz.func76 rfl Tryz.ntmps76 (by rfl) (fun w0 R => ?_)
  refine ok_learn (VwIn.slice (VwIn.here hu)) ?_
  rintro ⟨pu, cu, rfl⟩
  cases pu with
  | none =>
    refine ok_learn (vw_none hu) ?_
    intro hn
    repeat' (first | (refine go_Y ?_; intros) | (refine gs_Y ?_ ?_ <;> (intro hgd; try (simp only [Bool.not_true, Bool.not_false] at hgd))) | (refine gc_Y ?_ ?_ <;> intro _) | fail)
    refine cont_map (fun _ h => nilRow (e := 129) (n := 4) h) ?_
    rw [hn]
    (refine rt_Y (y := ⟨.slice none 0 0, rfl⟩) (hrs := Tryz.results76) (hv := ?_) (hφ := ?_))
    · rfl
    · trivial
  | some a =>
    repeat' (first | (refine go_Y ?_; intros) | (refine gs_Y ?_ ?_ <;> (intro hgd; try (simp only [Bool.not_true, Bool.not_false] at hgd))) | (refine gc_Y ?_ ?_ <;> intro _) | fail)
    rename_i v1 _ v2 hv2
    (refine rt_Y (y := ⟨v2, hv2⟩) (hrs := Tryz.results76) (hv := ?_) (hφ := ?_))
    · rfl
    · trivial

set_option maxHeartbeats 4000000 in
theorem txChanges_spec (b bn : Nat) (x : Tx) (P : HProp) (hx : x.Ok) : FSpec Tryz.prog 29 [.pointer (some ⟨b, 0, none⟩)] [txP P b bn x, P] (V1s × List Cm × HProp)
    (fun y => Ext P y.2.2 ∧ (∀ c ∈ y.2.1, CmR y.2.2 c) ∧ y.2.1.map Cm.c = x.l) (fun y => y.1.1) (fun y => [row 129 4 y.1.1 (y.2.1.map cmV), txP y.2.2 b bn x, y.2.2]) := by
  refine fspec_ex ?_
  rintro ⟨⟨bw, vr, rs, vl, cs⟩, hy⟩
  have hin := fun P' (e : Ext P P') L h (s : SatL (txL P' b bn x ⟨⟨bw, vr, rs, vl, cs⟩, hy.ext e⟩ ++ L) h) => tx_in (hy.ext e) s
  unfold txL at hin ⊢
  dsimp only at hin ⊢
  obtain ⟨h1, h2, h3, h4, h5, h6⟩ := hy
  dsimp only at h1 h2 h3 h4 h5 h6
  have hcl : cs.length = x.l.length := by rw [← h6]; simp
  have hcm : (cs.map cmV).length = cs.length := by simp
  have hl60 := hx.len
  have hchg : ∀ c ∈ cs, c.bef.length ≤ 1000000 ∧ c.aft.length ≤ 1000000 := fun c hc => hx.chg c.c (by rw [← h6]; exact List.mem_map_of_mem hc)
  have hchl : ∀ (c : Cm) (ck : List Cm), ck.map Cm.c = x.l → c ∈ ck → c.bef.length ≤ 1000000 ∧ c.aft.length ≤ 1000000 := fun c ck e hc => hx.chg c.c (by rw [← e]; exact List.mem_map_of_mem hc)
  have hclo := cloneCh_spec vl (row 129 4 vl (cs.map cmV)) cs Vw.row (by omega)
  refine spec_intro [] _ Tryz.func29 rfl Tryz.ntmps29 (by rfl) (fun w0 R => ?_)
  repeat' (first | (refine go_Y ?_; intros) | (refine gs_Y ?_ ?_ <;> (intro hgd; try (simp only [Bool.not_true, Bool.not_false] at hgd))) | (refine gc_Y ?_ ?_ <;> intro _) | fail)
  refine cl_Y (hclo) ?_
  rintro ⟨vt, hvt⟩ _
  refine ops_learn (row_shape' (e := 129) (n := 4) (v := vt) (xs := cs.map cmV) (by decide) takeD) ?_
  rintro ⟨pt, ct, rfl, hct⟩
  repeat' (first | (refine go_Y ?_; intros) | (refine gs_Y ?_ ?_ <;> (intro hgd; try (simp only [Bool.not_true, Bool.not_false] at hgd))) | (refine gc_Y ?_ ?_ <;> intro _) | fail)
  refine ok_map (L' := [P, row 129 4 (.slice pt (cs.map cmV).length ct) (cs.map cmV), pts b (.cells [.pointer (some ⟨bn, 0, none⟩), .pointer (some ⟨bw, 0, none⟩), .int .u64 x.t0, vr, vl, .bool x.over].toArray 127), row 160 1 vr (rs.map rmF), row 129 4 vl (cs.map cmV), relP P bw x.own] ++ R) entD ?_
  refine ok_loop' (γ := Nat × List Cm × HProp) (fun y ρ L => y.1 ≤ cs.length ∧ (∀ c ∈ y.2.1, CmR y.2.2 c) ∧ y.2.1.map Cm.c = x.l ∧ Ext P y.2.2 ∧
      Knows ρ [(3, .slice pt (cs.map cmV).length ct), (13, .slice pt (cs.map cmV).length ct), (14, .int .i64 ((cs.map cmV).length : Int)), (15, .int .i64 y.1)] ∧
      L = [y.2.2, row 129 4 (.slice pt (cs.map cmV).length ct) (y.2.1.map cmV), pts b (.cells [.pointer (some ⟨bn, 0, none⟩), .pointer (some ⟨bw, 0, none⟩), .int .u64 x.t0, vr, vl, .bool x.over].toArray 127), row 160 1 vr (rs.map rmF), row 129 4 vl (cs.map cmV), relP P bw x.own] ++ R) (fun y => cs.length - y.1)
    (0, cs, P) ⟨by omega, h5, h6, Ext.refl P, ⟨rfl, rfl, rfl, rfl, trivial⟩, rfl⟩ ?_
  rintro ⟨k, ck, Q⟩ ρ L ⟨hk1, hcr, hmc, hext, hk, rfl⟩
  dsimp only at hk1 hcr hmc hext hk ⊢
  refine ok_regs hk ?_
  have hckl : ck.length = cs.length := by rw [hcl, ← hmc]; simp
  cases t1 : decide ((k : Int) < ((cs.map cmV).length : Int)) with
  | true =>
    have hkl : k < ck.length := by have := of_decide_eq_true t1; omega
    have hn1 : k < (cs.map cmV).length := by omega
    have hki : ck[k]? = some ck[k] := List.getElem?_eq_getElem hkl
    have hxx : (ck.map cmV)[k]? = some (cmV ck[k]) := by rw [List.getElem?_map, hki]; rfl
    have hckm := List.getElem_mem hkl
    have hc := hcr _ hckm
    obtain ⟨hb1, ha1⟩ := hchl _ _ hmc hckm
    have hset : ∀ v u, ((ck.map cmV).set k ((cmV ck[k]).set 2 v.1)).set k (((cmV ck[k]).set 2 v.1).set 3 u.1) = (ck.set k { ck[k] with bv := v, av := u }).map cmV := fun v u => by rw [List.map_set, List.set_set]; rfl
    have hcs : ∀ v u, (ck.set k { ck[k] with bv := v, av := u }).map Cm.c = x.l := fun v u => by
      rw [List.map_set, ← hmc]
      apply List.ext_getElem?
      intro j
      rw [List.getElem?_set]
      split
      · rename_i e; subst e
        rw [List.getElem?_map, hki]
        rw [if_pos (by rw [List.length_map]; exact hkl)]; rfl
      · rfl
    have hts : ∀ v u P', Ext Q P' → Vw P' 4 v.1 (ck[k].bef.map valV) → Vw P' 4 u.1 (ck[k].aft.map valV) → ∀ t ∈ ck.set k { ck[k] with bv := v, av := u }, CmR P' t := fun v u P' e hv hu t ht => by
      rcases List.mem_or_eq_of_mem_set ht with ht | rfl
      · exact (hcr t ht).ext e
      · exact ⟨hv, hu⟩
    have hsl : (ck.map cmV).length = (cs.map cmV).length := by rw [List.length_map, List.length_map, hckl]
    refine ok_learn (rowShape (e := 129) (n := 4) (v := .slice pt (cs.map cmV).length ct) (xs := ck.map cmV) (by decide) takeD) ?_
    rintro (⟨e, hn⟩ | ⟨g, cap, e, _⟩)
    · rw [hn] at hsl; simp at hsl; omega
    simp only [Value.slice.injEq] at e
    obtain ⟨rfl, _, rfl⟩ := e
    generalize ck[k] = c at hxx hc hb1 ha1 hset hcs hts
    obtain ⟨ckd, ctb, ⟨cbv, hcbv⟩, cbef, ⟨cav, hcav⟩, caft⟩ := c
    obtain ⟨hvb, hva⟩ := hc
    dsimp only at hvb hva hb1 ha1 hts hcs hset
    dsimp only [cmV] at hxx hset
    refine ok_learn (VwIn.slice (VwIn.here hvb)) ?_
    rintro ⟨pb, cb, rfl⟩
    refine ok_learn (VwIn.slice (VwIn.here hva)) ?_
    rintro ⟨pa, ca, rfl⟩
    have hc1 := cloneV_spec (.slice pb (cbef.map valV).length cb) Q cbef hvb hb1
    have hc2 := cloneV_spec (.slice pa (caft.map valV).length ca) Q caft hva ha1
    repeat' (first | (refine go_Y ?_; intros) | (refine gs_Y ?_ ?_ <;> (intro hgd; try (simp only [Bool.not_true, Bool.not_false] at hgd))) | (refine gc_Y ?_ ?_ <;> intro _) | fail)
    rename_i b5
    refine ok_map (L' := [Q, row 129 4 (.slice (some ⟨g, 0, none⟩) (cs.map cmV).length ct) (ck.map cmV), pts b5 (.cells [.int .u8 ckd, .int .i64 ctb, .slice pb (cbef.map valV).length cb, .slice pa (caft.map valV).length ca].toArray 129), pts b (.cells [.pointer (some ⟨bn, 0, none⟩), .pointer (some ⟨bw, 0, none⟩), .int .u64 x.t0, vr, vl, .bool x.over].toArray 127), row 160 1 vr (rs.map rmF), row 129 4 vl (cs.map cmV), relP P bw x.own] ++ R) entD ?_
    refine ok_drawL (cv := []) [6] ([pts b5 (.cells [.int .u8 ckd, .int .i64 ctb, .slice pb (cbef.map valV).length cb, .slice pa (caft.map valV).length ca].toArray 129)]) (takeD) (by kernel_rfl) rfl (by decide +kernel) ?_
    repeat' (first | (refine go_Y ?_; intros) | (refine gs_Y ?_ ?_ <;> (intro hgd; try (simp only [Bool.not_true, Bool.not_false] at hgd))) | (refine gc_Y ?_ ?_ <;> intro _) | fail)
    refine clN_Y (hc1) ?_
    rintro ⟨v1, hv1⟩ _
    repeat' (first | (refine go_Y ?_; intros) | (refine gs_Y ?_ ?_ <;> (intro hgd; try (simp only [Bool.not_true, Bool.not_false] at hgd))) | (refine gc_Y ?_ ?_ <;> intro _) | fail)
    refine cl_Y (hc2) ?_
    rintro ⟨v2, hv2⟩ _
    repeat' (first | (refine go_Y ?_; intros) | (refine gs_Y ?_ ?_ <;> (intro hgd; try (simp only [Bool.not_true, Bool.not_false] at hgd))) | (refine gc_Y ?_ ?_ <;> intro _) | fail)
    have hs1 := hset ⟨v1, hv1⟩ ⟨v2, hv2⟩
    have hset1 : ((ck.map cmV).set k ([.int .u8 ckd, .int .i64 ctb, .slice pb (cbef.map valV).length cb, .slice pa (caft.map valV).length ca].set 2 v1))[k]? = some ([.int .u8 ckd, .int .i64 ctb, .slice pb (cbef.map valV).length cb, .slice pa (caft.map valV).length ca].set 2 v1) := by rw [List.getElem?_set_self (by omega)]
    refine ops_run (s_storeRowN (y := [.int .u8 ckd, .int .i64 ctb, .slice pb (cbef.map valV).length cb, .slice pa (caft.map valV).length ca]) (by rfl) (by rfl) (one_cells hv1) hv1 selD hxx rfl rfl ?_)
    repeat' (first | (refine go_Y ?_; intros) | (refine gs_Y ?_ ?_ <;> (intro hgd; try (simp only [Bool.not_true, Bool.not_false] at hgd))) | (refine gc_Y ?_ ?_ <;> intro _) | fail)
    refine ops_run (s_storeRowN (y := [.int .u8 ckd, .int .i64 ctb, .slice pb (cbef.map valV).length cb, .slice pa (caft.map valV).length ca].set 2 v1) (by rfl) (by rfl) (one_cells hv2) hv2 selD hset1 rfl rfl ?_)
    rw [hs1]
    repeat' (first | (refine go_Y ?_; intros) | (refine gs_Y ?_ ?_ <;> (intro hgd; try (simp only [Bool.not_true, Bool.not_false] at hgd))) | (refine gc_Y ?_ ?_ <;> intro _) | fail)
    have e1 := Ext.pool (row 50 4 v1 (cbef.map valV)) Q
    have w1 : Vw (pool (row 50 4 v1 (cbef.map valV)) Q) 4 v1 (cbef.map valV) := pool_row
    refine cont_map (fun _ h => pool_in (A := row 50 4 v1 (cbef.map valV)) (P := Q) (Take.out2 takeD h)) ?_
    generalize pool (row 50 4 v1 (cbef.map valV)) Q = Q1 at e1 w1
    have e2 := Ext.pool (row 50 4 v2 (caft.map valV)) Q1
    have w2 : Vw (pool (row 50 4 v2 (caft.map valV)) Q1) 4 v2 (caft.map valV) := pool_row
    refine cont_map (fun _ h => pool_in (A := row 50 4 v2 (caft.map valV)) (P := Q1) (Take.out2 takeD h)) ?_
    generalize pool (row 50 4 v2 (caft.map valV)) Q1 = Q2 at e2 w2
    have e12 := e1.trans e2
    have hts' := hts ⟨v1, hv1⟩ ⟨v2, hv2⟩ Q2 e12 (e2.vw w1) w2
    have hcs' := hcs ⟨v1, hv1⟩ ⟨v2, hv2⟩
    refine cont_map (L' := [Q2, row 129 4 (.slice (some ⟨g, 0, none⟩) (cs.map cmV).length ct) ((ck.set k ⟨ckd, ctb, ⟨v1, hv1⟩, cbef, ⟨v2, hv2⟩, caft⟩).map cmV), pts b (.cells [.pointer (some ⟨bn, 0, none⟩), .pointer (some ⟨bw, 0, none⟩), .int .u64 x.t0, vr, vl, .bool x.over].toArray 127), row 160 1 vr (rs.map rmF), row 129 4 vl (cs.map cmV), relP P bw x.own] ++ R) entD ?_
    refine cont_back (k + 1, ck.set k ⟨ckd, ctb, ⟨v1, hv1⟩, cbef, ⟨v2, hv2⟩, caft⟩, Q2) ⟨by dsimp only; omega, hts', hcs', hext.trans e12, ⟨rfl, rfl, rfl, rfl, trivial⟩, rfl⟩ (by show cs.length - (k + 1) < cs.length - k; omega)
  | false =>
    repeat' (first | (refine go_Y ?_; intros) | (refine gs_Y ?_ ?_ <;> (intro hgd; try (simp only [Bool.not_true, Bool.not_false] at hgd))) | (refine gc_Y ?_ ?_ <;> intro _) | fail)
    refine cont_map (fun _ h => relP_ext (b := bw) (r := x.own) hext (Take.out1 takeD h)) ?_
    refine cont_map (fun _ h => hin Q hext _ _ (Take.out takeD h)) ?_
    have hsl : (ck.map cmV).length = (cs.map cmV).length := by rw [List.length_map, List.length_map, hckl]
    (refine rt_Y (y := (⟨.slice pt (cs.map cmV).length ct, rfl⟩, ck, Q)) (hrs := Tryz.results29) (hv := ?_) (hφ := ?_))
    · rfl
    · exact ⟨hext, hcr, hmc⟩
end Go.Proofs.YtbagfdolcabniaaGreatDoor
/- The walk of txn.Txn.Commit. -/
-- @DEFS Y
set_option linter.unusedSimpArgs false
set_option linter.unusedVariables false
set_option maxRecDepth 100000
set_option pp.deepTerms true
set_option pp.maxSteps 200000
namespace Go.Pl
open Go
def Rl.play (r : Rl) (l : List Opr) : Rl := l.foldl (fun r o => (r.doOp o).1) r
theorem Rl.Ok.play {r : Rl} (h : r.Ok) : ∀ (l : List Opr), (r.play l).Ok
  | [] => h
  | o :: l => Rl.Ok.play (h.doOp o) l
theorem Rl.play_snoc (r : Rl) (l : List Opr) (o : Opr) : r.play (l ++ [o]) = ((r.play l).doOp o).1 := by
  unfold Rl.play; rw [List.foldl_append]; rfl
end Go.Pl
namespace Go.Proofs.YtbagfdolcabniaaGreatDoor
open Go Go.Fx Go.Proofs Go.Pl

theorem again_spec (bn bx : Nat) (r : Rl) (o : Opr) (w : Value) (P : HProp) (hok : r.Ok) (hU : UT P) (hrd : Rd P bx (.cells [.int .u8 o.kind, .int .i64 o.table, w].toArray 39)) (hw : Vw P 4 w (o.row.map valV)) (hwc : w.oneCell' = true) (hwf : ∀ v ∈ o.row, v.wf) (hlen : o.row.length ≤ 1000000) :
    FSpec Tryz.prog 105 [.pointer (some ⟨bn, 0, none⟩), .pointer (some ⟨bx, 0, none⟩)] [relP P bn r, P] HProp (fun P' => Ext P P') (fun _ => .tuple #[]) (fun P' => [relP P' bn (r.doOp o).1, P']) := by
  have hdo := relDo_spec bn r o w P hok hU hw hwc hwf hlen
  refine spec_intro [] _ Tryz.func105 rfl Tryz.ntmps105 (by rfl) (fun w0 R => ?_)
  repeat' (first | (refine go_Y ?_; intros) | (refine gs_Y ?_ ?_ <;> (intro hgd; try (simp only [Bool.not_true, Bool.not_false] at hgd))) | (refine gc_Y ?_ ?_ <;> intro _) | fail)
  refine cl_Y (hdo) ?_
  rintro ⟨⟨b4, hb4⟩, ⟨a4, ha4⟩, P'⟩ ⟨hE', hbv⟩
  dsimp only at hE' hbv ⊢
  repeat' (first | (refine go_Y ?_; intros) | (refine gs_Y ?_ ?_ <;> (intro hgd; try (simp only [Bool.not_true, Bool.not_false] at hgd))) | (refine gc_Y ?_ ?_ <;> intro _) | fail)
  (refine rt_Y (y := P') (hrs := Tryz.results105) (hv := ?_) (hφ := ?_))
  · rfl
  · exact hE'

theorem commit_over (b bn : Nat) (x : Tx) (on : Rl) (P : HProp) (hx : x.Ok) (hov : x.over = true) : FSpec Tryz.prog 69 [.pointer (some ⟨b, 0, none⟩)] [txP P b bn x, relP P bn on, P] Unit (fun _ => True)
    (fun _ => .tuple #[.slice none 0 0, .int .i64 150]) (fun _ => [txP P b bn x, relP P bn on, P]) := by
  have hc := txCheck_spec b bn x on P hx
  have he : x.checkT on = 150 := by unfold Tx.checkT; rw [hov, if_pos rfl]
  rw [he] at hc
  have f1 : decide ((150 : Int) = (150 : Int)) = true := by decide
  refine spec_intro [] _ Tryz.func69 rfl Tryz.ntmps69 (by rfl) (fun w0 R => ?_)
  repeat' (first | (refine go_Y ?_; intros) | (refine gs_Y ?_ ?_ <;> (intro hgd; try (simp only [Bool.not_true, Bool.not_false] at hgd))) | (refine gc_Y ?_ ?_ <;> intro _) | fail)
  refine cl_Y (hc) ?_
  intro _ _
  repeat' (first | (refine go_Y ?_; intros) | (refine gs_Y ?_ ?_ <;> (intro hgd; try (simp only [Bool.not_true, Bool.not_false] at hgd))) | (refine gc_Y ?_ ?_ <;> intro _) | fail)
  (refine rt_Y (y := ()) (hrs := Tryz.results69) (hv := ?_) (hφ := ?_))
  · rfl
  · trivial
theorem commit_no (b bn : Nat) (x : Tx) (on : Rl) (P : HProp) (hx : x.Ok) (hov : x.over = false) (h0 : x.checkT on ≠ 0) : FSpec Tryz.prog 69 [.pointer (some ⟨b, 0, none⟩)] [txP P b bn x, relP P bn on, P] Unit (fun _ => True)
    (fun _ => .tuple #[.slice none 0 0, .int .i64 (x.checkT on)]) (fun _ => [txP P b bn x.abortT, relP P bn on, P]) := by
  have h150 : x.checkT on ≠ 150 := by
    unfold Tx.checkT
    rw [hov, if_neg (by simp)]
    split
    · decide
    · cases x.own.whole <;> simp
  refine fspec_ex ?_
  rintro ⟨⟨bw, vr, rs, vl, cs⟩, hy⟩
  have hc := txCheckL_spec b bn x on P hx ⟨⟨bw, vr, rs, vl, cs⟩, hy⟩
  unfold txL at hc ⊢
  dsimp only at hc ⊢
  generalize x.checkT on = e at hc h0 h150 ⊢
  have f1 : decide (e = (150 : Int)) = false := by simp [h150]
  have f2 : (!decide (e = (0 : Int))) = true := by simp [h0]
  refine spec_intro [] _ Tryz.func69 rfl Tryz.ntmps69 (by rfl) (fun w0 R => ?_)
  repeat' (first | (refine go_Y ?_; intros) | (refine gs_Y ?_ ?_ <;> (intro hgd; try (simp only [Bool.not_true, Bool.not_false] at hgd))) | (refine gc_Y ?_ ?_ <;> intro _) | fail)
  refine cl_Y (hc) ?_
  intro _ _
  repeat' (first | (refine go_Y ?_; intros) | (refine gs_Y ?_ ?_ <;> (intro hgd; try (simp only [Bool.not_true, Bool.not_false] at hgd))) | (refine gc_Y ?_ ?_ <;> intro _) | fail)
  refine cont_map (fun _ h => tx_over hy (Take.out takeD h)) ?_
  (refine rt_Y (y := ()) (hrs := Tryz.results69) (hv := ?_) (hφ := ?_))
  · rfl
  · trivial
set_option maxHeartbeats 4000000 in
theorem commit_yes (b bn : Nat) (x : Tx) (on : Rl) (P : HProp) (hx : x.Ok) (hU : UT P) (hon : on.Ok) (h0 : x.checkT on = 0) : FSpec Tryz.prog 69 [.pointer (some ⟨b, 0, none⟩)] [txP P b bn x, relP P bn on, P] (V1s × List Cm × HProp)
    (fun y => Ext P y.2.2 ∧ (∀ c ∈ y.2.1, CmR y.2.2 c) ∧ y.2.1.map Cm.c = x.l) (fun y => .tuple #[y.1.1, .int .i64 0]) (fun y => [row 129 4 y.1.1 (y.2.1.map cmV), txP y.2.2 b bn x.abortT, relP y.2.2 bn (on.play x.redo), y.2.2]) := by
  refine fspec_ex ?_
  rintro ⟨⟨bw, vr, rs, vl, cs⟩, hy⟩
  have hc := txCheckL_spec b bn x on P hx ⟨⟨bw, vr, rs, vl, cs⟩, hy⟩
  unfold txL at hc ⊢
  dsimp only at hc ⊢
  rw [h0] at hc
  have f1 : decide ((0 : Int) = (150 : Int)) = false := by decide
  have f2 : (!decide ((0 : Int) = (0 : Int))) = false := by decide
  have hrl : (rs.map rmF).length = rs.length := by simp
  have hrr : rs.length = x.redo.length := by rw [← hy.redo]; simp
  have hl60 := hx.len
  have hrq := hx.rlen
  have hxa : x.abortT.Ok := ⟨hx.own, hx.len, hx.rlen, hx.rows, hx.chg, hx.t0, hx.t1⟩
  refine spec_intro [] _ Tryz.func69 rfl Tryz.ntmps69 (by rfl) (fun w0 R => ?_)
  refine ok_learn (row_shape' (e := 160) (n := 1) (v := vr) (xs := rs.map rmF) (by decide) takeD) ?_
  rintro ⟨pr, cr, rfl, hcr⟩
  repeat' (first | (refine go_Y ?_; intros) | (refine gs_Y ?_ ?_ <;> (intro hgd; try (simp only [Bool.not_true, Bool.not_false] at hgd))) | (refine gc_Y ?_ ?_ <;> intro _) | fail)
  refine cl_Y (hc) ?_
  intro _ _
  repeat' (first | (refine go_Y ?_; intros) | (refine gs_Y ?_ ?_ <;> (intro hgd; try (simp only [Bool.not_true, Bool.not_false] at hgd))) | (refine gc_Y ?_ ?_ <;> intro _) | fail)
  refine ok_map (L' := [relP P bn on, P, pts b (.cells [.pointer (some ⟨bn, 0, none⟩), .pointer (some ⟨bw, 0, none⟩), .int .u64 x.t0, .slice pr (rs.map rmF).length cr, vl, .bool true].toArray 127), row 160 1 (.slice pr (rs.map rmF).length cr) (rs.map rmF), row 129 4 vl (cs.map cmV), relP P bw x.own] ++ R) entD ?_
  refine ok_loop' (γ := Nat × HProp) (fun y ρ L => y.1 ≤ rs.length ∧ Ext P y.2 ∧ Knows ρ [(0, .pointer (some ⟨b, 0, none⟩)), (25, .slice pr (rs.map rmF).length cr), (26, .int .i64 ((rs.map rmF).length : Int)), (27, .int .i64 y.1)] ∧
      L = [relP y.2 bn (on.play (x.redo.take y.1)), y.2, pts b (.cells [.pointer (some ⟨bn, 0, none⟩), .pointer (some ⟨bw, 0, none⟩), .int .u64 x.t0, .slice pr (rs.map rmF).length cr, vl, .bool true].toArray 127), row 160 1 (.slice pr (rs.map rmF).length cr) (rs.map rmF), row 129 4 vl (cs.map cmV), relP P bw x.own] ++ R) (fun y => rs.length - y.1)
    (0, P) ⟨by omega, Ext.refl P, ⟨rfl, rfl, rfl, rfl, trivial⟩, rfl⟩ ?_
  rintro ⟨k, Q⟩ ρ L ⟨hk1, hext, hk, rfl⟩
  dsimp only at hk1 hext hk ⊢
  refine ok_regs hk ?_
  cases t1 : decide ((k : Int) < ((rs.map rmF).length : Int)) with
  | true =>
    have hkl : k < rs.length := by have := of_decide_eq_true t1; omega
    have hn1 : k < (rs.map rmF).length := by omega
    have hki : rs[k]? = some rs[k] := List.getElem?_eq_getElem hkl
    have hxx : (rs.map rmF)[k]? = some (rmF rs[k]) := by rw [List.getElem?_map, hki]; rfl
    have hm := List.getElem_mem hkl
    have hrm := (hy.rs _ hm).ext hext
    have hrow := hx.rows rs[k].c (by rw [← hy.redo]; exact List.mem_map_of_mem hm)
    have htk : x.redo.take (k + 1) = x.redo.take k ++ [rs[k].c] := by
      rw [← hy.redo, List.take_succ_eq_append_getElem (by rw [List.length_map]; exact hkl)]
      simp
    refine ok_learn (rowShape (e := 160) (n := 1) (v := .slice pr (rs.map rmF).length cr) (xs := rs.map rmF) (by decide) takeD) ?_
    rintro (⟨e, hn⟩ | ⟨g, cap, e, _⟩)
    · rw [hn] at hn1; simp at hn1
    simp only [Value.slice.injEq] at e
    obtain ⟨rfl, _, rfl⟩ := e
    have hag := again_spec bn rs[k].bx (on.play (x.redo.take k)) rs[k].c rs[k].w.1 Q (hon.play _) (hU.ext hext) hrm.rd hrm.vw rs[k].w.2 hrow.2 hrow.1
    have hps := Rl.play_snoc on (x.redo.take k) rs[k].c
    rw [← htk] at hps
    generalize rs[k] = q at hxx hag hps
    dsimp only [rmF] at hxx
    have hv := vspec_func (args := [.pointer (some ⟨bn, 0, none⟩)]) (cap := [.pointer (some ⟨q.bx, 0, none⟩)]) hag
    rw [← hps] at hv
    repeat' (first | (refine go_Y ?_; intros) | (refine gs_Y ?_ ?_ <;> (intro hgd; try (simp only [Bool.not_true, Bool.not_false] at hgd))) | (refine gc_Y ?_ ?_ <;> intro _) | fail)
    refine clV_Y (hv) ?_
    intro Q' hE
    repeat' (first | (refine go_Y ?_; intros) | (refine gs_Y ?_ ?_ <;> (intro hgd; try (simp only [Bool.not_true, Bool.not_false] at hgd))) | (refine gc_Y ?_ ?_ <;> intro _) | fail)
    refine cont_map (L' := [relP Q' bn (on.play (x.redo.take (k + 1))), Q', pts b (.cells [.pointer (some ⟨bn, 0, none⟩), .pointer (some ⟨bw, 0, none⟩), .int .u64 x.t0, .slice (some ⟨g, 0, none⟩) (rs.map rmF).length cr, vl, .bool true].toArray 127), row 160 1 (.slice (some ⟨g, 0, none⟩) (rs.map rmF).length cr) (rs.map rmF), row 129 4 vl (cs.map cmV), relP P bw x.own] ++ R) entD ?_
    refine cont_back (k + 1, Q') ⟨by dsimp only; omega, hext.trans hE, ⟨rfl, rfl, rfl, rfl, trivial⟩, rfl⟩ (by show rs.length - (k + 1) < rs.length - k; omega)
  | false =>
    have hkr : k = rs.length := by have := of_decide_eq_false t1; omega
    have htk : x.redo.take k = x.redo := by rw [List.take_of_length_le (by omega)]
    rw [htk]
    have hch := txChanges_spec b bn x.abortT Q hxa
    repeat' (first | (refine go_Y ?_; intros) | (refine gs_Y ?_ ?_ <;> (intro hgd; try (simp only [Bool.not_true, Bool.not_false] at hgd))) | (refine gc_Y ?_ ?_ <;> intro _) | fail)
    refine opsL_map (fun _ h => relP_ext (b := bw) (r := x.own) hext (Take.out1 takeD h)) ?_
    refine opsL_map (fun _ h => tx_over (b := b) (bn := bn) (hy.ext hext) (Take.out takeD h)) ?_
    refine cl_Y (hch) ?_
    rintro ⟨⟨v, hv⟩, ck, Q'⟩ ⟨hE, hcr', hcm⟩
    dsimp only at hE hcr' hcm ⊢
    repeat' (first | (refine go_Y ?_; intros) | (refine gs_Y ?_ ?_ <;> (intro hgd; try (simp only [Bool.not_true, Bool.not_false] at hgd))) | (refine gc_Y ?_ ?_ <;> intro _) | fail)
    refine cont_map (fun _ h => relP_ext (b := bn) (r := on.play x.redo) hE (Take.out1 takeD h)) ?_
    (refine rt_Y (y := (⟨v, hv⟩, ck, Q')) (hrs := Tryz.results69) (hv := ?_) (hφ := ?_))
    · rfl
    · exact ⟨hext.trans hE, hcr', hcm⟩
end Go.Proofs.YtbagfdolcabniaaGreatDoor
/- The chapter's example of layer 15. -/
-- @DEFS Y
set_option linter.unusedSimpArgs false
set_option linter.unusedVariables false
set_option maxRecDepth 100000
set_option pp.deepTerms true
set_option pp.maxSteps 200000
namespace Go.Proofs.YtbagfdolcabniaaGreatDoor
open Go Go.Fx Go.Proofs Go.Pl

theorem num15_spec (n : Int) : FSpec Tryz.prog 67 [.int .i64 n] [] Unit (fun _ => True) (fun _ => .agg (valV ⟨2, n, 0, ⟨#[]⟩⟩).toArray) (fun _ => []) := by
  refine spec_intro [] _ Tryz.func67 rfl Tryz.ntmps67 (by rfl) (fun w0 R => ?_)
  repeat' (first | (refine go_Y ?_; intros) | (refine gs_Y ?_ ?_ <;> (intro hgd; try (simp only [Bool.not_true, Bool.not_false] at hgd))) | (refine gc_Y ?_ ?_ <;> intro _) | fail)
  (refine rt_Y (y := ()) (hrs := Tryz.results67) (hv := ?_) (hφ := ?_))
  · rfl
  · trivial
def ax0 : Tx := ⟨al0, al0.turns, [], [], false⟩
def ax1 : Tx := (ax0.doT alO2).1
def ax2 : Tx := (ax1.doT alO1).1
theorem alO1_row : alO1.row.length ≤ 1000000 ∧ ∀ v ∈ alO1.row, v.wf := ⟨by decide, fun v hv => by rw [List.mem_singleton.1 hv]; exact nV_wf (by decide) (by decide)⟩
theorem alO2_row : alO2.row.length ≤ 1000000 ∧ ∀ v ∈ alO2.row, v.wf := ⟨by decide, fun v hv => by
    simp only [alO2, List.mem_cons, List.not_mem_nil, or_false] at hv
    rcases hv with rfl | rfl <;> exact nV_wf (by decide) (by decide)⟩
theorem tx_new_ok {r : Rl} (h : r.Ok) : Tx.Ok ⟨r, r.turns, [], [], false⟩ := ⟨h, by simp, rfl, fun _ h => by simp at h, fun _ h => by simp at h, h.t0, h.t1⟩
theorem ax0_ok : ax0.Ok := tx_new_ok al0_ok
theorem ax1_ok : ax1.Ok := Tx.Ok.doT ax0_ok alO2_row.1 alO2_row.2
theorem ax2_ok : ax2.Ok := Tx.Ok.doT ax1_ok alO1_row.1 alO1_row.2
theorem ax_e1 : (ax0.doT alO2).2 = 0 := by decide +kernel
theorem ax_e2 : (ax1.doT alO1).2 = 0 := by decide +kernel
theorem ax_c1 : ax1.checkT al0 = 140 := by decide +kernel
theorem ax_c2 : ax2.checkT al0 = 0 := by decide +kernel
theorem ax_l2 : ax2.l.length = 2 := by decide +kernel
theorem ax_o1 : ax1.over = false := by decide +kernel
theorem ax_o2 : ax1.abortT.over = true := rfl
theorem ax_n2 : (al0.play ax2.redo).rows.length = 2 := by decide +kernel
theorem ax_d2 : (ax2.abortT.doT alO2).2 = 150 := by decide +kernel
theorem ax_x2 : (ax2.abortT.doT alO2).1 = ax2.abortT := by unfold Tx.doT; rfl
theorem Tx.Ok.abortT {x : Tx} (hx : x.Ok) : x.abortT.Ok := ⟨hx.own, hx.len, hx.rlen, hx.rows, hx.chg, hx.t0, hx.t1⟩
/-- A slice literal's row, laid into the pool. -/
theorem ops_pool {X : Cx} {ops : Array Oper} {st : List Nat} {T : List HProp} {N : Act → World → Prop} {i : Nat} {os : List Oper} {ds : List Deferred} {ρ : Regs} {L R : List HProp} (A P : HProp) (t : Take L [A, P] R)
    (h : ∀ P', Ext P P' → Ext A P' → OpsL X ops ⟨[], st, T⟩ N i os (P' :: R) ds ρ (P' :: R)) : OpsL X ops ⟨[], st, T⟩ N i os L ds ρ L :=
  opsL_map (fun _ s => pool_in (A := A) (P := P) (Take.out2 t s)) (h _ (Ext.pool A P) (Ext.poolL A P))
set_option maxHeartbeats 4000000 in
theorem alive15_spec (A : HProp) (hA : UT A) : FSpec Tryz.prog 23 [] [A] HProp (fun P' => Ext A P') (fun _ => .bool true) (fun P' => [P']) := by
  refine spec_intro [] _ Tryz.func23 rfl Tryz.ntmps23 (by rfl) (fun w0 R => ?_)
  repeat' (first | (refine go_Y ?_; intros) | (refine gs_Y ?_ ?_ <;> (intro hgd; try (simp only [Bool.not_true, Bool.not_false] at hgd))) | (refine gc_Y ?_ ?_ <;> intro _) | fail)
  refine cl_Y (two_spec) ?_
  rintro ⟨⟨v, hv⟩, tk, P0⟩ ⟨hsv0, hmc⟩
  dsimp only at hsv0 hmc ⊢
  refine ops_pool P0 A takeD ?_
  intro P hEA hE0
  have hsv : SV P v tk := hsv0.ext hE0
  have hU : UT P := hA.ext hEA
  clear hE0 hsv0
  have hnew := new_spec v tk P hsv (by rw [hmc]; exact two_ok)
  rw [hmc] at hnew
  repeat' (first | (refine go_Y ?_; intros) | (refine gs_Y ?_ ?_ <;> (intro hgd; try (simp only [Bool.not_true, Bool.not_false] at hgd))) | (refine gc_Y ?_ ?_ <;> intro _) | fail)
  refine cl_Y (hnew) ?_
  rintro ⟨b, P1⟩ hE1
  dsimp only at hE1 ⊢
  have hU1 := hU.ext hE1
  have hEA1 := hEA.trans hE1
  repeat' (first | (refine go_Y ?_; intros) | (refine gs_Y ?_ ?_ <;> (intro hgd; try (simp only [Bool.not_true, Bool.not_false] at hgd))) | (refine gc_Y ?_ ?_ <;> intro _) | fail)
  refine cl_Y (txNew_spec b al0 P1) ?_
  intro bt _
  repeat' (first | (refine go_Y ?_; intros) | (refine gs_Y ?_ ?_ <;> (intro hgd; try (simp only [Bool.not_true, Bool.not_false] at hgd))) | (refine gc_Y ?_ ?_ <;> intro _) | fail)
  refine cl_Y (num15_spec 2) ?_
  intro _ _
  repeat' (first | (refine go_Y ?_; intros) | (refine gs_Y ?_ ?_ <;> (intro hgd; try (simp only [Bool.not_true, Bool.not_false] at hgd))) | (refine gc_Y ?_ ?_ <;> intro _) | fail)
  refine cl_Y (num15_spec 1) ?_
  intro _ _
  repeat' (first | (refine go_Y ?_; intros) | (refine gs_Y ?_ ?_ <;> (intro hgd; try (simp only [Bool.not_true, Bool.not_false] at hgd))) | (refine gc_Y ?_ ?_ <;> intro _) | fail)
  rename_i w1 hw1
  refine ops_learn (rowShape (e := 50) (n := 4) (v := w1) (xs := [nV 2, nV 1].map valV) (by decide) takeD) ?_
  rintro (⟨rfl, hn⟩ | ⟨g1, c1, rfl, _⟩)
  · cases hn
  refine ops_pool (row 50 4 (.slice (some ⟨g1, 0, none⟩) 2 c1) (alO2.row.map valV)) P1 takeD ?_
  intro Q1 hx1 hr1
  have hwv1 : Vw Q1 4 (.slice (some ⟨g1, 0, none⟩) 2 c1) (alO2.row.map valV) := hr1.vw Vw.row
  have hUq1 := hU1.ext hx1
  have hEq1 := hEA1.trans hx1
  refine opsL_map (fun _ h => relP_ext (b := b) (r := al0) hx1 (Take.out1 takeD h)) ?_
  refine opsL_map (fun _ h => txP_ext (b := bt) (bn := b) (x := ax0) hx1 (Take.out1 takeD h)) ?_
  have hd1 := txDo_spec bt b ax0 alO2 (.slice (some ⟨g1, 0, none⟩) 2 c1) Q1 ax0_ok hUq1 hwv1 rfl alO2_row.2 alO2_row.1
  rw [ax_e1] at hd1
  clear hr1 hx1 hU1 hEA1 hnew hsv hEA hU
  repeat' (first | (refine go_Y ?_; intros) | (refine gs_Y ?_ ?_ <;> (intro hgd; try (simp only [Bool.not_true, Bool.not_false] at hgd))) | (refine gc_Y ?_ ?_ <;> intro _) | fail)
  rename_i bo
  refine cl_Y (hd1) ?_
  intro P2 hE2
  have hU2 := hUq1.ext hE2
  have hEA2 := hEq1.trans hE2
  have hwv2 := hE2.vw hwv1
  refine opsL_map (fun _ h => relP_ext (b := b) (r := al0) hE2 (Take.out1 takeD h)) ?_
  have hcm1 := commit_no bt b ax1 al0 P2 ax1_ok ax_o1 (by rw [ax_c1]; decide)
  rw [ax_c1] at hcm1
  repeat' (first | (refine go_Y ?_; intros) | (refine gs_Y ?_ ?_ <;> (intro hgd; try (simp only [Bool.not_true, Bool.not_false] at hgd))) | (refine gc_Y ?_ ?_ <;> intro _) | fail)
  refine cl_Y (hcm1) ?_
  intro _ _
  repeat' (first | (refine go_Y ?_; intros) | (refine gs_Y ?_ ?_ <;> (intro hgd; try (simp only [Bool.not_true, Bool.not_false] at hgd))) | (refine gc_Y ?_ ?_ <;> intro _) | fail)
  refine cl_Y (relLen_spec b al0 P2) ?_
  intro _ _
  repeat' (first | (refine go_Y ?_; intros) | (refine gs_Y ?_ ?_ <;> (intro hgd; try (simp only [Bool.not_true, Bool.not_false] at hgd))) | (refine gc_Y ?_ ?_ <;> intro _) | fail)
  refine cl_Y (txNew_spec b al0 P2) ?_
  intro bu _
  have hd2 := txDo_spec bu b ax0 alO2 (.slice (some ⟨g1, 0, none⟩) 2 c1) P2 ax0_ok hU2 hwv2 rfl alO2_row.2 alO2_row.1
  rw [ax_e1] at hd2
  repeat' (first | (refine go_Y ?_; intros) | (refine gs_Y ?_ ?_ <;> (intro hgd; try (simp only [Bool.not_true, Bool.not_false] at hgd))) | (refine gc_Y ?_ ?_ <;> intro _) | fail)
  refine cl_Y (hd2) ?_
  intro P3 hE3
  have hU3 := hU2.ext hE3
  have hEA3 := hEA2.trans hE3
  have hwv3 := hE3.vw hwv2
  repeat' (first | (refine go_Y ?_; intros) | (refine gs_Y ?_ ?_ <;> (intro hgd; try (simp only [Bool.not_true, Bool.not_false] at hgd))) | (refine gc_Y ?_ ?_ <;> intro _) | fail)
  refine cl_Y (num15_spec 1) ?_
  intro _ _
  repeat' (first | (refine go_Y ?_; intros) | (refine gs_Y ?_ ?_ <;> (intro hgd; try (simp only [Bool.not_true, Bool.not_false] at hgd))) | (refine gc_Y ?_ ?_ <;> intro _) | fail)
  rename_i w2 hw2
  refine ops_learn (rowShape (e := 50) (n := 4) (v := w2) (xs := [nV 1].map valV) (by decide) takeD) ?_
  rintro (⟨rfl, hn⟩ | ⟨g2, c2, rfl, _⟩)
  · cases hn
  refine ops_pool (row 50 4 (.slice (some ⟨g2, 0, none⟩) 1 c2) (alO1.row.map valV)) P3 takeD ?_
  intro Q3 hx3 hr3
  have hwv3' : Vw Q3 4 (.slice (some ⟨g2, 0, none⟩) 1 c2) (alO1.row.map valV) := hr3.vw Vw.row
  have hUq3 := hU3.ext hx3
  have hEq3 := hEA3.trans hx3
  refine opsL_map (fun _ h => relP_ext (b := b) (r := al0) (hE3.trans hx3) (Take.out1 takeD h)) ?_
  refine opsL_map (fun _ h => txP_ext (b := bu) (bn := b) (x := ax1) hx3 (Take.out1 takeD h)) ?_
  have hd3 := txDo_spec bu b ax1 alO1 (.slice (some ⟨g2, 0, none⟩) 1 c2) Q3 ax1_ok hUq3 hwv3' rfl alO1_row.2 alO1_row.1
  rw [ax_e2] at hd3
  repeat' (first | (refine go_Y ?_; intros) | (refine gs_Y ?_ ?_ <;> (intro hgd; try (simp only [Bool.not_true, Bool.not_false] at hgd))) | (refine gc_Y ?_ ?_ <;> intro _) | fail)
  refine cl_Y (hd3) ?_
  intro P4 hE4
  have hU4 := hUq3.ext hE4
  have hEA4 := hEq3.trans hE4
  have hwv4 := (hx3.trans hE4).vw hwv3
  refine opsL_map (fun _ h => relP_ext (b := b) (r := al0) hE4 (Take.out1 takeD h)) ?_
  have hcm2 := commit_yes bu b ax2 al0 P4 ax2_ok hU4 al0_ok ax_c2
  repeat' (first | (refine go_Y ?_; intros) | (refine gs_Y ?_ ?_ <;> (intro hgd; try (simp only [Bool.not_true, Bool.not_false] at hgd))) | (refine gc_Y ?_ ?_ <;> intro _) | fail)
  refine cl_Y (hcm2) ?_
  rintro ⟨⟨vl, hvl⟩, ck, P5⟩ ⟨hE5, hck, hcm⟩
  dsimp only at hE5 hck hcm ⊢
  have hU5 := hU4.ext hE5
  have hEA5 := hEA4.trans hE5
  have hwv5 := hE5.vw hwv4
  have hov := txOver_spec bt b ax1.abortT P2
  rw [ax_o2] at hov
  have hd4 := txDo_spec bu b ax2.abortT alO2 (.slice (some ⟨g1, 0, none⟩) 2 c1) P5 (Tx.Ok.abortT ax2_ok) hU5 hwv5 rfl alO2_row.2 alO2_row.1
  rw [ax_d2] at hd4
  have f1 : decide ((140 : Int) = (140 : Int)) = true := by decide
  have f0 : decide ((0 : Int) = (0 : Int)) = true := by decide
  have f2 : decide (((al0.rows.length : Nat) : Int) = 0) = true := by decide
  have f3 : decide (((ck.map cmV).length : Int) = 2) = true := by
    have : ck.length = 2 := by rw [← ax_l2, ← hcm]; simp
    rw [List.length_map, this]; rfl
  have f4 : decide ((((al0.play ax2.redo).rows.length : Nat) : Int) = 2) = true := by rw [ax_n2]; rfl
  have f5 : decide ((150 : Int) = (150 : Int)) = true := by decide
  have f6 : decide ((1 : Int) = (1 : Int)) = true := by decide
  repeat' (first | (refine go_Y ?_; intros) | (refine gs_Y ?_ ?_ <;> (intro hgd; try (simp only [Bool.not_true, Bool.not_false] at hgd))) | (refine gc_Y ?_ ?_ <;> intro _) | fail)
  refine cl_Y (txNew_nil) ?_
  intro _ _
  repeat' (first | (refine go_Y ?_; intros) | (refine gs_Y ?_ ?_ <;> (intro hgd; try (simp only [Bool.not_true, Bool.not_false] at hgd))) | (refine gc_Y ?_ ?_ <;> intro _) | fail)
  refine cl_Y (relLen_spec b (al0.play ax2.redo) P5) ?_
  intro _ _
  repeat' (first | (refine go_Y ?_; intros) | (refine gs_Y ?_ ?_ <;> (intro hgd; try (simp only [Bool.not_true, Bool.not_false] at hgd))) | (refine gc_Y ?_ ?_ <;> intro _) | fail)
  refine cl_Y (hov) ?_
  intro _ _
  repeat' (first | (refine go_Y ?_; intros) | (refine gs_Y ?_ ?_ <;> (intro hgd; try (simp only [Bool.not_true, Bool.not_false] at hgd))) | (refine gc_Y ?_ ?_ <;> intro _) | fail)
  refine cl_Y (hd4) ?_
  intro P6 hE6
  repeat' (first | (refine go_Y ?_; intros) | (refine gs_Y ?_ ?_ <;> (intro hgd; try (simp only [Bool.not_true, Bool.not_false] at hgd))) | (refine gc_Y ?_ ?_ <;> intro _) | fail)
  (refine rt_Y (y := P6) (hrs := Tryz.results23) (hv := ?_) (hφ := ?_))
  · rfl
  · exact hEA5.trans hE6
end Go.Proofs.YtbagfdolcabniaaGreatDoor
