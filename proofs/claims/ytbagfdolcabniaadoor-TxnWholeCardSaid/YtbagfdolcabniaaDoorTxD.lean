/- The walks of txn.Txn.Do, Get, Abort. -/
import Derived.Test.YtbagfdolcabniaaDoorTxC
-- @DEFS Y
set_option linter.unusedSimpArgs false
set_option linter.unusedVariables false
set_option maxRecDepth 100000
set_option pp.deepTerms true
set_option pp.maxSteps 200000
namespace Go.Pl
open Go
def Tx.getT (x : Tx) (t : Int) (k : Vl) : List Vl × Int := if x.over then ([], 150) else x.own.getOp t k
end Go.Pl
namespace Go.Proofs.YtbagfdolcabniaaDoor
open Go Go.Fx Go.Proofs Go.Pl

theorem may_tx (b bn : Nat) (x : Tx) (P : HProp) : FSpec Tryd.prog 62 [.pointer (some ⟨b, 0, none⟩)] [txP P b bn x] Unit (fun _ => True) (fun _ => .int .i64 (bif x.over then 150 else 0)) (fun _ => [txP P b bn x]) := by
  refine fspec_ex ?_
  rintro ⟨⟨bw, vr, rs, vl, cs⟩, hy⟩
  have hm := fspec_frame' (may_spec b (.pointer (some ⟨bn, 0, none⟩)) (.pointer (some ⟨bw, 0, none⟩)) (.int .u64 x.t0) vr vl x.over) [row 124 1 vr (rs.map rmF), row 82 4 vl (cs.map cmV), relP P bw x.own]
  refine hm.conseq (fun _ _ s => by unfold txL at s; simpa using s) (fun _ _ => ⟨(), trivial, rfl, fun R h s => ?_⟩)
  exact tx_in hy (by unfold txL; dsimp only; simpa using s)
abbrev mayV (b : Nat) : Value := .func (.func 62) #[.pointer (some ⟨b, 0, none⟩)] #[]
theorem mayV_spec (b bn : Nat) (x : Tx) (P : HProp) (F : List HProp) : VSpec Tryd.prog (mayV b) [] (txP P b bn x :: F) Unit (fun _ => True) (fun _ => .int .i64 (bif x.over then 150 else 0)) (fun _ => txP P b bn x :: F) :=
  vspec_frame (vspec_bound (args := []) (may_tx b bn x P)) F

set_option maxHeartbeats 1000000 in
theorem txDo_spec (b bn : Nat) (x : Tx) (o : Opr) (w : Value) (P : HProp) (hx : x.Ok) (hU : UT P) (hw : Vw P 4 w (o.row.map valV)) (hwc : w.oneCell' = true) (hwf : ∀ v ∈ o.row, v.wf) (hlen : o.row.length ≤ 1000000) :
    FSpec Tryd.prog 21 [.pointer (some ⟨b, 0, none⟩), .agg #[.int .u8 o.kind, .int .i64 o.table, w]] [txP P b bn x, P] HProp (fun P' => Ext P P') (fun _ => .int .i64 (x.doT o).2) (fun P' => [txP P' b bn (x.doT o).1, P']) := by
  refine spec_intro [] _ Tryd.func21 rfl Tryd.ntmps21 (by rfl) (fun w0 R => ?_)
  repeat' (first | (refine go_Y ?_; intros) | (refine gs_Y ?_ ?_ <;> (intro hgd; try (simp only [Bool.not_true, Bool.not_false] at hgd))) | (refine gc_Y ?_ ?_ <;> intro _) | fail)
  rename_i bt bo
  have hm := mayV_spec b bn x P [P, pts bt (.cells [.pointer (some ⟨b, 0, none⟩)].toArray 50), pts bo (.cells [.int .u8 o.kind, .int .i64 o.table, w].toArray 28)]
  cases hov : x.over with
  | true =>
    rw [hov, cond_true] at hm
    have he : x.doT o = (x, 150) := by unfold Tx.doT; rw [hov, if_pos rfl]
    rw [he]
    refine cl_Y (when_no _ (.func (.func 63) #[] #[.pointer (some ⟨bt, 0, none⟩), .pointer (some ⟨bo, 0, none⟩)]) 150 (by decide) _ _ hm) ?_
    intro _ _
    repeat' (first | (refine go_Y ?_; intros) | (refine gs_Y ?_ ?_ <;> (intro hgd; try (simp only [Bool.not_true, Bool.not_false] at hgd))) | (refine gc_Y ?_ ?_ <;> intro _) | fail)
    (refine rt_Y (y := P) (hrs := Tryd.results21) (hv := ?_) (hφ := ?_))
    · rfl
    · exact Ext.refl P
  | false =>
    rw [hov, cond_false] at hm
    have hd := vspec_func (args := []) (cap := [.pointer (some ⟨bt, 0, none⟩), .pointer (some ⟨bo, 0, none⟩)]) (txDo1_spec b bn bt bo x o w P hx hov hU hw hwc hwf hlen)
    refine cl_Y (when_yes _ _ _ _ hm hd) ?_
    intro P' hE
    repeat' (first | (refine go_Y ?_; intros) | (refine gs_Y ?_ ?_ <;> (intro hgd; try (simp only [Bool.not_true, Bool.not_false] at hgd))) | (refine gc_Y ?_ ?_ <;> intro _) | fail)
    (refine rt_Y (y := P') (hrs := Tryd.results21) (hv := ?_) (hφ := ?_))
    · rfl
    · exact hE
theorem nil_txDo (k t : Int) (w : Value) (hw : w.oneCell' = true) : FSpec Tryd.prog 21 [.pointer none, .agg #[.int .u8 k, .int .i64 t, w]] [] Unit (fun _ => True) (fun _ => .int .i64 1) (fun _ => []) := by
  refine spec_intro [] _ Tryd.func21 rfl Tryd.ntmps21 (by rfl) (fun w0 R => ?_)
  repeat' (first | (refine go_Y ?_; intros) | (refine gs_Y ?_ ?_ <;> (intro hgd; try (simp only [Bool.not_true, Bool.not_false] at hgd))) | (refine gc_Y ?_ ?_ <;> intro _) | fail)
  rename_i bt bo
  refine cl_Y (when_no _ (.func (.func 63) #[] #[.pointer (some ⟨bt, 0, none⟩), .pointer (some ⟨bo, 0, none⟩)]) 1 (by decide) _ _ (vspec_bound (args := []) may_nil)) ?_
  intro _ _
  repeat' (first | (refine go_Y ?_; intros) | (refine gs_Y ?_ ?_ <;> (intro hgd; try (simp only [Bool.not_true, Bool.not_false] at hgd))) | (refine gc_Y ?_ ?_ <;> intro _) | fail)
  (refine rt_Y (y := ()) (hrs := Tryd.results21) (hv := ?_) (hφ := ?_))
  · rfl
  · trivial

/-! ### Get -/
theorem txGet1_spec (b bn bt b4 b5 b6 b7 : Nat) (x : Tx) (t : Int) (k : Vl) (P : HProp) (hx : x.Ok) (hU : UT P) (hk : k.wf) :
    FSpec Tryd.prog 65 [.pointer (some ⟨bt, 0, none⟩), .pointer (some ⟨b4, 0, none⟩), .pointer (some ⟨b5, 0, none⟩), .pointer (some ⟨b6, 0, none⟩), .pointer (some ⟨b7, 0, none⟩)]
      [txP P b bn x, P, pts bt (.cells [.pointer (some ⟨b, 0, none⟩)].toArray 50), pts b4 (.cells [.int .i64 t].toArray 3), pts b5 (.cells (valV k).toArray 31), pts b6 (.cells [.slice none 0 0].toArray 26), pts b7 (.cells [.int .i64 0].toArray 35)]
      V1s (fun _ => True) (fun _ => .int .i64 (x.own.getOp t k).2) (fun y => [row 31 4 y.1 ((x.own.getOp t k).1.map valV), txP P b bn x, P, pts b6 (.cells [y.1].toArray 26), pts b7 (.cells [.int .i64 (x.own.getOp t k).2].toArray 35)]) := by
  refine fspec_ex ?_
  rintro ⟨⟨bw, vr, rs, vl, cs⟩, hy⟩
  have hin := fun L h (s : SatL (txL P b bn x ⟨⟨bw, vr, rs, vl, cs⟩, hy⟩ ++ L) h) => tx_in hy s
  unfold txL at hin ⊢
  dsimp only at hin ⊢
  have hg := relGet_spec bw x.own t k P hx.own hU hk
  obtain ⟨kk, ki, kr, kt⟩ := k
  dsimp only [valV] at *
  refine spec_intro [] _ Tryd.func65 rfl Tryd.ntmps65 (by rfl) (fun w0 R => ?_)
  repeat' (first | (refine go_Y ?_; intros) | (refine gs_Y ?_ ?_ <;> (intro hgd; try (simp only [Bool.not_true, Bool.not_false] at hgd))) | (refine gc_Y ?_ ?_ <;> intro _) | fail)
  refine cl_Y (hg) ?_
  rintro ⟨v, hv⟩ _
  repeat' (first | (refine go_Y ?_; intros) | (refine gs_Y ?_ ?_ <;> (intro hgd; try (simp only [Bool.not_true, Bool.not_false] at hgd))) | (refine gc_Y ?_ ?_ <;> intro _) | fail)
  refine cont_map (fun _ h => hin _ _ (Take.out takeD h)) ?_
  (refine rt_Y (y := ⟨v, hv⟩) (hrs := Tryd.results65) (hv := ?_) (hφ := ?_))
  · rfl
  · trivial
theorem txGet_spec (b bn : Nat) (x : Tx) (t : Int) (k : Vl) (P : HProp) (hx : x.Ok) (hU : UT P) (hk : k.wf) :
    FSpec Tryd.prog 22 [.pointer (some ⟨b, 0, none⟩), .int .i64 t, .agg (valV k).toArray] [txP P b bn x, P] V1s (fun _ => True) (fun y => .tuple #[y.1, .int .i64 (x.getT t k).2]) (fun y => [row 31 4 y.1 ((x.getT t k).1.map valV), txP P b bn x, P]) := by
  have h1 := fun bt b4 b5 b6 b7 => txGet1_spec b bn bt b4 b5 b6 b7 x t k P hx hU hk
  unfold Tx.getT
  obtain ⟨kk, ki, kr, kt⟩ := k
  dsimp only [valV] at *
  refine spec_intro [] _ Tryd.func22 rfl Tryd.ntmps22 (by rfl) (fun w0 R => ?_)
  repeat' (first | (refine go_Y ?_; intros) | (refine gs_Y ?_ ?_ <;> (intro hgd; try (simp only [Bool.not_true, Bool.not_false] at hgd))) | (refine gc_Y ?_ ?_ <;> intro _) | fail)
  rename_i bt b4 b5 b6 b7
  have hm := mayV_spec b bn x P [P, pts bt (.cells [.pointer (some ⟨b, 0, none⟩)].toArray 50), pts b4 (.cells [.int .i64 t].toArray 3), pts b5 (.cells [.int .u8 kk, .int .i64 ki, .int .u64 kr, .string kt].toArray 31), pts b6 (.cells [.slice none 0 0].toArray 26), pts b7 (.cells [.int .i64 0].toArray 35)]
  cases hov : x.over with
  | true =>
    rw [hov, cond_true] at hm
    rw [if_pos rfl]
    dsimp only
    refine cl_Y (when_no _ (.func (.func 65) #[] #[.pointer (some ⟨bt, 0, none⟩), .pointer (some ⟨b4, 0, none⟩), .pointer (some ⟨b5, 0, none⟩), .pointer (some ⟨b6, 0, none⟩), .pointer (some ⟨b7, 0, none⟩)]) 150 (by decide) _ _ hm) ?_
    intro _ _
    repeat' (first | (refine go_Y ?_; intros) | (refine gs_Y ?_ ?_ <;> (intro hgd; try (simp only [Bool.not_true, Bool.not_false] at hgd))) | (refine gc_Y ?_ ?_ <;> intro _) | fail)
    refine ok_drawL (cv := []) [2] ([pts b6 (.cells [.slice none 0 0].toArray 26), pts b7 (.cells [.int .i64 150].toArray 35)]) (takeD) (by kernel_rfl) rfl (by decide +kernel) ?_
    repeat' (first | (refine go_Y ?_; intros) | (refine gs_Y ?_ ?_ <;> (intro hgd; try (simp only [Bool.not_true, Bool.not_false] at hgd))) | (refine gc_Y ?_ ?_ <;> intro _) | fail)
    refine cont_map (fun _ h => nilRow (e := 31) (n := 4) h) ?_
    (refine rt_Y (y := ⟨.slice none 0 0, rfl⟩) (hrs := Tryd.results22) (hv := ?_) (hφ := ?_))
    · rfl
    · trivial
  | false =>
    rw [hov, cond_false] at hm
    rw [if_neg (by simp)]
    have hd := vspec_func (args := []) (cap := [.pointer (some ⟨bt, 0, none⟩), .pointer (some ⟨b4, 0, none⟩), .pointer (some ⟨b5, 0, none⟩), .pointer (some ⟨b6, 0, none⟩), .pointer (some ⟨b7, 0, none⟩)]) (h1 bt b4 b5 b6 b7)
    refine cl_Y (when_yes _ _ _ _ hm hd) ?_
    rintro ⟨v, hv⟩ _
    repeat' (first | (refine go_Y ?_; intros) | (refine gs_Y ?_ ?_ <;> (intro hgd; try (simp only [Bool.not_true, Bool.not_false] at hgd))) | (refine gc_Y ?_ ?_ <;> intro _) | fail)
    refine ok_drawL (cv := []) [2] ([pts b6 (.cells [v].toArray 26), pts b7 (.cells [.int .i64 (x.own.getOp t ⟨kk, ki, kr, kt⟩).2].toArray 35)]) (takeD) (by kernel_rfl) rfl (by decide +kernel) ?_
    repeat' (first | (refine go_Y ?_; intros) | (refine gs_Y ?_ ?_ <;> (intro hgd; try (simp only [Bool.not_true, Bool.not_false] at hgd))) | (refine gc_Y ?_ ?_ <;> intro _) | fail)
    (refine rt_Y (y := ⟨v, hv⟩) (hrs := Tryd.results22) (hv := ?_) (hφ := ?_))
    · rfl
    · trivial
theorem nil_txGet (t : Int) (k : Vl) : FSpec Tryd.prog 22 [.pointer none, .int .i64 t, .agg (valV k).toArray] [] Unit (fun _ => True) (fun _ => .tuple #[.slice none 0 0, .int .i64 1]) (fun _ => []) := by
  obtain ⟨kk, ki, kr, kt⟩ := k
  dsimp only [valV] at *
  refine spec_intro [] _ Tryd.func22 rfl Tryd.ntmps22 (by rfl) (fun w0 R => ?_)
  repeat' (first | (refine go_Y ?_; intros) | (refine gs_Y ?_ ?_ <;> (intro hgd; try (simp only [Bool.not_true, Bool.not_false] at hgd))) | (refine gc_Y ?_ ?_ <;> intro _) | fail)
  rename_i bt b4 b5 b6 b7
  refine cl_Y (when_no _ (.func (.func 65) #[] #[.pointer (some ⟨bt, 0, none⟩), .pointer (some ⟨b4, 0, none⟩), .pointer (some ⟨b5, 0, none⟩), .pointer (some ⟨b6, 0, none⟩), .pointer (some ⟨b7, 0, none⟩)]) 1 (by decide) _ _ (vspec_bound (args := []) may_nil)) ?_
  intro _ _
  repeat' (first | (refine go_Y ?_; intros) | (refine gs_Y ?_ ?_ <;> (intro hgd; try (simp only [Bool.not_true, Bool.not_false] at hgd))) | (refine gc_Y ?_ ?_ <;> intro _) | fail)
  refine ok_drawL (cv := []) [2] ([pts b6 (.cells [.slice none 0 0].toArray 26), pts b7 (.cells [.int .i64 1].toArray 35)]) (takeD) (by kernel_rfl) rfl (by decide +kernel) ?_
  repeat' (first | (refine go_Y ?_; intros) | (refine gs_Y ?_ ?_ <;> (intro hgd; try (simp only [Bool.not_true, Bool.not_false] at hgd))) | (refine gc_Y ?_ ?_ <;> intro _) | fail)
  (refine rt_Y (y := ()) (hrs := Tryd.results22) (hv := ?_) (hφ := ?_))
  · rfl
  · trivial
end Go.Proofs.YtbagfdolcabniaaDoor
