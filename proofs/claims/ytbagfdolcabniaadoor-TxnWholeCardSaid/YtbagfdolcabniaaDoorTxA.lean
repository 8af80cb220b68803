/- The walks of rel.Copy, txn.when, txn.Txn.may; what no transaction answers. -/
import Derived.Test.YtbagfdolcabniaaDoorG6
-- @DEFS Y
set_option linter.unusedSimpArgs false
set_option linter.unusedVariables false
set_option maxRecDepth 100000
namespace Go.Proofs.YtbagfdolcabniaaDoor
open Go Go.Fx Go.Proofs Go.Pl

theorem relClone_call (args : Array Value) (w : World) : (callFunc 102 args).run Tryd.prog w = ((Extern.MapsClone.clone args).run Tryd.prog w).andThen fun v w' => .ok (.value v) w' :=
  run_callFunc_extern Tryd.func102 (by kernel_rfl) (by kernel_rfl) (by kernel_rfl) (by kernel_rfl) args w
theorem mapClone_spec (m : Nat) (l : List (Pc × Value)) : FSpec Tryd.prog 60 [.map (some m)] [mapK KPlace m l] Nat (fun _ => True) (fun b => .map (some b)) (fun b => [mapK KPlace b l, mapK KPlace m l]) := by
  refine spec_intro [] _ Tryd.func60 rfl Tryd.ntmps60 (by rfl) (fun w0 R => ?_)
  repeat' (first | (refine go_Y ?_; intros) | (refine gs_Y ?_ ?_ <;> (intro hgd; try (simp only [Bool.not_true, Bool.not_false] at hgd))) | (refine gc_Y ?_ ?_ <;> intro _) | fail)
  refine clV_Y (vspec_clone relClone_call KPlace 105 m l) ?_
  intro y _
  repeat' (first | (refine go_Y ?_; intros) | (refine gs_Y ?_ ?_ <;> (intro hgd; try (simp only [Bool.not_true, Bool.not_false] at hgd))) | (refine gc_Y ?_ ?_ <;> intro _) | fail)
  (refine rt_Y (y := y) (hrs := Tryd.results60) (hv := ?_) (hφ := ?_))
  · rfl
  · trivial
/-- Copy: a state of one's own with the same. -/
theorem relCopy_spec (b : Nat) (r : Rl) (P : HProp) : FSpec Tryd.prog 19 [.pointer (some ⟨b, 0, none⟩)] [relP P b r] Nat (fun _ => True) (fun y => .pointer (some ⟨y, 0, none⟩)) (fun y => [relP P y r, relP P b r]) := by
  refine fspec_ex ?_
  rintro ⟨⟨vs, ts, m, es⟩, hy⟩
  have hvc := hy.vc
  dsimp only at hvc
  unfold relL
  dsimp only
  refine spec_intro [] _ Tryd.func19 rfl Tryd.ntmps19 (by rfl) (fun w0 R => ?_)
  repeat' (first | (refine go_Y ?_; intros) | (refine gs_Y ?_ ?_ <;> (intro hgd; try (simp only [Bool.not_true, Bool.not_false] at hgd))) | (refine gc_Y ?_ ?_ <;> intro _) | fail)
  refine ok_drawL (cv := []) [8] ([pts b (.cells [vs, .map (some m), .int .u64 r.turns].toArray 107)]) (takeD) (by kernel_rfl) rfl (by decide +kernel) ?_
  repeat' (first | (refine go_Y ?_; intros) | (refine gs_Y ?_ ?_ <;> (intro hgd; try (simp only [Bool.not_true, Bool.not_false] at hgd))) | (refine gc_Y ?_ ?_ <;> intro _) | fail)
  refine clN_Y (mapClone_spec m es) ?_
  intro m2 _
  repeat' (first | (refine go_Y ?_; intros) | (refine gs_Y ?_ ?_ <;> (intro hgd; try (simp only [Bool.not_true, Bool.not_false] at hgd))) | (refine gc_Y ?_ ?_ <;> intro _) | fail)
  rename_i b2
  refine cont_map (fun _ h => rel_in (b := b) (r := r) hy (Take.out takeD h)) ?_
  refine cont_map (fun _ h => rel_in (b := b2) (r := r) (vs := vs) (ts := ts) (m := m2) (es := es) ⟨hvc, hy.sv, hy.s, hy.es⟩ (Take.out takeD h)) ?_
  (refine rt_Y (y := b2) (hrs := Tryd.results19) (hv := ?_) (hφ := ?_))
  · rfl
  · trivial

/-! ### when -/
theorem take_app : ∀ {pre R : List HProp}, Take (pre ++ R) pre R
  | [], _ => .nil
  | _ :: _, _ => .cons .here take_app
theorem when_no (mv dv : Value) (e : Int) (he : e ≠ 0) (pre post : List HProp) (hm : VSpec Tryd.prog mv [] pre Unit (fun _ => True) (fun _ => .int .i64 e) (fun _ => post)) :
    FSpec Tryd.prog 61 [mv, dv] pre Unit (fun _ => True) (fun _ => .int .i64 e) (fun _ => post) := by
  have f1 : (!decide (e = (0 : Int))) = true := by simp [he]
  refine spec_intro [] _ Tryd.func61 rfl Tryd.ntmps61 (by rfl) (fun w0 R => ?_)
  repeat' (first | (refine go_Y ?_; intros) | (refine gs_Y ?_ ?_ <;> (intro hgd; try (simp only [Bool.not_true, Bool.not_false] at hgd))) | (refine gc_Y ?_ ?_ <;> intro _) | fail)
  apply ops_run
  refine s_callv (vs := []) (by rfl) .nil hm take_app (by rfl) (by rfl) ?_
  intro _ _
  repeat' (first | (refine go_Y ?_; intros) | (refine gs_Y ?_ ?_ <;> (intro hgd; try (simp only [Bool.not_true, Bool.not_false] at hgd))) | (refine gc_Y ?_ ?_ <;> intro _) | fail)
  refine rt_Y (y := ()) (hrs := Tryd.results61) (hp := fun _ h => h) (hv := ?_) (hφ := ?_)
  · rfl
  · trivial
theorem when_yes (mv dv : Value) (pre mid : List HProp) {Y : Type} {φ : Y → Prop} {g : Y → Int} {post : Y → List HProp} (hm : VSpec Tryd.prog mv [] pre Unit (fun _ => True) (fun _ => .int .i64 0) (fun _ => mid))
    (hd : VSpec Tryd.prog dv [] mid Y φ (fun y => .int .i64 (g y)) post) : FSpec Tryd.prog 61 [mv, dv] pre Y φ (fun y => .int .i64 (g y)) post := by
  have f1 : (!decide ((0 : Int) = (0 : Int))) = false := by decide
  refine spec_intro [] _ Tryd.func61 rfl Tryd.ntmps61 (by rfl) (fun w0 R => ?_)
  repeat' (first | (refine go_Y ?_; intros) | (refine gs_Y ?_ ?_ <;> (intro hgd; try (simp only [Bool.not_true, Bool.not_false] at hgd))) | (refine gc_Y ?_ ?_ <;> intro _) | fail)
  apply ops_run
  refine s_callv (vs := []) (by rfl) .nil hm take_app (by rfl) (by rfl) ?_
  intro _ _
  repeat' (first | (refine go_Y ?_; intros) | (refine gs_Y ?_ ?_ <;> (intro hgd; try (simp only [Bool.not_true, Bool.not_false] at hgd))) | (refine gc_Y ?_ ?_ <;> intro _) | fail)
  apply ops_run
  refine s_callv (vs := []) (by rfl) .nil hd take_app (by rfl) (by rfl) ?_
  intro y hy
  repeat' (first | (refine go_Y ?_; intros) | (refine gs_Y ?_ ?_ <;> (intro hgd; try (simp only [Bool.not_true, Bool.not_false] at hgd))) | (refine gc_Y ?_ ?_ <;> intro _) | fail)
  refine rt_Y (y := y) (hrs := Tryd.results61) (hp := fun _ h => h) (hv := ?_) (hφ := ?_)
  · rfl
  · exact hy
end Go.Proofs.YtbagfdolcabniaaDoor
