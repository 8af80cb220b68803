/- Texts merged: QcM QcO. -/
import Derived.Test.YtphaegcoldpclaaGreatDoorG15
import Derived.Test.YtphaegcoldpclaaGreatDoorG12
import Derived.Test.YtphaegcoldpclaaGreatDoorG13
set_option linter.unusedSimpArgs false
set_option linter.unusedVariables false
set_option maxRecDepth 100000
namespace Go.Proofs.YtphaegcoldpclaaGreatDoor
open Go Go.Fx Go.Proofs Go.Pl

theorem ofV_spec (b bx bt bk : Nat) (r : Rl) (t : Int) (k : Vl) (vs : Value) (ts : List Tb) (m : Nat) (w : Value) (l : List Vl) (A : HProp) (hsv : SV A vs ts) (hss : ts.map Tb.c = r.s) (hw : Vw A 4 w (l.map valV)) (hr : rowS r.s t l = true) :
    VSpec Tryz.prog (.func (.func 111) #[] #[.pointer (some ⟨bx, 0, none⟩), .pointer (some ⟨bt, 0, none⟩), .pointer (some ⟨bk, 0, none⟩)]) [w] [pts b (.cells [vs, .map (some m), .int .u64 r.turns].toArray 112), A, (fun h => SatL (ofF b bx bt bk t k) h)] Unit (fun _ => True)
      (fun _ => .bool (askOf r.s t k l)) (fun _ => [pts b (.cells [vs, .map (some m), .int .u64 r.turns].toArray 112), A, (fun h => SatL (ofF b bx bt bk t k) h)]) := by
  have h1 := of1_spec b bx bt bk vs (.map (some m)) r.turns ts t k w l A hsv hw (by rw [hss]; exact hr)
  rw [hss] at h1
  exact VSpec.conseq (vspec_func (args := [w]) (cap := [.pointer (some ⟨bx, 0, none⟩), .pointer (some ⟨bt, 0, none⟩), .pointer (some ⟨bk, 0, none⟩)]) h1) (fun _ _ s => s.consMono fun _ s => s.consMono fun _ s => SatL.flat s)
    (fun y _ => ⟨(), trivial, rfl, fun _ _ s => s.consMono fun _ s => s.consMono fun _ s => SatL.unflat (M := ofF b bx bt bk t k) s⟩)
theorem relOf_spec (b : Nat) (r : Rl) (t : Int) (k : Vl) (P : HProp) (hok : r.Ok) (hwf : Rl.Wf r) :
    FSpec Tryz.prog 79 [.pointer (some ⟨b, 0, none⟩), .int .i64 t, .agg (valV k).toArray] [relP P b r, P] (V1s × List Rw × HProp) (fun y => Ext P y.2.2 ∧ (∀ x ∈ y.2.1, Vw y.2.2 4 x.1.1 (x.2.map valV)) ∧ InOrder r t (askOf r.s t k) (y.2.1.map (·.2)))
      (fun y => y.1.1) (fun y => [row 42 1 y.1.1 (y.2.1.map rwV), relP y.2.2 b r, y.2.2]) := by
  by_cases hh : hasS r.s t = true
  · have hof := fun bx bt bk => someF_spec b r t (.func (.func 111) #[] #[.pointer (some ⟨bx, 0, none⟩), .pointer (some ⟨bt, 0, none⟩), .pointer (some ⟨bk, 0, none⟩)]) rfl (askOf r.s t k) P (fun h => SatL (ofF b bx bt bk t k) h) hok hwf hh (fun vs ts m w l A hsv hss hw hr => ofV_spec b bx bt bk r t k vs ts m w l A hsv hss hw hr)
    obtain ⟨kk, ki, kr, ks⟩ := k
    dsimp only [valV]
    refine spec_intro [] _ Tryz.func79 rfl Tryz.ntmps79 (by rfl) (fun w0 R => ?_)
    repeat' (first | (refine go_Y ?_; intros) | (refine gs_Y ?_ ?_ <;> (intro hgd; try (simp only [Bool.not_true, Bool.not_false] at hgd))) | (refine gc_Y ?_ ?_ <;> intro _) | fail)
    rename_i bx bt bk
    refine opsL_map (L' := (fun h => SatL (ofF b bx bt bk t ⟨kk, ki, kr, ks⟩) h) :: ([relP P b r, P] ++ R)) (fun _ h => SatL.unflat (M := ofF b bx bt bk t ⟨kk, ki, kr, ks⟩) (Take.out takeD h)) ?_
    refine cl_Y (hof bx bt bk) ?_
    rintro ⟨⟨v, hv⟩, l, Q⟩ ⟨h1, h2, h3⟩
    dsimp only at h1 h2 h3 ⊢
    repeat' (first | (refine go_Y ?_; intros) | (refine gs_Y ?_ ?_ <;> (intro hgd; try (simp only [Bool.not_true, Bool.not_false] at hgd))) | (refine gc_Y ?_ ?_ <;> intro _) | fail)
    (refine rt_Y (y := (⟨v, hv⟩, l, Q)) (hrs := Tryz.results79) (hv := ?_) (hφ := ?_))
    · rfl
    · exact ⟨h1, h2, h3⟩
  · have ht : t < 0 ∨ (r.s.length : Int) ≤ t := by
      simp only [hasS, hok.sch, Bool.true_and, Bool.and_eq_true, decide_eq_true_eq] at hh
      omega
    have hs := fun bx bt bk => some_none b r t (.func (.func 111) #[] #[.pointer (some ⟨bx, 0, none⟩), .pointer (some ⟨bt, 0, none⟩), .pointer (some ⟨bk, 0, none⟩)]) rfl P hok ht
    have hr := rows_none hok (ask := askOf r.s t k) ht
    obtain ⟨kk, ki, kr, ks⟩ := k
    dsimp only [valV]
    refine spec_intro [] _ Tryz.func79 rfl Tryz.ntmps79 (by rfl) (fun w0 R => ?_)
    repeat' (first | (refine go_Y ?_; intros) | (refine gs_Y ?_ ?_ <;> (intro hgd; try (simp only [Bool.not_true, Bool.not_false] at hgd))) | (refine gc_Y ?_ ?_ <;> intro _) | fail)
    rename_i bx bt bk
    refine cl_Y (hs bx bt bk) ?_
    intro _ _
    repeat' (first | (refine go_Y ?_; intros) | (refine gs_Y ?_ ?_ <;> (intro hgd; try (simp only [Bool.not_true, Bool.not_false] at hgd))) | (refine gc_Y ?_ ?_ <;> intro _) | fail)
    refine cont_map (fun _ h => nilRow (e := 42) (n := 1) h) ?_
    (refine rt_Y (y := (⟨.slice none 0 0, rfl⟩, [], P)) (hrs := Tryz.results79) (hv := ?_) (hφ := ?_))
    · rfl
    · exact ⟨Ext.refl P, fun _ h => by simp at h, ⟨by rw [hr]; exact .refl _, .nil⟩⟩
instance coEq : SEq Tryz.prog 142 [.string, .int .u8, .bool] := ⟨by kernel_rfl⟩
end Go.Proofs.YtphaegcoldpclaaGreatDoor
set_option linter.unusedSimpArgs false
set_option linter.unusedVariables false
set_option maxRecDepth 100000
namespace Go.Proofs.YtphaegcoldpclaaGreatDoor
open Go Go.Fx Go.Proofs Go.Pl

theorem doOp_s' (r : Rl) (o : Opr) : (r.doOp o).1.s = r.s := by
  rcases doOp_did r o with ⟨_, e, _⟩ | ⟨_, p, d⟩
  · rw [e]
  · rw [d.s]
theorem doOp_wf' {r : Rl} (h : Rl.Wf r) {o : Opr} (hw : ∀ v ∈ o.row, v.wf) : Rl.Wf (r.doOp o).1 := by
  rcases doOp_did r o with ⟨_, e, _⟩ | ⟨_, p, d⟩
  · rw [e]; exact h
  · intro x hx
    rcases d.kind with ⟨_, _, e, _⟩ | ⟨_, _, e, _⟩ | ⟨_, _, e, _⟩
    · rw [e] at hx
      rcases aput_mem _ _ _ x hx with rfl | hx
      · exact hw
      · exact h x hx
    · rw [e] at hx
      rcases aput_mem _ _ _ x hx with rfl | hx
      · exact hw
      · exact h x hx
    · rw [e] at hx
      exact h x (adel_sub _ _ x hx)
theorem new_wf' {s : Sc} : Rl.Wf ⟨s, [], 0⟩ := fun x hx => by simp at hx
abbrev GP (ts : List Tb) (P1 : HProp) := { x : Rl × HProp // x.1.Ok ∧ Rl.Wf x.1 ∧ x.1.s = ts.map Tb.c ∧ Ext P1 x.2 }
abbrev GP2 (ts : List Tb) (P1 : HProp) := { x : Rl × Rl × HProp // (x.1.Ok ∧ Rl.Wf x.1 ∧ x.1.s = ts.map Tb.c) ∧ (x.2.1.Ok ∧ Rl.Wf x.2.1 ∧ x.2.1.s = ts.map Tb.c) ∧ Ext P1 x.2.2 }
end Go.Proofs.YtphaegcoldpclaaGreatDoor
