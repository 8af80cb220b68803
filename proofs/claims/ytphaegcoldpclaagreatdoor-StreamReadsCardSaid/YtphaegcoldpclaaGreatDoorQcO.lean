import Derived.Test.YtphaegcoldpclaaGreatDoorG20
import Derived.Test.YtphaegcoldpclaaGreatDoorL14E
import Derived.Test.YtphaegcoldpclaaGreatDoorRkP
set_option linter.unusedSimpArgs false
set_option linter.unusedVariables false
set_option maxRecDepth 100000
namespace Go.Proofs.YtphaegcoldpclaaGreatDoor
open Go Go.Fx Go.Proofs Go.Pl

theorem doOp_wf' {r : Rl} (h : Rl.Wf r) {o : Opr} (hw : ∀ v ∈ o.row, v.wf) : Rl.Wf (r.doOp o).1 := by
  rcases doOp_did r o with ⟨_, e, _⟩ | ⟨_, p, d⟩
  · rw [e]; exact h
  · intro x hx
    rcases d.kind with ⟨_, _, e, _⟩ | ⟨_, _, e, _⟩ | ⟨_, _, e, _⟩
    · rw [e] at hx
      rcases aput_mem _ _ _ x hx with rfl | hx
      · exact hw
      · exact h x hx
    · rw [e] at hx
      rcases aput_mem _ _ _ x hx with rfl | hx
      · exact hw
      · exact h x hx
    · rw [e] at hx
      exact h x (adel_sub _ _ x hx)
abbrev GP (ts : List Tb) (P1 : HProp) := { x : Rl × HProp // x.1.Ok ∧ Rl.Wf x.1 ∧ x.1.s = ts.map Tb.c ∧ Ext P1 x.2 }
abbrev GP2 (ts : List Tb) (P1 : HProp) := { x : Rl × Rl × HProp // (x.1.Ok ∧ Rl.Wf x.1 ∧ x.1.s = ts.map Tb.c) ∧ (x.2.1.Ok ∧ Rl.Wf x.2.1 ∧ x.2.1.s = ts.map Tb.c) ∧ Ext P1 x.2.2 }
end Go.Proofs.YtphaegcoldpclaaGreatDoor
