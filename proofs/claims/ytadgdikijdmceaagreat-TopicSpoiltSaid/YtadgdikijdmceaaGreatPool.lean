import Derived.Test.YtadgdikijdmceaaGreatG0
import Derived.Test.YtadgdikijdmceaaGreatFwY
set_option linter.unusedVariables false
namespace Go.Fx
open Go
variable {X : Cx} {ops : Array Oper} {nb : NB} {N : Act → World → Prop} {i : Nat} {os : List Oper} {Ls : List HProp} {ds : List Deferred} {ρ : Regs} {L L' : List HProp} {Q : Exit → Act → World → Prop}
theorem cont_poolN {e : Exit} {ty n : Nat} {v : Value} {xs : List (List Value)} {P : HProp} (t : Take L [row ty n v xs, P] L') (h : ∀ P', Ext P P' → Vw P' n v xs → Cont X Q e ds ρ (P' :: L')) : Cont X Q e ds ρ L :=
  cont_map (fun _ s => pool_in (Take.out2 t s)) (h _ (Ext.pool _ _) pool_row)
theorem ok_poolN {c : Code} {ty n : Nat} {v : Value} {xs : List (List Value)} {P : HProp} (t : Take L [row ty n v xs, P] L') (h : ∀ P', Ext P P' → Vw P' n v xs → Ok X c ds ρ (P' :: L') Q) : Ok X c ds ρ L Q :=
  ok_map (fun _ s => pool_in (Take.out2 t s)) (h _ (Ext.pool _ _) pool_row)
theorem ops_poolN {ty n : Nat} {v : Value} {xs : List (List Value)} {P : HProp} (t : Take L [row ty n v xs, P] L') (h : ∀ P', Ext P P' → Vw P' n v xs → OpsL X ops nb N i os Ls ds ρ (P' :: L')) : OpsL X ops nb N i os Ls ds ρ L :=
  opsL_mapL (fun _ s => pool_in (Take.out2 t s)) (h _ (Ext.pool _ _) pool_row)
end Go.Fx
