import Derived.Test.YtmnafjonbeihiaaGreatDoorFwY
set_option linter.unusedVariables false
namespace Go.Fx
open Go
section
variable {X : Cx} {ops : Array Oper} {nb : NB} {N : Act → World → Prop} {i : Nat} {os : List Oper} {Ls : List HProp} {ds : List Deferred} {ρ : Regs} {L : List HProp} {ty : TypeId} {d : Nat}
end
end Go.Fx
