/- Texts merged: RlE RlF. -/
import Derived.Test.YtphaegcoldpclaaDoorG3
set_option linter.unusedSimpArgs false
set_option linter.unusedVariables false
set_option maxRecDepth 100000
namespace Go.Proofs.YtphaegcoldpclaaDoor
open Go Go.Fx Go.Proofs Go.Pl

end Go.Proofs.YtphaegcoldpclaaDoor
set_option linter.unusedSimpArgs false
set_option linter.unusedVariables false
set_option maxRecDepth 100000
namespace Go.Proofs.YtphaegcoldpclaaDoor
open Go Go.Fx Go.Proofs Go.Pl

section
variable {X : Cx} {ops : Array Oper} {l st : List Nat} {T : List HProp} {N : Act → World → Prop} {i : Nat} {os : List Oper} {Ls : List HProp} {ds : List Deferred} {ρ : Regs} {L : List HProp} {ty : TypeId} {d : Nat}
end

abbrev V1s := { v : Value // v.oneCell' = true }
def Rl.doG (op : Rl → Pc → List Vl → Rl × Int) (r : Rl) (o : Opr) : Rl × List Vl × List Vl × Int :=
  match placeS r.s o with
  | none => (r, [], [], 2)
  | some p => if (op r p o.row).2 = 0 then ({ (op r p o.row).1 with turns := IntKind.u64.wrap ((op r p o.row).1.turns + 1) }, (aget p r.rows).getD [], (aget p (op r p o.row).1.rows).getD [], 0) else (r, [], [], (op r p o.row).2)
def opsE : List (Int × Value) := [(1, fv 105), (2, fv 106), (3, fv 107)]

theorem vw_nil4 {P : HProp} : Vw P 4 (.slice none 0 0) (([] : List Vl).map valV) := fun h _ => ⟨fun _ hx => by simp at hx, none, 0, rfl, .inl rfl, fun _ => rfl, fun b o hp => by cases hp⟩
end Go.Proofs.YtphaegcoldpclaaDoor
