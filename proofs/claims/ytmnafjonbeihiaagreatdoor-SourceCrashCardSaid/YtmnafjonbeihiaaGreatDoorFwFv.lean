import Derived.Test.YtmnafjonbeihiaaGreatDoorG14
set_option linter.unusedSimpArgs false
set_option linter.unusedVariables false
namespace Go.Fx
open Go
section
variable{X:Cx}{ops:Array Oper}{Q:Exit→Act→World→Prop}{ds:List Deferred}{ρ:Regs}{L:List HProp}
theorem node_have{nb:List Nat}{Ls:List HProp}{n:Nat}{l:List Nat}(n':Nat)(l':List Nat){γ:Type}(I:γ→Regs→List HProp→Prop)
 (hI:∀ g ρ L,I g ρ L→Cont X (NodeX X ops nb Q Ls n' l') .normal ds ρ L)
 (h:(∀ g ρ L,I g ρ L→Cont X (NodeX X ops nb Q Ls n' l') .normal ds ρ L)→Cont X (NodeX X ops nb Q Ls n l) .normal ds ρ L):Cont X (NodeX X ops nb Q Ls n l) .normal ds ρ L:=h hI
theorem nodeE1{α:Type}{a:α}{p:α→Prop}(h:p a):∀ x∈[a],p x:=fun _ hx=>by rw[List.mem_singleton.1 hx];exact h
theorem nodeE2{α:Type}{a b:α}{p:α→Prop}(h:p a)(h2:p b):∀ x∈[a,b],p x:=fun x hx=>by
 rcases List.mem_cons.1 hx with rfl|hx
 ·exact h
 ·exact nodeE1 h2 x hx
end
end Go.Fx
