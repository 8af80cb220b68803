import Derived.Test.YtgbmjoenbocfcaaGreatFwY
set_option linter.unusedSimpArgs false
set_option linter.unusedVariables false
namespace Go.Fx
open Go
theorem opsL_mapL{X:Cx}{ops:Array Oper}{nb:NB}{N:Act→World→Prop}{i:Nat}{os:List Oper}{Ls:List HProp}{ds:List Deferred}{ρ:Regs}{L L':List HProp}(k:∀ h,SatL L h→SatL L' h)(h:OpsL X ops nb N i os Ls ds ρ L'):OpsL X ops nb N i os Ls ds ρ L:=by
 unfold OpsL at*
 intro hd a w ha hs
 exact h hd a w ha (hs.map k)
theorem rowShapeS{e n:Nat}{v:Value}{xs:List (List Value)}{L R:List HProp}(hn:0<n)(t:Take L [row e n v xs] R)(h:Frag)(s:SatL L h):∃ p c,v= .slice p xs.length c∧xs.length≤c∧∀ q,p=some q→q.spot=none:=by
 rcases rowShape hn t h s with⟨rfl,rfl⟩|⟨g,cap,rfl,hc⟩
 ·exact⟨none,0,rfl,Nat.le_refl 0,fun _ e=>by cases e⟩
 ·exact⟨_,cap,rfl,hc,fun _ e=>by cases e;rfl⟩
section
variable{X:Cx}{ops:Array Oper}{nb:NB}{N:Act→World→Prop}{i:Nat}{os:List Oper}{Ls:List HProp}{ds:List Deferred}{ρ:Regs}{L:List HProp}{ty:TypeId}{d:Nat}
end
end Go.Fx
