import Derived.Test.YtgbmjoenbocfcaaGreatTpP
import Derived.Test.YtgbmjoenbocfcaaGreatG1
import Derived.Lib.Bytealg
set_option linter.unusedSimpArgs false
set_option linter.unusedVariables false
namespace Go.Pl
open Go Go.Fx
abbrev dotK:BA:=⟨#[46]⟩
abbrev dotNewK:BA:=⟨#[46,110,101,119]⟩
abbrev dotMan:BA:=⟨#[46,109,97,110]⟩
abbrev walK:BA:=⟨#[119,97,108]⟩
abbrev runK:BA:=⟨#[114,117,110]⟩
def fileK(nm kd:BA)(n:Nat):BA:=nm++dotK++kd++dotK++hexS n 12
def manK(nm:BA):BA:=nm++dotMan
def cutD(s:BA):(BA×BA)×Bool:=
 if 0≤Lib.indexByte s.data.toList 46 then((s.extract 0 (Lib.indexByte s.data.toList 46).toNat,s.extract ((Lib.indexByte s.data.toList 46).toNat+1) s.size),true)else((s,⟨#[]⟩),false)
def unK(s:BA):Int:=if(unhexS s).isSome then 0 else 2
def unN(s:BA):Int:=(((unhexS s).getD 0:Nat):Int)
def strayC(m:Mn)(r:BA×Bool):Bool:=
 bif !r.2 then false else bif !(cutD r.1).2 then false else bif !decide (unK (cutD r.1).1.2=0)then false else bif !decide (((cutD r.1).1.2.size:Int)=12)then false else
 bif (cutD r.1).1.1.toList==walK.toList then !decide (unN (cutD r.1).1.2=m.wal)else bif (cutD r.1).1.1.toList==runK.toList then !m.runs.contains (unN (cutD r.1).1.2)else false
def strayB(nm:BA)(m:Mn)(f:BA):Bool:=bif f.toList==(manK nm++dotNewK).toList then true else strayC m (cutP f (nm++dotK))
end Go.Pl
