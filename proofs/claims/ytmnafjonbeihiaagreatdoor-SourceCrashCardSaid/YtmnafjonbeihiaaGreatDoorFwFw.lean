import Derived.Test.YtmnafjonbeihiaaGreatDoorFwX
import Derived.RecoverIn
set_option linter.unusedSimpArgs false
set_option linter.unusedVariables false
namespace Go.Fx
open Go
def Idle(P:Program)(f:FuncId)(vs:List Value):Prop:=∀ w,CallsDIn (Fw none) 0 P f vs.toArray .returning w fun e u' w'=>e= .returned (.tuple #[])∧u'= .returning∧w'=w
def dfr(f:FuncId)(vs:List Value):Deferred:={target:=.fn (.func f) #[],args:=vs.toArray}
theorem CallsDIn.mono'{F:Fence}{n:Nat}{P:Program}{f:FuncId}{args:Array Value}{u:FrameMode}{w:World}{R R':Ending→FrameMode→World→Prop}(h:CallsDIn F n P f args u w R)(hr:∀ e u' w',R e u' w'→R' e u' w'):CallsDIn F n P f args u w R':=
 ⟨h.1,fun c cs hu hro=>let⟨e,u',w',fr,r,s⟩:=h.2 c cs hu hro;⟨e,u',w',fr,hr _ _ _ r,s⟩⟩
variable{X:Cx}{ds:List Deferred}{ρ:Regs}{L:List HProp}{Q:Exit→Act→World→Prop}
theorem ok_defer{id:Nat}{f:FuncId}{args:Array Operand}{at_:Array TypeId}{ty:TypeId}{pos:String}{after:Array Edge}(vs:List Value)(hr:X.r=none)(he:EvA ρ args.toList vs)
  (h:Cont X Q .normal (dfr f vs::ds) ρ L):Ok X (.region id #[⟨none,.defer {callee:=.value (.func f),args:=args,argTypes:=at_},ty,pos,after,none⟩] false) ds ρ L Q:=by
 refine foldOk fun a w ha hs=>wpIn_region ?_
 have hargs:args.map a.eval=vs.toArray:=by
  rw[ha.eval]
  apply Array.ext'
  simpa using he.map
 have hd:Agr X.nt ρ (dfr f vs::ds) {a with defers:=dfr f vs::a.defers}:=⟨ha.size,ha.get,by show _::a.defers=_;rw[ha.defers]⟩
 have hq:=unfoldCont h _ w hd hs
 have hev:a.eval (.func f)= .func (.func f) #[] #[]:=rfl
 rw[hr]
 have hrun:(Oper.semAt none a.eval ⟨none,.defer {callee:=.value (.func f),args:=args,argTypes:=at_},ty,pos,after,none⟩).run X.P w= .ok (.defer (dfr f vs)) w:=by
  simp[Oper.semAt,execOp,resolve,Deferred.ofValue,hev,hargs,dfr]
 show wpOpsIn (Fw none) 0 X.P _ Q [0] a w
 simp only[wpOpsIn,List.getElem?_toArray,List.getElem?_cons_zero,Region.wanted,if_true]
 refine⟨fun g hg=>by simp[Oper.about]at hg,?_⟩
 show Oper.uponIn _ _ _ _ _ _ _ ((Oper.semAt (Fw none).round _ _).run _ _)
 rw[show(Fw none).round=none from rfl,hrun,Oper.uponIn_defer]
 exact hq
theorem cont_deferred{w0:W0}{P:Program}{nt:Nat}{cv:List TypeId}{r:Option Nat}{fn:Func}{Y:Type}{φ:Y→Prop}{ret:Y→Value}{post:Y→List HProp}{R:List HProp}{e:Exit}{f:FuncId}[K:FnI P f]{vs:List Value}(he:e= .normal∨e= .ret)
  (hI:Idle P f vs)(h:Cont ⟨P,r,nt,w0,cv⟩ (Fin ⟨P,r,nt,w0,cv⟩ fn Y φ ret post R) e [] ρ L):Cont ⟨P,r,nt,w0,cv⟩ (Fin ⟨P,r,nt,w0,cv⟩ fn Y φ ret post R) e [dfr f vs] ρ L:=by
 refine foldCont fun a w ha hs=>?_
 have ha':Agr nt ρ [] {a with defers:=[]}:=⟨ha.size,ha.get,rfl⟩
 have hq:=unfoldCont h _ w ha' hs
 have h1:LeavesInM (Fw none) 0 P fn a.tmps (fun e w'=>∃ y,φ y∧e= .returned (ret y)∧Sats w0 w' (post y++R)) [] .returning w:=by
  rcases he with rfl|rfl
  ·simpa only[Fin,bodyPostM]using hq
  ·simpa only[Fin,bodyPostM]using hq
 have h2:LeavesInM (Fw none) 0 P fn a.tmps (fun e w'=>∃ y,φ y∧e= .returned (ret y)∧Sats w0 w' (post y++R)) a.defers .returning w:=by
  rw[ha.defers]
  refine⟨by simp,.inr ⟨fun h=>by simp[Fw]at h,.func f,#[],f,vs.toArray,rfl,?_,fun g _=>trivial,?_⟩⟩
  ·show(callFunc f (vs.toArray++ #[])).run P w=_
   rw[Array.append_empty]
   exact K.call _ _
  ·refine CallsDIn.mono' (hI w) ?_
   rintro e u' w' ⟨rfl,rfl,rfl⟩
   exact h1
 rcases he with rfl|rfl
 ·simpa only[Fin,bodyPostM]using h2
 ·simpa only[Fin,bodyPostM]using h2
end Go.Fx
