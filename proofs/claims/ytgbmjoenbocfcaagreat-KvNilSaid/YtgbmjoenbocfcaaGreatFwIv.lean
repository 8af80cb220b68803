import Derived.Laws.Sem
import Derived.Test.YtgbmjoenbocfcaaGreatFwX
import Derived.Test.YtgbmjoenbocfcaaGreatFwY
namespace Go.Fx
open Go
class MeI(P:Program)(t:TypeId)(name:String)(f:FuncId):Prop where
 call:∀ v args w,(callMethod (.iface t v) name args).run P w= .ok (.enter f (#[v]++args)) w
theorem mei_of{P:Program}{t:TypeId}{name nm:String}{f:FuncId}{sg:TypeId}{info:TypeInfo}{d:TypeDesc}(hi:P.info? t=some info)(hm:info.methods.find? (·.name==name)=some ⟨nm,sg,#[],some (f,false)⟩)
  (hd:P.underlying t=some d)(hp:∀ e,d≠.pointer e)[K:FnI P f]:MeI P t name f:=by
 refine⟨fun v args w=>?_⟩
 have h1:(typeInfo t).run P w= .ok info w:=by simp[typeInfo,hi]
 have h2:(method (P.types.size+Made.depth) t v name).run P w= .ok (f,v) w:=by
  rw[show P.types.size+Made.depth=(P.types.size+(Made.depth-1))+1 from rfl]
  unfold method
  simp only[Sem.run_bind,h1,Result.andThen_ok,hm]
  simp only[follow,receiverAt,Sem.run_bind,Sem.run_pure,Result.andThen_ok,run_underlying_of hd]
  cases d<;>first|exact absurd rfl (hp _)|(simp[Place.get])
 unfold callMethod
 simp only[Sem.run_bind,Sem.run_pure,Result.andThen_ok,run_program,h2,K.call]
theorem mei_at{P:Program}{t:TypeId}{name:String}{f:FuncId}{d:TypeDesc}(h:((P.info? t).bind fun i=>i.methods.find? (·.name==name)).map (fun m=>(m.path.size,m.func))=some (0,some (f,false)))
  (hd:P.underlying t=some d)(hp:∀ e,d≠.pointer e)[K:FnI P f]:MeI P t name f:=by
 cases hi:P.info? t with
 |none=>rw[hi]at h;cases h
 |some info=>
  rw[hi]at h
  cases hm:info.methods.find? (·.name==name)with
  |none=>simp[hm]at h
  |some m=>
   simp only[Option.bind_some,hm,Option.map_some,Option.some.injEq,Prod.mk.injEq]at h
   obtain⟨nm,sg,pa,fu⟩:=m
   obtain⟨h1,h2⟩:=h
   dsimp only at h1 h2
   subst h2
   have h3:pa=#[]:=Array.eq_empty_of_size_eq_zero h1
   subst h3
   exact mei_of hi hm hd hp
theorem vspec_method{P:Program}{t:TypeId}{name:String}{f:FuncId}[K:MeI P t name f]{v:Value}{args:List Value}{pre:List HProp}{Y:Type}{φ:Y→Prop}{ret:Y→Value}{post:Y→List HProp}
  {m:Bool}(s:FSpecM m P f (v::args) pre Y φ ret post):VSpecM m P (.func (.method name) #[] #[]) (.iface t v::args) pre Y φ ret post:=by
 intro w0 w R hs
 unfold Runs callV
 have e:((Value.iface t v::args).toArray.extract 1 (Value.iface t v::args).toArray.size)=args.toArray:=by
  apply Array.ext';simp
 have e0:(Value.iface t v::args).toArray[0]? =some (.iface t v):=rfl
 have e1: #[v]++args.toArray=(v::args).toArray:=by simp
 simp only[Deferred.ofValue,invoke,Sem.run_bind,Sem.run_pure,Result.andThen_ok,Array.empty_append,e0,e,K.call,e1]
 refine(s w0 w R hs).mono ?_
 rintro e w' ⟨y,hy,rfl,hs'⟩
 exact⟨y,hy,rfl,hs'⟩
section
variable{X:Cx}{ops:Array Oper}{nb:NB}{N:Act→World→Prop}{i:Nat}{os:List Oper}{Ls:List HProp}{ds:List Deferred}{ρ:Regs}{L:List HProp}{ty:TypeId}{d:Nat}
theorem a_nilCheck_iface{x:Operand}{t:TypeId}{v:Value}(hx:ev ρ x= .iface t v)(hd:Nat.blt d X.nt=true)(h:OpsL X ops nb N (i+1) os Ls ds (upd ρ d (.iface t v)) L):
  Op1 X ops nb N i (some d) (.nilCheck x) ty os Ls ds ρ L:=by
 (refine op_pure1 (fun _ e=>by cases e) (fun _ _ _=>by simp[qk]) hd ?_ h;intro pos after gd w);simp[execOp,hx]
theorem e_invoke{x:Operand}{name:String}{args:Array Operand}{at_:Array TypeId}{r:Value}{vs:List Value}{d:Option Nat}{pre R:List HProp}{Y:Type}{φ:Y→Prop}{ret:Y→Value}{post:Y→List HProp}
  (hx:ev ρ x=r)(ha:EvA ρ args.toList vs)(hs:VSpecM X.w0.m X.P (.func (.method name) #[] #[]) (r::vs) pre Y φ ret post)(ht:Take L pre R):
  Eff X d (.call {callee:=.invoke x name,args:=args,argTypes:=at_}) ty ρ L Y φ ret (fun y=>post y++R):=by
 have ha':=ha.map
 subst ha' hx
 refine⟨(fun _ e=>by cases e),fun pos after gd=>⟨rfl,fun w hw=>?_⟩⟩
 have e:(args.map (ev ρ))=(args.toList.map (ev ρ)).toArray:=by apply Array.ext';simp
 rw[opVal_runs]
 have he:execOp (ev ρ) ⟨d,.call {callee:=.invoke x name,args:=args,argTypes:=at_},ty,pos,after,gd⟩=callV (.func (.method name) #[] #[]) (ev ρ x::args.toList.map (ev ρ)):=by
  simp only[execOp,resolve,callV,e,Deferred.ofValue]
  simp
 rw[he]
 exact hs X.w0.w w R (hw.take ht)
theorem s_invoke [NoT nb]{x:Operand}{name:String}{args:Array Operand}{at_:Array TypeId}{r:Value}{vs:List Value}{pre R:List HProp}{Y:Type}{φ:Y→Prop}{ret:Y→Value}{post:Y→List HProp}
  (hs:VSpecM X.w0.m X.P (.func (.method name) #[] #[]) (r::vs) pre Y φ ret post)(hx:ev ρ x=r)(ha:EvA ρ args.toList vs)(ht:Take L pre R)(hd:Nat.blt d X.nt=true)(hb:nb.contains i=false)
  (h:∀ y,φ y→OpsL X ops nb N (i+1) os (post y++R) ds (upd ρ d (ret y)) (post y++R)):Op1 X ops nb N i (some d) (.call {callee:=.invoke x name,args:=args,argTypes:=at_}) ty os Ls ds ρ L:=
 op_eff (e_invoke hx ha hs ht) (fun _ e=>by cases e;exact hd) hb h
end
end Go.Fx
