/- Texts merged: G1 Pool. -/
import Derived.Test.YtmnafjonbeihiaaGreatDoorFwY
import Derived.Test.YtmnafjonbeihiaaGreatDoorK1
/- Texts merged: FwZ FwRp FwGa. -/
set_option linter.unusedSimpArgs false
set_option linter.unusedVariables false
namespace Go.Fx
open Go
theorem opsL_mapL{X:Cx}{ops:Array Oper}{nb:NB}{N:Act→World→Prop}{i:Nat}{os:List Oper}{Ls:List HProp}{ds:List Deferred}{ρ:Regs}{L L':List HProp}(k:∀ h,SatL L h→SatL L' h)(h:OpsL X ops nb N i os Ls ds ρ L'):OpsL X ops nb N i os Ls ds ρ L:=by
 unfold OpsL at*
 intro hd a w ha hs
 exact h hd a w ha (hs.map k)
theorem rowShapeS{e n:Nat}{v:Value}{xs:List (List Value)}{L R:List HProp}(hn:0<n)(t:Take L [row e n v xs] R)(h:Frag)(s:SatL L h):∃ p c,v= .slice p xs.length c∧xs.length≤c∧∀ q,p=some q→q.spot=none:=by
 rcases rowShape hn t h s with⟨rfl,rfl⟩|⟨g,cap,rfl,hc⟩
 ·exact⟨none,0,rfl,Nat.le_refl 0,fun _ e=>by cases e⟩
 ·exact⟨_,cap,rfl,hc,fun _ e=>by cases e;rfl⟩
section
variable{X:Cx}{ops:Array Oper}{nb:NB}{N:Act→World→Prop}{i:Nat}{os:List Oper}{Ls:List HProp}{ds:List Deferred}{ρ:Regs}{L:List HProp}{ty:TypeId}{d:Nat}
theorem good.setA{n:Nat}{xs:List (List Value)}(g:good n xs){m:Nat}{vs:List Value}(hl:vs.length=n)(h1:oneCells vs=true):good n (xs.set m vs):=by
 intro u hu
 rcases List.mem_or_eq_of_mem_set hu with hu|rfl
 ·exact g u hu
 ·exact⟨hl,h1⟩
theorem flatten_setA{n:Nat}{xs:List (List Value)}{m:Nat}{vs:List Value}(g:good n xs)(hm:m<xs.length)(hl:vs.length=n)(rest:List Value):
  (xs.set m vs).flatten++rest=(xs.flatten++rest).take (m*n)++vs++(xs.flatten++rest).drop (m*n+vs.length):=by
 have gt:good n (xs.take m):=fun x hx=>g x (List.mem_of_mem_take hx)
 have lt:(xs.take m).flatten.length=m*n:=by rw[gt.flatten_length,List.length_take,Nat.min_eq_left (by omega)]
 have ly:(xs[m]).length=n:=(g _ (List.getElem_mem hm)).1
 have e0:xs.flatten++rest=(xs.take m).flatten++(xs[m]++((xs.drop (m+1)).flatten++rest)):=by
  conv=>lhs;rw[← List.take_append_drop m xs,List.drop_eq_getElem_cons hm]
  rw[List.flatten_append,List.flatten_cons,List.append_assoc,List.append_assoc]
 rw[e0,List.set_eq_take_append_cons_drop,if_pos hm,List.flatten_append,List.flatten_cons]
 have e2:∀ (a c:List Value) (k:Nat),(a++c).drop (a.length+k)=c.drop k:=fun a c k=>by rw[← List.drop_drop,List.drop_left]
 rw[← lt,List.take_left,e2,hl,← ly,List.drop_left]
 simp only[List.append_assoc]
theorem s_storeRowA [NoT nb]{t:TypeId}{n:Nat}[I:Sz X.P t n]{a x:Operand}{b m len cap e:Nat}{v:Value}{vs:List Value}{xs:List (List Value)}{R:List HProp}
  (hx:ev ρ a= .pointer (some ⟨b,slot 0 n m 0,none⟩))(hv:ev ρ x=v)(hc:v.cells.toList=vs)(h1:oneCells vs=true)(hsel:Sel L (row e n (.slice (some ⟨b,0,none⟩) len cap) xs) R)(hm:m<xs.length)(hl:Nat.beq vs.length n=true)(hb:nb.contains i=false)
  (h:OpsL X ops nb N (i+1) os (row e n (.slice (some ⟨b,0,none⟩) len cap) (xs.set m vs)::R) ds ρ (row e n (.slice (some ⟨b,0,none⟩) len cap) (xs.set m vs)::R)):Op1 X ops nb N i none (.store t a x) ty os Ls ds ρ L:=by
 refine op_eff (Y:=Unit) (φ:=fun _=>True) (v:=fun _=>undef) (L':=fun _=>row e n (.slice (some ⟨b,0,none⟩) len cap) (xs.set m vs)::R) ?_ (fun _ e=>by cases e) hb fun _ _=>h
 subst hv
 have hl:=Nat.eq_of_beq_eq_true hl
 refine eff_intro1 (fun _ e=>by cases e) (fun _ _ _=>rfl) fun pos after gd w hs=>?_
 have hs1:=hs.sel hsel
 obtain⟨f1,f2,ha,l1,l2,⟨g,hrow⟩,hR⟩:=hs1.heap
 rcases hrow with⟨hn,_⟩|⟨b',cap',rest,hv',hl',hbk⟩
 ·cases hn
 simp only[Value.slice.injEq,Option.some.injEq,Addr.mk.injEq,and_true]at hv'
 obtain⟨hbb,hlen,hcc⟩:=hv'
 subst hbb hlen hcc
 have hs2:Sats X.w0 w (pts b (.cells (xs.flatten++rest).toArray e)::R):=⟨hs1.os,hs1.tape,hs1.output,hs1.size,⟨f1,f2,ha,l1,l2,hbk,hR⟩⟩
 have hfl:=g.flatten_length
 have hslot:slot 0 n m 0=m*n:=by unfold slot;omega
 rw[hslot]at hx
 have hle:m*n+n≤xs.length*n:=by
  have h1:(m+1)*n≤xs.length*n:=Nat.mul_le_mul_right n hm
  rwa [Nat.succ_mul]at h1
 obtain⟨w',h2,h3⟩:=storeCells_list (P:=X.P) vs 0 (m*n) (xs.flatten++rest) R Sel.here hs2 (fun u hu=>List.all_eq_true.1 h1 u hu) (by rw[List.length_append,hfl];omega)
 have hsz:(ev ρ x).cells.size=n:=by have:=congrArg List.length hc;rw[hl]at this;simpa using this
 have gs:=g.setA (m:=m) hl h1
 have h4:(xs.set m vs).flatten.length=xs.flatten.length:=by rw[gs.flatten_length,hfl,List.length_set]
 unfold OpVal
 simp only[execOp,Instr.storeAt,Instr.sureAddr,hx,storeVar,Sem.run_bind,Sem.run_pure,Result.andThen_ok,I.run_sizeOf,hsz,ne_eq,not_true_eq_false,if_false,hc,h2]
 refine⟨trivial,h3.map fun _ hh=>hh.headMono fun f hp=>⟨gs,.inr ⟨b,cap,rest,by rw[List.length_set],?_,?_⟩⟩⟩
 ·rw[List.length_append,h4,← List.length_append];exact hl'
 ·have e1:=flatten_setA g hm hl rest
  rw[e1];exact hp
end
end Go.Fx
namespace Go.Fx
open Go
def AllR{α β:Type}(Rel:HProp→α→β→Prop)(P:HProp)(xs:List α)(bs:List β):Prop:=∀ (j:Nat) (x:α) (b:β),xs[j]? =some x→bs[j]? =some b→Rel P x b
theorem AllR.nil{α β:Type}{Rel:HProp→α→β→Prop}{P:HProp}{xs:List α}:AllR Rel P xs ([]:List β):=fun j x b _ h=>by simp at h
theorem AllR.snoc{α β:Type}{Rel:HProp→α→β→Prop}{P P':HProp}{xs:List α}{bs:List β}(hm:∀ x b,Rel P x b→Rel P' x b)(h:AllR Rel P xs bs){x:α}{b:β}(hx:xs[bs.length]? =some x)(hb:Rel P' x b):AllR Rel P' xs (bs++[b]):=fun j y c hy hc=>by
 rcases Nat.lt_trichotomy j bs.length with h1|h1|h1
 ·rw[List.getElem?_append_left h1]at hc
  exact hm _ _ (h j y c hy hc)
 ·subst h1
  rw[List.getElem?_append_right (Nat.le_refl _),Nat.sub_self]at hc
  obtain rfl:b=c:=by simpa using hc
  rw[hx]at hy
  obtain rfl:=Option.some.inj hy
  exact hb
 ·rw[List.getElem?_eq_none (by rw[List.length_append,List.length_singleton];omega)]at hc
  cases hc
theorem AllR.mono{α β:Type}{Rel:HProp→α→β→Prop}{P P':HProp}{xs:List α}{bs:List β}(hm:∀ x b,Rel P x b→Rel P' x b)(h:AllR Rel P xs bs):AllR Rel P' xs bs:=fun j x b hx hb=>hm _ _ (h j x b hx hb)
def IterSpecP(P:Program)(f:FuncId)(cap:List Value)(A A':List HProp){α β:Type}(xs:List α)(enc:β→List Value)(Rel:HProp→α→β→Prop)(P0:HProp):Prop:=
 ∀ (yv:Value) (St:HProp→List β→HProp),(∀ (pre:List β) (x:α) (b:β) (Pq Pa:HProp),xs[pre.length]? =some x→AllR Rel Pq xs pre→Ext P0 Pq→Ext Pq Pa→Rel Pa x b→
   VSpec P yv (enc b) [Pa,St Pq pre] HProp (fun Pb=>Ext Pa Pb) (fun _=>.bool true) (fun Pb=>[Pb,St Pb (pre++[b])]))→
  FSpec P f (yv::cap) (A++[P0,St P0 []]) (List β×HProp×HProp) (fun y=>y.1.length=xs.length∧AllR Rel y.2.1 xs y.1∧Ext P0 y.2.1∧Ext y.2.1 y.2.2) (fun _=>.tuple #[]) (fun y=>y.2.2::St y.2.1 y.1::A')
section
variable{X:Cx}{ds:List Deferred}{ρ:Regs}{L:List HProp}
theorem ok_rangeP{α β:Type}{xs:List α}{enc:β→List Value}{Rel:HProp→α→β→Prop}{f:FuncId}{cap:List Value}{A A' L1 R':List HProp}{P0:HProp}{g:Operand}{params:Array Tmp}{assign body:Code}{Q:Exit→Act→World→Prop}[F:FnI X.P f]
  (K:HProp→List β→List HProp)(it:IterSpecP X.P f cap A A' xs enc Rel P0)(hr:X.r=none)(hg:ev ρ g= .func (.func f) #[] cap.toArray)
  (ht:Take L (A++[P0]) L1)(hK:∀ h,SatL L1 h→SatL (K P0 []++R') h)(hlen:∀ p,(enc p).length=params.size)(hps:params.toList.all (Nat.blt · X.nt)=true)
  (
   round:∀ l pre x b Pq Pa,xs[pre.length]? =some x→AllR Rel Pq xs pre→Ext P0 Pq→Ext Pq Pa→Rel Pa x b→∀ (w0:World) (R:List HProp) (LP0 LP1:HProp) (QB QE:Exit→Act→World→Prop),
   (∀ {ds ρ' L L'},Take L [LP0] L'→Ok ⟨X.P,some l,X.nt,⟨w0,false⟩,X.cv⟩ body ds ρ' (LP1::L') QE→Cont ⟨X.P,some l,X.nt,⟨w0,false⟩,X.cv⟩ QB .normal ds ρ' L)→
   (∀ {ds ρ' L L'} (Pb:HProp),Ext Pa Pb→Take L [LP1] L'→(∀ h,SatL L' h→SatL (Pb::K Pb (pre++[b])++R) h)→Cont ⟨X.P,some l,X.nt,⟨w0,false⟩,X.cv⟩ QE .normal ds ρ' L)→
   Ok ⟨X.P,some l,X.nt,⟨w0,false⟩,X.cv⟩ assign [] (updMany ρ (params.toList.zip (enc b))) (LP0::Pa::K Pq pre++R) QB)
  (done:∀ dk bs Pq Pe,bs.length=xs.length→AllR Rel Pq xs bs→Ext P0 Pq→Ext Pq Pe→Cont X Q .normal (mark dk::ds) ρ (marked dk::Pe::K Pq bs++(A'++R')))
  (hm:X.w0.m=false:=by rfl):Ok X (.rangeFunc g params assign body) ds ρ L Q:=by
 refine ok_rangeFunc hr hg fun dk l=>?_
 have hspec:=it (.func (.yield l) #[] #[]) (fun Pq q h=>SatL (loopP X.nt ρ params assign body dk l .ready none::K Pq q) h) (by
  intro pre x b Pq Pa hx hall h0 hq hrel
  refine(yield_spec (dk:=dk) (l:=l) (nt:=X.nt) (ρ:=ρ) (params:=params) (assign:=assign) (body:=body) (pre:=Pa::K Pq pre) (Y:=HProp) (φ:=fun Pb=>Ext Pa Pb) (pend:=fun _=>none) (post:=fun Pb=>Pb::K Pb (pre++[b])) X.cv (hlen b) hps fun w0 R=>round l pre x b Pq Pa hx hall h0 hq hrel w0 R _ _ _ _ (fun ht h=>cont_round rfl ht h) ?_).conseq ?_ ?_
  ·exact fun Pb hE ht hk=>cont_round_end Pb ht rfl hk hE
  ·intro R h s
   have s1:SatL (Pa::loopP X.nt ρ params assign body dk l .ready none::(K Pq pre++R)) h:=SatL.consMono (A:=Pa) s fun _ s=>SatL.flat s
   exact SatL.swap s1
  ·intro Pb hE
   refine⟨Pb,hE,rfl,fun R h s=>?_⟩
   have s1:SatL (loopP X.nt ρ params assign body dk l .ready none::Pb::(K Pb (pre++[b])++R)) h:=s
   refine SatL.consMono (A:=Pb) (SatL.swap s1) fun _ s=>?_
   exact SatL.unflat (M:=loopP X.nt ρ params assign body dk l .ready none::K Pb (pre++[b])) s)
 refine⟨List β×HProp×HProp,_,_,_,marked dk::R',_,FSpecM.of hm hspec,?_,?_⟩
 ·intro h s
  have s1:SatL (marked dk::loopP X.nt ρ params assign body dk l .ready none::((A++[P0])++(K P0 []++R'))) h:=
   (SatL.swap s).consMono fun _ s=>s.consMono fun _ s=>satL_append_mono (A++[P0]) hK (ht.out s)
  have s2:SatL (marked dk::((A++[P0])++[fun h=>SatL (loopP X.nt ρ params assign body dk l .ready none::K P0 []) h]++R')) h:=s1.consMono fun _ s=>by
   refine satL_rot (A++[P0]) ?_
   have s3:SatL ((loopP X.nt ρ params assign body dk l .ready none::K P0 [])++((A++[P0])++R')) _:=s.consMono fun _ s=>satL_comm (A++[P0]) s
   exact SatL.unflat s3
  have:=satL_comm [marked dk] (B:=(A++[P0])++[fun h=>SatL (loopP X.nt ρ params assign body dk l .ready none::K P0 []) h]) (L:=R') s2
  rw[List.append_assoc A [P0]]at this
  exact this
 ·rintro⟨bs,Pq,Pe⟩ ⟨h1,h2,h3,h4⟩
  dsimp only at h1 h2 h3 h4 ⊢
  refine⟨.ready,none,marked dk::Pe::K Pq bs++(A'++R'),by simp,?_,done dk bs Pq Pe h1 h2 h3 h4⟩
  intro h s
  have s0:SatL (Pe::(fun h=>SatL (loopP X.nt ρ params assign body dk l .ready none::K Pq bs) h)::(A'++marked dk::R')) h:=s
  have s1:SatL (Pe::loopP X.nt ρ params assign body dk l .ready none::(K Pq bs++(A'++marked dk::R'))) h:=SatL.consMono (A:=Pe) s0 fun _ s=>SatL.flat s
  refine SatL.consMono (A:=loopP X.nt ρ params assign body dk l .ready none) (SatL.swap s1) fun _ s=>?_
  have s2:SatL (Pe::(K Pq bs++(marked dk::(A'++R')))) _:=SatL.consMono (A:=Pe) s fun _ s=>satL_append_mono (K Pq bs) (fun _ k=>satL_comm A' (B:=[marked dk]) (L:=R') k) s
  exact satL_comm (Pe::K Pq bs) (B:=[marked dk]) (L:=A'++R') s2
end
end Go.Fx
namespace Go.Fx
open Go
section
variable{X:Cx}{ops:Array Oper}{nb:NB}{N:Act→World→Prop}{i:Nat}{os:List Oper}{Ls:List HProp}{ds:List Deferred}{ρ:Regs}{L:List HProp}{ty:TypeId}{d:Nat}
theorem s_append_str_nb [NoT nb]{t tx e by_:Nat}{zs:List Value}[I:Sl X.P t e 1 by_ zs][J:Ty X.P tx .string]{s x:Operand}{v:Value}{u:ByteArray}{xs:List (List Value)}{R:List HProp}
  (hz:Nat.beq zs.length 1=true)(hs:ev ρ s=v)(hx:ev ρ x= .string u)(hsel:Sel L (row e 1 v xs) R)(hb:(xs.length+u.size)*by_≤140737488355328)(hb':xs.length+u.size≤4611686018427387904)(hd:Nat.blt d X.nt=true)(hk:∀ h,SatL R h→SatL Ls h)
  (h:∀ v',v'.oneCell'=true→OpsL X ops nb N (i+1) os Ls ds (upd ρ d v') (row e 1 v' (xs++bytesV u)::R)):Op1 X ops nb N i (some d) (.call {callee:=.builtin .append,args:= #[s,x],argTypes:= #[t,tx]}) ty os Ls ds ρ L:=
 op_eff_nb (e_append_src hz hs hx hsel (bytesV_good u) (fun w _=>by rw[bytesV_len,bytesV_flat];exact Src.ofString w J.und u) (by rw[bytesV_len];exact hb) (by rw[bytesV_len];exact hb')) (fun _ e=>by cases e;exact hd) (fun _ _ h s=>hk h s.tail) h
end
end Go.Fx
namespace Go.Fx
open Go
variable{X:Cx}{ops:Array Oper}{nb:NB}{N:Act→World→Prop}{i:Nat}{os:List Oper}{Ls:List HProp}{ds:List Deferred}{ρ:Regs}{L L':List HProp}{Q:Exit→Act→World→Prop}
theorem cont_poolN{e:Exit}{ty n:Nat}{v:Value}{xs:List (List Value)}{P:HProp}(t:Take L [row ty n v xs,P] L')(h:∀ P',Ext P P'→Vw P' n v xs→Cont X Q e ds ρ (P'::L')):Cont X Q e ds ρ L:=
 cont_map (fun _ s=>pool_in (Take.out2 t s)) (h _ (Ext.pool _ _) pool_row)
theorem ok_poolN{c:Code}{ty n:Nat}{v:Value}{xs:List (List Value)}{P:HProp}(t:Take L [row ty n v xs,P] L')(h:∀ P',Ext P P'→Vw P' n v xs→Ok X c ds ρ (P'::L') Q):Ok X c ds ρ L Q:=
 ok_map (fun _ s=>pool_in (Take.out2 t s)) (h _ (Ext.pool _ _) pool_row)
theorem ops_poolN{ty n:Nat}{v:Value}{xs:List (List Value)}{P:HProp}(t:Take L [row ty n v xs,P] L')(h:∀ P',Ext P P'→Vw P' n v xs→OpsL X ops nb N i os Ls ds ρ (P'::L')):OpsL X ops nb N i os Ls ds ρ L:=
 opsL_mapL (fun _ s=>pool_in (Take.out2 t s)) (h _ (Ext.pool _ _) pool_row)
end Go.Fx
