/- Texts merged: FwA FwB FwC FwD FwE FwF FwG. -/
import Derived.OrdersIn
import Derived.OrdersHeld
import Derived.RangeFuncIn
import Derived.Below
import Derived.RangeFuncLeaves
import Derived.RangeFuncRecord
namespace Go.Fx
open Go
def Fw(r:Option Nat):Fence:={fn:=fun _=>True,depth:=none,alive:=false,round:=r}
theorem Fw_room(r:Option Nat)(n:Nat):(Fw r).room n:=fun _ h=>by simp[Fw]at h
theorem callsIn_Fw{r:Option Nat}{n:Nat}{P:Program}{f:FuncId}{args:Array Value}{w:World}{R:Ending→World→Prop}:CallsIn (Fw r) n P f args w R↔Calls P f args w R:=
 callsIn_wide (n:=n)
variable{P:Program}{ops:Array Oper}{r:Option Nat}
def OpVal(P:Program)(o:Oper)(e:Operand→Value)(w:World)(J:Value→World→Prop):Prop:=
 match(execOp e o).run P w with
 | .ok (.value v) w'=>J v w'
 | .ok .skip w'=>J undef w'
 | .ok (.enter f args) w'=>Calls P f args w' fun
  | .returned v,w''=>J v w''
  |_,_=>False
 | .ok (.row row args) w'=>RowsIn (Fw none) 0 P row args w' J
 | .ok (.round l f tmps assign body) w'=>RoundIn (Fw none) 0 P l f tmps assign body w' fun
  | .returned v,w''=>J v w''
  |_,_=>False
 |_=>False
theorem OpVal.mono{o:Oper}{e:Operand→Value}{w:World}{J J':Value→World→Prop}(h:OpVal P o e w J)(hj:∀ v w',J v w'→J' v w'):OpVal P o e w J':=by
 unfold OpVal at*
 split
 ·rename_i hr;rw[hr]at h;exact hj _ _ h
 ·rename_i hr;rw[hr]at h;exact hj _ _ h
 ·rename_i hr;rw[hr]at h
  refine Calls.mono h fun e w'' he=>?_
  cases e<;>first|exact hj _ _ he|exact he
 ·rename_i hr;rw[hr]at h;exact RowsIn.mono h fun _ _ he=>hj _ _ he
 ·rename_i hr;rw[hr]at h
  refine RoundIn.mono h fun e w'' he=>?_
  cases e<;>first|exact hj _ _ he|exact he
 ·rename_i h1 h2 h3 h4 h5
  split at h<;>first|(rename_i hr;exact absurd hr (h1 _ _))|(rename_i hr;exact absurd hr (h2 _))|(rename_i hr;exact absurd hr (h3 _ _ _))|(rename_i hr;exact absurd hr (h4 _ _ _))|(rename_i hr;exact absurd hr (h5 _ _ _ _ _ _))|exact h
theorem OpVal.outcome{o:Oper}{e:Operand→Value}{w:World}{J:Value→World→Prop}(h:OpVal P o e w J):∃ v w',J v w':=by
 unfold OpVal at h
 split at h
 ·exact⟨_,_,h⟩
 ·exact⟨_,_,h⟩
 ·obtain⟨e,w'',fr,hR,_⟩:=h []
  cases e with
  |returned v=>exact⟨v,w'',hR⟩
  |panicked c=>exact hR.elim
  |outgrown=>exact hR.elim
 ·obtain⟨v,w'',hR,_⟩:=h default [] (Fw_room _ _)
  exact⟨v,w'',hR⟩
 ·obtain⟨e,w'',hR,_⟩:=h.2 default [] (Fw_room _ _)
  cases e with
  |returned v=>exact⟨v,w'',hR⟩
  |panicked c=>exact hR.elim
  |outgrown=>exact hR.elim
 ·exact h.elim
theorem OpVal.congr{o:Oper}{e e':Operand→Value}{w:World}{J:Value→World→Prop}(he:execOp e' o=execOp e o)(h:OpVal P o e w J):OpVal P o e' w J:=by
 unfold OpVal at *;rw[he];exact h
theorem OpVal.wpOpIn{Q:Exit→Act→World→Prop}{i:Nat}{o:Oper}{K:Act→World→Prop}{a:Act}{w:World}(hi:ops[i]? =some o)(hd:∀ c,o.op≠.defer c)
  (hw:Region.wanted o (yielded ops a.tmps)=true)(h:OpVal P o a.eval w (fun v w'=>K (a.put o.dst v) w')):wpOpIn (Fw r) 0 P ops Q i K a w:=by
 unfold Go.wpOpIn
 simp only[hi,hw,if_true,Oper.wpIn]
 refine⟨fun _ _=>trivial,?_⟩
 rw[Oper.semAt_eq _ _ _ hd]
 unfold OpVal at h
 split at h
 ·rename_i hr;rw[hr];exact h
 ·rename_i hr;rw[hr];exact h
 ·rename_i hr;rw[hr]
  refine⟨fun h=>by simp[Fw]at h,callsIn_Fw.2 (Calls.mono h fun e w'' he=>?_)⟩
  cases e<;>first|exact he|exact he.elim
 ·rename_i hr;rw[hr]
  exact⟨fun h=>by simp[Fw]at h,h⟩
 ·rename_i hr;rw[hr]
  refine⟨fun h=>by simp[Fw]at h,RoundIn.mono (F:=Fw none) h fun e w'' he=>?_⟩
  cases e<;>first|exact he|exact he.elim
 ·exact h.elim
def Quiet(P:Program)(ops:Array Oper)(Tm S:World→Prop)(k:Nat)(o:Oper)(v:Value)(a:Act):Prop:=
 (Region.wanted o (yielded ops a.tmps)=true∧(∀ w,((k=0∧Tm w)∨(k=1∧S w))→(execOp a.eval o).run P w= .ok (.value v) w)∧k≤1)∨
 (Region.wanted o (yielded ops a.tmps)=false∧v=undef)
def OkT(P:Program)(ops:Array Oper)(kd:Nat→Nat)(nb:List Nat)(Tm:World→Prop)(N:Act→World→Prop):List Nat→(World→Prop)→Act→World→Prop
 | [],_,a,w=>N a w
 |i::R,S,a,w=>∃ o,ops[i]? =some o∧(∀ c,o.op≠.defer c)∧
  ((kd i=2∧Region.wanted o (yielded ops a.tmps)=true∧
    OpVal P o a.eval w (fun v w'=>∃ S':World→Prop,(nb.contains i=false∨S'=S)∧S' w'∧(∀ w,S' w→Tm w)∧OkT P ops kd nb Tm N R S' (a.put o.dst v) w'))∨
   (∃ v,Quiet P ops Tm S (kd i) o v a∧OkT P ops kd nb Tm N R S (a.put o.dst v) w))
variable{kd:Nat→Nat}{nb:List Nat}{Tm:World→Prop}{N:Act→World→Prop}
theorem Quiet.run{S:World→Prop}{k:Nat}{o:Oper}{v:Value}{a:Act}{w:World}(h:Quiet P ops Tm S k o v a)(hT:∀ w,S w→Tm w)(hS:S w)(hw:Region.wanted o (yielded ops a.tmps)=true):
  (execOp a.eval o).run P w= .ok (.value v) w:=by
 rcases h with⟨_,h,hk⟩|⟨h,_⟩
 ·refine h w ?_
  rcases Nat.lt_or_ge k 1 with h1|h1
  ·exact .inl ⟨by omega,hT w hS⟩
  ·exact .inr ⟨by omega,hS⟩
 ·rw[h]at hw;cases hw
theorem Quiet.same{S:World→Prop}{k:Nat}{o:Oper}{v v':Value}{a:Act}{w:World}(h:Quiet P ops Tm S k o v a)(h':Quiet P ops Tm S k o v' a)(hT:∀ w,S w→Tm w)(hS:S w):v=v':=by
 cases hw:Region.wanted o (yielded ops a.tmps)with
 |true=>
  have e1:=h.run hT hS hw
  have e2:=h'.run hT hS hw
  rw[e1]at e2
  injection e2 with e3
  injection e3
 |false=>
  rcases h with⟨h1,_⟩|⟨_,h1⟩
  ·rw[hw]at h1;cases h1
  ·rcases h' with⟨h2,_⟩|⟨_,h2⟩
   ·rw[hw]at h2;cases h2
   ·rw[h1,h2]
theorem Quiet.of_same{S S':World→Prop}{k:Nat}{o:Oper}{v:Value}{a a':Act}(h:Quiet P ops Tm S k o v a)(hS:k=1→S'=S)(he:execOp a'.eval o=execOp a.eval o)
  (hw:Region.wanted o (yielded ops a'.tmps)=Region.wanted o (yielded ops a.tmps)):Quiet P ops Tm S' k o v a':=by
 unfold Quiet at*
 rw[he,hw]
 rcases h with⟨h1,h2,h3⟩|h
 ·refine .inl ⟨h1,fun w hk=>h2 w ?_,h3⟩
  rcases hk with h0|⟨h0,hs⟩
  ·exact .inl h0
  ·exact .inr ⟨h0,hS h0▸hs⟩
 ·exact .inr h
theorem OkT.wpOpsIn{Q:Exit→Act→World→Prop}(hN:∀ a w,N a w→Q .normal a w):∀ (R:List Nat) (S:World→Prop) (a:Act) (w:World),(∀ w,S w→Tm w)→S w→OkT P ops kd nb Tm N R S a w→wpOpsIn (Fw r) 0 P ops Q R a w
 | [],_,a,w,_,_,h=>hN a w h
 |i::R,S,a,w,hT,hS,h=>by
  obtain⟨o,hi,hd,h⟩:=h
  rw[wpOpsIn_cons]
  rcases h with⟨_,hw,h⟩|⟨v,hq,h⟩
  ·exact OpVal.wpOpIn hi hd hw (h.mono fun v w' ⟨S',_,hS',hT',h'⟩=>OkT.wpOpsIn hN R S' _ _ hT' hS' h')
  ·have h':=OkT.wpOpsIn hN R S _ _ hT hS h
   cases hw:Region.wanted o (yielded ops a.tmps)with
   |true=>
    refine OpVal.wpOpIn hi hd hw ?_
    unfold OpVal
    rw[hq.run hT hS hw]
    exact h'
   |false=>
    unfold Go.wpOpIn
    simp only[hi,hw,Bool.false_eq_true,if_false]
    rcases hq with⟨h1,_⟩|⟨_,rfl⟩
    ·rw[hw]at h1;cases h1
    ·exact⟨fun _ _=>trivial,h'⟩
theorem OkT.weaken:∀ (R:List Nat) {S S':World→Prop} {a:Act} {w:World},(∀ w,S w→S' w)→OkT P ops kd [] Tm N R S' a w→OkT P ops kd [] Tm N R S a w
 | [],_,_,_,_,_,h=>h
 |i::R,S,S',a,w,hS,h=>by
  obtain⟨o,hi,hd,h⟩:=h
  refine⟨o,hi,hd,?_⟩
  rcases h with⟨hk,hw,h⟩|⟨v,hq,h⟩
  ·exact .inl ⟨hk,hw,h.mono fun v w' ⟨S'',hb,hS',hT',h'⟩=>⟨S'',.inl rfl,hS',hT',h'⟩⟩
  ·refine .inr ⟨v,?_,OkT.weaken R hS h⟩
   rcases hq with⟨h1,h2,h3⟩|hq
   ·exact .inl ⟨h1,fun w hk=>h2 w (hk.imp id fun⟨x,y⟩=>⟨x,hS w y⟩),h3⟩
   ·exact .inr hq
def commPair(ops:Array Oper)(kd:Nat→Nat)(nb:List Nat)(j i:Nat):Bool:=
 match ops[j]?,ops[i]? with
 |some oj,some oi=>oj.apart ops oi&&oi.apart ops oj&&
  (kd j==0||kd i==0||(kd j==1&&kd i==1)||(kd j==1&&kd i==2&&nb.contains i)||(kd j==2&&kd i==1&&nb.contains j))
 |_,_=>false
theorem commPair_spec{j i:Nat}{oj oi:Oper}(hj:ops[j]? =some oj)(hi:ops[i]? =some oi)(h:commPair ops kd nb j i=true):
  oj.apart ops oi=true∧oi.apart ops oj=true∧(kd j=0∨kd i=0∨(kd j=1∧kd i=1)∨(kd j=1∧kd i=2∧nb.contains i=true)∨(kd j=2∧kd i=1∧nb.contains j=true)):=by
 simp only[commPair,hj,hi,Bool.and_eq_true,Bool.or_eq_true,beq_iff_eq]at h
 obtain⟨⟨h1,h2⟩,h3⟩:=h
 refine⟨h1,h2,?_⟩
 rcases h3 with(((h|h)|h)|h)|h
 ·exact .inl h
 ·exact .inr (.inl h)
 ·exact .inr (.inr (.inl h))
 ·exact .inr (.inr (.inr (.inl ⟨h.1.1,h.1.2,h.2⟩)))
 ·exact .inr (.inr (.inr (.inr ⟨h.1.1,h.1.2,h.2⟩)))
theorem OkT.take{i:Nat}{rest:List Nat}(hsel:∀ (j:Nat) (o:Oper) cs b,ops[j]? =some o→o.op≠.select cs b):∀ (l:List Nat) (S:World→Prop) (a:Act) (w:World),(∀ w,S w→Tm w)→S w→(∀ j∈l,commPair ops kd nb j i=true)→
  OkT P ops kd nb Tm N (l++i::rest) S a w→
  ∃ oi,ops[i]? =some oi∧(∀ c,oi.op≠.defer c)∧
   ((kd i=2∧Region.wanted oi (yielded ops a.tmps)=true∧
      OpVal P oi a.eval w (fun v w'=>∃ S':World→Prop,(nb.contains i=false∨S'=S)∧S' w'∧(∀ w,S' w→Tm w)∧OkT P ops kd nb Tm N (l++rest) S' (a.put oi.dst v) w'))∨
    (∃ v,Quiet P ops Tm S (kd i) oi v a∧OkT P ops kd nb Tm N (l++rest) S (a.put oi.dst v) w))
 | [],_,_,_,_,_,_,h=>h
 |j::l,S,a,w,hT,hS,hc,h=>by
  obtain⟨oj,hj,hdj,h⟩:=h
  have hcl:∀ j∈l,commPair ops kd nb j i=true:=fun k hk=>hc k (List.mem_cons_of_mem _ hk)
  have hcj:=hc j (List.mem_cons_self ..)
  rcases h with⟨hkj,hwj,h⟩|⟨vj,hqj,h⟩
  ·
   have step:∀ u w',(∃ S':World→Prop,(nb.contains j=false∨S'=S)∧S' w'∧(∀ w,S' w→Tm w)∧OkT P ops kd nb Tm N (l++i::rest) S' (a.put oj.dst u) w')→
      ∃ oi v,ops[i]? =some oi∧(∀ c,oi.op≠.defer c)∧Quiet P ops Tm S (kd i) oi v a∧
       ∃ S':World→Prop,(nb.contains j=false∨S'=S)∧S' w'∧(∀ w,S' w→Tm w)∧OkT P ops kd nb Tm N (l++rest) S' ((a.put oi.dst v).put oj.dst u) w':=by
     rintro u w' ⟨S',hb,hS',hT',h'⟩
     obtain⟨oi,hi,hdi,h'⟩:=OkT.take hsel l S' _ _ hT' hS' hcl h'
     obtain⟨ha1,ha2,hk⟩:=commPair_spec hj hi hcj
     obtain⟨x1,x2,x3⟩:=Oper.apart_spec ha1
     rcases h' with⟨hki,_,_⟩|⟨v,hq,h'⟩
     ·exfalso;rcases hk with h|h|h|h|h<;>omega
     ·have hSS:kd i=1→S=S':=fun h1=>by
       rcases hb with hb|hb
       ·rcases hk with h|h|h|h|h
        ·omega
        ·omega
        ·omega
        ·omega
        ·rw[h.2.2]at hb;cases hb
       ·exact hb.symm
      refine⟨oi,v,hi,hdi,hq.of_same hSS (execOp_put oi (fun cs b=>hsel i oi cs b hi) a oj.dst u x1).symm (wanted_put oi a oj.dst u x1).symm,S',hb,hS',hT',?_⟩
      rw[← Act.put_comm a u v x2];exact h'
   obtain⟨u0,w0,h0⟩:=h.outcome
   obtain⟨oi,v,hi,hdi,hq,_⟩:=step u0 w0 h0
   obtain⟨ha1,ha2,hk⟩:=commPair_spec hj hi hcj
   obtain⟨y1,y2,y3⟩:=Oper.apart_spec ha2
   refine⟨oi,hi,hdi,.inr ⟨v,hq,oj,hj,hdj,.inl ⟨hkj,?_,?_⟩⟩⟩
   · rw[wanted_put oj a oi.dst v y1];exact hwj
   · refine OpVal.congr (execOp_put oj (fun cs b=>hsel j oj cs b hj) a oi.dst v y1) (h.mono fun u w' hu=>?_)
     obtain⟨oi',v',hi',_,hq',S',hb,hS',hT',h'⟩:=step u w' hu
     rw[hi]at hi';cases hi'
     have:=hq.same hq' hT hS
     subst this
     exact⟨S',hb,hS',hT',h'⟩
  ·obtain⟨oi,hi,hdi,h'⟩:=OkT.take hsel l S _ _ hT hS hcl h
   obtain⟨ha1,ha2,hk⟩:=commPair_spec hj hi hcj
   obtain⟨x1,x2,x3⟩:=Oper.apart_spec ha1
   obtain⟨y1,y2,y3⟩:=Oper.apart_spec ha2
   have ei:execOp (a.put oj.dst vj).eval oi=execOp a.eval oi:=execOp_put oi (fun cs b=>hsel i oi cs b hi) a oj.dst vj x1
   have wi:=wanted_put oi a oj.dst vj x1
   have back:∀ (S':World→Prop) v w',(kd j=1→S'=S)→OkT P ops kd nb Tm N (l++rest) S' ((a.put oj.dst vj).put oi.dst v) w'→OkT P ops kd nb Tm N (j::l++rest) S' (a.put oi.dst v) w':=fun S' v w' hSS h=>
     ⟨oj,hj,hdj,.inr ⟨vj,hqj.of_same hSS (execOp_put oj (fun cs b=>hsel j oj cs b hj) a oi.dst v y1) (wanted_put oj a oi.dst v y1),by rw[Act.put_comm a v vj y2];exact h⟩⟩
   refine⟨oi,hi,hdi,?_⟩
   rcases h' with⟨hki,hwi,h'⟩|⟨v,hq,h'⟩
   · refine .inl ⟨hki,by rw[← wi];exact hwi,OpVal.congr ei.symm (h'.mono ?_)⟩
     rintro v w' ⟨S',hb,hS',hT',h''⟩
     refine⟨S',hb,hS',hT',back S' v w' (fun h1=>?_) h''⟩
     rcases hb with hb|hb
     ·rcases hk with h|h|h|h|h
      ·omega
      ·omega
      ·omega
      ·rw[h.2.2]at hb;cases hb
      ·omega
     ·exact hb
   · exact .inr ⟨v,hq.of_same (fun _=>rfl) ei.symm wi.symm,back S v w (fun _=>rfl) h'⟩
def preds(ops:Array Oper)(i:Nat):List Nat:=
 ((ops[i]?).map fun o=>(o.after.toList.filter (Region.binds .any ·)).map (·.on)).getD []
def maskOf(T:Array Nat)(l:List Nat):Nat:=l.foldl (fun s m=>s|||2 ^ m|||T.getD m 0) 0
def regionOkT(ops:Array Oper)(kd:Nat→Nat)(nb:List Nat)(T:Array Nat):Bool:=
 Region.noSelect ops&&(List.range ops.size).all fun i=>
  (preds ops i).all (· <i)&&T.getD i 0==maskOf T (preds ops i)&&(List.range i).all fun j=>(T.getD i 0).testBit j||commPair ops kd nb j i
def regionOk(ops:Array Oper)(kd:Nat→Nat)(nb:List Nat):Bool:=regionOkT ops kd nb (Region.before ops)
theorem maskOf_spec(T:Array Nat)(j:Nat):∀ (l:List Nat) (s:Nat),(l.foldl (fun s m=>s|||2 ^ m|||T.getD m 0) s).testBit j=true→s.testBit j=true∨∃ m∈l,m=j∨(T.getD m 0).testBit j=true
 | [],s,h=>.inl h
 |m::l,s,h=>by
  rcases maskOf_spec T j l _ h with h|⟨m',hm,h⟩
  ·rw[Nat.testBit_or,Nat.testBit_or,Bool.or_eq_true,Bool.or_eq_true,Nat.testBit_two_pow]at h
   rcases h with(h|h)|h
   ·exact .inl h
   ·exact .inr ⟨m,List.mem_cons_self ..,.inl (by simpa using h)⟩
   ·exact .inr ⟨m,List.mem_cons_self ..,.inr h⟩
  ·exact .inr ⟨m',List.mem_cons_of_mem _ hm,h⟩
def rem(ops:Array Oper)(listed:Array Bool):List Nat:=(List.range ops.size).filter fun i=> !listed.getD i true
theorem ready_preds{listed:Array Bool}{i:Nat}:i∈Region.ready .any ops listed↔i<ops.size∧listed.getD i true=false∧∀ m∈preds ops i,listed.getD m false=true:=by
 simp only[Region.ready,List.mem_filter,List.mem_range,Bool.and_eq_true,Bool.not_eq_true']
 constructor
 ·rintro⟨h1,h2,h3⟩
  refine⟨h1,h2,?_⟩
  cases ho:ops[i]? with
  |none=>rw[ho]at h3;simp at h3
  |some o=>
   rw[ho]at h3
   simp only[Option.map_some,Option.getD_some]at h3
   simp only[preds,ho,Option.map_some,Option.getD_some,List.mem_map,List.mem_filter]
   rintro m ⟨e,⟨he,hb⟩,rfl⟩
   have:=Array.all_eq_true_iff_forall_mem.1 h3 e (by simpa using he)
   simpa [hb]using this
 ·rintro⟨h1,h2,h3⟩
  refine⟨h1,h2,?_⟩
  cases ho:ops[i]? with
  |none=>rw[Array.getElem?_eq_none_iff]at ho;omega
  |some o=>
   simp only[Option.map_some,Option.getD_some]
   refine Array.all_eq_true_iff_forall_mem.2 fun e he=>?_
   cases hb:Region.binds .any e with
   |false=>simp
   |true=>
    have:=h3 e.on (by
     simp only[preds,ho,Option.map_some,Option.getD_some,List.mem_map,List.mem_filter]
     exact⟨e,⟨by simpa using he,hb⟩,rfl⟩)
    simpa using this
theorem filter_split{α:Type}[DecidableEq α](p:α→Bool)(x:α):∀ (l:List α),l.Nodup→x∈l→p x=true→∃ l1 l2,l.filter p=l1++x::l2∧l.filter (fun y=>p y&& !(y==x))=l1++l2∧(∃ r1 r2,l=r1++x::r2∧∀ y∈l1,y∈r1∧p y=true)
 | [],_,h,_=>by cases h
 |y::l,hn,h,hp=>by
  rw[List.nodup_cons]at hn
  by_cases hy:y=x
  ·subst hy
   refine⟨[],l.filter p,by simp[hp],?_,[],l,rfl,by simp⟩
   simp only[List.filter_cons,hp,beq_self_eq_true,Bool.not_true,Bool.and_false,Bool.false_eq_true,if_false,List.nil_append]
   apply List.filter_congr
   intro z hz
   have:z≠y:=fun e=>hn.1 (e▸hz)
   simp[this]
  ·have hx:x∈l:=by
    rcases List.mem_cons.1 h with h|h
    ·exact absurd h.symm hy
    ·exact h
   obtain⟨l1,l2,e1,e2,r1,r2,e3,hm⟩:=filter_split p x l hn.2 hx hp
   cases hpy:p y with
   |true=>exact⟨y::l1,l2,by simp[hpy,e1],by simp[hpy,hy,e2],y::r1,r2,by simp[e3],fun z hz=>by
     rcases List.mem_cons.1 hz with rfl|hz
     ·exact⟨List.mem_cons_self ..,hpy⟩
     ·exact⟨List.mem_cons_of_mem _ (hm z hz).1,(hm z hz).2⟩⟩
   |false=>exact⟨l1,l2,by simp[hpy,e1],by simp[hpy,e2],y::r1,r2,by simp[e3],fun z hz=>⟨List.mem_cons_of_mem _ (hm z hz).1,(hm z hz).2⟩⟩
theorem OkT.any_go{Q:Exit→Act→World→Prop}(hN:∀ a w,N a w→Q .normal a w){T:Array Nat}(hok:regionOkT ops kd nb T=true):
  ∀ (fuel:Nat) (listed:Array Bool) (S:World→Prop) (a:Act) (w:World),listed.size=ops.size→(rem ops listed).length≤fuel→
   (∀ i,listed.getD i false=true→∀ m∈preds ops i,listed.getD m false=true)→(∀ w,S w→Tm w)→S w→OkT P ops kd nb Tm N (rem ops listed) S a w→wpAnyIn (Fw r) 0 P .any ops Q fuel listed a w:=by
 simp only[regionOkT,Bool.and_eq_true,List.all_eq_true,List.mem_range]at hok
 obtain⟨hsel,hok⟩:=hok
 have hnone:∀ listed:Array Bool,Region.ready .any ops listed=[]→(∀ i,listed.getD i false=true→∀ m∈preds ops i,listed.getD m false=true)→listed.size=ops.size→rem ops listed=[]:=by
  intro listed hr _ hsz
  cases hrem:rem ops listed with
  |nil=>rfl
  |cons x xs=>
   exfalso
   have hall:∀ n i,i≤n→i<ops.size→listed.getD i true=true:=by
    intro n
    induction n with
    |zero=>
     intro i h0 hi
     obtain rfl:i=0:=by omega
     cases h:listed.getD 0 true with
     |true=>rfl
     |false=>
      have:0∈Region.ready .any ops listed:=ready_preds.2 ⟨hi,h,fun m hm=>by
       have:=(hok 0 hi).1.1
       have:=this m hm
       simp at this⟩
      rw[hr]at this;cases this
    |succ n ih=>
     intro i h0 hi
     rcases Nat.lt_or_ge n i with hlt|hge
     ·obtain rfl:i=n+1:=by omega
      cases h:listed.getD (n+1) true with
      |true=>rfl
      |false=>
       have:n+1∈Region.ready .any ops listed:=ready_preds.2 ⟨hi,h,fun m hm=>by
        have h1:=(hok (n+1) hi).1.1
        have h2:m<n+1:=by simpa using h1 m hm
        have h3:=ih m (by omega) (by omega)
        have hms:m<listed.size:=by omega
        simp[hms]at h3 ⊢
        exact h3⟩
       rw[hr]at this;cases this
     ·exact ih i hge hi
   have hx:x∈rem ops listed:=by rw[hrem];exact List.mem_cons_self ..
   simp only[rem,List.mem_filter,List.mem_range,Bool.not_eq_true']at hx
   have:=hall x x (Nat.le_refl _) hx.1
   rw[hx.2]at this;cases this
 intro fuel
 induction fuel with
 |zero=>
  intro listed S a w hsz hlen hdown hST hS h
  have hnil:rem ops listed=[]:=List.length_eq_zero_iff.1 (by omega)
  rw[hnil]at h
  refine⟨?_,hN _ _ h⟩
  cases hr:Region.ready .any ops listed with
  |nil=>rfl
  |cons x xs=>
   have hx:x∈Region.ready .any ops listed:=by rw[hr];exact List.mem_cons_self ..
   obtain⟨h1,h2,_⟩:=ready_preds.1 hx
   have:x∈rem ops listed:=by simp only[rem,List.mem_filter,List.mem_range,Bool.not_eq_true'];exact⟨h1,h2⟩
   rw[hnil]at this;cases this
 |succ fuel ih=>
  intro listed S a w hsz hlen hdown hST hS h
  refine⟨fun hr=>?_,fun i hi=>?_⟩
  ·rw[hnone listed hr hdown hsz]at h;exact hN _ _ h
  ·obtain⟨h1,h2,h3⟩:=ready_preds.1 hi
   have hmem:i∈List.range ops.size:=List.mem_range.2 h1
   obtain⟨l1,l2,e1,e2,r1,r2,e3,hm⟩:=filter_split (fun i=> !listed.getD i true) i (List.range ops.size) List.nodup_range hmem (by simpa using h2)
   have hrem:rem ops listed=l1++i::l2:=e1
   have hlt:i<listed.size:=by omega
   have hrem':rem ops (listed.setIfInBounds i true)=l1++l2:=by
    rw[← e2]
    unfold rem
    apply List.filter_congr
    intro y hy
    by_cases hyi:y=i
    ·subst hyi;simp[hlt]
    ·rw[getD_set_ne true (Ne.symm hyi)];simp[hyi]
   have hbefore:∀ n j,j≤n→listed.getD j true=false→∀ k,k≤n→(∀ m∈preds ops k,listed.getD m false=true)→k<ops.size→(T.getD k 0).testBit j=true→False:=by
    intro n
    induction n with
    |zero=>
     intro j hj hlj k hk hpk hks hb
     obtain rfl:k=0:=by omega
     have hT:=(hok 0 hks).1.2
     rw[beq_iff_eq]at hT
     rw[hT]at hb
     rcases maskOf_spec T j _ 0 hb with hb|⟨m,hm,_⟩
     ·simp at hb
     ·have:=(hok 0 hks).1.1 m hm
      simp at this
    |succ n ihn=>
     intro j hj hlj k hk hpk hks hb
     have hT:=(hok k hks).1.2
     rw[beq_iff_eq]at hT
     rw[hT]at hb
     rcases maskOf_spec T j _ 0 hb with hb|⟨m,hm,hb⟩
     ·simp at hb
     ·have hmk:m<k:=by simpa using(hok k hks).1.1 m hm
      have hlm:=hpk m hm
      rcases hb with rfl|hb
      ·have hms:m<listed.size:=by omega
       simp[hms]at hlm hlj
       rw[hlm]at hlj;cases hlj
      ·rcases Nat.lt_or_ge n j with hjn|hjn
       ·
        have hjs:∀ n' k',k'≤n'→k'<ops.size→∀ j',k'≤j'→(T.getD k' 0).testBit j'=true→False:=by
         intro n'
         induction n' with
         |zero=>
          intro k' hk' hks' j' hj' hb'
          obtain rfl:k'=0:=by omega
          have hT:=(hok 0 hks').1.2
          rw[beq_iff_eq]at hT
          rw[hT]at hb'
          rcases maskOf_spec T j' _ 0 hb' with hb'|⟨m',hm',_⟩
          ·simp at hb'
          ·have:=(hok 0 hks').1.1 m' hm'
           simp at this
         |succ n' ih'=>
          intro k' hk' hks' j' hj' hb'
          have hT:=(hok k' hks').1.2
          rw[beq_iff_eq]at hT
          rw[hT]at hb'
          rcases maskOf_spec T j' _ 0 hb' with hb'|⟨m',hm',hb'⟩
          ·simp at hb'
          ·have hmk':m'<k':=by simpa using(hok k' hks').1.1 m' hm'
           rcases hb' with rfl|hb'
           ·omega
           ·exact ih' m' (by omega) (by omega) j' (by omega) hb'
        exact hjs m m (Nat.le_refl _) (by omega) j (by omega) hb
       ·exact ihn j hjn hlj m (by omega) (hdown m hlm) (by omega) hb
   have hcomm:∀ j∈l1,commPair ops kd nb j i=true:=by
    intro j hj
    obtain⟨hjr,hpj⟩:=hm j hj
    have hji:j<i:=by
     have hlen:i=r1.length:=by
      have:=congrArg (fun l=>l[r1.length]?) e3
      simp only[List.getElem?_append_right (Nat.le_refl _),Nat.sub_self,List.getElem?_cons_zero]at this
      rw[List.getElem?_eq_some_iff]at this
      obtain⟨hl,he⟩:=this
      rw[List.getElem_range]at he
      exact he.symm
     obtain⟨k,hk,he⟩:=List.getElem_of_mem hjr
     have:=congrArg (fun l=>l[k]?) e3
     simp only[List.getElem?_append_left hk,List.getElem?_eq_getElem hk,he]at this
     rw[List.getElem?_eq_some_iff]at this
     obtain⟨hl,he'⟩:=this
     rw[List.getElem_range]at he'
     omega
    have h4:=(hok i h1).2 j hji
    rw[Bool.or_eq_true]at h4
    rcases h4 with h4|h4
    ·exact(hbefore (max i j) j (by omega) (by simpa using hpj) i (by omega) h3 h1 h4).elim
    ·exact h4
   rw[hrem]at h hlen
   obtain⟨oi,hio,hdi,h⟩:=OkT.take (Region.noSelect_spec hsel) l1 S a w hST hS hcomm h
   have hdown':∀ k,(listed.setIfInBounds i true).getD k false=true→∀ m∈preds ops k,(listed.setIfInBounds i true).getD m false=true:=by
    intro k hk m hm
    by_cases hki:k=i
    ·subst hki;exact getD_set_true (h3 m hm)
    ·rw[getD_set_ne false (Ne.symm hki)]at hk
     exact getD_set_true (hdown k hk m hm)
   have hnext:∀ S' a' w',(∀ w,S' w→Tm w)→S' w'→OkT P ops kd nb Tm N (l1++l2) S' a' w'→wpAnyIn (Fw r) 0 P .any ops Q fuel (listed.setIfInBounds i true) a' w':=fun S' a' w' hT' hS' h'=>
    ih _ S' a' w' (by simpa using hsz) (by rw[hrem'];simp at hlen ⊢;omega) hdown' hT' hS' (by rw[hrem'];exact h')
   rcases h with⟨_,hw,h⟩|⟨v,hq,h⟩
   ·exact OpVal.wpOpIn hio hdi hw (h.mono fun v w' ⟨S',_,hS',hT',h'⟩=>hnext S' _ _ hT' hS' h')
   ·cases hw:Region.wanted oi (yielded ops a.tmps)with
    |true=>
     refine OpVal.wpOpIn hio hdi hw ?_
     unfold OpVal
     rw[hq.run hST hS hw]
     exact hnext S _ _ hST hS h
    |false=>
     unfold Go.wpOpIn
     simp only[hio,hw,Bool.false_eq_true,if_false]
     rcases hq with⟨h1,_⟩|⟨_,rfl⟩
     ·rw[hw]at h1;cases h1
     ·exact⟨fun _ _=>trivial,hnext S _ _ hST hS h⟩
theorem OkT.wpAnyIn{Q:Exit→Act→World→Prop}(hN:∀ a w,N a w→Q .normal a w)(hok:regionOk ops kd nb=true){S:World→Prop}{a:Act}{w:World}(hST:∀ w,S w→Tm w)(hS:S w)
  (h:OkT P ops kd nb Tm N (List.range ops.size) S a w):wpAnyIn (Fw r) 0 P .any ops Q ops.size (Array.replicate ops.size false) a w:=by
 have hrem:rem ops (Array.replicate ops.size false)=List.range ops.size:=by
  unfold rem
  rw[List.filter_eq_self]
  intro i hi
  have:=List.mem_range.1 hi
  simp[this]
 refine OkT.any_go hN hok ops.size _ S a w (by simp) (by rw[hrem];simp) (fun i hi m _=>?_) hST hS (by rw[hrem];exact h)
 exfalso
 rcases Nat.lt_or_ge i ops.size with h1|h1
 ·simp[h1]at hi
 ·simp[Array.getD]at hi
end Go.Fx
namespace Go.Fx
open Go
abbrev Frag:=Nat→Option Obj
abbrev HProp:=Frag→Prop
def Frag.le(h h':Frag):Prop:=∀ b o,h b=some o→h' b=some o
def Frag.apart(h h':Frag):Prop:=∀ b o o',h b=some o→h' b=some o'→False
theorem Frag.le.refl(h:Frag):h.le h:=fun _ _ e=>e
theorem Frag.le.trans{a b c:Frag}(h:a.le b)(k:b.le c):a.le c:=fun x o e=>k x o (h x o e)
def SatL:List HProp→Frag→Prop
 | [],_=>True
 |H::L,h=>∃ h1 h2:Frag,Frag.apart h1 h2∧h1.le h∧h2.le h∧H h1∧SatL L h2
theorem SatL.mono:∀ {L:List HProp} {h h':Frag},SatL L h→h.le h'→SatL L h'
 | [],_,_,_,_=>trivial
 |_::_,_,_,⟨h1,h2,ha,l1,l2,hH,hL⟩,hl=>⟨h1,h2,ha,l1.trans hl,l2.trans hl,hH,hL⟩
theorem SatL.tail{A:HProp}{L:List HProp}{h:Frag}(s:SatL (A::L) h):SatL L h:=
 let⟨_,_,_,_,l2,_,hL⟩:=s;hL.mono l2
theorem SatL.consMono{A:HProp}{L L':List HProp}{h:Frag}(s:SatL (A::L) h)(k:∀ h,SatL L h→SatL L' h):SatL (A::L') h:=
 let⟨h1,h2,ha,l1,l2,hH,hL⟩:=s;⟨h1,h2,ha,l1,l2,hH,k _ hL⟩
theorem SatL.headMono{A B:HProp}{L:List HProp}{h:Frag}(s:SatL (A::L) h)(k:∀ h,A h→B h):SatL (B::L) h:=
 let⟨h1,h2,ha,l1,l2,hH,hL⟩:=s;⟨h1,h2,ha,l1,l2,k _ hH,hL⟩
def Frag.join(h h':Frag):Frag:=fun b=>match h b with|some o=>some o|none=>h' b
theorem Frag.join_le{a b c:Frag}(h:a.le c)(k:b.le c):(a.join b).le c:=by
 intro x o e
 unfold Frag.join at e
 split at e
 ·rename_i o' h';cases e;exact h _ _ h'
 ·exact k _ _ e
theorem Frag.le_join(a b:Frag):a.le (a.join b):=fun x o e=>by unfold Frag.join;rw[e]
theorem Frag.le_join'{a b:Frag}(ha:Frag.apart a b):b.le (a.join b):=fun x o e=>by
 unfold Frag.join
 split
 ·rename_i o' h';exact(ha _ _ _ h' e).elim
 ·exact e
theorem Frag.apart.symm{a b:Frag}(h:Frag.apart a b):Frag.apart b a:=fun x o o' e e'=>h x o' o e' e
theorem Frag.apart.sub{a b a' b':Frag}(h:Frag.apart a b)(l:a'.le a)(l':b'.le b):Frag.apart a' b':=fun x o o' e e'=>h x o o' (l _ _ e) (l' _ _ e')
theorem SatL.swap{A B:HProp}{L:List HProp}{h:Frag}(s:SatL (A::B::L) h):SatL (B::A::L) h:=by
 obtain⟨h1,h2,ha,l1,l2,hA,h3,h4,hb,l3,l4,hB,hL⟩:=s
 have ha3:Frag.apart h1 h3:=ha.sub (.refl _) l3
 have ha4:Frag.apart h1 h4:=ha.sub (.refl _) l4
 refine⟨h3,h1.join h4,?_,l3.trans l2,Frag.join_le l1 (l4.trans l2),hB,h1,h4,ha4,Frag.le_join _ _,Frag.le_join' ha4,hA,hL⟩
 intro x o o' e e'
 unfold Frag.join at e'
 split at e'
 ·rename_i o'' h'';exact ha3 _ _ _ h'' e
 ·exact hb _ _ _ e e'
inductive Sel:List HProp→HProp→List HProp→Prop
 |here {A:HProp} {L:List HProp}:Sel (A::L) A L
 |there {A B:HProp} {L L':List HProp} (h:Sel L A L'):Sel (B::L) A (B::L')
theorem Sel.out{L L':List HProp}{A:HProp}(s:Sel L A L'):∀ {h:Frag},SatL L h→SatL (A::L') h:=by
 induction s with
 |here=>exact fun h=>h
 |there _ ih=>exact fun h=>(h.consMono fun _ k=>ih k).swap
inductive Take:List HProp→List HProp→List HProp→Prop
 |nil {L:List HProp}:Take L [] L
 |cons {L L1 pre R:List HProp} {A:HProp} (s:Sel L A L1) (t:Take L1 pre R):Take L (A::pre) R
theorem Take.out{L pre R:List HProp}(t:Take L pre R):∀ {h:Frag},SatL L h→SatL (pre++R) h:=by
 induction t with
 |nil=>exact fun h=>h
 |cons s _ ih=>exact fun h=>(s.out h).consMono fun _ k=>ih k
inductive Repl:List HProp→HProp→HProp→List HProp→Prop
 |here {A B:HProp} {L:List HProp}:Repl (A::L) A B (B::L)
 |there {A B C:HProp} {L L':List HProp} (h:Repl L A B L'):Repl (C::L) A B (C::L')
theorem Repl.sel{L L':List HProp}{A B:HProp}(s:Repl L A B L'):∃ R,Sel L A R∧Sel L' B R:=by
 induction s with
 |here=>exact⟨_,.here,.here⟩
 |there _ ih=>obtain⟨R,h1,h2⟩:=ih;exact⟨_,.there h1,.there h2⟩
structure W0 where
 w:World
 m:Bool
structure Sats(w0:W0)(w:World)(L:List HProp):Prop where
 os:w.os=w0.w.os
 tape:w.tape=w0.w.tape
 output:w.output=w0.w.output
 size:w0.w.heap.size≤w.heap.size∧(w0.m=true→w0.w.drawn≤w.drawn)
 heap:SatL L (fun b=>w.heap[b]?)
theorem Sats.map{w0:W0}{w:World}{L L':List HProp}(s:Sats w0 w L)(k:∀ h,SatL L h→SatL L' h):Sats w0 w L':=⟨s.os,s.tape,s.output,s.size,k _ s.heap⟩
theorem Sats.sel{w0:W0}{w:World}{L L':List HProp}{A:HProp}(s:Sats w0 w L)(t:Sel L A L'):Sats w0 w (A::L'):=s.map fun _ h=>t.out h
theorem Sats.take{w0:W0}{w:World}{L pre R:List HProp}(s:Sats w0 w L)(t:Take L pre R):Sats w0 w (pre++R):=s.map fun _ h=>t.out h
theorem Sats.head{w0:W0}{w:World}{L:List HProp}{A:HProp}(s:Sats w0 w (A::L)):∃ h:Frag,h.le (fun b=>w.heap[b]?)∧A h:=
 let⟨h1,_,_,l1,_,hA,_⟩:=s.heap;⟨h1,l1,hA⟩
def pts(b:Nat)(o:Obj):HProp:=fun h=>h b=some o
def orig(w0:World):HProp:=fun h=>∀ b,b<w0.heap.size→h b=w0.heap[b]?
def Rd(H:HProp)(b:Nat)(o:Obj):Prop:=∀ h,H h→h b=some o
theorem Rd.pts(b:Nat)(o:Obj):Rd (pts b o) b o:=fun _ h=>h
theorem Rd.orig{w0:World}{b:Nat}{o:Obj}(hb:w0.heap[b]? =some o):Rd (orig w0) b o:=fun h hh=>by
 rw[hh b (Array.getElem?_eq_some_iff.1 hb).1];exact hb
inductive RdIn:List HProp→Nat→Obj→Prop
 |here {H:HProp} {L:List HProp} {b:Nat} {o:Obj} (h:Rd H b o):RdIn (H::L) b o
 |there {H:HProp} {L:List HProp} {b:Nat} {o:Obj} (h:RdIn L b o):RdIn (H::L) b o
theorem RdIn.satL{L:List HProp}{b:Nat}{o:Obj}(r:RdIn L b o):∀ {h:Frag},SatL L h→h b=some o:=by
 induction r with
 |here hr=>rintro h ⟨h1,_,_,l1,_,hA,_⟩;exact l1 _ _ (hr _ hA)
 |there _ ih=>exact fun s=>ih s.tail
theorem RdIn.heap{w0:W0}{w:World}{L:List HProp}{b:Nat}{o:Obj}(r:RdIn L b o)(s:Sats w0 w L):w.heap[b]? =some o:=r.satL s.heap
theorem Sats.update{w0:W0}{w w':World}{L:List HProp}{b:Nat}{o o':Obj}(s:Sats w0 w (pts b o::L))(h1:w'.os=w.os)(h2:w'.tape=w.tape)(h3:w'.output=w.output)
  (h4:w'.heap.size=w.heap.size)(h5:w'.heap[b]? =some o')(h6:∀ k,k≠b→w'.heap[k]? =w.heap[k]?)(h7:w'.drawn=w.drawn:=by first|rfl|(unfold World.freeze;split<;>rfl)):Sats w0 w' (pts b o'::L):=by
 refine⟨h1.trans s.os,h2.trans s.tape,h3.trans s.output,⟨h4▸s.size.1,fun h=>h7▸s.size.2 h⟩,?_⟩
 obtain⟨f1,f2,ha,l1,l2,hA,hL⟩:=s.heap
 refine⟨fun x=>if x=b then some o' else none,f2,?_,?_,?_,by simp[pts],hL⟩
 ·intro x p p' e e'
  dsimp only at e
  split at e
  ·rename_i hx;subst hx;exact ha _ _ _ hA e'
  ·cases e
 ·intro x p e
  dsimp only at e
  split at e
  ·rename_i hx;subst hx;cases e;exact h5
  ·cases e
 ·intro x p e
  have hx:x≠b:=fun hx=>by subst hx;exact ha _ _ _ hA e
  show w'.heap[x]? =some p
  rw[h6 x hx]
  exact l2 _ _ e
theorem Sats.alloc{w0:W0}{w:World}{L:List HProp}(s:Sats w0 w L)(o:Obj):Sats w0 (w.alloc o) (pts w.heap.size o::L):=by
 refine⟨s.os,s.tape,s.output,⟨by simpa using Nat.le_succ_of_le s.size.1,s.size.2⟩,?_⟩
 refine⟨fun x=>if x=w.heap.size then some o else none,fun b=>w.heap[b]?,?_,?_,?_,by simp[pts],s.heap⟩
 ·intro x p p' e e'
  dsimp only at e e'
  split at e
  ·rename_i hx;subst hx;simp at e'
  ·cases e
 ·intro x p e
  dsimp only at e
  split at e
  ·rename_i hx;subst hx;cases e;show(w.heap.push o)[w.heap.size]? =_;simp
  ·cases e
 ·intro x p e
  dsimp only at e
  show(w.heap.push o)[x]? =some p
  rw[Array.getElem?_push,if_neg]
  ·exact e
  ·intro hx;subst hx;simp at e
theorem Sats.drew{w0:W0}{w:World}{L:List HProp}(s:Sats w0 w L):Sats w0 {w with drawn:=w.drawn+1} L:=⟨s.os,s.tape,s.output,⟨s.size.1,fun h=>Nat.le_succ_of_le (s.size.2 h)⟩,s.heap⟩
theorem Sats.setCell{w0:W0}{w:World}{L:List HProp}{b off:Nat}{cs:Array Value}{T:TypeId}{fr:Nat×Nat}(s:Sats w0 w (pts b (.cells cs T fr)::L))(v:Value):
  Sats w0 (w.setCell ⟨b,off,none⟩ v) (pts b (.cells (cs.setIfInBounds off v) T fr)::L):=by
 have hb:w.heap[b]? =some (.cells cs T fr):=(RdIn.here (Rd.pts _ _)).heap s
 refine s.update rfl rfl rfl (by simp[World.setCell]) ?_ ?_
 ·simp[World.setCell,Array.getElem?_modify,hb]
 ·intro k hk
  simp only[World.setCell,Array.getElem?_modify]
  rw[if_neg (by omega)]
theorem Sats.setObj{w0:W0}{w:World}{L:List HProp}{b:Nat}{o:Obj}(s:Sats w0 w (pts b o::L))(o':Obj):Sats w0 {w with heap:=w.heap.setIfInBounds b o'} (pts b o'::L):=by
 have hb:w.heap[b]? =some o:=(RdIn.here (Rd.pts _ _)).heap s
 have hlt:=(Array.getElem?_eq_some_iff.1 hb).1
 refine s.update rfl rfl rfl (by simp) ?_ ?_
 ·simp[hlt]
 ·intro k hk
  simp only[Array.getElem?_setIfInBounds]
  rw[if_neg (by omega)]
theorem cell_of_heap{w:World}{b off:Nat}{cs:Array Value}{T:TypeId}{fr:Nat×Nat}{v:Value}(hb:w.heap[b]? =some (.cells cs T fr))(hc:cs[off]? =some v):w.cell? ⟨b,off,none⟩=some v:=by
 simp[World.cell?,hb,hc]
abbrev Regs:=Nat→Value
def upd(ρ:Regs)(d:Nat)(v:Value):Regs:=fun t=>bif Nat.beq t d then v else ρ t
def updO(ρ:Regs)(d:Option Nat)(v:Value):Regs:=match d with|some d=>upd ρ d v|none=>ρ
theorem upd_self{ρ:Regs}{d:Nat}{v:Value}(h:ρ d=v):upd ρ d v=ρ:=by
 funext t
 unfold upd
 cases hb:Nat.beq t d with
 |true=>rw[Nat.eq_of_beq_eq_true hb];exact h.symm
 |false=>rfl
def ev(ρ:Regs):Operand→Value
 | .tmp t=>ρ t
 | .const v=>v
 | .global g=>.pointer (some ⟨g,0,none⟩)
 | .func f=>.func (.func f) #[] #[]
structure Agr(nt:Nat)(ρ:Regs)(ds:List Deferred)(a:Act):Prop where
 size:a.tmps.size=nt
 get:∀ t,a.tmps.getD t undef=ρ t
 defers:a.defers=ds
theorem Agr.eval{nt:Nat}{ρ:Regs}{ds:List Deferred}{a:Act}(h:Agr nt ρ ds a):a.eval=ev ρ:=by
 funext x
 cases x with
 |tmp t=>exact h.get t
 |_=>rfl
theorem Agr.put{nt:Nat}{ρ:Regs}{ds:List Deferred}{a:Act}(h:Agr nt ρ ds a){d:Nat}(hd:d<nt)(v:Value):Agr nt (upd ρ d v) ds (a.put (some d) v):=by
 refine⟨by simp[Act.put,h.size],fun t=>?_,h.defers⟩
 simp only[Act.put,upd]
 cases hb:Nat.beq t d with
 |true=>
  have:=Nat.eq_of_beq_eq_true hb
  subst this
  simp[h.size,hd]
 |false=>
  have hne:t≠d:=fun e=>by subst e;simp at hb
  rw[cond_false,← h.get t]
  simp only[Array.getD_eq_getD_getElem?]
  rw[Array.getElem?_setIfInBounds_ne (Ne.symm hne)]
theorem Agr.putO{nt:Nat}{ρ:Regs}{ds:List Deferred}{a:Act}(h:Agr nt ρ ds a){d:Option Nat}(hd:∀ x,d=some x→x<nt)(v:Value):Agr nt (updO ρ d v) ds (a.put d v):=by
 cases d with
 |none=>exact⟨h.size,h.get,h.defers⟩
 |some d=>exact h.put (hd d rfl) v
def regsOf(args:List Value):Regs:=fun t=>(args[t]?).getD undef
theorem Agr.start{nt:Nat}{args:List Value}(h:args.length≤nt):Agr nt (regsOf args) [] {tmps:=args.toArray++Array.replicate (nt-args.toArray.size) undef,defers:=[]}:=by
 refine⟨by simp;omega,fun t=>?_,rfl⟩
 simp only[regsOf,Array.getD_eq_getD_getElem?]
 rcases Nat.lt_or_ge t args.length with h1|h1
 ·rw[Array.getElem?_append_left (by simpa using h1)];simp
 ·rw[Array.getElem?_append_right (by simpa using h1)]
  simp only[List.size_toArray,List.getElem?_eq_none h1,Option.getD_none]
  rw[Array.getElem?_replicate]
  split<;>rfl
end Go.Fx
namespace Go.Fx
open Go
structure Cx where
 P:Program
 r:Option Nat
 nt:Nat
 w0:W0
 cv:List TypeId
variable{X:Cx}{ds:List Deferred}{ρ:Regs}{L:List HProp}{Q:Exit→Act→World→Prop}
def Ok(X:Cx)(c:Code)(ds:List Deferred)(ρ:Regs)(L:List HProp)(Q:Exit→Act→World→Prop):Prop:=
 ∀ a w,Agr X.nt ρ ds a→Sats X.w0 w L→c.wpIn (Fw X.r) 0 X.P Q a w
def Cont(X:Cx)(Q:Exit→Act→World→Prop)(e:Exit)(ds:List Deferred)(ρ:Regs)(L:List HProp):Prop:=
 ∀ a w,Agr X.nt ρ ds a→Sats X.w0 w L→Q e a w
def Then(X:Cx)(c:Code)(Q:Exit→Act→World→Prop):Exit→Act→World→Prop:=Exit.then (c.wpIn (Fw X.r) 0 X.P Q) Q
theorem ok_skip(h:Cont X Q .normal ds ρ L):Ok X .skip ds ρ L Q:=fun a w ha hs=>wpIn_skip (h a w ha hs)
theorem ok_label{l:Nat}(h:Cont X Q .normal ds ρ L):Ok X (.label l) ds ρ L Q:=fun a w ha hs=>wpIn_label (h a w ha hs)
theorem ok_ret(h:Cont X Q .ret ds ρ L):Ok X .ret ds ρ L Q:=fun a w ha hs=>wpIn_ret (h a w ha hs)
theorem ok_exit{id:Nat}(h:Cont X Q (.exit id) ds ρ L):Ok X (.exit id) ds ρ L Q:=fun a w ha hs=>wpIn_exit (h a w ha hs)
theorem ok_seq{x y:Code}(h:Ok X x ds ρ L (Then X y Q)):Ok X (.seq x y) ds ρ L Q:=fun a w ha hs=>wpIn_seq (h a w ha hs)
theorem ok_block{id:Nat}{c:Code}(h:Ok X c ds ρ L (Exit.inBlock id Q)):Ok X (.block id c) ds ρ L Q:=fun a w ha hs=>wpIn_block (h a w ha hs)
theorem ok_cond{c:Operand}{x y:Code}{t:Bool}(hc:ev ρ c= .bool t)(ht:t=true→Ok X x ds ρ L Q)(hf:t=false→Ok X y ds ρ L Q):Ok X (.cond c x y) ds ρ L Q:=
 fun a w ha hs=>wpIn_cond_split (by rw[ha.eval];exact hc) (fun h=>ht h a w ha hs) (fun h=>hf h a w ha hs)
theorem ok_cond_true{c:Operand}{x y:Code}(hc:ev ρ c= .bool true)(h:Ok X x ds ρ L Q):Ok X (.cond c x y) ds ρ L Q:=ok_cond hc (fun _=>h) (by simp)
theorem ok_cond_false{c:Operand}{x y:Code}(hc:ev ρ c= .bool false)(h:Ok X y ds ρ L Q):Ok X (.cond c x y) ds ρ L Q:=ok_cond hc (by simp) (fun _=>h)
theorem cont_then{c:Code}(h:Ok X c ds ρ L Q):Cont X (Then X c Q) .normal ds ρ L:=h
theorem cont_then_ret{c:Code}(h:Cont X Q .ret ds ρ L):Cont X (Then X c Q) .ret ds ρ L:=h
theorem cont_then_exit{c:Code}{id:Nat}(h:Cont X Q (.exit id) ds ρ L):Cont X (Then X c Q) (.exit id) ds ρ L:=h
theorem cont_block{id:Nat}(h:Cont X Q .normal ds ρ L):Cont X (Exit.inBlock id Q) .normal ds ρ L:=h
theorem cont_block_ret{id:Nat}(h:Cont X Q .ret ds ρ L):Cont X (Exit.inBlock id Q) .ret ds ρ L:=h
theorem cont_block_here{id id':Nat}(he:Nat.beq id' id=true)(h:Cont X Q .normal ds ρ L):Cont X (Exit.inBlock id Q) (.exit id') ds ρ L:=by
 have:=Nat.eq_of_beq_eq_true he
 subst this
 intro a w ha hs
 simp only[Exit.inBlock,if_true]
 exact h a w ha hs
theorem cont_block_past{id id':Nat}(he:Nat.beq id' id=false)(h:Cont X Q (.exit id') ds ρ L):Cont X (Exit.inBlock id Q) (.exit id') ds ρ L:=by
 intro a w ha hs
 have:id'≠id:=fun e=>by subst e;simp at he
 simp only[Exit.inBlock,if_neg this]
 exact h a w ha hs
theorem ok_map{c:Code}{L':List HProp}(k:∀ h,SatL L h→SatL L' h)(h:Ok X c ds ρ L' Q):Ok X c ds ρ L Q:=fun a w ha hs=>h a w ha (hs.map k)
theorem cont_map{e:Exit}{L':List HProp}(k:∀ h,SatL L h→SatL L' h)(h:Cont X Q e ds ρ L'):Cont X Q e ds ρ L:=fun a w ha hs=>h a w ha (hs.map k)
theorem cont_learn{e:Exit}{φ:Prop}(k:∀ h,SatL L h→φ)(h:φ→Cont X Q e ds ρ L):Cont X Q e ds ρ L:=fun a w ha hs=>h (k _ hs.heap) a w ha hs
theorem ok_learn{c:Code}{φ:Prop}(k:∀ h,SatL L h→φ)(h:φ→Ok X c ds ρ L Q):Ok X c ds ρ L Q:=fun a w ha hs=>h (k _ hs.heap) a w ha hs
theorem ok_loop{c:Code}{γ:Type}(I:γ→Regs→List HProp→Prop)(μ:γ→Nat)(g0:γ)(h0:I g0 ρ L)
  (round:∀ g ρ L,I g ρ L→Ok X c ds ρ L (Exit.then (fun a w=>∃ g' ρ' L',I g' ρ' L'∧μ g'<μ g∧Agr X.nt ρ' ds a∧Sats X.w0 w L') Q)):Ok X (.loop c) ds ρ L Q:=by
 intro a w ha hs
 have key:∀ n g ρ L a w,μ g=n→I g ρ L→Agr X.nt ρ ds a→Sats X.w0 w L→∀ (b:Frame) (k:List Item) (cs:List Frame),b.roundOf=(Fw X.r).round→
   ∃ e a' w',Q e a' w'∧ArrivesIn (Machine.fenced X.P (Fw X.r)) X.P (lone (b.atR a (.code c::.inLoop c::k)) cs w) b k cs e a' w':=by
  intro n
  induction n using Nat.strongRecOn with
  |_ n ih=>
   intro g ρ L a w hn hI ha hs b k cs hro
   obtain⟨e,a₁,w₁,hq,harr⟩:=round g ρ L hI a w ha hs b (.inLoop c::k) cs hro trivial (Fw_room _ _)
   cases e with
   |normal=>
    obtain⟨g',ρ',L',hI',hlt,ha',hs'⟩:=hq
    obtain⟨e₂,a₂,w₂,hq₂,harr₂⟩:=ih (μ g') (hn▸hlt) g' ρ' L' a₁ w₁ rfl hI' ha' hs' b k cs hro
    refine⟨e₂,a₂,w₂,hq₂,.of_steps (StepsIn.trans harr (.one ?_ stepR_inLoop)) harr₂⟩
    exact fenced_calm (fr:=b.atR a₁ (.inLoop c::k)) (F:=Fw X.r) (n:=0) trivial (Fw_room _ _) rfl
   |exit id=>exact⟨_,a₁,w₁,hq,.pass (x:=.inLoop c) rfl (fun _ _=>.inl (by simp)) harr⟩
   |goto l=>exact⟨_,a₁,w₁,hq,.pass (x:=.inLoop c) rfl (fun _ _=>.inl (by simp)) harr⟩
   |ret=>exact⟨_,a₁,w₁,hq,.pass (x:=.inLoop c) rfl (fun _ _=>.inl (by simp)) harr⟩
   |panic ch=>exact⟨_,a₁,w₁,hq,.pass (x:=.inLoop c) rfl (fun _ _=>.inl (by simp)) harr⟩
   |outgrown=>exact⟨_,a₁,w₁,hq,.pass (x:=.inLoop c) rfl (fun _ _=>.inl (by simp)) harr⟩
 intro b k cs hro hb hr
 obtain⟨e,a',w',hq,harr⟩:=key _ g0 ρ L a w rfl h0 ha hs b k cs hro
 refine⟨e,a',w',hq,.of_steps (.one ?_ stepR_loop) harr⟩
 exact fenced_calm (fr:=b.atR a (.code (.loop c)::k)) (F:=Fw X.r) (n:=0) trivial (Fw_room _ _) rfl
def Back(X:Cx){γ:Type}(I:γ→Regs→List HProp→Prop)(μ:γ→Nat)(g:γ)(ds:List Deferred)(Q:Exit→Act→World→Prop):Exit→Act→World→Prop:=
 Exit.then (fun a w=>∃ g' ρ' L',I g' ρ' L'∧μ g'<μ g∧Agr X.nt ρ' ds a∧Sats X.w0 w L') Q
theorem ok_loop'{c:Code}{γ:Type}(I:γ→Regs→List HProp→Prop)(μ:γ→Nat)(g0:γ)(h0:I g0 ρ L)
 (round:∀ g ρ L,I g ρ L→Ok X c ds ρ L (Back X I μ g ds Q)):Ok X (.loop c) ds ρ L Q:=ok_loop I μ g0 h0 round
section
variable{γ:Type}{I:γ→Regs→List HProp→Prop}{μ:γ→Nat}{g:γ}
theorem cont_back(g':γ)(hI:I g' ρ L)(hμ:μ g'<μ g):Cont X (Back X I μ g ds Q) .normal ds ρ L:=fun _ _ ha hs=>⟨g',ρ,L,hI,hμ,ha,hs⟩
theorem cont_back_ret(h:Cont X Q .ret ds ρ L):Cont X (Back X I μ g ds Q) .ret ds ρ L:=h
theorem cont_back_exit{id:Nat}(h:Cont X Q (.exit id) ds ρ L):Cont X (Back X I μ g ds Q) (.exit id) ds ρ L:=h
end
def qk(cv:List TypeId)(o:Oper):Nat:=
 match o.op with
 | .move _| .assign _| .pick .. | .build .. | .unOp .. | .fieldAddr .. | .field .. | .indexAddr .. | .index .. | .extract .. | .makeFunc .. | .makeInterface .. | .slice .. | .nilCheck .. =>0
 | .binOp op .. =>match op with| .eql| .neq=>1|_=>0
 | .load .. | .lookup .. | .entry .. =>1
 | .convert s d _=>if cv.contains s||cv.contains d then 2 else 0
 | .call {callee:=.builtin b,..}=>match b with| .len=>1| .min| .max=>0|_=>2
 |_=>2
def kdf(cv:List TypeId)(ops:Array Oper)(i:Nat):Nat:=match ops[i]? with|some o=>qk cv o|none=>0
structure NB where
 l:List Nat
 st:List Nat
 T:List HProp
def NB.contains(n:NB)(i:Nat):Bool:=n.l.contains i
class NoT(nb:NB):Prop where
 st:nb.st=[]
 T:nb.T=[]
instance{l:List Nat}:NoT ⟨l,[],[]⟩:=⟨rfl,rfl⟩
def kdS(st:List Nat)(f:Nat→Nat):Nat→Nat:=fun i=>bif st.contains i then 0 else f i
theorem kdS_nil(f:Nat→Nat):kdS [] f=f:=rfl
variable{ops:Array Oper}{nb:NB}{N:Act→World→Prop}{i:Nat}{os:List Oper}{Ls:List HProp}
def OpsL(X:Cx)(ops:Array Oper)(nb:NB)(N:Act→World→Prop)(i:Nat)(os:List Oper)(Ls:List HProp)(ds:List Deferred)(ρ:Regs)(L:List HProp):Prop:=
 ops.toList.drop i=os→∀ a w,Agr X.nt ρ ds a→Sats X.w0 w L→OkT X.P ops (kdS nb.st (kdf X.cv ops)) nb.l (fun w=>Sats X.w0 w nb.T) N (List.range' i os.length) (fun w=>Sats X.w0 w Ls) a w
theorem ok_region{id:Nat}(h:OpsL X ops ⟨[],[],[]⟩ (Q .normal) 0 ops.toList L ds ρ L):Ok X (.region id ops false) ds ρ L Q:=fun a w ha hs=>
 wpIn_region (OkT.wpOpsIn (kd:=kdS [] (kdf X.cv ops)) (nb:=[]) (Tm:=fun w=>Sats X.w0 w []) (fun _ _ h=>h) _ _ a w (fun _ (h:Sats _ _ _)=>Sats.map h fun _ _=>trivial) hs (by
  have:=h rfl a w ha hs
  rw[List.range_eq_range']
  simpa using this))
theorem ok_draw(nb:List Nat)(Ls:List HProp){id:Nat}{cv:List TypeId}(hm:X.P.follows .mixedOrders=true)(hcv:X.cv=cv)(hok:regionOk ops (kdf cv ops) nb=true)(hsub:∀ h,SatL L h→SatL Ls h)
  (h:OpsL X ops ⟨nb,[],[]⟩ (Q .normal) 0 ops.toList Ls ds ρ L):Ok X (.region id ops true) ds ρ L Q:=fun a w ha hs=>
 wpIn_region_any hm (OkT.wpAnyIn (Tm:=fun w=>Sats X.w0 w []) (fun _ _ h=>h) (hcv▸hok) (S:=fun w=>Sats X.w0 w Ls) (fun _ (h:Sats _ _ _)=>Sats.map h fun _ _=>trivial) (hs.drew.map hsub) (by
  have:=h rfl a _ ha hs.drew
  rw[List.range_eq_range']
  simpa [kdS_nil]using this))
theorem ok_drawS(nb st:List Nat)(T Ls:List HProp){id:Nat}{cv:List TypeId}(hm:X.P.follows .mixedOrders=true)(hcv:X.cv=cv)(hok:regionOk ops (kdS st (kdf cv ops)) nb=true)(hsub:∀ h,SatL L h→SatL Ls h)(hT:∀ h,SatL Ls h→SatL T h)
  (h:OpsL X ops ⟨nb,st,T⟩ (Q .normal) 0 ops.toList Ls ds ρ L):Ok X (.region id ops true) ds ρ L Q:=fun a w ha hs=>
 wpIn_region_any hm (OkT.wpAnyIn (Tm:=fun w=>Sats X.w0 w T) (fun _ _ h=>h) (hcv▸hok) (S:=fun w=>Sats X.w0 w Ls) (fun _ (h:Sats _ _ _)=>Sats.map h hT) (hs.drew.map hsub) (by
  have:=h rfl a _ ha hs.drew
  rw[List.range_eq_range']
  simpa using this))
theorem opsL_nil(h:Cont X Q .normal ds ρ L):OpsL X ops nb (Q .normal) i [] Ls ds ρ L:=fun _ a w ha hs=>h a w ha hs
theorem opsL_map{st:List Nat}{T L':List HProp}(k:∀ h,SatL L h→SatL L' h)(h:OpsL X ops ⟨[],st,T⟩ N i os L' ds ρ L'):OpsL X ops ⟨[],st,T⟩ N i os L ds ρ L:=fun hd a w ha hs=>
 OkT.weaken _ (fun _ hw=>hw.map k) (h hd a w ha (hs.map k))
def Op1(X:Cx)(ops:Array Oper)(nb:NB)(N:Act→World→Prop)(i:Nat)(d:Option Nat)(op:Op)(ty:TypeId)(os:List Oper)(Ls:List HProp)(ds:List Deferred)(ρ:Regs)(L:List HProp):Prop:=
 ∀ (pos:String) (after:Array Edge) (gd:Option (Nat×Bool)),ops[i]? =some ⟨d,op,ty,pos,after,gd⟩→ops.toList.drop (i+1)=os→∀ a w,Agr X.nt ρ ds a→Sats X.w0 w L→
  Region.wanted ⟨d,op,ty,pos,after,gd⟩ (yielded ops a.tmps)=true→OkT X.P ops (kdS nb.st (kdf X.cv ops)) nb.l (fun w=>Sats X.w0 w nb.T) N (i::List.range' (i+1) os.length) (fun w=>Sats X.w0 w Ls) a w
theorem drop_cons{o:Oper}(h:ops.toList.drop i=o::os):ops[i]? =some o∧ops.toList.drop (i+1)=os:=by
 have h1:(ops.toList.drop i)[0]? =some o:=by rw[h];rfl
 rw[List.getElem?_drop]at h1
 refine⟨by simpa using h1,?_⟩
 have:ops.toList.drop (i+1)=(ops.toList.drop i).drop 1:=by rw[List.drop_drop]
 rw[this,h];rfl
theorem ops_run{d:Option Nat}{op:Op}{ty:TypeId}{pos:String}{after:Array Edge}(h:Op1 X ops nb N i d op ty os Ls ds ρ L):
  OpsL X ops nb N i (⟨d,op,ty,pos,after,none⟩::os) Ls ds ρ L:=fun hd a w ha hs=>by
 obtain⟨h1,h2⟩:=drop_cons hd
 have:=h pos after none h1 h2 a w ha hs rfl
 simpa [List.range'_succ]using this
theorem yielded_eq{nt:Nat}{a:Act}(ha:Agr nt ρ ds a){g:Nat}{t:Nat}{b:Bool}(hg:(ops.toList[g]?).bind (·.dst)=some t)(ht:t<nt)(hb:ρ t= .bool b):yielded ops a.tmps g=some b:=by
 have h1:(ops[g]?).bind (·.dst)=some t:=by simpa using hg
 have h2:a.tmps[t]? =some (.bool b):=by
  have:=ha.get t
  rw[hb,Array.getD_eq_getD_getElem?,Array.getElem?_eq_getElem (by rw[ha.size];exact ht),Option.getD_some]at this
  rw[Array.getElem?_eq_getElem (by rw[ha.size];exact ht),this]
 simp[yielded,h1,h2]
theorem ops_guard_run{d:Option Nat}{op:Op}{ty:TypeId}{pos:String}{after:Array Edge}{g t:Nat}{b:Bool}(hg:(ops.toList[g]?).bind (·.dst)=some t)(ht:Nat.blt t X.nt=true)(hb:ρ t= .bool b)
  (h:Op1 X ops nb N i d op ty os Ls ds ρ L):OpsL X ops nb N i (⟨d,op,ty,pos,after,some (g,b)⟩::os) Ls ds ρ L:=fun hd a w ha hs=>by
 obtain⟨h1,h2⟩:=drop_cons hd
 have hy:=yielded_eq ha hg (by simpa using ht) hb
 have:=h pos after (some (g,b)) h1 h2 a w ha hs (by simp[Region.wanted,hy])
 simpa [List.range'_succ]using this
theorem ops_guard_split{d:Option Nat}{op:Op}{ty:TypeId}{pos:String}{after:Array Edge}{g t:Nat}{b b':Bool}(hg:(ops.toList[g]?).bind (·.dst)=some t)(ht:Nat.blt t X.nt=true)(hb:ρ t= .bool b')
  (hnd:∀ c,op≠.defer c)(hd:∀ x,d=some x→Nat.blt x X.nt=true)
  (h1:b'=b→Op1 X ops nb N i d op ty os Ls ds ρ L)(h2:b'=(!b)→OpsL X ops nb N (i+1) os Ls ds (updO ρ d undef) L):OpsL X ops nb N i (⟨d,op,ty,pos,after,some (g,b)⟩::os) Ls ds ρ L:=by
 by_cases hbb:b'=b
 ·exact ops_guard_run hg ht (hbb▸hb) (h1 hbb)
 ·have hn:(b'==b)=false:=by simpa using hbb
  intro hdr a w ha hs
  obtain⟨h1',h2'⟩:=drop_cons hdr
  have hy:=yielded_eq ha hg (by simpa using ht) hb
  have:=h2 (by cases b<;>cases b'<;>simp_all) h2' _ w (ha.putO (fun x hx=>by simpa using hd x hx) undef) hs
  simp only[List.length_cons,List.range'_succ]
  exact⟨_,h1',hnd,.inr ⟨undef,.inr ⟨by simp[Region.wanted,hy,hbb],rfl⟩,this⟩⟩
theorem ops_guard_skip{d:Option Nat}{op:Op}{ty:TypeId}{pos:String}{after:Array Edge}{g t:Nat}{b b':Bool}(hg:(ops.toList[g]?).bind (·.dst)=some t)(ht:Nat.blt t X.nt=true)(hb:ρ t= .bool b')
  (hne:(b'==b)=false)(hnd:∀ c,op≠.defer c)(hd:∀ x,d=some x→Nat.blt x X.nt=true)
  (h:OpsL X ops nb N (i+1) os Ls ds (updO ρ d undef) L):OpsL X ops nb N i (⟨d,op,ty,pos,after,some (g,b)⟩::os) Ls ds ρ L:=fun hdr a w ha hs=>by
 obtain⟨h1,h2⟩:=drop_cons hdr
 have hy:=yielded_eq ha hg (by simpa using ht) hb
 have:=h h2 _ w (ha.putO (fun x hx=>by simpa using hd x hx) undef) hs
 simp only[List.length_cons,List.range'_succ]
 refine⟨_,h1,hnd,.inr ⟨undef,.inr ⟨?_,rfl⟩,this⟩⟩
 have:b'≠b:=by simpa using hne
 simp[Region.wanted,hy,this]
theorem ops_guard_undef{d:Option Nat}{op:Op}{ty:TypeId}{pos:String}{after:Array Edge}{g t:Nat}{b:Bool}(hg:(ops.toList[g]?).bind (·.dst)=some t)(ht:Nat.blt t X.nt=true)(hb:ρ t=undef)
  (hnd:∀ c,op≠.defer c)(hd:∀ x,d=some x→Nat.blt x X.nt=true)
  (h:OpsL X ops nb N (i+1) os Ls ds (updO ρ d undef) L):OpsL X ops nb N i (⟨d,op,ty,pos,after,some (g,b)⟩::os) Ls ds ρ L:=fun hdr a w ha hs=>by
 obtain⟨h1,h2⟩:=drop_cons hdr
 have hy:yielded ops a.tmps g=none:=by
  have h1:(ops[g]?).bind (·.dst)=some t:=by simpa using hg
  have h2:a.tmps[t]? =some undef:=by
   have ht':t<X.nt:=by simpa using ht
   have:=ha.get t
   rw[hb,Array.getD_eq_getD_getElem?,Array.getElem?_eq_getElem (by rw[ha.size];exact ht'),Option.getD_some]at this
   rw[Array.getElem?_eq_getElem (by rw[ha.size];exact ht'),this]
  simp[yielded,h1,h2,undef]
 have:=h h2 _ w (ha.putO (fun x hx=>by simpa using hd x hx) undef) hs
 simp only[List.length_cons,List.range'_succ]
 refine⟨_,h1,hnd,.inr ⟨undef,.inr ⟨?_,rfl⟩,this⟩⟩
 simp[Region.wanted,hy]
theorem op_quiet [NT:NoT nb]{d:Option Nat}{op:Op}{ty:TypeId}{v:Value}(hnd:∀ c,op≠.defer c)(hk:∀ pos after gd,qk X.cv ⟨d,op,ty,pos,after,gd⟩≤1)(hd:∀ x,d=some x→Nat.blt x X.nt=true)
  (hrun:∀ pos after gd w,(qk X.cv ⟨d,op,ty,pos,after,gd⟩=0∨Sats X.w0 w Ls)→(execOp (ev ρ) ⟨d,op,ty,pos,after,gd⟩).run X.P w= .ok (.value v) w)
  (h:OpsL X ops nb N (i+1) os Ls ds (updO ρ d v) L):Op1 X ops nb N i d op ty os Ls ds ρ L:=by
 intro pos after gd h1 h2 a w ha hs hw
 have hkd:kdS nb.st (kdf X.cv ops) i=qk X.cv ⟨d,op,ty,pos,after,gd⟩:=by rw[NT.st,kdS_nil];simp[kdf,h1]
 refine⟨_,h1,hnd,.inr ⟨v,.inl ⟨hw,fun w' hk'=>?_,by rw[hkd];exact hk _ _ _⟩,h h2 _ w (ha.putO (fun x hx=>by simpa using hd x hx) v) hs⟩⟩
 rw[ha.eval]
 refine hrun _ _ _ _ ?_
 rw[hkd]at hk'
 exact hk'.imp (·.1) (·.2)
theorem op_quietL{d:Option Nat}{op:Op}{ty:TypeId}{v:Value}(hst:nb.st.contains i=false)(hnd:∀ c,op≠.defer c)(hk:∀ pos after gd,qk X.cv ⟨d,op,ty,pos,after,gd⟩≤1)(hd:∀ x,d=some x→Nat.blt x X.nt=true)
  (hrun:∀ pos after gd w,(qk X.cv ⟨d,op,ty,pos,after,gd⟩=0∨Sats X.w0 w Ls)→(execOp (ev ρ) ⟨d,op,ty,pos,after,gd⟩).run X.P w= .ok (.value v) w)
  (h:OpsL X ops nb N (i+1) os Ls ds (updO ρ d v) L):Op1 X ops nb N i d op ty os Ls ds ρ L:=by
 intro pos after gd h1 h2 a w ha hs hw
 have hkd:kdS nb.st (kdf X.cv ops) i=qk X.cv ⟨d,op,ty,pos,after,gd⟩:=by simp only[kdS,hst,cond_false];simp[kdf,h1]
 refine⟨_,h1,hnd,.inr ⟨v,.inl ⟨hw,fun w' hk'=>?_,by rw[hkd];exact hk _ _ _⟩,h h2 _ w (ha.putO (fun x hx=>by simpa using hd x hx) v) hs⟩⟩
 rw[ha.eval]
 refine hrun _ _ _ _ ?_
 rw[hkd]at hk'
 exact hk'.imp (·.1) (·.2)
theorem op_quietT{d:Option Nat}{op:Op}{ty:TypeId}{v:Value}(hst:nb.st.contains i=true)(hnd:∀ c,op≠.defer c)(hd:∀ x,d=some x→Nat.blt x X.nt=true)
  (hrun:∀ pos after gd w,Sats X.w0 w nb.T→(execOp (ev ρ) ⟨d,op,ty,pos,after,gd⟩).run X.P w= .ok (.value v) w)
  (h:OpsL X ops nb N (i+1) os Ls ds (updO ρ d v) L):Op1 X ops nb N i d op ty os Ls ds ρ L:=by
 intro pos after gd h1 h2 a w ha hs hw
 have hkd:kdS nb.st (kdf X.cv ops) i=0:=by simp only[kdS,hst,cond_true]
 refine⟨_,h1,hnd,.inr ⟨v,.inl ⟨hw,fun w' hk'=>?_,by rw[hkd];omega⟩,h h2 _ w (ha.putO (fun x hx=>by simpa using hd x hx) v) hs⟩⟩
 rw[ha.eval]
 refine hrun _ _ _ _ ?_
 rw[hkd]at hk'
 rcases hk' with hk'|hk'
 ·exact hk'.2
 ·exact absurd hk'.1 (by decide)
theorem op_pure{d:Option Nat}{op:Op}{ty:TypeId}{v:Value}(hnd:∀ c,op≠.defer c)(hk:∀ pos after gd,qk X.cv ⟨d,op,ty,pos,after,gd⟩≤1)(hd:∀ x,d=some x→Nat.blt x X.nt=true)
  (hrun:∀ pos after gd w,(execOp (ev ρ) ⟨d,op,ty,pos,after,gd⟩).run X.P w= .ok (.value v) w)
  (h:OpsL X ops nb N (i+1) os Ls ds (updO ρ d v) L):Op1 X ops nb N i d op ty os Ls ds ρ L:=by
 cases hst:nb.st.contains i with
 |false=>exact op_quietL hst hnd hk hd (fun pos after gd w _=>hrun pos after gd w) h
 |true=>exact op_quietT hst hnd hd (fun pos after gd w _=>hrun pos after gd w) h
def Eff(X:Cx)(d:Option Nat)(op:Op)(ty:TypeId)(ρ:Regs)(L:List HProp)(Y:Type)(φ:Y→Prop)(v:Y→Value)(L':Y→List HProp):Prop:=
 (∀ c,op≠.defer c)∧∀ pos after gd,qk X.cv ⟨d,op,ty,pos,after,gd⟩=2∧∀ w,Sats X.w0 w L→
  OpVal X.P ⟨d,op,ty,pos,after,gd⟩ (ev ρ) w fun u w'=>∃ y,φ y∧u=v y∧Sats X.w0 w' (L' y)
section
variable{d:Option Nat}{op:Op}{ty:TypeId}{Y:Type}{φ:Y→Prop}{v:Y→Value}{L':Y→List HProp}
theorem kd_eff{st:List Nat}{pos:String}{after:Array Edge}{gd:Option (Nat×Bool)}(hst:st.contains i=false)(h1:ops[i]? =some ⟨d,op,ty,pos,after,gd⟩)(hq:qk X.cv ⟨d,op,ty,pos,after,gd⟩=2):kdS st (kdf X.cv ops) i=2:=by
 simp only[kdS,hst,cond_false];simp[kdf,h1,hq]
theorem op_effT(he:Eff X d op ty ρ L Y φ v L')(hst:nb.st.contains i=false)(hT:∀ y,φ y→∀ h,SatL (L' y) h→SatL nb.T h)(hd:∀ x,d=some x→Nat.blt x X.nt=true)(hb:nb.contains i=false)
  (h:∀ y,φ y→OpsL X ops nb N (i+1) os (L' y) ds (updO ρ d (v y)) (L' y)):Op1 X ops nb N i d op ty os Ls ds ρ L:=by
 intro pos after gd h1 h2 a w ha hs hw
 refine⟨_,h1,he.1,.inl ⟨kd_eff hst h1 (he.2 pos after gd).1,hw,?_⟩⟩
 rw[ha.eval]
 refine((he.2 pos after gd).2 w hs).mono fun u w' ⟨y,hy,hu,hs'⟩=>?_
 subst hu
 exact⟨_,.inl hb,hs',fun _ (h:Sats _ _ _)=>Sats.map h (hT y hy),h y hy h2 _ w' (ha.putO (fun x hx=>by simpa using hd x hx) _) hs'⟩
theorem op_eff [NT:NoT nb](he:Eff X d op ty ρ L Y φ v L')(hd:∀ x,d=some x→Nat.blt x X.nt=true)(hb:nb.contains i=false)
  (h:∀ y,φ y→OpsL X ops nb N (i+1) os (L' y) ds (updO ρ d (v y)) (L' y)):Op1 X ops nb N i d op ty os Ls ds ρ L:=
 op_effT he (by rw[NT.st];rfl) (fun _ _ _ _=>by rw[NT.T];trivial) hd hb h
theorem op_effT_nb(he:Eff X d op ty ρ L Y φ v L')(hst:nb.st.contains i=false)(hT:∀ h,SatL Ls h→SatL nb.T h)(hd:∀ x,d=some x→Nat.blt x X.nt=true)(hk:∀ y,φ y→∀ h,SatL (L' y) h→SatL Ls h)
  (h:∀ y,φ y→OpsL X ops nb N (i+1) os Ls ds (updO ρ d (v y)) (L' y)):Op1 X ops nb N i d op ty os Ls ds ρ L:=by
 intro pos after gd h1 h2 a w ha hs hw
 refine⟨_,h1,he.1,.inl ⟨kd_eff hst h1 (he.2 pos after gd).1,hw,?_⟩⟩
 rw[ha.eval]
 refine((he.2 pos after gd).2 w hs).mono fun u w' ⟨y,hy,hu,hs'⟩=>?_
 subst hu
 exact⟨_,.inr rfl,hs'.map (hk y hy),fun _ (h:Sats _ _ _)=>Sats.map h hT,h y hy h2 _ w' (ha.putO (fun x hx=>by simpa using hd x hx) _) hs'⟩
theorem op_eff_nb [NT:NoT nb](he:Eff X d op ty ρ L Y φ v L')(hd:∀ x,d=some x→Nat.blt x X.nt=true)(hk:∀ y,φ y→∀ h,SatL (L' y) h→SatL Ls h)
  (h:∀ y,φ y→OpsL X ops nb N (i+1) os Ls ds (updO ρ d (v y)) (L' y)):Op1 X ops nb N i d op ty os Ls ds ρ L:=
 op_effT_nb he (by rw[NT.st];rfl) (fun _ _=>by rw[NT.T];trivial) hd hk h
end
def FSpecM(m:Bool)(P:Program)(f:FuncId)(args:List Value)(pre:List HProp)(Y:Type)(φ:Y→Prop)(ret:Y→Value)(post:Y→List HProp):Prop:=
 ∀ (w0 w:World) (R:List HProp),Sats ⟨w0,m⟩ w (pre++R)→Calls P f args.toArray w fun e w'=>∃ y,φ y∧e= .returned (ret y)∧Sats ⟨w0,m⟩ w' (post y++R)
abbrev FSpec(P:Program)(f:FuncId)(args:List Value)(pre:List HProp)(Y:Type)(φ:Y→Prop)(ret:Y→Value)(post:Y→List HProp):Prop:=FSpecM false P f args pre Y φ ret post
theorem FSpecM.of{m:Bool}(h:m=false){P:Program}{f:FuncId}{args:List Value}{pre:List HProp}{Y:Type}{φ:Y→Prop}{ret:Y→Value}{post:Y→List HProp}(s:FSpec P f args pre Y φ ret post):FSpecM m P f args pre Y φ ret post:=by subst h;exact s
def Fin(X:Cx)(fn:Func)(Y:Type)(φ:Y→Prop)(ret:Y→Value)(post:Y→List HProp)(R:List HProp):Exit→Act→World→Prop:=
 bodyPostM (Fw none) 0 X.P fn fun e w'=>∃ y,φ y∧e= .returned (ret y)∧Sats X.w0 w' (post y++R)
theorem spec_intro{m:Bool}{P:Program}{f:FuncId}{fn:Func}{c:Code}{args:List Value}{pre:List HProp}{Y:Type}{φ:Y→Prop}{ret:Y→Value}{post:Y→List HProp}(cv:List TypeId)(nt:Nat)
  (hf:P.funcs[f]? =some fn)(hb:fn.body=some c)(hn:fn.ntmps=nt)(hl:Nat.ble args.length nt=true)
  (h:∀ w0 R,Ok ⟨P,none,nt,⟨w0,m⟩,cv⟩ c [] (regsOf args) (pre++R) (Fin ⟨P,none,nt,⟨w0,m⟩,cv⟩ fn Y φ ret post R)):FSpecM m P f args pre Y φ ret post:=by
 intro w0 w R hs
 subst hn
 refine(callsIn_Fw (r:=none) (n:=0)).1 (callsIn_of_wp_marks hf hb trivial ?_)
 exact h w0 R _ w (Agr.start (by simpa using hl)) hs
def Res(P:Program)(w0:W0)(ρ:Regs)(L:List HProp):List ResultVar→List Value→Prop
 | [],vs=>vs=[]
 |x::xs,vs=>∃ v vs',vs=v::vs'∧Res P w0 ρ L xs vs'∧
  match x with
  | .tmp t=>ρ t=v
  | .cell a t=>∃ p,ρ a= .pointer (some p)∧∀ w,Sats w0 w L→(loadVar t p).run P w= .ok v w
def retOf(vs:List Value):Value:=match vs with| [v]=>v|vs=>.tuple vs.toArray
def resStep(tmps:Array Value):ResultVar→Sem Value
 | .tmp t=>pure (tmps.getD t undef)
 | .cell a t=>do loadVar t (← asAddr (tmps.getD a undef))
theorem results_eq(fn:Func)(tmps:Array Value):results fn tmps=(fn.results.mapM (resStep tmps)) >>= fun vs=>pure (if h:vs.size=1 then vs[0]else .tuple vs):=rfl
theorem results_run{P:Program}{w0:W0}{w:World}{nt:Nat}{a:Act}(ha:Agr nt ρ ds a)(hs:Sats w0 w L){fn:Func}{vs:List Value}(h:Res P w0 ρ L fn.results.toList vs):
  (results fn a.tmps).run P w= .ok (retOf vs) w:=by
 have key:∀ (xs:List ResultVar) (vs:List Value),Res P w0 ρ L xs vs→(xs.mapM (resStep a.tmps)).run P w= .ok vs w:=by
  intro xs
  induction xs with
  |nil=>intro vs h;cases h;rfl
  |cons x xs ih=>
   intro vs h
   obtain⟨v,vs',rfl,hr,hx⟩:=h
   have hi:=ih vs' hr
   have h1:(resStep a.tmps x).run P w= .ok v w:=by
    cases x with
    |tmp t=>
     have hv:a.tmps.getD t undef=v:=(ha.get t).trans hx
     simp only[resStep,Sem.run_pure,hv]
    |cell a' t=>
     obtain⟨p,hp,hl⟩:=hx
     have hv:a.tmps.getD a' undef= .pointer (some p):=(ha.get a').trans hp
     have hA:(asAddr (a.tmps.getD a' undef)).run P w= .ok p w:=by rw[hv];rfl
     simp only[resStep,Sem.run_bind,hA,Result.andThen_ok,hl w hs]
   rw[List.mapM_cons]
   simp only[Sem.run_bind,Sem.run_pure,h1,hi,Result.andThen_ok]
 have hk:=key _ _ h
 rw[results_eq,Array.mapM_eq_mapM_toList]
 simp only[Sem.run_bind,Sem.run_map,Sem.run_pure,hk,Result.andThen_ok]
 cases vs with
 |nil=>simp[retOf]
 |cons v vs=>
  cases vs with
  |nil=>simp[retOf]
  |cons u vs=>simp[retOf]
theorem cont_fin{w0:W0}{P:Program}{nt:Nat}{cv:List TypeId}{r:Option Nat}{fn:Func}{Y:Type}{φ:Y→Prop}{ret:Y→Value}{post:Y→List HProp}{R:List HProp}{e:Exit}(he:e= .normal∨e= .ret)
  (vs:List Value)(hr:Res P w0 ρ L fn.results.toList vs)(y:Y)(hφ:φ y)(hv:retOf vs=ret y)(hp:∀ h,SatL L h→SatL (post y++R) h):
  Cont ⟨P,r,nt,w0,cv⟩ (Fin ⟨P,r,nt,w0,cv⟩ fn Y φ ret post R) e [] ρ L:=by
 intro a w ha hs
 have h1:=results_run (P:=P) ha hs hr
 have h2:LeavesInM (Fw none) 0 P fn a.tmps (fun e w'=>∃ y,φ y∧e= .returned (ret y)∧Sats w0 w' (post y++R)) a.defers .returning w:=by
  rw[ha.defers]
  exact⟨_,h1,y,hφ,by rw[hv],hs.map hp⟩
 rcases he with rfl|rfl<;>exact h2
def mark(r:Nat):Deferred:={target:=.collected r,args:= #[]}
def marked(dk:Nat):HProp:=pts dk (.deferred (some []))
theorem leaves_marks{P:Program}{F:Fence}{n:Nat}{w0:W0}{fn:Func}{tmps:Array Value}{R:Ending→World→Prop}(h:∀ w',Sats w0 w' L→∃ v,(results fn tmps).run P w'= .ok v w'∧R (.returned v) w'):
  ∀ (dks:List Nat) (w:World),Sats w0 w (dks.map marked++L)→LeavesInM F n P fn tmps R (dks.map mark) .returning w
 | [],w,hs=>h w hs
 |d::dks,w,hs=>by
  have hb:w.heap[d]? =some (.deferred (some [])):=(RdIn.here (Rd.pts _ _)).heap hs
  refine⟨by simp,.inl ⟨d,_,rfl,run_takeDeferred hb,?_⟩⟩
  refine leaves_marks h dks _ ?_
  have:=hs.setObj (.deferred none)
  exact this.map fun _ k=>k.tail
theorem cont_finM{w0:W0}{P:Program}{nt:Nat}{cv:List TypeId}{r:Option Nat}{fn:Func}{Y:Type}{φ:Y→Prop}{ret:Y→Value}{post:Y→List HProp}{R L':List HProp}{e:Exit}(he:e= .normal∨e= .ret)
  (dks:List Nat)(hd:ds=dks.map mark)(ht:∀ h,SatL L h→SatL (dks.map marked++L') h)(vs:List Value)(hr:Res P w0 ρ L' fn.results.toList vs)(y:Y)(hφ:φ y)(hv:retOf vs=ret y)(hp:∀ h,SatL L' h→SatL (post y++R) h):
  Cont ⟨P,r,nt,w0,cv⟩ (Fin ⟨P,r,nt,w0,cv⟩ fn Y φ ret post R) e ds ρ L:=by
 intro a w ha hs
 have h2:LeavesInM (Fw none) 0 P fn a.tmps (fun e w'=>∃ y,φ y∧e= .returned (ret y)∧Sats w0 w' (post y++R)) a.defers .returning w:=by
  rw[ha.defers,hd]
  refine leaves_marks (L:=L') (fun w' hs'=>?_) dks w (hs.map ht)
  exact⟨_,results_run (P:=P) ha hs' hr,y,hφ,by rw[hv],hs'.map hp⟩
 rcases he with rfl|rfl<;>exact h2
theorem unfoldOk{c:Code}(h:Ok X c ds ρ L Q):∀ a w,Agr X.nt ρ ds a→Sats X.w0 w L→c.wpIn (Fw X.r) 0 X.P Q a w:=h
theorem foldOk{c:Code}(h:∀ a w,Agr X.nt ρ ds a→Sats X.w0 w L→c.wpIn (Fw X.r) 0 X.P Q a w):Ok X c ds ρ L Q:=h
theorem unfoldCont{e:Exit}(h:Cont X Q e ds ρ L):∀ a w,Agr X.nt ρ ds a→Sats X.w0 w L→Q e a w:=h
theorem foldCont{e:Exit}(h:∀ a w,Agr X.nt ρ ds a→Sats X.w0 w L→Q e a w):Cont X Q e ds ρ L:=h
attribute [irreducible] Ok Cont OpsL Op1 Then Fin Back
end Go.Fx
namespace Go.Fx
open Go
def isAggD:TypeDesc→Bool
 | .struct _| .array _ _=>true
 |_=>false
class Ty(P:Program)(t:TypeId)(d:outParam TypeDesc):Prop where
 und:P.underlying t=some d
class TyA(P:Program)(t:TypeId):Prop where
 agg:(P.underlying t).map isAggD=some true
class Sz(P:Program)(t:TypeId)(n:outParam Nat):Prop where
 size:(P.info? t).map (fun i=>i.size)=some n
class Zr(P:Program)(t:TypeId)(z:outParam Value):Prop where
 zero:(P.info? t).map (fun i=>i.zero)=some (some z)
class By(P:Program)(t:TypeId)(b:outParam Nat):Prop where
 bytes:(P.info? t).map (fun i=>i.bytes)=some b
def fldInfo(P:Program)(s f:Nat):Option (Nat×Nat×Bool):=
 match P.underlying s with
 |some (.struct fs)=>match fs[f]? with
  |some x=>match P.info? x.type,P.underlying x.type with
   |some i,some d=>some (x.offset,i.size,isAggD d)
   |_,_=>none
  |none=>none
 |_=>none
class Fld(P:Program)(s f:Nat)(off sz:outParam Nat)(agg:outParam Bool):Prop where
 info:fldInfo P s f=some (off,sz,agg)
def bdInfo(P:Program)(t:TypeId):Option (List Value×List (Nat×Nat)):=
 match P.underlying t,(P.info? t).map (·.zero)with
 |some (.struct fs),some (some z)=>(fs.toList.mapM fun f=>(P.info? f.type).map fun i=>(f.offset,i.size)).map fun pl=>(z.cells.toList,pl)
 |_,_=>none
class Bd(P:Program)(t:TypeId)(zs:outParam (List Value))(pl:outParam (List (Nat×Nat))):Prop where
 info:bdInfo P t=some (zs,pl)
def slInfo(P:Program)(t:TypeId):Option (TypeId×Nat×Nat×List Value):=
 match P.underlying t with
 |some (.slice e)=>match P.info? e with
  |some i=>i.zero.map fun z=>(e,i.size,i.bytes,z.cells.toList)
  |none=>none
 |_=>none
class Sl(P:Program)(t:TypeId)(e n b:outParam Nat)(zs:outParam (List Value)):Prop where
 info:slInfo P t=some (e,n,b,zs)
class FnI(P:Program)(f:FuncId):Prop where
 call:∀ args w,(callFunc f args).run P w= .ok (.enter f args) w
class Mp(P:Program)(t:TypeId)(k e:outParam Nat):Prop where
 und:P.underlying t=some (.map k e)
section facts
variable{P:Program}{w:World}{t:TypeId}{d:TypeDesc}{n b:Nat}{z:Value}
theorem run_underlying_of(h:P.underlying t=some d):(underlying t).run P w= .ok d w:=by simp[underlying,h]
theorem Ty.run_underlying [I:Ty P t d]:(underlying t).run P w= .ok d w:=run_underlying_of I.und
theorem Sz.run_sizeOf [I:Sz P t n]:(sizeOf t).run P w= .ok n w:=by
 have h:=I.size
 cases hi:P.info? t with
 |none=>rw[hi]at h;cases h
 |some i=>rw[hi]at h;simp at h;simp[sizeOf,typeInfo,hi,h]
theorem Zr.run_zero [I:Zr P t z]:(zeroValue t).run P w= .ok z w:=by
 have h:=I.zero
 cases hi:P.info? t with
 |none=>rw[hi]at h;cases h
 |some i=>rw[hi]at h;simp at h;simp[zeroValue,typeInfo,hi,h]
theorem Ty.run_isAgg [I:Ty P t d](hd:isAggD d=false):(isAgg t).run P w= .ok false w:=by
 unfold isAgg
 rw[Sem.run_bind,I.run_underlying,Result.andThen_ok]
 cases d<;>first|rfl|cases hd
theorem TyA.run_isAgg [I:TyA P t]:(isAgg t).run P w= .ok true w:=by
 have h:=I.agg
 cases hu:P.underlying t with
 |none=>rw[hu]at h;cases h
 |some d=>
  rw[hu]at h
  simp only[Option.map_some,Option.some.injEq]at h
  unfold isAgg
  rw[Sem.run_bind,run_underlying_of hu,Result.andThen_ok]
  cases d<;>first|rfl|cases h
end facts
section
variable{X:Cx}{ops:Array Oper}{nb:NB}{N:Act→World→Prop}{i:Nat}{os:List Oper}{Ls:List HProp}{ds:List Deferred}{ρ:Regs}{L:List HProp}{ty:TypeId}{d:Nat}
inductive EvA(ρ:Regs):List Operand→List Value→Prop
 |nil:EvA ρ [] []
 |cons {x:Operand} {v:Value} {xs:List Operand} {vs:List Value} (h:ev ρ x=v) (t:EvA ρ xs vs):EvA ρ (x::xs) (v::vs)
theorem EvA.map{ρ:Regs}{xs:List Operand}{vs:List Value}(h:EvA ρ xs vs):xs.map (ev ρ)=vs:=by
 induction h with
 |nil=>rfl
 |cons h _ ih=>simp[h,ih]
inductive EvP(ρ:Regs):List (Nat×Operand)→List (Nat×Value)→Prop
 |nil:EvP ρ [] []
 |cons {k:Nat} {x:Operand} {v:Value} {xs:List (Nat×Operand)} {vs:List (Nat×Value)} (h:ev ρ x=v) (t:EvP ρ xs vs):EvP ρ ((k,x)::xs) ((k,v)::vs)
theorem EvP.map{ρ:Regs}{xs:List (Nat×Operand)}{vs:List (Nat×Value)}(h:EvP ρ xs vs):xs.map (fun x=>(x.1,ev ρ x.2))=vs:=by
 induction h with
 |nil=>rfl
 |cons h _ ih=>simp[h,ih]
theorem op_pure1{d:Nat}{op:Op}{ty:TypeId}{v:Value}(hnd:∀ c,op≠.defer c)(hk:∀ pos after gd,qk X.cv ⟨some d,op,ty,pos,after,gd⟩≤1)(hd:Nat.blt d X.nt=true)
  (hrun:∀ pos after gd w,(execOp (ev ρ) ⟨some d,op,ty,pos,after,gd⟩).run X.P w= .ok (.value v) w)
  (h:OpsL X ops nb N (i+1) os Ls ds (upd ρ d v) L):Op1 X ops nb N i (some d) op ty os Ls ds ρ L:=
 op_pure hnd hk (fun x hx=>by cases hx;exact hd) hrun h
theorem a_move{x:Operand}{v:Value}(hx:ev ρ x=v)(hd:Nat.blt d X.nt=true)(h:OpsL X ops nb N (i+1) os Ls ds (upd ρ d v) L):Op1 X ops nb N i (some d) (.move x) ty os Ls ds ρ L:=by
 (refine op_pure1 (fun _ e=>by cases e) (fun _ _ _=>by simp[qk]) hd ?_ h;intro pos after gd w);simp[execOp,hx]
theorem a_assign{x:Operand}{v:Value}(hx:ev ρ x=v)(hd:Nat.blt d X.nt=true)(h:OpsL X ops nb N (i+1) os Ls ds (upd ρ d v) L):Op1 X ops nb N i (some d) (.assign x) ty os Ls ds ρ L:=by
 (refine op_pure1 (fun _ e=>by cases e) (fun _ _ _=>by simp[qk]) hd ?_ h;intro pos after gd w);simp[execOp,hx]
theorem a_pick_true{c x y:Operand}{v:Value}(hc:ev ρ c= .bool true)(hv:ev ρ x=v)(hd:Nat.blt d X.nt=true)(h:OpsL X ops nb N (i+1) os Ls ds (upd ρ d v) L):
  Op1 X ops nb N i (some d) (.pick c x y) ty os Ls ds ρ L:=by
 (refine op_pure1 (fun _ e=>by cases e) (fun _ _ _=>by simp[qk]) hd ?_ h;intro pos after gd w);simp[execOp,asBool,hc,hv]
theorem a_pick_false{c x y:Operand}{v:Value}(hc:ev ρ c= .bool false)(hv:ev ρ y=v)(hd:Nat.blt d X.nt=true)(h:OpsL X ops nb N (i+1) os Ls ds (upd ρ d v) L):
  Op1 X ops nb N i (some d) (.pick c x y) ty os Ls ds ρ L:=by
 (refine op_pure1 (fun _ e=>by cases e) (fun _ _ _=>by simp[qk]) hd ?_ h;intro pos after gd w);simp[execOp,asBool,hc,hv]
theorem a_nilCheck{x:Operand}{p:Addr}(hx:ev ρ x= .pointer (some p))(hd:Nat.blt d X.nt=true)(h:OpsL X ops nb N (i+1) os Ls ds (upd ρ d (.pointer (some p))) L):
  Op1 X ops nb N i (some d) (.nilCheck x) ty os Ls ds ρ L:=by
 (refine op_pure1 (fun _ e=>by cases e) (fun _ _ _=>by simp[qk]) hd ?_ h;intro pos after gd w);simp[execOp,hx]
def arith:BinOp→Int→Int→Int
 | .add,a,b=>a+b
 | .sub,a,b=>a-b
 | .mul,a,b=>a*b
 |_,_,_=>0
def isArith:BinOp→Bool| .add| .sub| .mul=>true|_=>false
theorem a_arith{op:BinOp}{xt yt:TypeId}{x y:Operand}{k:IntKind}{a b:Int}(hx:ev ρ x= .int k a)(hy:ev ρ y= .int k b)(ho:isArith op=true)(hd:Nat.blt d X.nt=true)
  (h:OpsL X ops nb N (i+1) os Ls ds (upd ρ d (.int k (k.wrap (arith op a b)))) L):Op1 X ops nb N i (some d) (.binOp op xt x y yt) ty os Ls ds ρ L:=by
 cases op<;>first|(simp[isArith]at ho;done)|((refine op_pure1 (fun _ e=>by cases e) (fun _ _ _=>by simp[qk]) hd ?_ h;intro pos after gd w);simp[execOp,hx,hy,eqGuard,binOp,Op.intArith,arith])
theorem wrap_i64{n:Int}(h1: -9223372036854775808≤n)(h2:n≤9223372036854775807):IntKind.i64.wrap n=n:=by
 have e:(2:Int) ^ IntKind.i64.bits=18446744073709551616:=rfl
 have e':(2:Int) ^ (IntKind.i64.bits-1)=9223372036854775808:=rfl
 unfold IntKind.wrap
 simp only[e,e']
 split
 ·rename_i h;simp only[IntKind.signed,Bool.true_and,decide_eq_true_eq]at h;omega
 ·rename_i h;simp only[IntKind.signed,Bool.true_and,decide_eq_true_eq]at h;omega
theorem a_arith64{op:BinOp}{xt yt:TypeId}{x y:Operand}{a b c:Int}(hx:ev ρ x= .int .i64 a)(hy:ev ρ y= .int .i64 b)(ho:isArith op=true)(hc:arith op a b=c)(hr: -9223372036854775808≤c∧c≤9223372036854775807)(hd:Nat.blt d X.nt=true)
  (h:OpsL X ops nb N (i+1) os Ls ds (upd ρ d (.int .i64 c)) L):Op1 X ops nb N i (some d) (.binOp op xt x y yt) ty os Ls ds ρ L:=by
 refine a_arith hx hy ho hd ?_
 rw[hc,wrap_i64 hr.1 hr.2];exact h
def cmpB:BinOp→Int→Int→Bool
 | .eql,a,b=>decide (a=b)
 | .neq,a,b=> !decide (a=b)
 | .lss,a,b=>decide (a<b)
 | .leq,a,b=>decide (a≤b)
 | .gtr,a,b=>decide (b<a)
 | .geq,a,b=>decide (b≤a)
 |_,_,_=>false
def isCmp:BinOp→Bool| .eql| .neq| .lss| .leq| .gtr| .geq=>true|_=>false
theorem a_cmp{op:BinOp}{xt yt:TypeId}{x y:Operand}{k:IntKind}{a b:Int}{v:Bool}(hx:ev ρ x= .int k a)(hy:ev ρ y= .int k b)(ho:isCmp op=true)(hv:cmpB op a b=v)(hd:Nat.blt d X.nt=true)
  (h:OpsL X ops nb N (i+1) os Ls ds (upd ρ d (.bool v)) L):Op1 X ops nb N i (some d) (.binOp op xt x y yt) ty os Ls ds ρ L:=by
 subst hv
 cases op<;>first|(simp[isCmp]at ho;done)|((refine op_pure1 (fun _ e=>by cases e) (fun _ _ _=>by simp[qk]) hd ?_ h;intro pos after gd w);simp[execOp,hx,hy,eqGuard,binOp,Op.intCmp,cmpB,bne,BEq.beq])
def isBits:BinOp→Bool| .and| .or| .xor| .andNot=>true|_=>false
def bitsOf(op:BinOp)(k:IntKind)(a b:Int):Int:=
 let x:=BitVec.ofInt k.bits a
 let y:=BitVec.ofInt k.bits b
 k.wrap (match op with| .and=>x&&& y| .or=>x|||y| .xor=>x ^^^ y|_=>x&&& ~~~y).toNat
theorem a_bits{op:BinOp}{xt yt:TypeId}{x y:Operand}{k:IntKind}{a b:Int}(hx:ev ρ x= .int k a)(hy:ev ρ y= .int k b)(ho:isBits op=true)(hd:Nat.blt d X.nt=true)
  (h:OpsL X ops nb N (i+1) os Ls ds (upd ρ d (.int k (bitsOf op k a b))) L):Op1 X ops nb N i (some d) (.binOp op xt x y yt) ty os Ls ds ρ L:=by
 cases op<;>first|(simp[isBits]at ho;done)|((refine op_pure1 (fun _ e=>by cases e) (fun _ _ _=>by simp[qk]) hd ?_ h;intro pos after gd w);simp[execOp,hx,hy,eqGuard,binOp,Op.intBits,bitsOf])
def shiftOf(op:BinOp)(k:IntKind)(a b:Int):Int:=match op with| .shl=>k.wrap (a*2 ^ (min b.toNat k.bits))|_=>a.fdiv (2 ^ (min b.toNat k.bits))
def isShift:BinOp→Bool| .shl| .shr=>true|_=>false
theorem a_shift{op:BinOp}{xt yt:TypeId}{x y:Operand}{k k':IntKind}{a b:Int}(hx:ev ρ x= .int k a)(hy:ev ρ y= .int k' b)(hb:0≤b)(ho:isShift op=true)(hd:Nat.blt d X.nt=true)
  (h:OpsL X ops nb N (i+1) os Ls ds (upd ρ d (.int k (shiftOf op k a b))) L):Op1 X ops nb N i (some d) (.binOp op xt x y yt) ty os Ls ds ρ L:=by
 have hn:¬ b<0:=by omega
 cases op<;>first|(simp[isShift]at ho;done)|((refine op_pure1 (fun _ e=>by cases e) (fun _ _ _=>by simp[qk]) hd ?_ h;intro pos after gd w);simp[execOp,hx,hy,eqGuard,binOp,Op.shift,shiftOf,hn])
theorem a_not{xt:TypeId}{x:Operand}{t v:Bool}(hx:ev ρ x= .bool t)(hv:(!t)=v)(hd:Nat.blt d X.nt=true)(h:OpsL X ops nb N (i+1) os Ls ds (upd ρ d (.bool v)) L):
  Op1 X ops nb N i (some d) (.unOp .not xt x) ty os Ls ds ρ L:=by
 subst hv;(refine op_pure1 (fun _ e=>by cases e) (fun _ _ _=>by simp[qk]) hd ?_ h;intro pos after gd w);simp[execOp,hx,Op.unary]
theorem a_neg{xt:TypeId}{x:Operand}{k:IntKind}{a:Int}(hx:ev ρ x= .int k a)(hd:Nat.blt d X.nt=true)(h:OpsL X ops nb N (i+1) os Ls ds (upd ρ d (.int k (k.wrap (0-a)))) L):
  Op1 X ops nb N i (some d) (.unOp .neg xt x) ty os Ls ds ρ L:=by
 (refine op_pure1 (fun _ e=>by cases e) (fun _ _ _=>by simp[qk]) hd ?_ h;intro pos after gd w);simp[execOp,hx,Op.unary,Op.intArith]
def strB:BinOp→ByteArray→ByteArray→Bool
 | .eql,a,b=>a.toList==b.toList
 | .neq,a,b=> !(a.toList==b.toList)
 | .lss,a,b=>Op.bytesLess a.toList b.toList
 | .leq,a,b=>Op.bytesLess a.toList b.toList||a.toList==b.toList
 | .gtr,a,b=> !(Op.bytesLess a.toList b.toList||a.toList==b.toList)
 | .geq,a,b=> !(Op.bytesLess a.toList b.toList)
 |_,_,_=>false
theorem a_strcmp{op:BinOp}{xt yt:TypeId}{x y:Operand}{a b:ByteArray}{v:Bool}(hx:ev ρ x= .string a)(hy:ev ρ y= .string b)(ho:isCmp op=true)(hv:strB op a b=v)(hd:Nat.blt d X.nt=true)
  (h:OpsL X ops nb N (i+1) os Ls ds (upd ρ d (.bool v)) L):Op1 X ops nb N i (some d) (.binOp op xt x y yt) ty os Ls ds ρ L:=by
 subst hv
 cases op<;>first|(simp[isCmp]at ho;done)|((refine op_pure1 (fun _ e=>by cases e) (fun _ _ _=>by simp[qk]) hd ?_ h;intro pos after gd w);simp[execOp,hx,hy,eqGuard,binOp,Op.stringOp,strB])
theorem a_concat{xt yt:TypeId}{x y:Operand}{a b:ByteArray}(hx:ev ρ x= .string a)(hy:ev ρ y= .string b)(hr:a.size+b.size≤9223372036854775807)(hd:Nat.blt d X.nt=true)
  (h:OpsL X ops nb N (i+1) os Ls ds (upd ρ d (.string (a++b))) L):Op1 X ops nb N i (some d) (.binOp .add xt x y yt) ty os Ls ds ρ L:=by
 have e:IntKind.i64.max=9223372036854775807:=rfl
 have hn:¬ ((a.size+b.size:Nat):Int)>IntKind.i64.max:=by rw[e];omega
 (refine op_pure1 (fun _ e=>by cases e) (fun _ _ _=>by simp[qk]) hd ?_ h;intro pos after gd w)
 simp only[execOp,hx,hy,eqGuard,binOp,Op.stringOp]
 rw[if_neg hn];simp
def isEq:BinOp→Bool| .eql| .neq=>true|_=>false
def nilB:BinOp→Bool→Bool| .eql,t=>t|_,t=> !t
theorem equal_unfold(t:TypeId)(x y:Value):Op.equal t x y=Op.equalIn (9999+1) t x y:=rfl
theorem a_eq{op:BinOp}{xt yt:TypeId}{x y:Operand}{a b:Value}{t v:Bool}(hx:ev ρ x=a)(hy:ev ρ y=b)(ho:isEq op=true)
  (hg:∀ op' w,(eqGuard op' xt x y a b).run X.P w= .ok () w)(hb1:binOp .eql xt a b=(do pure (.bool (← Op.equal xt a b))))(hb2:binOp .neq xt a b=(do pure (.bool (!(← Op.equal xt a b)))))(hq:∀ w,(w.heap=w.heap)→(Op.equal xt a b).run X.P w= .ok t w)
  (hv:nilB op t=v)(hd:Nat.blt d X.nt=true)
  (h:OpsL X ops nb N (i+1) os Ls ds (upd ρ d (.bool v)) L):Op1 X ops nb N i (some d) (.binOp op xt x y yt) ty os Ls ds ρ L:=by
 subst hv
 cases op<;>first|(simp[isEq]at ho;done)|skip
 ·(refine op_pure1 (fun _ e=>by cases e) (fun _ _ _=>by simp[qk]) hd ?_ h;intro pos after gd w)
  simp only[execOp,hx,hy,Sem.run_bind,hg,Result.andThen_ok,hb1,hq w rfl,Sem.run_pure,nilB]
 ·(refine op_pure1 (fun _ e=>by cases e) (fun _ _ _=>by simp[qk]) hd ?_ h;intro pos after gd w)
  simp only[execOp,hx,hy,Sem.run_bind,hg,Result.andThen_ok,hb2,hq w rfl,Sem.run_pure,nilB]
theorem a_booleq{op:BinOp}{xt yt:TypeId}[I:Ty X.P xt .bool]{x y:Operand}{s t v:Bool}(hx:ev ρ x= .bool s)(hy:ev ρ y= .bool t)(ho:isEq op=true)(hv:nilB op (s==t)=v)(hd:Nat.blt d X.nt=true)
  (h:OpsL X ops nb N (i+1) os Ls ds (upd ρ d (.bool v)) L):Op1 X ops nb N i (some d) (.binOp op xt x y yt) ty os Ls ds ρ L:=by
 refine a_eq hx hy ho (fun op' w=>by cases op'<;>rfl) rfl rfl (t:=s==t) (fun w _=>?_) hv hd h
 rw[equal_unfold,Op.equalIn]
 simp only[Sem.run_bind,I.run_underlying,Result.andThen_ok]
 rfl
theorem a_ptr_nil{op:BinOp}{xt yt e:Nat}[I:Ty X.P xt (.pointer e)]{x y:Operand}{p:Option Addr}{v:Bool}(hx:ev ρ x= .pointer p)(hy:ev ρ y= .pointer none)(ho:isEq op=true)(hv:nilB op p.isNone=v)(hd:Nat.blt d X.nt=true)
  (h:OpsL X ops nb N (i+1) os Ls ds (upd ρ d (.bool v)) L):Op1 X ops nb N i (some d) (.binOp op xt x y yt) ty os Ls ds ρ L:=by
 refine a_eq hx hy ho (fun op' w=>by cases op'<;>cases p<;>rfl) (by cases p<;>rfl) (by cases p<;>rfl) (t:=p.isNone) (fun w _=>?_) hv hd h
 rw[equal_unfold,Op.equalIn]
 simp only[Sem.run_bind,I.run_underlying,Result.andThen_ok]
 cases p<;>rfl
theorem fld_run{P:Program}{w:World}{s f off sz:Nat}{agg:Bool}[I:Fld P s f off sz agg]:∃ fs x,(underlying s).run P w= .ok (.struct fs) w∧fs[f]? =some x∧x.offset=off∧(sizeOf x.type).run P w= .ok sz w∧(isAgg x.type).run P w= .ok agg w:=by
 have h:=I.info
 unfold fldInfo at h
 cases hu:P.underlying s with
 |none=>rw[hu]at h;cases h
 |some dd=>
  rw[hu]at h
  cases dd<;>first|(cases h;done)|skip
  rename_i fs
  simp only at h
  cases hf:fs[f]? with
  |none=>rw[hf]at h;cases h
  |some x=>
   rw[hf]at h
   simp only at h
   cases hi:P.info? x.type with
   |none=>rw[hi]at h;cases h
   |some j=>
    cases hd:P.underlying x.type with
    |none=>rw[hi,hd]at h;cases h
    |some dx=>
     rw[hi,hd]at h
     simp only[Option.some.injEq,Prod.mk.injEq]at h
     obtain⟨h1,h2,h3⟩:=h
     refine⟨fs,x,run_underlying_of hu,hf,h1,by simp[sizeOf,typeInfo,hi,h2],?_⟩
     unfold isAgg
     rw[Sem.run_bind,run_underlying_of hd,Result.andThen_ok,← h3]
     cases dx<;>rfl
def addOff(p:Addr)(n:Nat):Addr:=⟨p.block,p.off+n,none⟩
theorem add_plain{b o n:Nat}:(⟨b,o,none⟩:Addr).add n=⟨b,o+n,none⟩:=by
 unfold Addr.add;split
 ·rename_i h;subst h;rfl
 ·rfl
theorem a_fieldAddr{s f off sz b o:Nat}{agg:Bool}[I:Fld X.P s f off sz agg]{x:Operand}(hx:ev ρ x= .pointer (some ⟨b,o,none⟩))(hz:Nat.beq sz 0=false){o':Nat}(ho:o+off=o')(hd:Nat.blt d X.nt=true)
  (h:OpsL X ops nb N (i+1) os Ls ds (upd ρ d (.pointer (some ⟨b,o',none⟩))) L):Op1 X ops nb N i (some d) (.fieldAddr s x f) ty os Ls ds ρ L:=by
 subst ho
 have hz':sz≠0:=fun e=>by subst e;simp at hz
 (refine op_pure1 (fun _ e=>by cases e) (fun _ _ _=>by simp[qk]) hd ?_ h;intro pos after gd w)
 obtain⟨fs,fl,h1,h2,h3,h4,_⟩:=fld_run (I:=I) (w:=w)
 simp[execOp,hx,Instr.fieldAt,Instr.sureAddr,h1,h2,fieldPlace,h4,hz',h3,add_plain]
theorem a_field1{s f off sz:Nat}[I:Fld X.P s f off sz false]{x:Operand}{cs:List Value}{v:Value}(hx:ev ρ x= .agg cs.toArray)(hc:cs[off]? =some v)(hd:Nat.blt d X.nt=true)
  (h:OpsL X ops nb N (i+1) os Ls ds (upd ρ d v) L):Op1 X ops nb N i (some d) (.field s x f) ty os Ls ds ρ L:=by
 (refine op_pure1 (fun _ e=>by cases e) (fun _ _ _=>by simp[qk]) hd ?_ h;intro pos after gd w)
 obtain⟨fs,fl,h1,h2,h3,h4,h5⟩:=fld_run (I:=I) (w:=w)
 simp[execOp,hx,Instr.field,h1,h2,asAgg,part,h5,h3,hc]
theorem a_extract{x:Operand}{ix:Nat}{vs:List Value}{v:Value}(hx:ev ρ x= .tuple vs.toArray)(hv:vs[ix]? =some v)(hd:Nat.blt d X.nt=true)
  (h:OpsL X ops nb N (i+1) os Ls ds (upd ρ d v) L):Op1 X ops nb N i (some d) (.extract x ix) ty os Ls ds ρ L:=by
 (refine op_pure1 (fun _ e=>by cases e) (fun _ _ _=>by simp[qk]) hd ?_ h;intro pos after gd w);simp[execOp,hx,Instr.extract,hv]
theorem a_makeFunc{fn:Fn}{xs ys:Array Operand}{us vs:List Value}(hx':EvA ρ xs.toList us)(hy':EvA ρ ys.toList vs)(hd:Nat.blt d X.nt=true)
  (h:OpsL X ops nb N (i+1) os Ls ds (upd ρ d (.func fn us.toArray vs.toArray)) L):Op1 X ops nb N i (some d) (.makeFunc fn xs ys) ty os Ls ds ρ L:=by
 have hx:=hx'.map
 have hy:=hy'.map
 subst hx hy
 (refine op_pure1 (fun _ e=>by cases e) (fun _ _ _=>by simp[qk]) hd ?_ h;intro pos after gd w)
 simp[execOp,Instr.makeFunc]
 exact⟨by apply Array.ext';simp,by apply Array.ext';simp⟩
def fillL(pl:List (Nat×Nat)):List Value→List (Nat×Value)→Option (List Value)
 |cs,[]=>some cs
 |cs,(k,v)::rest=>match pl[k]? with
  |none=>none
  |some (off,size)=>if v.cells.toList.length=size∧off+size≤cs.length then fillL pl (cs.take off++v.cells.toList++cs.drop (off+size)) rest else none
theorem splice_fold(off:Nat):∀ (vs:List Value) (j:Nat) (cs:List Value),off+j+vs.length≤cs.length→
  (vs.zipIdx j).foldl (fun(cs:Array Value) (x:Value×Nat)=>cs.setIfInBounds (off+x.2) x.1) cs.toArray=(cs.take (off+j)++vs++cs.drop (off+j+vs.length)).toArray
 | [],j,cs,_=>by simp
 |v::vs,j,cs,h=>by
  simp only[List.length_cons]at h
  simp only[List.zipIdx_cons,List.foldl_cons,List.setIfInBounds_toArray]
  rw[splice_fold off vs (j+1) (cs.set (off+j) v) (by simp;omega)]
  congr 1
  rw[← Nat.add_assoc,List.take_add_one,List.take_set_of_le (Nat.le_refl _)]
  have hlt:off+j<cs.length:=by omega
  simp only[List.getElem?_set_self hlt,Option.toList_some,List.append_assoc,List.cons_append,List.nil_append,List.length_cons]
  rw[List.drop_set_of_lt (by omega)]
  simp only[Nat.add_assoc,Nat.add_comm 1]
theorem fill_eq(pl:List (Nat×Nat))(g:Nat→Option (Nat×Nat))(hg:∀ k,g k=pl[k]?):∀ (parts:List (Nat×Value)) (cs out:List Value),fillL pl cs parts=some out→Instr.fill g cs.toArray parts=some out.toArray
 | [],cs,out,h=>by simp only[fillL,Option.some.injEq]at h;subst h;rfl
 |(k,v)::rest,cs,out,h=>by
  unfold fillL at h
  unfold Instr.fill
  rw[hg]
  cases hk:pl[k]? with
  |none=>rw[hk]at h;cases h
  |some p=>
   obtain⟨off,size⟩:=p
   rw[hk]at h
   simp only at h ⊢
   split at h
   ·rename_i hc
    have hs:v.cells.size=size:=by simpa using hc.1
    have h2:¬ (v.cells.size≠size||decide (off+v.cells.size>cs.toArray.size))=true:=by
     simp[hs];omega
    rw[if_neg h2]
    have:=splice_fold off v.cells.toList 0 cs (by simp;omega)
    simp only[Nat.add_zero,Array.length_toList]at this
    have e:v.cells.zipIdx.foldl (fun cs (x:Value×Nat)=>cs.setIfInBounds (off+x.2) x.1) cs.toArray=(v.cells.toList.zipIdx 0).foldl (fun(cs:Array Value) (x:Value×Nat)=>cs.setIfInBounds (off+x.2) x.1) cs.toArray:=by
     rw[← Array.foldl_toList];simp
    have e':(Array.foldl (fun cs x=>match x with|(c,j)=>cs.setIfInBounds (off+j) c) cs.toArray v.cells.zipIdx)=(cs.take off++v.cells.toList++cs.drop (off+v.cells.size)).toArray:=by
     rw[← this,← e]
    rw[e',hs]
    exact fill_eq pl g hg rest _ out h
   ·cases h
theorem bd_run{P:Program}{w:World}{t:TypeId}{zs:List Value}{pl:List (Nat×Nat)}[I:Bd P t zs pl]{parts:Array (Nat×Value)}{out:List Value}(h:fillL pl zs parts.toList=some out):
  (Instr.build t parts).run P w= .ok (.agg out.toArray) w:=by
 have hb:=I.info
 unfold bdInfo at hb
 cases hu:P.underlying t with
 |none=>rw[hu]at hb;cases hb
 |some dd=>
  cases hz:(P.info? t).map (·.zero)with
  |none=>rw[hu,hz]at hb;cases dd<;>cases hb
  |some oz=>
   rw[hu,hz]at hb
   cases dd<;>cases oz<;>first|(cases hb;done)|skip
   rename_i fs z
   simp only at hb
   cases hp:fs.toList.mapM fun f=>(P.info? f.type).map fun i=>(f.offset,i.size)with
   |none=>rw[hp]at hb;cases hb
   |some pl'=>
    rw[hp]at hb
    simp only[Option.map_some,Option.some.injEq,Prod.mk.injEq]at hb
    obtain⟨hz1,rfl⟩:=hb
    have hzero:(zeroValue t).run P w= .ok z w:=by
     cases hi:P.info? t with
     |none=>rw[hi]at hz;cases hz
     |some j=>rw[hi]at hz;simp at hz;simp[zeroValue,typeInfo,hi,hz]
    have hm:(fs.mapM (m:=Sem) fun f=>do pure (f.offset,← sizeOf f.type)).run P w= .ok pl'.toArray w:=by
     have key:∀ (l:List Field) (pl':List (Nat×Nat)),(l.mapM fun f=>(P.info? f.type).map fun i=>(f.offset,i.size))=some pl'→(l.mapM (m:=Sem) fun f=>do pure (f.offset,← sizeOf f.type)).run P w= .ok pl' w:=by
      intro l
      induction l with
      |nil=>intro pl' h;simp at h;subst h;rfl
      |cons f l ih=>
       intro pl' h
       rw[List.mapM_cons]at h
       cases hi:P.info? f.type with
       |none=>rw[hi]at h;cases h
       |some j=>
        rw[hi]at h
        cases hl:l.mapM fun f=>(P.info? f.type).map fun i=>(f.offset,i.size)with
        |none=>rw[hl]at h;simp at h
        |some pl''=>
         rw[hl]at h
         simp at h
         subst h
         have hsz:(sizeOf f.type).run P w= .ok j.size w:=by simp[sizeOf,typeInfo,hi]
         rw[List.mapM_cons]
         simp only[Sem.run_bind,hsz,Result.andThen_ok,Sem.run_pure,ih _ hl]
     simp only[Array.mapM_eq_mapM_toList,Sem.run_map,key _ _ hp,Result.andThen_ok]
    unfold Instr.build
    simp only[Sem.run_bind,hzero,Result.andThen_ok,run_underlying_of hu,hm]
    have hz2:z.cells=zs.toArray:=by rw[← hz1]
    rw[hz2,fill_eq pl' _ (fun k=>by simp) _ _ _ h]
    rfl
theorem a_build{t:TypeId}{zs:List Value}{pl:List (Nat×Nat)}[I:Bd X.P t zs pl]{parts:Array (Nat×Operand)}{ps:List (Nat×Value)}{out out':List Value}
  (hp':EvP ρ parts.toList ps)(ho:fillL pl zs ps=some out)(ho':out=out')(hd:Nat.blt d X.nt=true)
  (h:OpsL X ops nb N (i+1) os Ls ds (upd ρ d (.agg out'.toArray)) L):Op1 X ops nb N i (some d) (.build t parts) ty os Ls ds ρ L:=by
 have hp:=hp'.map
 subst hp
 subst ho'
 (refine op_pure1 (fun _ e=>by cases e) (fun _ _ _=>by simp[qk]) hd ?_ h;intro pos after gd w)
 have e:(parts.map fun(i,x)=>(i,ev ρ x)).toList=parts.toList.map (fun x=>(x.1,ev ρ x.2)):=by simp
 simp[execOp,bd_run (P:=X.P) (w:=w) (t:=t) (parts:=parts.map fun(i,x)=>(i,ev ρ x)) (out:=out) (by rw[e];exact ho)]
theorem a_len_str{T:TypeId}[I:Ty X.P T .string]{x:Operand}{s:ByteArray}(hx:ev ρ x= .string s)(hd:Nat.blt d X.nt=true)
  (h:OpsL X ops nb N (i+1) os Ls ds (upd ρ d (.int .i64 s.size)) L):Op1 X ops nb N i (some d) (.call {callee:=.builtin .len,args:= #[x],argTypes:= #[T]}) ty os Ls ds ρ L:=by
 (refine op_pure1 (fun _ e=>by cases e) (fun _ _ _=>by simp[qk]) hd ?_ h;intro pos after gd w)
 simp[execOp,resolve,invoke,builtin,hx,Builtin.len_,I.run_underlying,goInt]
theorem a_len_slice{T e:Nat}[I:Ty X.P T (.slice e)]{x:Operand}{p:Option Addr}{len cap:Nat}(hx:ev ρ x= .slice p len cap)(hd:Nat.blt d X.nt=true)
  (h:OpsL X ops nb N (i+1) os Ls ds (upd ρ d (.int .i64 len)) L):Op1 X ops nb N i (some d) (.call {callee:=.builtin .len,args:= #[x],argTypes:= #[T]}) ty os Ls ds ρ L:=by
 (refine op_pure1 (fun _ e=>by cases e) (fun _ _ _=>by simp[qk]) hd ?_ h;intro pos after gd w)
 simp[execOp,resolve,invoke,builtin,hx,Builtin.len_,I.run_underlying,goInt]
theorem loadCells_list{P:Program}{w:World}{b o:Nat}{cs:Array Value}{T:TypeId}{fr:Nat×Nat}(hb:w.heap[b]? =some (.cells cs T fr)):
  ∀ (n k:Nat) (acc:Array Value),o+k+n≤cs.size→(loadCellsFrom ⟨b,o,none⟩ k n acc).run P w= .ok (acc++cs.extract (o+k) (o+k+n)) w
 |0,k,acc,_=>by simp[loadCellsFrom];exact Nat.min_le_left _ _
 |n+1,k,acc,h=>by
  have hlt:o+k<cs.size:=by omega
  have hc:=cell_of_heap (off:=o+k) hb (Array.getElem?_eq_getElem hlt)
  unfold loadCellsFrom
  simp only[Sem.run_bind,run_load,add_plain,hc,Result.andThen_ok]
  rw[loadCells_list hb n (k+1) _ (by omega)]
  congr 1
  apply Array.ext'
  simp only[Array.toList_append,Array.toList_push,Array.toList_extract,List.extract_eq_take_drop,List.append_assoc]
  congr 1
  have e1:o+k+(n+1)-(o+k)=n+1:=by omega
  have e2:o+(k+1)+n-(o+(k+1))=n:=by omega
  rw[e1,e2]
  have:List.drop (o+k) cs.toList=cs[o+k]::List.drop (o+k+1) cs.toList:=by
   rw[List.drop_eq_getElem_cons (by simpa using hlt)];simp
  rw[this,List.take_succ_cons];rfl
theorem run_loadVar1{P:Program}{w:World}{t:TypeId}{dd:TypeDesc}[I:Ty P t dd](ha:isAggD dd=false){a:Addr}{v:Value}(hc:w.cell? a=some v):(loadVar t a).run P w= .ok v w:=by
 simp[loadVar,I.run_isAgg ha,hc]
theorem run_loadVarA{P:Program}{w:World}{t:TypeId}{n:Nat}[I:TyA P t][J:Sz P t n]{b o:Nat}{cs:List Value}{T:TypeId}{fr:Nat×Nat}(hb:w.heap[b]? =some (.cells cs.toArray T fr))(hn:o+n≤cs.length):
  (loadVar t ⟨b,o,none⟩).run P w= .ok (.agg ((cs.drop o).take n).toArray) w:=by
 have h0:=loadCells_list (P:=P) (o:=o) hb n 0 #[] (by simpa using hn)
 simp only[Nat.add_zero]at h0
 simp[loadVar,I.run_isAgg,J.run_sizeOf,loadCells,h0]
theorem a_load [NoT nb]{t:TypeId}{dd:TypeDesc}[I:Ty X.P t dd](ha:isAggD dd=false){x:Operand}{b o:Nat}{cs:List Value}{T:TypeId}{fr:Nat×Nat}{v:Value}
  (hx:ev ρ x= .pointer (some ⟨b,o,none⟩))(hr:RdIn Ls b (.cells cs.toArray T fr))(hc:cs[o]? =some v)(hd:Nat.blt d X.nt=true)
  (h:OpsL X ops nb N (i+1) os Ls ds (upd ρ d v) L):Op1 X ops nb N i (some d) (.load t x) ty os Ls ds ρ L:=by
 refine op_quiet (fun _ e=>by cases e) (fun _ _ _=>by simp[qk]) (fun x hx=>by cases hx;assumption) ?_ h
 intro pos after gd w hw
 have hs:=hw.resolve_left (by simp[qk])
 have hcell:=cell_of_heap (off:=o) (hr.heap hs) (v:=v) (by simpa using hc)
 simp[execOp,hx,Instr.loadAt,Instr.sureAddr,run_loadVar1 (P:=X.P) (t:=t) ha hcell]
theorem a_loadA [NoT nb]{t:TypeId}{n:Nat}[I:TyA X.P t][J:Sz X.P t n]{x:Operand}{b o:Nat}{cs vs:List Value}{T:TypeId}{fr:Nat×Nat}
  (hx:ev ρ x= .pointer (some ⟨b,o,none⟩))(hr:RdIn Ls b (.cells cs.toArray T fr))(hn:Nat.ble (o+n) cs.length=true)(hc:(cs.drop o).take n=vs)(hd:Nat.blt d X.nt=true)
  (h:OpsL X ops nb N (i+1) os Ls ds (upd ρ d (.agg vs.toArray)) L):Op1 X ops nb N i (some d) (.load t x) ty os Ls ds ρ L:=by
 subst hc
 refine op_quiet (fun _ e=>by cases e) (fun _ _ _=>by simp[qk]) (fun x hx=>by cases hx;assumption) ?_ h
 intro pos after gd w hw
 have hs:=hw.resolve_left (by simp[qk])
 simp[execOp,hx,Instr.loadAt,Instr.sureAddr,run_loadVarA (P:=X.P) (t:=t) (hr.heap hs) (by simpa using hn)]
theorem agg_cells(l:List Value):(Value.agg l.toArray).cells.toList=l:=rfl
theorem one_cells{v:Value}(h:v.oneCell'=true):v.cells.toList=[v]:=by cases v<;>first|rfl|cases h
theorem eff_intro1{d:Option Nat}{op:Op}{ty:TypeId}{u:Value}{L':List HProp}(hnd:∀ c,op≠.defer c)(hk:∀ pos after gd,qk X.cv ⟨d,op,ty,pos,after,gd⟩=2)
  (hrun:∀ pos after gd w,Sats X.w0 w L→OpVal X.P ⟨d,op,ty,pos,after,gd⟩ (ev ρ) w fun v w'=>v=u∧Sats X.w0 w' L'):Eff X d op ty ρ L Unit (fun _=>True) (fun _=>u) (fun _=>L'):=
 ⟨hnd,fun pos after gd=>⟨hk pos after gd,fun w hs=>(hrun pos after gd w hs).mono fun _ _ ⟨h1,h2⟩=>⟨(),trivial,h1,h2⟩⟩⟩
theorem storeCells_list{P:Program}{b:Nat}{T:TypeId}:∀ (vs:List Value) (k o:Nat) (cs:List Value) {w0:W0} {w:World} {L:List HProp} (R:List HProp),Sel L (pts b (.cells cs.toArray T)) R→Sats w0 w L→(∀ v∈vs,v.oneCell'=true)→o+k+vs.length≤cs.length→
  ∃ w',(storeCells ⟨b,o,none⟩ vs k).run P w= .ok () w'∧Sats w0 w' (pts b (.cells (cs.take (o+k)++vs++cs.drop (o+k+vs.length)).toArray T)::R)
 | [],k,o,cs,w0,w,L,R,hsel,hs,_,_=>⟨w,rfl,by simpa using hs.sel hsel⟩
 |v::vs,k,o,cs,w0,w,L,R,hsel,hs,hv,hl=>by
  simp only[List.length_cons]at hl
  have hs1:=hs.sel hsel
  have hb:w.heap[b]? =some (.cells cs.toArray T):=(RdIn.here (Rd.pts _ _)).heap hs1
  have hlt:o+k<cs.length:=by omega
  have hcell:w.cell? ⟨b,o+k,none⟩=some cs[o+k]:=cell_of_heap hb (by simp[hlt])
  have hfr:w.frozen? ⟨b,o+k,none⟩=false:=by simp[World.frozen?,hb]
  have hs2:=hs1.setCell (off:=o+k) v
  simp only[List.setIfInBounds_toArray]at hs2
  obtain⟨w',h1,h2⟩:=storeCells_list vs (k+1) o (cs.set (o+k) v) R Sel.here hs2 (fun u hu=>hv u (List.mem_cons_of_mem _ hu)) (by simp;omega)
  refine⟨w',?_,?_⟩
  ·unfold storeCells
   rw[Sem.run_bind,run_store _ _ _ _ _ (hv v (List.mem_cons_self ..))]
   simp only[add_plain,hcell,hfr,Bool.false_eq_true,if_false,Result.andThen_ok]
   exact h1
  ·refine h2.map fun h hh=>?_
   have e:List.take (o+(k+1)) (cs.set (o+k) v)++vs++List.drop (o+(k+1)+vs.length) (cs.set (o+k) v)=List.take (o+k) cs++v::vs++List.drop (o+k+(vs.length+1)) cs:=by
    have e1:o+k+(vs.length+1)=o+k+1+vs.length:=by omega
    rw[e1,← Nat.add_assoc,List.take_add_one,List.take_set_of_le (Nat.le_refl _),List.getElem?_set_self hlt,List.drop_set_of_lt (by omega)]
    simp only[Option.toList_some,List.append_assoc,List.cons_append,List.nil_append]
   rw[e]at hh
   exact hh
def oneCells(vs:List Value):Bool:=vs.all (·.oneCell')
theorem one_one{v:Value}(h:v.oneCell'=true):oneCells [v]=true:=by simp[oneCells,h]
theorem e_store{t:TypeId}{n:Nat}[I:Sz X.P t n]{a x:Operand}{b o:Nat}{cs cs' vs:List Value}{T:TypeId}{R:List HProp}{v:Value}
  (hx:ev ρ a= .pointer (some ⟨b,o,none⟩))(hv:ev ρ x=v)(hvs:v.cells.toList=vs)(hsel:Sel L (pts b (.cells cs.toArray T)) R)(h1:oneCells vs=true)(hn:Nat.beq vs.length n=true)(hl:Nat.ble (o+n) cs.length=true)
  (hcs:cs.take o++vs++cs.drop (o+n)=cs'):
  Eff X none (.store t a x) ty ρ L Unit (fun _=>True) (fun _=>undef) (fun _=>pts b (.cells cs'.toArray T)::R):=by
 subst hcs hv
 have hn':vs.length=n:=Nat.eq_of_beq_eq_true hn
 refine eff_intro1 (fun _ e=>by cases e) (fun _ _ _=>rfl) fun pos after gd w hs=>?_
 have hle:o+n≤cs.length:=by simpa using hl
 obtain⟨w',h2,h3⟩:=storeCells_list (P:=X.P) vs 0 o cs R hsel hs (by simpa [oneCells]using h1) (by omega)
 have hsz:(ev ρ x).cells.size=n:=by rw[← hn',← hvs];simp
 unfold OpVal
 simp only[execOp,Instr.storeAt,Instr.sureAddr,hx,storeVar,Sem.run_bind,Sem.run_pure,Result.andThen_ok,I.run_sizeOf,hsz,ne_eq,not_true_eq_false,if_false,hvs,h2]
 refine⟨trivial,?_⟩
 simpa [hn']using h3
theorem e_box{t:TypeId}{x:Operand}{vs:List Value}{v:Value}{d:Nat}(hv:ev ρ x=v)(hvs:v.cells.toList=vs):
  Eff X (some d) (.box t x) ty ρ L Nat (fun _=>True) (fun b=>.pointer (some ⟨b,0,none⟩)) (fun b=>pts b (.cells vs.toArray t)::L):=by
 subst hvs hv
 refine⟨(fun _ e=>by cases e),fun pos after gd=>⟨rfl,fun w hs=>?_⟩⟩
 unfold OpVal
 simp only[execOp,Instr.box,newVar,newRow,Sem.run_bind,run_newObj,Sem.run_pure,Result.andThen_ok]
 exact⟨w.heap.size,trivial,rfl,by simpa using hs.alloc (.cells (ev ρ x).cells t)⟩
theorem e_alloc{t:TypeId}{z:Value}[I:Zr X.P t z]{vs:List Value}{d:Nat}(hvs:z.cells.toList=vs):
  Eff X (some d) (.alloc t) ty ρ L Nat (fun _=>True) (fun b=>.pointer (some ⟨b,0,none⟩)) (fun b=>pts b (.cells vs.toArray t)::L):=by
 subst hvs
 refine⟨(fun _ e=>by cases e),fun pos after gd=>⟨rfl,fun w hs=>?_⟩⟩
 unfold OpVal
 simp only[execOp,Instr.alloc,newVar,newRow,Sem.run_bind,I.run_zero,run_newObj,Sem.run_pure,Result.andThen_ok]
 exact⟨w.heap.size,trivial,rfl,by simpa using hs.alloc (.cells z.cells t)⟩
theorem e_call{f:FuncId}[K:FnI X.P f]{args:Array Operand}{at_:Array TypeId}{vs:List Value}{d:Option Nat}{pre R:List HProp}{Y:Type}{φ:Y→Prop}{ret:Y→Value}{post:Y→List HProp}
  (ha:EvA ρ args.toList vs)(hs:FSpecM X.w0.m X.P f vs pre Y φ ret post)(ht:Take L pre R):
  Eff X d (.call {callee:=.value (.func f),args:=args,argTypes:=at_}) ty ρ L Y φ ret (fun y=>post y++R):=by
 have ha':=ha.map
 subst ha'
 refine⟨(fun _ e=>by cases e),fun pos after gd=>⟨rfl,fun w hw=>?_⟩⟩
 have e:(args.map (ev ρ))=(args.toList.map (ev ρ)).toArray:=by apply Array.ext';simp
 unfold OpVal
 simp only[execOp,resolve,ev,Deferred.ofValue,invoke,Sem.run_bind,Sem.run_pure,Result.andThen_ok,K.call,Array.append_empty,Array.empty_append]
 rw[e]
 refine(hs X.w0.w w R (hw.take ht)).mono ?_
 rintro e w' ⟨y,hy,rfl,hw'⟩
 exact⟨y,hy,rfl,hw'⟩
theorem s_store [NoT nb]{t:TypeId}{n:Nat}[I:Sz X.P t n]{a x:Operand}{b o:Nat}{cs cs' vs:List Value}{T:TypeId}{R:List HProp}{v:Value}
  (hx:ev ρ a= .pointer (some ⟨b,o,none⟩))(hv:ev ρ x=v)(hvs:v.cells.toList=vs)(hsel:Sel L (pts b (.cells cs.toArray T)) R)(h1:oneCells vs=true)(hn:Nat.beq vs.length n=true)(hl:Nat.ble (o+n) cs.length=true)
  (hcs:cs.take o++vs++cs.drop (o+n)=cs')(hb:nb.contains i=false)
  (h:OpsL X ops nb N (i+1) os (pts b (.cells cs'.toArray T)::R) ds ρ (pts b (.cells cs'.toArray T)::R)):Op1 X ops nb N i none (.store t a x) ty os Ls ds ρ L:=
 op_eff (e_store hx hv hvs hsel h1 hn hl hcs) (fun _ e=>by cases e) hb fun _ _=>h
theorem s_box [NoT nb]{t:TypeId}{x:Operand}{vs:List Value}{v:Value}(hv:ev ρ x=v)(hvs:v.cells.toList=vs)(hd:Nat.blt d X.nt=true)(hb:nb.contains i=false)
  (h:∀ b,OpsL X ops nb N (i+1) os (pts b (.cells vs.toArray t)::L) ds (upd ρ d (.pointer (some ⟨b,0,none⟩))) (pts b (.cells vs.toArray t)::L)):Op1 X ops nb N i (some d) (.box t x) ty os Ls ds ρ L:=
 op_eff (e_box hv hvs) (fun _ e=>by cases e;exact hd) hb fun b _=>h b
theorem s_alloc [NoT nb]{t:TypeId}{z:Value}[I:Zr X.P t z]{vs:List Value}(hvs:z.cells.toList=vs)(hd:Nat.blt d X.nt=true)(hb:nb.contains i=false)
  (h:∀ b,OpsL X ops nb N (i+1) os (pts b (.cells vs.toArray t)::L) ds (upd ρ d (.pointer (some ⟨b,0,none⟩))) (pts b (.cells vs.toArray t)::L)):Op1 X ops nb N i (some d) (.alloc t) ty os Ls ds ρ L:=
 op_eff (e_alloc hvs) (fun _ e=>by cases e;exact hd) hb fun b _=>h b
theorem s_call [NoT nb]{f:FuncId}[K:FnI X.P f]{args:Array Operand}{at_:Array TypeId}{vs:List Value}{pre R:List HProp}{Y:Type}{φ:Y→Prop}{ret:Y→Value}{post:Y→List HProp}
  (ha:EvA ρ args.toList vs)(hs:FSpecM X.w0.m X.P f vs pre Y φ ret post)(ht:Take L pre R)(hd:Nat.blt d X.nt=true)(hb:nb.contains i=false)
  (h:∀ y,φ y→OpsL X ops nb N (i+1) os (post y++R) ds (upd ρ d (ret y)) (post y++R)):Op1 X ops nb N i (some d) (.call {callee:=.value (.func f),args:=args,argTypes:=at_}) ty os Ls ds ρ L:=
 op_eff (e_call ha hs ht) (fun _ e=>by cases e;exact hd) hb h
theorem s_call_nb [NoT nb]{f:FuncId}[K:FnI X.P f]{args:Array Operand}{at_:Array TypeId}{vs:List Value}{pre R:List HProp}{Y:Type}{φ:Y→Prop}{ret:Y→Value}{post:Y→List HProp}
  (ha:EvA ρ args.toList vs)(hs:FSpecM X.w0.m X.P f vs pre Y φ ret post)(ht:Take L pre R)(hd:Nat.blt d X.nt=true)(hk:∀ y,φ y→∀ h,SatL (post y++R) h→SatL Ls h)
  (h:∀ y,φ y→OpsL X ops nb N (i+1) os Ls ds (upd ρ d (ret y)) (post y++R)):Op1 X ops nb N i (some d) (.call {callee:=.value (.func f),args:=args,argTypes:=at_}) ty os Ls ds ρ L:=
 op_eff_nb (e_call ha hs ht) (fun _ e=>by cases e;exact hd) hk h
theorem s_alloc_nb [NoT nb]{t:TypeId}{z:Value}[I:Zr X.P t z]{vs:List Value}(hvs:z.cells.toList=vs)(hd:Nat.blt d X.nt=true)(hk:∀ h,SatL L h→SatL Ls h)
  (h:∀ b,OpsL X ops nb N (i+1) os Ls ds (upd ρ d (.pointer (some ⟨b,0,none⟩))) (pts b (.cells vs.toArray t)::L)):Op1 X ops nb N i (some d) (.alloc t) ty os Ls ds ρ L:=
 op_eff_nb (e_alloc hvs) (fun _ e=>by cases e;exact hd) (fun _ _ _ s=>hk _ s.tail) fun b _=>h b
end
end Go.Fx
namespace Go.Fx
open Go
inductive Keep:List HProp→List HProp→Prop
 |refl {L:List HProp}:Keep L L
 |drop {A:HProp} {L L':List HProp} (h:Keep L L'):Keep (A::L) L'
theorem Keep.out{L L':List HProp}(k:Keep L L'):∀ {h:Frag},SatL L h→SatL L' h:=by
 induction k with
 |refl=>exact fun h=>h
 |drop _ ih=>exact fun h=>ih h.tail
theorem satL_append_mono:∀ (pre:List HProp) {A B:List HProp} (_:∀ h,SatL A h→SatL B h) {h:Frag},SatL (pre++A) h→SatL (pre++B) h
 | [],_,_,k,_,s=>k _ s
 |_::pre,_,_,k,_,s=>SatL.consMono (A:=_) s fun _ s'=>satL_append_mono pre k s'
theorem ent{L pre rest R:List HProp}(t:Take L pre rest)(k:Keep rest R){h:Frag}(s:SatL L h):SatL (pre++R) h:=
 satL_append_mono pre (fun _ s=>k.out s) (t.out s)
theorem Take.out1{L R:List HProp}{A:HProp}(t:Take L [A] R){h:Frag}(s:SatL L h):SatL (A::R) h:=t.out s
theorem Take.out2{L R:List HProp}{A B:HProp}(t:Take L [A,B] R){h:Frag}(s:SatL L h):SatL (A::B::R) h:=t.out s
theorem Take.out3{L R:List HProp}{A B C:HProp}(t:Take L [A,B,C] R){h:Frag}(s:SatL L h):SatL (A::B::C::R) h:=t.out s
variable{P:Program}{w0:W0}{ρ:Regs}{L:List HProp}
theorem res_nil:Res P w0 ρ L [] []:=rfl
theorem res_tmp{t:Nat}{v:Value}{xs:List ResultVar}{vs:List Value}(h:ev ρ (.tmp t)=v)(hr:Res P w0 ρ L xs vs):Res P w0 ρ L (.tmp t::xs) (v::vs):=⟨v,vs,rfl,hr,h⟩
theorem res_cell{a t:Nat}{dd:TypeDesc}[I:Ty P t dd]{b o:Nat}{cs:List Value}{T:TypeId}{fr:Nat×Nat}{v:Value}{xs:List ResultVar}{vs:List Value}(hd:isAggD dd=false)
  (hp:ev ρ (.tmp a)= .pointer (some ⟨b,o,none⟩))(hr:RdIn L b (.cells cs.toArray T fr))(hc:cs[o]? =some v)(h:Res P w0 ρ L xs vs):Res P w0 ρ L (.cell a t::xs) (v::vs):=
 ⟨v,vs,rfl,h,_,hp,fun _ hs=>run_loadVar1 (t:=t) hd (cell_of_heap (off:=o) (hr.heap hs) (by simpa using hc))⟩
theorem res_cellA{a t n:Nat}[I:TyA P t][J:Sz P t n]{b o:Nat}{cs us:List Value}{T:TypeId}{fr:Nat×Nat}{xs:List ResultVar}{vs:List Value}
  (hp:ev ρ (.tmp a)= .pointer (some ⟨b,o,none⟩))(hr:RdIn L b (.cells cs.toArray T fr))(hn:Nat.ble (o+n) cs.length=true)(hc:(cs.drop o).take n=us)(h:Res P w0 ρ L xs vs):Res P w0 ρ L (.cell a t::xs) (.agg us.toArray::vs):=by
 subst hc
 exact⟨_,vs,rfl,h,_,hp,fun _ hs=>run_loadVarA (t:=t) (hr.heap hs) (by simpa using hn)⟩
theorem cont_ret{nt:Nat}{cv:List TypeId}{r:Option Nat}{fn:Func}{Y:Type}{φ:Y→Prop}{ret:Y→Value}{post:Y→List HProp}{R:List HProp}{vs:List Value}{rs:Array ResultVar}{y:Y}(hrs:fn.results=rs)(hr:Res P w0 ρ L rs.toList vs)(hp:∀ h,SatL L h→SatL (post y++R) h)(hv:retOf vs=ret y)(hφ:φ y):
 Cont ⟨P,r,nt,w0,cv⟩ (Fin ⟨P,r,nt,w0,cv⟩ fn Y φ ret post R) .ret [] ρ L:=cont_fin (.inr rfl) vs (by rw[hrs];exact hr) y hφ hv hp
theorem cont_end{nt:Nat}{cv:List TypeId}{r:Option Nat}{fn:Func}{Y:Type}{φ:Y→Prop}{ret:Y→Value}{post:Y→List HProp}{R:List HProp}{vs:List Value}{rs:Array ResultVar}{y:Y}(hrs:fn.results=rs)(hr:Res P w0 ρ L rs.toList vs)(hp:∀ h,SatL L h→SatL (post y++R) h)(hv:retOf vs=ret y)(hφ:φ y):
 Cont ⟨P,r,nt,w0,cv⟩ (Fin ⟨P,r,nt,w0,cv⟩ fn Y φ ret post R) .normal [] ρ L:=cont_fin (.inl rfl) vs (by rw[hrs];exact hr) y hφ hv hp
theorem cont_retM{nt:Nat}{cv:List TypeId}{r:Option Nat}{fn:Func}{Y:Type}{φ:Y→Prop}{ret:Y→Value}{post:Y→List HProp}{R L':List HProp}{vs:List Value}{rs:Array ResultVar}{y:Y}{dk:Nat}(ht:Take L [marked dk] L')(hrs:fn.results=rs)(hr:Res P w0 ρ L' rs.toList vs)(hp:∀ h,SatL L' h→SatL (post y++R) h)(hv:retOf vs=ret y)(hφ:φ y):
 Cont ⟨P,r,nt,w0,cv⟩ (Fin ⟨P,r,nt,w0,cv⟩ fn Y φ ret post R) .ret [mark dk] ρ L:=cont_finM (.inr rfl) [dk] rfl (fun _ k=>ht.out k) vs (by rw[hrs];exact hr) y hφ hv hp
theorem cont_endM{nt:Nat}{cv:List TypeId}{r:Option Nat}{fn:Func}{Y:Type}{φ:Y→Prop}{ret:Y→Value}{post:Y→List HProp}{R L':List HProp}{vs:List Value}{rs:Array ResultVar}{y:Y}{dk:Nat}(ht:Take L [marked dk] L')(hrs:fn.results=rs)(hr:Res P w0 ρ L' rs.toList vs)(hp:∀ h,SatL L' h→SatL (post y++R) h)(hv:retOf vs=ret y)(hφ:φ y):
 Cont ⟨P,r,nt,w0,cv⟩ (Fin ⟨P,r,nt,w0,cv⟩ fn Y φ ret post R) .normal [mark dk] ρ L:=cont_finM (.inl rfl) [dk] rfl (fun _ k=>ht.out k) vs (by rw[hrs];exact hr) y hφ hv hp
end Go.Fx
namespace Go.Fx
open Go
section
variable{X:Cx}{ops:Array Oper}{nb:NB}{N:Act→World→Prop}{i:Nat}{os:List Oper}{Ls:List HProp}{ds:List Deferred}{ρ:Regs}{L:List HProp}{ty:TypeId}{d:Nat}
theorem shape_of{w:World}{b:Nat}{cs:Array Value}{T:TypeId}{fr:Nat×Nat}(h:w.heap[b]? =some (.cells cs T fr)):w.shape? b=some (T,cs.size):=by simp[World.shape?,h]
theorem frozen_of{w:World}{b o:Nat}{s:Option Nat}{cs:Array Value}{T:TypeId}(h:w.heap[b]? =some (.cells cs T (0,0))):w.frozen? ⟨b,o,s⟩=false:=by simp[World.frozen?,h]
theorem run_stringish{P:Program}{w:World}{a:Addr}{cs:Array Value}{T:TypeId}(h:w.heap[a.block]? =some (.cells cs T (0,0))):(stringish a).run P w= .ok false w:=by
 have h1:w.frozen? a=false:=frozen_of (o:=a.off) (s:=a.spot) h
 have h2:w.frozen? ⟨a.block,cs.size,none⟩=false:=frozen_of h
 simp[stringish,h1,shape_of h,h2]
theorem run_noView{P:Program}{w:World}{a:Addr}{cs:Array Value}{T:TypeId}{fr:Nat×Nat}(h:w.heap[a.block]? =some (.cells cs T fr)):(noView a).run P w= .ok () w:=by
 simp[noView,viewAt,shape_of h]
theorem run_sameAddr{P:Program}{w:World}{a b:Addr}{cs cs':Array Value}{T T':TypeId}(h:w.heap[a.block]? =some (.cells cs T (0,0)))(h':w.heap[b.block]? =some (.cells cs' T' (0,0))):
  (sameAddr a b).run P w= .ok (decide (a=b)) w:=by
 unfold sameAddr
 by_cases hb:a.block=b.block
 ·simp[hb];rfl
 ·have hne:a≠b:=fun e=>hb (by rw[e])
  have h1:w.frozen? a=false:=frozen_of (o:=a.off) (s:=a.spot) h
  simp[hb,h1,run_noView h,run_noView h',mayBeOne,run_stringish h,run_stringish h',shape_of h',hne]
theorem eql_same{a:Addr}:nilB .eql (decide (a=a))=true:=by simp[nilB]
theorem neq_same{a:Addr}:nilB .neq (decide (a=a))=false:=by simp[nilB]
theorem eql_ne{a b:Addr}(h:a≠b):nilB .eql (decide (a=b))=false:=by simp[nilB,h]
theorem neq_ne{a b:Addr}(h:a≠b):nilB .neq (decide (a=b))=true:=by simp[nilB,h]
theorem a_ptr_eq [NoT nb]{op:BinOp}{xt yt e n:Nat}[I:Ty X.P xt (.pointer e)][J:Sz X.P e n]{x y:Operand}{a b:Addr}{cs cs':Array Value}{T T':TypeId}{v:Bool}(hn:Nat.beq n 0=false)(hx:ev ρ x= .pointer (some a))(hy:ev ρ y= .pointer (some b))(ho:isEq op=true)
  (ha:RdIn Ls a.block (.cells cs T (0,0)))(hb:RdIn Ls b.block (.cells cs' T' (0,0)))(hv:nilB op (decide (a=b))=v)(hd:Nat.blt d X.nt=true)
  (h:OpsL X ops nb N (i+1) os Ls ds (upd ρ d (.bool v)) L):Op1 X ops nb N i (some d) (.binOp op xt x y yt) ty os Ls ds ρ L:=by
 subst hv
 have hn':n≠0:=fun e=>by subst e;simp at hn
 have hq:∀ w,Sats X.w0 w Ls→(Op.equal xt (.pointer (some a)) (.pointer (some b))).run X.P w= .ok (decide (a=b)) w:=by
  intro w hs
  rw[equal_unfold,Op.equalIn]
  simp only[Sem.run_bind,I.run_underlying,Result.andThen_ok,J.run_sizeOf,ne_eq,hn',not_false_eq_true,if_true,run_sameAddr (ha.heap hs) (hb.heap hs)]
 cases op<;>first|(simp[isEq]at ho;done)|skip
 ·refine op_quiet (fun _ e=>by cases e) (fun _ _ _=>by simp[qk]) (fun x hx=>by cases hx;exact hd) ?_ h
  intro pos after gd w hw
  have hs:=hw.resolve_left (by simp[qk])
  have e1:(binOp .eql xt (.pointer (some a)) (.pointer (some b)))=(do pure (.bool (← Op.equal xt (.pointer (some a)) (.pointer (some b))))):=rfl
  have e2:eqGuard .eql xt x y (.pointer (some a)) (.pointer (some b))=pure ():=rfl
  simp only[execOp,hx,hy,Sem.run_bind,e1,e2,Sem.run_pure,Result.andThen_ok,hq w hs,nilB]
 ·refine op_quiet (fun _ e=>by cases e) (fun _ _ _=>by simp[qk]) (fun x hx=>by cases hx;exact hd) ?_ h
  intro pos after gd w hw
  have hs:=hw.resolve_left (by simp[qk])
  have e1:(binOp .neq xt (.pointer (some a)) (.pointer (some b)))=(do pure (.bool (!(← Op.equal xt (.pointer (some a)) (.pointer (some b)))))):=rfl
  have e2:eqGuard .neq xt x y (.pointer (some a)) (.pointer (some b))=pure ():=rfl
  simp only[execOp,hx,hy,Sem.run_bind,e1,e2,Sem.run_pure,Result.andThen_ok,hq w hs,nilB]
end
theorem SatL.flat{M L:List HProp}{h:Frag}(s:SatL ((fun h=>SatL M h)::L) h):SatL (M++L) h:=by
 induction M generalizing h with
 |nil=>exact s.tail
 |cons A M ih=>
  obtain⟨h1,h2,ha,l1,l2,hH,hL⟩:=s
  obtain⟨h3,h4,hb,l3,l4,hA,hM⟩:=hH
  refine⟨h3,h4.join h2,?_,l3.trans l1,Frag.join_le (l4.trans l1) l2,hA,ih ⟨h4,h2,ha.sub l4 (.refl _),Frag.le_join _ _,Frag.le_join' (ha.sub l4 (.refl _)),hM,hL⟩⟩
  intro x o o' e e'
  unfold Frag.join at e'
  split at e'
  ·rename_i o'' h'';exact hb _ _ _ e h''
  ·exact ha _ _ _ (l3 _ _ e) e'
theorem SatL.unflat:∀ {M L:List HProp} {h:Frag},SatL (M++L) h→SatL ((fun h=>SatL M h)::L) h
 | [],L,h,s=>⟨fun _=>none,h,(fun _ _ _ e _=>by cases e),(fun _ _ e=>by cases e),Frag.le.refl h,trivial,s⟩
 |A::M,L,h,s=>by
  obtain⟨h1,h2,ha,l1,l2,hA,hL⟩:=s
  obtain⟨h3,h4,hb,l3,l4,hM,hL'⟩:=SatL.unflat hL
  have ha3:Frag.apart h1 h3:=ha.sub (.refl _) l3
  have ha4:Frag.apart h1 h4:=ha.sub (.refl _) l4
  refine⟨h1.join h3,h4,?_,Frag.join_le l1 (l3.trans l2),l4.trans l2,⟨h1,h3,ha3,Frag.le_join _ _,Frag.le_join' ha3,hA,hM⟩,hL'⟩
  intro x o o' e e'
  unfold Frag.join at e
  split at e
  ·rename_i o'' h'';exact ha4 _ _ _ h'' e'
  ·exact hb _ _ _ e e'
theorem satL_emp{A:HProp}{L:List HProp}{h:Frag}(hA:A (fun _=>none))(s:SatL L h):SatL (A::L) h:=
 ⟨fun _=>none,h,(fun _ _ _ e _=>by cases e),(fun _ _ e=>by cases e),Frag.le.refl h,hA,s⟩
theorem pts_ne{a b:Nat}{o o':Obj}{L:List HProp}{h:Frag}(s:SatL (pts a o::pts b o'::L) h):a≠b:=by
 obtain⟨h1,h2,ha,_,_,hA,h3,h4,_,l3,_,hB,_⟩:=s
 intro e
 subst e
 exact ha _ _ _ hA (l3 _ _ hB)
theorem FSpec.conseq{P:Program}{f:FuncId}{args:List Value}{pre pre':List HProp}{Y Y':Type}{φ:Y→Prop}{φ':Y'→Prop}{ret:Y→Value}{ret':Y'→Value}{post:Y→List HProp}{post':Y'→List HProp}
  (s:FSpec P f args pre Y φ ret post)(hp:∀ R h,SatL (pre'++R) h→SatL (pre++R) h)(hq:∀ y,φ y→∃ y',φ' y'∧ret' y'=ret y∧∀ R h,SatL (post y++R) h→SatL (post' y'++R) h):FSpec P f args pre' Y' φ' ret' post':=by
 intro w0 w R hs
 refine(s w0 w R (hs.map (hp R))).mono ?_
 rintro e w' ⟨y,hy,rfl,hs'⟩
 obtain⟨y',hy',hr,hq'⟩:=hq y hy
 exact⟨y',hy',by rw[hr],hs'.map (hq' R)⟩
end Go.Fx
namespace Go.Fx
open Go
def Runs(P:Program)(s:Sem Next)(w:World)(J:Value→World→Prop):Prop:=
 match s.run P w with
 | .ok (.value v) w'=>J v w'
 | .ok .skip w'=>J undef w'
 | .ok (.enter f args) w'=>Calls P f args w' fun
  | .returned v,w''=>J v w''
  |_,_=>False
 | .ok (.row row args) w'=>RowsIn (Fw none) 0 P row args w' J
 | .ok (.round l f tmps assign body) w'=>RoundIn (Fw none) 0 P l f tmps assign body w' fun
  | .returned v,w''=>J v w''
  |_,_=>False
 |_=>False
theorem opVal_runs{P:Program}{o:Oper}{e:Operand→Value}{w:World}{J:Value→World→Prop}:OpVal P o e w J↔Runs P (execOp e o) w J:=Iff.rfl
theorem Runs.mono{P:Program}{s:Sem Next}{w:World}{J J':Value→World→Prop}(h:Runs P s w J)(hj:∀ v w',J v w'→J' v w'):Runs P s w J':=by
 unfold Runs at*
 split
 ·rename_i hr;rw[hr]at h;exact hj _ _ h
 ·rename_i hr;rw[hr]at h;exact hj _ _ h
 ·rename_i hr;rw[hr]at h
  refine Calls.mono h fun e w'' he=>?_
  cases e<;>first|exact hj _ _ he|exact he
 ·rename_i hr;rw[hr]at h;exact RowsIn.mono h fun _ _ he=>hj _ _ he
 ·rename_i hr;rw[hr]at h
  refine RoundIn.mono h fun e w'' he=>?_
  cases e<;>first|exact hj _ _ he|exact he
 ·rename_i h1 h2 h3 h4 h5
  split at h<;>first|(rename_i hr;exact absurd hr (h1 _ _))|(rename_i hr;exact absurd hr (h2 _))|(rename_i hr;exact absurd hr (h3 _ _ _))|(rename_i hr;exact absurd hr (h4 _ _ _))|(rename_i hr;exact absurd hr (h5 _ _ _ _ _ _))|exact h
def callV(fv:Value)(args:List Value):Sem Next:=do
 let d ← Deferred.ofValue fv args.toArray
 invoke d.target d.args
def VSpecM(m:Bool)(P:Program)(fv:Value)(args:List Value)(pre:List HProp)(Y:Type)(φ:Y→Prop)(ret:Y→Value)(post:Y→List HProp):Prop:=
 ∀ (w0 w:World) (R:List HProp),Sats ⟨w0,m⟩ w (pre++R)→Runs P (callV fv args) w fun v w'=>∃ y,φ y∧v=ret y∧Sats ⟨w0,m⟩ w' (post y++R)
abbrev VSpec(P:Program)(fv:Value)(args:List Value)(pre:List HProp)(Y:Type)(φ:Y→Prop)(ret:Y→Value)(post:Y→List HProp):Prop:=VSpecM false P fv args pre Y φ ret post
theorem VSpec.conseq{P:Program}{fv:Value}{args:List Value}{pre pre':List HProp}{Y Y':Type}{φ:Y→Prop}{φ':Y'→Prop}{ret:Y→Value}{ret':Y'→Value}{post:Y→List HProp}{post':Y'→List HProp}
  (s:VSpec P fv args pre Y φ ret post)(hp:∀ R h,SatL (pre'++R) h→SatL (pre++R) h)(hq:∀ y,φ y→∃ y',φ' y'∧ret' y'=ret y∧∀ R h,SatL (post y++R) h→SatL (post' y'++R) h):VSpec P fv args pre' Y' φ' ret' post':=by
 intro w0 w R hs
 refine(s w0 w R (hs.map (hp R))).mono ?_
 rintro v w' ⟨y,hy,rfl,hs'⟩
 obtain⟨y',hy',hr,hq'⟩:=hq y hy
 exact⟨y',hy',by rw[hr],hs'.map (hq' R)⟩
theorem vspec_func{P:Program}{f:FuncId}[K:FnI P f]{args cap:List Value}{pre:List HProp}{Y:Type}{φ:Y→Prop}{ret:Y→Value}{post:Y→List HProp}
  {m:Bool}(s:FSpecM m P f (args++cap) pre Y φ ret post):VSpecM m P (.func (.func f) #[] cap.toArray) args pre Y φ ret post:=by
 intro w0 w R hs
 unfold Runs callV
 have e:args.toArray++cap.toArray=(args++cap).toArray:=by simp
 simp only[Deferred.ofValue,invoke,Sem.run_bind,Sem.run_pure,Result.andThen_ok,Array.empty_append,e,K.call]
 refine(s w0 w R hs).mono ?_
 rintro e w' ⟨y,hy,rfl,hs'⟩
 exact⟨y,hy,rfl,hs'⟩
section
variable{X:Cx}{ops:Array Oper}{nb:NB}{N:Act→World→Prop}{i:Nat}{os:List Oper}{Ls:List HProp}{ds:List Deferred}{ρ:Regs}{L:List HProp}{ty:TypeId}{d:Nat}
theorem e_callv{x:Operand}{fv:Value}{args:Array Operand}{at_:Array TypeId}{vs:List Value}{d:Option Nat}{pre R:List HProp}{Y:Type}{φ:Y→Prop}{ret:Y→Value}{post:Y→List HProp}
  (hx:ev ρ x=fv)(ha:EvA ρ args.toList vs)(hs:VSpecM X.w0.m X.P fv vs pre Y φ ret post)(ht:Take L pre R):
  Eff X d (.call {callee:=.value x,args:=args,argTypes:=at_}) ty ρ L Y φ ret (fun y=>post y++R):=by
 have ha':=ha.map
 subst ha' hx
 refine⟨(fun _ e=>by cases e),fun pos after gd=>⟨rfl,fun w hw=>?_⟩⟩
 have e:(args.map (ev ρ))=(args.toList.map (ev ρ)).toArray:=by apply Array.ext';simp
 rw[opVal_runs]
 have he:execOp (ev ρ) ⟨d,.call {callee:=.value x,args:=args,argTypes:=at_},ty,pos,after,gd⟩=callV (ev ρ x) (args.toList.map (ev ρ)):=by
  simp only[execOp,resolve,callV,e]
 rw[he]
 exact hs X.w0.w w R (hw.take ht)
theorem s_callv [NoT nb]{x:Operand}{fv:Value}{args:Array Operand}{at_:Array TypeId}{vs:List Value}{pre R:List HProp}{Y:Type}{φ:Y→Prop}{ret:Y→Value}{post:Y→List HProp}
  (hx:ev ρ x=fv)(ha:EvA ρ args.toList vs)(hs:VSpecM X.w0.m X.P fv vs pre Y φ ret post)(ht:Take L pre R)(hd:Nat.blt d X.nt=true)(hb:nb.contains i=false)
  (h:∀ y,φ y→OpsL X ops nb N (i+1) os (post y++R) ds (upd ρ d (ret y)) (post y++R)):Op1 X ops nb N i (some d) (.call {callee:=.value x,args:=args,argTypes:=at_}) ty os Ls ds ρ L:=
 op_eff (e_callv hx ha hs ht) (fun _ e=>by cases e;exact hd) hb h
end
def loopP(nt:Nat)(ρ:Regs)(params:Array Tmp)(assign body:Code)(dk l:Nat)(st:LoopState)(pend:Option Code):HProp:=
 fun h=>∃ fn tmps,h l=some (.loop {state:=st,pending:=pend,fn:=fn,tmps:=tmps,params:=params,assign:=assign,body:=body,defers:=dk})∧tmps.size=nt∧∀ t,tmps.getD t undef=ρ t
section loops
variable{w0:W0}{w:World}{L:List HProp}{nt:Nat}{ρ:Regs}{params:Array Tmp}{assign body:Code}{dk l:Nat}{st:LoopState}{pend:Option Code}{P:Program}
theorem loopP.get(s:Sats w0 w (loopP nt ρ params assign body dk l st pend::L)):∃ fn tmps,w.heap[l]? =some (.loop {state:=st,pending:=pend,fn:=fn,tmps:=tmps,params:=params,assign:=assign,body:=body,defers:=dk})∧tmps.size=nt∧(∀ t,tmps.getD t undef=ρ t)∧
  ∀ st' pend',Sats w0 {w with heap:=w.heap.setIfInBounds l (.loop {state:=st',pending:=pend',fn:=fn,tmps:=tmps,params:=params,assign:=assign,body:=body,defers:=dk})} (loopP nt ρ params assign body dk l st' pend'::L):=by
 obtain⟨h1,h2,ha,l1,l2,⟨fn,tmps,e1,e2,e3⟩,hL⟩:=s.heap
 have hw:w.heap[l]? =some (.loop {state:=st,pending:=pend,fn:=fn,tmps:=tmps,params:=params,assign:=assign,body:=body,defers:=dk}):=l1 _ _ e1
 refine⟨fn,tmps,hw,e2,e3,fun st' pend'=>?_⟩
 have s':Sats w0 w (pts l (.loop {state:=st,pending:=pend,fn:=fn,tmps:=tmps,params:=params,assign:=assign,body:=body,defers:=dk})::L):=
  ⟨s.os,s.tape,s.output,s.size,⟨h1,h2,ha,l1,l2,e1,hL⟩⟩
 refine(s'.setObj (.loop {state:=st',pending:=pend',fn:=fn,tmps:=tmps,params:=params,assign:=assign,body:=body,defers:=dk})).map fun _ hh=>hh.headMono fun _ hp=>?_
 exact⟨fn,tmps,hp,e2,e3⟩
theorem run_getObj{b:Nat}{o:Obj}(h:w.heap[b]? =some o)(hc:∀ c t f,o≠.cells c t f):(getObj b).run P w= .ok o w:=by
 unfold getObj Sem.run
 rw[h]
 cases o<;>first|rfl|exact absurd rfl (hc _ _ _)
theorem run_getLoop{r:Loop}(h:w.heap[l]? =some (.loop r)):(Instr.getLoop l).run P w= .ok r w:=by
 unfold Instr.getLoop
 rw[Sem.run_bind,run_getObj h (fun _ _ _ e=>by cases e),Result.andThen_ok]
 rfl
end loops
def updMany(ρ:Regs):List (Nat×Value)→Regs
 | []=>ρ
 |(t,v)::l=>updMany (upd ρ t v) l
theorem fold_params{nt:Nat}:∀ (ps:List (Nat×Value)) (tmps:Array Value) (ρ:Regs),tmps.size=nt→(∀ t,tmps.getD t undef=ρ t)→(∀ x∈ps,x.1<nt)→
  Agr nt (updMany ρ ps) [] {tmps:=ps.foldl (fun tmps x=>tmps.setIfInBounds x.1 x.2) tmps,defers:=[]}
 | [],tmps,ρ,h1,h2,_=>⟨h1,h2,rfl⟩
 |(t,v)::ps,tmps,ρ,h1,h2,h3=>by
  have ha:Agr nt ρ [] {tmps:=tmps,defers:=[]}:=⟨h1,h2,rfl⟩
  have hb:=ha.put (h3 (t,v) (List.mem_cons_self ..)) v
  exact fold_params ps _ _ hb.size hb.get (fun x hx=>h3 x (List.mem_cons_of_mem _ hx))
def FinR(X:Cx)(l:Nat)(nt:Nat)(ρ:Regs)(params:Array Tmp)(assign body:Code)(dk:Nat)(Y:Type)(φ:Y→Prop)(pend:Y→Option Code)(post:Y→List HProp)(R:List HProp):Exit→Act→World→Prop:=
 roundPost X.P l fun e w'=>∃ y,φ y∧e= .returned (.bool (pend y).isNone)∧Sats X.w0 w' (loopP nt ρ params assign body dk l (if(pend y).isNone then .ready else .done) (pend y)::post y++R)
def BodyR(X:Cx)(l:Nat)(nt:Nat)(ρ:Regs)(params:Array Tmp)(assign body:Code)(dk:Nat)(Y:Type)(φ:Y→Prop)(pend:Y→Option Code)(post:Y→List HProp)(R:List HProp):Exit→Act→World→Prop:=
 Exit.then (fun a₁ w₁=>∃ w₂,(Instr.beginRound l).run X.P w₁= .ok () w₂∧body.wpIn (Fw (some l)) 0 X.P (FinR X l nt ρ params assign body dk Y φ pend post R) a₁ w₂) (fun _ _ _=>False)
theorem yield_spec{P:Program}{nt:Nat}{ρ:Regs}{params:Array Tmp}{assign body:Code}{dk l:Nat}{args:List Value}{pre:List HProp}{Y:Type}{φ:Y→Prop}{pend:Y→Option Code}{post:Y→List HProp}(cv:List TypeId)
  (hlen:args.length=params.size)(hps:params.toList.all (Nat.blt · nt)=true)
  (h:∀ w0 R,Ok ⟨P,some l,nt,⟨w0,false⟩,cv⟩ assign [] (updMany ρ (params.toList.zip args)) (loopP nt ρ params assign body dk l .ready none::pre++R) (BodyR ⟨P,some l,nt,⟨w0,false⟩,cv⟩ l nt ρ params assign body dk Y φ pend post R)):
  VSpec P (.func (.yield l) #[] #[]) args (loopP nt ρ params assign body dk l .ready none::pre) Y φ (fun y=>.bool (pend y).isNone) (fun y=>loopP nt ρ params assign body dk l (if(pend y).isNone then .ready else .done) (pend y)::post y):=by
 intro w0 w R hs
 obtain⟨fn,tmps,hw,h1,h2,_⟩:=loopP.get hs
 have hrun:(callV (.func (.yield l) #[] #[]) args).run P w= .ok (.round l fn ((params.zip args.toArray).foldl (fun tmps (t,a)=>tmps.setIfInBounds t a) tmps) assign body) w:=by
  simp only[callV,Deferred.ofValue,invoke,Instr.yield,Sem.run_bind,Sem.run_pure,Result.andThen_ok,Array.empty_append,run_getLoop hw]
  rw[if_neg (by simp[hlen])]
  rfl
 unfold Runs
 rw[hrun]
 refine RoundIn.mono (R:=fun e w'=>∃ y,φ y∧e= .returned (.bool (pend y).isNone)∧Sats ⟨w0,false⟩ w' (loopP nt ρ params assign body dk l (if(pend y).isNone then .ready else .done) (pend y)::post y++R)) ?_ ?_
 ·refine roundIn_of_wpIn trivial ?_
  have ha:=fold_params (nt:=nt) (params.toList.zip args) tmps ρ h1 h2 (by
   intro x hx
   have:=List.all_eq_true.1 hps x.1 (List.of_mem_zip hx).1
   simpa using this)
  have e:(params.zip args.toArray).foldl (fun tmps (t,a)=>tmps.setIfInBounds t a) tmps=(params.toList.zip args).foldl (fun tmps x=>tmps.setIfInBounds x.1 x.2) tmps:=by
   rw[← Array.foldl_toList]
   simp[Array.toList_zip]
  rw[e]
  exact(unfoldOk (h w0 R)) _ w ha hs
 ·rintro e w' ⟨y,hy,rfl,hs'⟩
  exact⟨y,hy,rfl,hs'⟩
section rounds
variable{X:Cx}{l nt dk:Nat}{ρ ρ':Regs}{params:Array Tmp}{assign body:Code}{Y:Type}{φ:Y→Prop}{pend:Y→Option Code}{post:Y→List HProp}{R L L':List HProp}{ds:List Deferred}
theorem cont_round(hr:X.r=some l)(ht:Take L [loopP nt ρ params assign body dk l .ready none] L')(h:Ok X body ds ρ' (loopP nt ρ params assign body dk l .busy none::L') (FinR X l nt ρ params assign body dk Y φ pend post R)):
  Cont X (BodyR X l nt ρ params assign body dk Y φ pend post R) .normal ds ρ' L:=by
 refine foldCont fun a w ha hs=>?_
 obtain⟨fn,tmps,hw,h1,h2,h3⟩:=loopP.get (hs.take ht)
 have hb:=unfoldOk h _ _ ha (h3 .busy none)
 rw[hr]at hb
 exact⟨_,run_beginRound hw rfl,hb⟩
theorem endRound_of{w:World}(y:Y)(hy:φ y)(hs:Sats X.w0 w (loopP nt ρ params assign body dk l .busy none::L'))(hp:∀ h,SatL L' h→SatL (post y++R) h):
  ∃ v w',(Instr.endRound l (pend y)).run X.P w= .ok v w'∧∃ y,φ y∧(Ending.returned v= .returned (.bool (pend y).isNone))∧Sats X.w0 w' (loopP nt ρ params assign body dk l (if(pend y).isNone then .ready else .done) (pend y)::post y++R):=by
 obtain⟨fn,tmps,hw,h1,h2,h3⟩:=loopP.get hs
 exact⟨_,_,run_endRound (pend y) hw,y,hy,rfl,(h3 _ _).map fun _ k=>k.consMono hp⟩
theorem cont_round_end(y:Y)(ht:Take L [loopP nt ρ params assign body dk l .busy none] L')(hn:pend y=none)(hp:∀ h,SatL L' h→SatL (post y++R) h)(hy:φ y):
  Cont X (FinR X l nt ρ params assign body dk Y φ pend post R) .normal ds ρ' L:=by
 refine foldCont fun a w ha hs=>?_
 have:=endRound_of (X:=X) (pend:=pend) y hy (hs.take ht) hp
 rw[hn]at this
 exact this
theorem cont_round_exit{id:Nat}(y:Y)(ht:Take L [loopP nt ρ params assign body dk l .busy none] L')(hn:pend y=some (.exit id))(hp:∀ h,SatL L' h→SatL (post y++R) h)(hy:φ y):
  Cont X (FinR X l nt ρ params assign body dk Y φ pend post R) (.exit id) ds ρ' L:=by
 refine foldCont fun a w ha hs=>?_
 have:=endRound_of (X:=X) (pend:=pend) y hy (hs.take ht) hp
 rw[hn]at this
 exact this
theorem cont_round_ret(y:Y)(ht:Take L [loopP nt ρ params assign body dk l .busy none] L')(hn:pend y=some .ret)(hp:∀ h,SatL L' h→SatL (post y++R) h)(hy:φ y):
  Cont X (FinR X l nt ρ params assign body dk Y φ pend post R) .ret ds ρ' L:=by
 refine foldCont fun a w ha hs=>?_
 have:=endRound_of (X:=X) (pend:=pend) y hy (hs.take ht) hp
 rw[hn]at this
 exact this
theorem ok_rangeFunc{g:Operand}{Q:Exit→Act→World→Prop}{f:FuncId}[K:FnI X.P f]{cap:List Value}(hr:X.r=none)(hg:ev ρ g= .func (.func f) #[] cap.toArray)
  (h:∀ dk l,∃ (Z:Type) (ψ:Z→Prop) (ret:Z→Value) (pre R':List HProp) (postz:Z→List HProp),FSpecM X.w0.m X.P f (.func (.yield l) #[] #[]::cap) pre Z ψ ret postz∧
   (∀ h,SatL (loopP X.nt ρ params assign body dk l .ready none::marked dk::L) h→SatL (pre++R') h)∧
   ∀ z,ψ z→∃ st pe L',st≠.busy∧(∀ h,SatL (postz z++R') h→SatL (loopP X.nt ρ params assign body dk l st pe::L') h)∧
    match(generalizing:=false) pe with
    |none=>Cont X Q .normal (mark dk::ds) ρ L'
    |some c=>Ok X c (mark dk::ds) ρ L' Q):Ok X (.rangeFunc g params assign body) ds ρ L Q:=by
 refine foldOk fun a w ha hs=>?_
 refine wpIn_rangeFunc fun fn _=>?_
 obtain⟨Z,ψ,ret,pre,R',postz,hspec,hpre,hz⟩:=h w.heap.size (w.heap.size+1)
 have hround:(Fw X.r).round=none:=by rw[hr];rfl
 rw[hround]
 obtain⟨W1,hW1⟩:∃ W1,((w.alloc (.deferred (some []))).alloc (.loop {state:=.ready,pending:=none,fn,tmps:=a.tmps,params:=params,assign,body,defers:=w.heap.size}))=W1:=⟨_,rfl⟩
 refine⟨w.heap.size+1,[{target:=.collected w.heap.size,args:= #[]}],W1,{target:=.fn (.func f) cap.toArray,args:= #[.func (.yield (w.heap.size+1)) #[] #[]]},W1,f,#[.func (.yield (w.heap.size+1)) #[] #[]]++cap.toArray,W1,?_,?_,?_,?_,?_,?_⟩
 ·rw[← hW1];exact run_enterLoop_outer _ _ _ _ _
 ·have he:a.eval g= .func (.func f) #[] cap.toArray:=by rw[ha.eval];exact hg
  simp only[resolve,he]
  simp[go_sem]
 ·intro f' _;trivial
 ·simp only[invoke]
  exact K.call _ _
 ·intro h0;cases h0
 ·have hs1:=(hs.alloc (.deferred (some []))).alloc (.loop {state:=.ready,pending:=none,fn,tmps:=a.tmps,params:=params,assign,body,defers:=w.heap.size})
  have hsz:(w.alloc (.deferred (some []))).heap.size=w.heap.size+1:=by simp
  rw[hsz,hW1]at hs1
  have hs2:Sats X.w0 W1 (loopP X.nt ρ params assign body w.heap.size (w.heap.size+1) .ready none::marked w.heap.size::L):=
   hs1.map fun _ k=>k.headMono fun _ hp=>⟨fn,a.tmps,hp,ha.size,ha.get⟩
  have hc:=hspec X.w0.w _ R' (hs2.map hpre)
  have e:(#[.func (.yield (w.heap.size+1)) #[] #[]]++cap.toArray:Array Value)=(Value.func (.yield (w.heap.size+1)) #[] #[]::cap).toArray:=by simp
  rw[e]
  have hc':=(callsIn_Fw (r:=X.r) (n:=0-1)).2 hc
  refine CallsIn.mono hc' ?_
  rintro en w' ⟨z,hz1,rfl,hs3⟩
  obtain⟨st,pe,L',hst,hm,hk⟩:=hz z hz1
  obtain⟨fn',tmps',hw,h1,h2,h3⟩:=loopP.get (hs3.map hm)
  refine⟨pe,_,run_endLoop hw hst,?_⟩
  have hs4:=(h3 .exhausted pe).map fun _ k=>k.tail
  have ha':Agr X.nt ρ (mark w.heap.size::ds) {a with defers:=[{target:=.collected w.heap.size,args:= #[]}]++a.defers}:=⟨ha.size,ha.get,by simp[mark,ha.defers]⟩
  cases pe with
  |none=>exact unfoldCont hk _ _ ha' hs4
  |some c=>exact unfoldOk hk _ _ ha' hs4
end rounds
end Go.Fx
