/- Texts merged: FwFk FwFq FwFr FwFt. -/
import Derived.Test.YtgbmjoenbocfcaaGreatFwX
set_option linter.unusedSimpArgs false
set_option linter.unusedVariables false
namespace Go.Fx
open Go
section
variable{P:Program}{ops:Array Oper}{r:Option Nat}{kd:Nat→Nat}{nb:List Nat}{Tm:World→Prop}{N N':Act→World→Prop}
theorem OkT.append{R:List Nat}:∀ (l:List Nat) (S:World→Prop) (a:Act) (w:World),(∀ i∈l,kd i≠2)→OkT P ops kd nb Tm N' l S a w→(∀ a,N' a w→OkT P ops kd nb Tm N R S a w)→OkT P ops kd nb Tm N (l++R) S a w
 | [],S,a,w,_,h,k=>k a h
 |i::l,S,a,w,hq,h,k=>by
  obtain⟨o,hi,hd,h⟩:=h
  rcases h with⟨h2,_⟩|⟨v,hv,h⟩
  ·exact absurd h2 (hq i (List.mem_cons_self ..))
  ·exact⟨o,hi,hd,.inr ⟨v,hv,OkT.append l S _ _ (fun j hj=>hq j (List.mem_cons_of_mem _ hj)) h k⟩⟩
theorem OkT.extract{p:Nat}{kd':Nat→Nat}:∀ (l:List Nat) (S:World→Prop) (a:Act) (w:World),(∀ i∈l,i<p∧kd i≠2∧kd' i=kd i)→(∀ i<p,∀ o,ops[i]? =some o→o.guard=none)→OkT P (ops.extract 0 p) kd' nb Tm N l S a w→OkT P ops kd nb Tm N l S a w
 | [],S,a,w,_,_,h=>h
 |i::l,S,a,w,hq,hg,h=>by
  obtain⟨o,hi,hd,h⟩:=h
  obtain⟨h1,h2,h3⟩:=hq i (List.mem_cons_self ..)
  have hi':ops[i]? =some o:=by
   rw[Array.getElem?_extract]at hi
   split at hi
   ·simpa using hi
   ·cases hi
  have hgo:=hg i h1 o hi'
  have hwt:∀ y,Region.wanted o y=true:=fun y=>by unfold Region.wanted;rw[hgo]
  rcases h with⟨h4,_⟩|⟨v,hv,h⟩
  ·exact absurd (h3▸h4) h2
  ·refine⟨o,hi',hd,.inr ⟨v,?_,OkT.extract l S _ _ (fun j hj=>hq j (List.mem_cons_of_mem _ hj)) hg h⟩⟩
   unfold Quiet at hv ⊢
   rw[hwt,h3]at hv
   rw[hwt]
   exact hv
def regionOkTF(ops:Array Oper)(kd:Nat→Nat)(nb:List Nat)(T:Array Nat)(p:Nat):Bool:=
 Region.noSelect ops&&(List.range ops.size).all fun i=>
  (preds ops i).all (· <i)&&T.getD i 0==maskOf T (preds ops i)&&(List.range i).all fun j=>(T.getD i 0).testBit j||commPair ops kd nb j i||(j==p&&i==p+1)
theorem bit_listed{T:Array Nat}{listed:Array Bool}{j:Nat}(hok:∀ i,i<ops.size→(∀ m∈preds ops i,m<i)∧T.getD i 0=maskOf T (preds ops i))(hdown:∀ i,listed.getD i false=true→∀ m∈preds ops i,listed.getD m false=true):
  ∀ (n k:Nat),k≤n→k<ops.size→(∀ m∈preds ops k,listed.getD m false=true)→(T.getD k 0).testBit j=true→listed.getD j false=true:=by
 intro n
 induction n with
 |zero=>
  intro k hk hks hp hb
  obtain rfl:k=0:=by omega
  rw[(hok 0 hks).2]at hb
  rcases maskOf_spec T j _ 0 hb with hb|⟨m,hm,_⟩
  ·simp at hb
  ·exact absurd ((hok 0 hks).1 m hm) (by omega)
 |succ n ih=>
  intro k hk hks hp hb
  rw[(hok k hks).2]at hb
  rcases maskOf_spec T j _ 0 hb with hb|⟨m,hm,hb⟩
  ·simp at hb
  ·have hmk:=(hok k hks).1 m hm
   have hlm:=hp m hm
   rcases hb with rfl|hb
   ·exact hlm
   ·exact ih m (by omega) (by omega) (hdown m hlm) hb
end
section
variable{X:Cx}{ds:List Deferred}{ρ:Regs}{L:List HProp}{Q:Exit→Act→World→Prop}{ops:Array Oper}
def FrkQ(X:Cx)(ops:Array Oper)(nb:List Nat)(Q:Exit→Act→World→Prop)(p:Nat)(Ls:List HProp):Exit→Act→World→Prop:=fun _ a w=>
 OkT X.P ops (kdf X.cv ops) nb (fun w=>Sats X.w0 w []) (Q .normal) (p::(p+1)::List.range' (p+2) (ops.size-(p+2))) (fun w=>Sats X.w0 w Ls) a w∧
  OkT X.P ops (kdf X.cv ops) nb (fun w=>Sats X.w0 w []) (Q .normal) ((p+1)::p::List.range' (p+2) (ops.size-(p+2))) (fun w=>Sats X.w0 w Ls) a w
def forkOk(ops:Array Oper)(cv:List TypeId)(p:Nat):Bool:=
 Nat.blt (p+1) ops.size&&(List.range p).all (fun i=>kdf cv ops i != 2&&((ops[i]?).map (·.guard.isNone)).getD false)&&(List.range ops.size).all fun i=>Nat.ble i (p+1)||((Region.before ops).getD i 0).testBit p
end
end Go.Fx
namespace Go.Fx
open Go
section
variable{P:Program}{ops:Array Oper}{r:Option Nat}{kd:Nat→Nat}{nb:List Nat}{Tm:World→Prop}{N N':Act→World→Prop}
def regionOkTQ(ops:Array Oper)(kd:Nat→Nat)(nb:List Nat)(T:Array Nat)(p q:Nat):Bool:=
 Region.noSelect ops&&(List.range ops.size).all fun i=>
  (preds ops i).all (· <i)&&T.getD i 0==maskOf T (preds ops i)&&(List.range i).all fun j=>(T.getD i 0).testBit j||commPair ops kd nb j i||(j==p&&i==q)
theorem OkT.appendA{R:List Nat}:∀ (l:List Nat) (S:World→Prop) (a:Act) (w:World),(∀ i∈l,kd i=2→nb.contains i=true)→OkT P ops kd nb Tm N' l S a w→(∀ a w,N' a w→OkT P ops kd nb Tm N R S a w)→OkT P ops kd nb Tm N (l++R) S a w
 | [],S,a,w,_,h,k=>k a w h
 |i::l,S,a,w,hq,h,k=>by
  obtain⟨o,hi,hd,h⟩:=h
  have hq':∀ j∈l,kd j=2→nb.contains j=true:=fun j hj=>hq j (List.mem_cons_of_mem _ hj)
  rcases h with⟨h2,hw,h⟩|⟨v,hv,h⟩
  ·refine⟨o,hi,hd,.inl ⟨h2,hw,h.mono fun v w' ⟨S',hS,hS',hT',h'⟩=>?_⟩⟩
   rcases hS with hS|hS
   ·rw[hq i (List.mem_cons_self ..) h2]at hS;cases hS
   ·subst hS
    exact⟨_,.inr rfl,hS',hT',OkT.appendA l _ _ _ hq' h' k⟩
  ·exact⟨o,hi,hd,.inr ⟨v,hv,OkT.appendA l S _ _ hq' h k⟩⟩
end
section
variable{X:Cx}{ds:List Deferred}{ρ:Regs}{L:List HProp}{Q:Exit→Act→World→Prop}{ops:Array Oper}
def FrqQ(X:Cx)(ops:Array Oper)(nb:List Nat)(Q:Exit→Act→World→Prop)(p q:Nat)(Ls:List HProp):Exit→Act→World→Prop:=fun _ a w=>
 OkT X.P ops (kdf X.cv ops) nb (fun w=>Sats X.w0 w []) (Q .normal) (p::(List.range' (p+1) (q-(p+1))++q::List.range' (q+1) (ops.size-(q+1)))) (fun w=>Sats X.w0 w Ls) a w∧
  OkT X.P ops (kdf X.cv ops) nb (fun w=>Sats X.w0 w []) (Q .normal) (q::p::(List.range' (p+1) (q-(p+1))++List.range' (q+1) (ops.size-(q+1)))) (fun w=>Sats X.w0 w Ls) a w
def LateQ(X:Cx)(ops:Array Oper)(nb:List Nat)(Q:Exit→Act→World→Prop)(q:Nat)(Ls:List HProp):Exit→Act→World→Prop:=fun _ a w=>
 OkT X.P ops (kdf X.cv ops) nb (fun w=>Sats X.w0 w []) (Q .normal) (List.range' (q+1) (ops.size-(q+1))) (fun w=>Sats X.w0 w Ls) a w
def forkOkQ(ops:Array Oper)(cv:List TypeId)(p q:Nat):Bool:=
 Nat.blt q ops.size&&(List.range p).all (fun i=>kdf cv ops i != 2&&((ops[i]?).map (·.guard.isNone)).getD false)&&(List.range ops.size).all fun i=>Nat.ble i p||i==q||((Region.before ops).getD i 0).testBit p
end
end Go.Fx
namespace Go.Fx
open Go
section
variable{P:Program}{ops:Array Oper}{r:Option Nat}{kd:Nat→Nat}{nb:List Nat}{Tm:World→Prop}{N N':Act→World→Prop}
end
section
variable{X:Cx}{ds:List Deferred}{ρ:Regs}{L:List HProp}{Q:Exit→Act→World→Prop}{ops:Array Oper}
def FrqR(X:Cx)(ops:Array Oper)(nb:List Nat)(Q:Exit→Act→World→Prop)(p q:Nat)(Ls:List HProp):Exit→Act→World→Prop:=fun _ a w=>
 OkT X.P ops (kdf X.cv ops) nb (fun w=>Sats X.w0 w []) (Q .normal) (p::(List.range' (p+1) (q-(p+1))++q::List.range' (q+1) (ops.size-(q+1)))) (fun w=>Sats X.w0 w Ls) a w∧
  OkT X.P ops (kdf X.cv ops) nb (fun w=>Sats X.w0 w []) (Q .normal) (List.range' (p+1) (q-(p+1))++q::p::List.range' (q+1) (ops.size-(q+1))) (fun w=>Sats X.w0 w Ls) a w
def LateP(X:Cx)(ops:Array Oper)(nb:List Nat)(Q:Exit→Act→World→Prop)(p q:Nat)(Ls:List HProp):Exit→Act→World→Prop:=fun _ a w=>
 OkT X.P ops (kdf X.cv ops) nb (fun w=>Sats X.w0 w []) (Q .normal) (p::List.range' (q+1) (ops.size-(q+1))) (fun w=>Sats X.w0 w Ls) a w
def forkOkR(ops:Array Oper)(cv:List TypeId)(p q:Nat):Bool:=
 Nat.blt q ops.size&&(List.range q).all (fun i=>(i==p||kdf cv ops i != 2)&&((ops[i]?).map (·.guard.isNone)).getD false)&&((List.range q).all (fun i=>Nat.ble i p||((Region.before ops).getD q 0).testBit i)&&
  (List.range ops.size).all fun i=>Nat.ble i q||(((Region.before ops).getD i 0).testBit p||((Region.before ops).getD i 0).testBit q))
end
end Go.Fx
namespace Go.Fx
open Go
section
variable{P:Program}{ops:Array Oper}{r:Option Nat}{kd:Nat→Nat}{nb:List Nat}{Tm:World→Prop}{N N':Act→World→Prop}
def availB(kd:Nat→Nat)(T:Array Nat)(l:List Nat)(i:Nat):Bool:=kd i==2&&l.all fun j=>j==i||kd j != 2|| !(T.getD i 0).testBit j
def needL(T:Array Nat)(l:List Nat)(i:Nat):List Nat:=l.filter fun j=>(T.getD i 0).testBit j
def restL(T:Array Nat)(l:List Nat)(i:Nat):List Nat:=l.filter fun j=>j != i&& !(T.getD i 0).testBit j
def Node(P:Program)(ops:Array Oper)(kd:Nat→Nat)(nb:List Nat)(Tm:World→Prop)(N:Act→World→Prop)(T:Array Nat)(S:World→Prop):Nat→List Nat→Act→World→Prop
 |0,l,a,w=>OkT P ops kd nb Tm N l S a w
 |n+1,l,a,w=>∀ i∈l,availB kd T l i=true→OkT P ops kd nb Tm (Node P ops kd nb Tm N T S n (restL T l i)) (needL T l i++[i]) S a w
def regionOkN(ops:Array Oper)(kd:Nat→Nat)(nb:List Nat)(T:Array Nat):Bool:=
 Region.noSelect ops&&(List.range ops.size).all fun i=>(kd i != 2||nb.contains i)&&
  ((preds ops i).all (· <i)&&T.getD i 0==maskOf T (preds ops i)&&(List.range i).all fun j=>(T.getD i 0).testBit j||commPair ops kd nb j i||(kd j==2&&kd i==2))
theorem commPair_symm{j i:Nat}(h:commPair ops kd nb j i=true):commPair ops kd nb i j=true:=by
 unfold commPair at h ⊢
 cases h1:ops[j]? with
 |none=>rw[h1]at h;cases h
 |some oj=>
  cases h2:ops[i]? with
  |none=>rw[h1,h2]at h;cases h
  |some oi=>
   rw[h1,h2]at h
   dsimp only at h ⊢
   simp only[Bool.and_eq_true,Bool.or_eq_true,beq_iff_eq]at h ⊢
   obtain⟨⟨a1,a2⟩,h⟩:=h
   refine⟨⟨a2,a1⟩,?_⟩
   rcases h with(((h|h)|h)|h)|h
   ·exact .inl (.inl (.inl (.inr h)))
   ·exact .inl (.inl (.inl (.inl h)))
   ·exact .inl (.inl (.inr ⟨h.2,h.1⟩))
   ·exact .inr ⟨⟨h.1.2,h.1.1⟩,h.2⟩
   ·exact .inl (.inr ⟨⟨h.1.2,h.1.1⟩,h.2⟩)
theorem OkT.keepS{S:World→Prop}:∀ (l:List Nat) (a:Act) (w:World),(∀ i∈l,kd i=2→nb.contains i=true)→S w→OkT P ops kd nb Tm N l S a w→OkT P ops kd nb Tm (fun a w=>S w∧N a w) l S a w
 | [],a,w,_,hS,h=>⟨hS,h⟩
 |i::l,a,w,hq,hS,h=>by
  obtain⟨o,hi,hd,h⟩:=h
  have hq':∀ j∈l,kd j=2→nb.contains j=true:=fun j hj=>hq j (List.mem_cons_of_mem _ hj)
  rcases h with⟨h2,hw,h⟩|⟨v,hv,h⟩
  ·refine⟨o,hi,hd,.inl ⟨h2,hw,h.mono fun v w' ⟨S',hS1,hS',hT',h'⟩=>?_⟩⟩
   rcases hS1 with hS1|hS1
   ·rw[hq i (List.mem_cons_self ..) h2]at hS1;cases hS1
   ·subst hS1
    exact⟨_,.inr rfl,hS',hT',OkT.keepS l _ _ hq' hS' h'⟩
  ·exact⟨o,hi,hd,.inr ⟨v,hv,OkT.keepS l _ _ hq' hS h⟩⟩
theorem filter_ne_split{l n1 n2:List Nat}{i:Nat}(h:l=n1++i::n2)(hn:l.Nodup):l.filter (· != i)=n1++n2:=by
 subst h
 rw[List.nodup_append]at hn
 obtain⟨_,h2,h3⟩:=hn
 rw[List.nodup_cons]at h2
 rw[List.filter_append,List.filter_cons]
 simp only[bne_self_eq_false,Bool.false_eq_true,if_false]
 congr 1
 ·rw[List.filter_eq_self]
  intro y hy
  have:y≠i:=h3 y hy i (List.mem_cons_self ..)
  simpa using this
 ·rw[List.filter_eq_self]
  intro y hy
  have:y≠i:=fun e=>h2.1 (e▸hy)
  simpa using this
theorem count_rest{T:Array Nat}{l:List Nat}{c n:Nat}(hn:l.Nodup)(hc:c∈l)(hav:availB kd T l c=true)(h:(l.filter fun j=>kd j==2).length=n+1):((restL T l c).filter fun j=>kd j==2).length=n:=by
 simp only[availB,Bool.and_eq_true,beq_iff_eq,List.all_eq_true,Bool.or_eq_true,bne_iff_ne,Bool.not_eq_true']at hav
 have e:(restL T l c).filter (fun j=>kd j==2)=(l.filter fun j=>kd j==2).filter (· != c):=by
  unfold restL
  rw[List.filter_filter,List.filter_filter]
  apply List.filter_congr
  intro j hj
  rcases hav.2 j hj with(h1|h1)|h1
  ·simp[h1]
  ·have h1':(kd j==2)=false:=by simpa using h1
   simp[h1']
  ·simp only[h1,Bool.not_false,Bool.and_true]
   exact Bool.and_comm _ _
 have hm:c∈l.filter fun j=>kd j==2:=List.mem_filter.2 ⟨hc,by simpa using hav.1⟩
 obtain⟨n1,n2,he⟩:=List.append_of_mem hm
 rw[e,filter_ne_split he (hn.filter _)]
 rw[he]at h
 simp at h ⊢
 omega
theorem exists_avail{T:Array Nat}{l:List Nat}{n:Nat}(hs:l.Pairwise (· < ·))(hT:∀ j∈l,∀ k,(T.getD j 0).testBit k=true→k<j)(h:(l.filter fun j=>kd j==2).length=n+1):∃ c∈l,availB kd T l c=true:=by
 cases he:l.filter fun j=>kd j==2 with
 |nil=>rw[he]at h;cases h
 |cons c rest=>
  have hm:c∈l.filter fun j=>kd j==2:=by rw[he];exact List.mem_cons_self ..
  obtain⟨hc,hk⟩:=List.mem_filter.1 hm
  refine⟨c,hc,?_⟩
  simp only[availB,Bool.and_eq_true,List.all_eq_true,Bool.or_eq_true,bne_iff_ne,Bool.not_eq_true',beq_iff_eq]
  refine⟨by simpa using hk,fun j hj=>?_⟩
  by_cases h1:j=c
  ·exact .inl (.inl h1)
  by_cases h2:kd j=2
  ·refine .inr ?_
   have hs2:(c::rest).Pairwise (· < ·):=he▸hs.filter _
   have hjm:j∈c::rest:=he▸List.mem_filter.2 ⟨hj,by simpa using h2⟩
   have hcj:c<j:=by
    rcases List.mem_cons.1 hjm with h3|h3
    ·exact absurd h3 h1
    ·exact(List.pairwise_cons.1 hs2).1 j h3
   cases hb:(T.getD c 0).testBit j with
   |false=>rfl
   |true=>have:=hT c hc j hb;omega
  ·exact .inl (.inr h2)
theorem Node.takeQ{T:Array Nat}{S:World→Prop}{i:Nat}(hsel:∀ (j:Nat) (o:Oper) cs b,ops[j]? =some o→o.op≠.select cs b)(hST:∀ w,S w→Tm w)(hki:kd i≠2):
  ∀ (n:Nat) (l:List Nat) (a:Act) (w:World),l.Pairwise (· < ·)→i∈l→S w→(∀ j∈l,kd j=2→nb.contains j=true)→(∀ j∈l,∀ k,(T.getD j 0).testBit k=true→k<j)→
   (∀ j∈l,j≠i→(T.getD j 0).testBit i=true∨commPair ops kd nb j i=true)→(∀ j∈l,(T.getD i 0).testBit j=false)→(∀ c∈l,∀ j∈l,(T.getD c 0).testBit j=true→(T.getD j 0).testBit i=true→(T.getD c 0).testBit i=true)→((l.filter fun j=>kd j==2).length=n)→
   Node P ops kd nb Tm N T S n l a w→∃ oi,ops[i]? =some oi∧(∀ c,oi.op≠.defer c)∧∃ v,Quiet P ops Tm S (kd i) oi v a∧Node P ops kd nb Tm N T S n (l.filter (· != i)) (a.put oi.dst v) w:=by
 intro n
 induction n with
 |zero=>
  intro l a w hs hi hS hnb hT hcm hrd htr hcnt h
  obtain⟨l1,l2,he⟩:=List.append_of_mem hi
  have hnd:l.Nodup:=hs.imp (fun h=>by omega)
  have hf:=filter_ne_split he hnd
  subst he
  unfold Node at h
  obtain⟨oi,hio,hdi,h⟩:=OkT.take hsel l1 S a w hST hS (fun j hj=>by
   have hji:j<i:=(List.pairwise_append.1 hs).2.2 j hj i (List.mem_cons_self ..)
   have hjl:j∈l1++i::l2:=List.mem_append_left _ hj
   rcases hcm j hjl (by omega)with h1|h1
   ·have:=hT j hjl i h1;omega
   ·exact h1) h
  rcases h with⟨h2,_⟩|⟨v,hq,h⟩
  ·exact absurd h2 hki
  ·refine⟨oi,hio,hdi,v,hq,?_⟩
   rw[hf]
   unfold Node
   exact h
 |succ n ih=>
  intro l a w hs hi hS hnb hT hcm hrd htr hcnt h
  have hnd:l.Nodup:=hs.imp (fun h=>by omega)
  have key:∀ c∈l,availB kd T l c=true→∃ oi,ops[i]? =some oi∧(∀ c,oi.op≠.defer c)∧∃ v,Quiet P ops Tm S (kd i) oi v a∧
    OkT P ops kd nb Tm (Node P ops kd nb Tm N T S n (restL T (l.filter (· != i)) c)) (needL T (l.filter (· != i)) c++[c]) S (a.put oi.dst v) w:=by
   intro c hc hav
   have hkc:kd c=2:=by simp only[availB,Bool.and_eq_true,beq_iff_eq]at hav;exact hav.1
   have hci:c≠i:=fun e=>hki (e▸hkc)
   unfold Node at h
   have hc2:=h c hc hav
   cases hb:(T.getD c 0).testBit i with
   |true=>
    have hin:i∈needL T l c:=List.mem_filter.2 ⟨hi,hb⟩
    obtain⟨n1,n2,he⟩:=List.append_of_mem hin
    have hsn:(needL T l c).Pairwise (· < ·):=hs.filter _
    have e1:needL T (l.filter (· != i)) c=n1++n2:=by
     rw[← filter_ne_split he (hnd.filter _)]
     unfold needL
     rw[List.filter_filter,List.filter_filter]
     apply List.filter_congr
     intro j hj
     exact Bool.and_comm _ _
    have e2:restL T (l.filter (· != i)) c=restL T l c:=by
     unfold restL
     rw[List.filter_filter]
     apply List.filter_congr
     intro j hj
     by_cases hji:j=i
     ·subst hji;simp only[hb,Bool.not_true,Bool.and_false,Bool.false_and]
     ·simp[hji]
    rw[e1,e2]
    rw[he]at hc2 hsn
    rw[List.append_assoc,List.cons_append]at hc2
    obtain⟨oi,hio,hdi,h3⟩:=OkT.take hsel n1 S a w hST hS (fun j hj=>by
     have hji:j<i:=(List.pairwise_append.1 hsn).2.2 j hj i (List.mem_cons_self ..)
     have hjl:j∈l:=(List.mem_filter.1 (show j∈needL T l c from he▸List.mem_append_left _ hj)).1
     rcases hcm j hjl (by omega)with h1|h1
     ·have:=hT j hjl i h1;omega
     ·exact h1) hc2
    rcases h3 with⟨h2,_⟩|⟨v,hq,h3⟩
    ·exact absurd h2 hki
    ·exact⟨oi,hio,hdi,v,hq,by rw[List.append_assoc];exact h3⟩
   |false=>
    have hnr:∀ j∈restL T l c,j∈l:=fun j hj=>(List.mem_filter.1 hj).1
    have hir:i∈restL T l c:=List.mem_filter.2 ⟨hi,by show(i != c&& !(T.getD c 0).testBit i)=true;rw[hb];simpa using Ne.symm hci⟩
    have e1:needL T (l.filter (· != i)) c=needL T l c:=by
     unfold needL
     rw[List.filter_filter]
     apply List.filter_congr
     intro j hj
     by_cases hji:j=i
     ·subst hji;simp only[hb,Bool.false_and]
     ·simp[hji]
    have e2:restL T (l.filter (· != i)) c=(restL T l c).filter (· != i):=by
     unfold restL
     rw[List.filter_filter,List.filter_filter]
     apply List.filter_congr
     intro j hj
     exact Bool.and_comm _ _
    rw[e1,e2]
    have hnbn:∀ j∈needL T l c++[c],kd j=2→nb.contains j=true:=fun j hj hk=>by
     rcases List.mem_append.1 hj with hj|hj
     ·exact hnb j (List.mem_filter.1 hj).1 hk
     ·rw[List.mem_singleton]at hj;subst hj;exact hnb _ hc hk
    have h3:=OkT.keepS _ _ _ hnbn hS hc2
    have h4:=OkT.appendA (R:=[i]) (N:=Node P ops kd nb Tm N T S n ((restL T l c).filter (· != i))) _ S a w hnbn h3 (fun a' w' ⟨hS',hN⟩=>by
     obtain⟨oi,hio,hdi,v,hq,h5⟩:=ih (restL T l c) a' w' (hs.filter _) hir hS' (fun j hj=>hnb j (hnr j hj)) (fun j hj=>hT j (hnr j hj)) (fun j hj=>hcm j (hnr j hj)) (fun j hj=>hrd j (hnr j hj)) (fun c hc j hj=>htr c (hnr c hc) j (hnr j hj)) (count_rest hnd hc hav hcnt) hN
     exact⟨oi,hio,hdi,.inr ⟨v,hq,h5⟩⟩)
    obtain⟨oi,hio,hdi,h5⟩:=OkT.take hsel (needL T l c++[c]) S a w hST hS (fun j hj=>by
     have hjl:j∈l:=by
      rcases List.mem_append.1 hj with hj|hj
      ·exact(List.mem_filter.1 hj).1
      ·rw[List.mem_singleton]at hj;subst hj;exact hc
     have hji:j≠i:=by
      rcases List.mem_append.1 hj with hj|hj
      ·intro e
       subst e
       have:=(List.mem_filter.1 hj).2
       rw[hb]at this;cases this
      ·rw[List.mem_singleton]at hj;subst hj;exact hci
     rcases hcm j hjl hji with h1|h1
     ·rcases List.mem_append.1 hj with hj|hj
      ·exfalso
       have h7:=htr c hc j hjl (List.mem_filter.1 hj).2 h1
       rw[hb]at h7;cases h7
      ·rw[List.mem_singleton]at hj;subst hj;rw[hb]at h1;cases h1
     ·exact h1) h4
    rcases h5 with⟨h2,_⟩|⟨v,hq,h5⟩
    ·exact absurd h2 hki
    ·exact⟨oi,hio,hdi,v,hq,by rw[List.append_nil]at h5;exact h5⟩
  obtain⟨c0,hc0,hav0⟩:=exists_avail hs hT hcnt
  obtain⟨oi,hio,hdi,v,hq,_⟩:=key c0 hc0 hav0
  refine⟨oi,hio,hdi,v,hq,?_⟩
  unfold Node
  intro c hc hav
  have hcl:c∈l:=(List.mem_filter.1 hc).1
  have hav':availB kd T l c=true:=by
   simp only[availB,Bool.and_eq_true,beq_iff_eq,List.all_eq_true,Bool.or_eq_true,bne_iff_ne,Bool.not_eq_true']at hav ⊢
   refine⟨hav.1,fun j hj=>?_⟩
   by_cases hji:j=i
   ·subst hji;exact .inl (.inr hki)
   ·exact hav.2 j (List.mem_filter.2 ⟨hj,by simpa using hji⟩)
  obtain⟨oi',hio',hdi',v',hq',h6⟩:=key c hcl hav'
  rw[hio]at hio'
  cases hio'
  have:=hq.same hq' hST hS
  subst this
  exact h6
def transB(ops:Array Oper)(T:Array Nat):Bool:=
 (List.range ops.size).all fun c=>(List.range c).all fun j=> !(T.getD c 0).testBit j||(List.range j).all fun i=> !(T.getD j 0).testBit i||(T.getD c 0).testBit i
theorem OkT.any_goN{Q:Exit→Act→World→Prop}(hN:∀ a w,N a w→Q .normal a w){T:Array Nat}{S:World→Prop}(hST:∀ w,S w→Tm w)(hok:regionOkN ops kd nb T=true)(htr:transB ops T=true):
  ∀ (fuel n:Nat) (listed:Array Bool) (a:Act) (w:World),listed.size=ops.size→(rem ops listed).length≤fuel→
   (∀ i,listed.getD i false=true→∀ m∈preds ops i,listed.getD m false=true)→S w→(((rem ops listed).filter fun j=>kd j==2).length=n)→Node P ops kd nb Tm N T S n (rem ops listed) a w→Go.wpAnyIn (Fw r) 0 P .any ops Q fuel listed a w:=by
 simp only[regionOkN,Bool.and_eq_true,List.all_eq_true,List.mem_range]at hok
 obtain⟨hsel,hok⟩:=hok
 have hokT:∀ i,i<ops.size→(∀ m∈preds ops i,m<i)∧T.getD i 0=maskOf T (preds ops i):=fun i hi=>⟨fun m hm=>by simpa using(hok i hi).2.1.1 m hm,by simpa using(hok i hi).2.1.2⟩
 have hlt:∀ n j,j≤n→j<ops.size→∀ k,(T.getD j 0).testBit k=true→k<j:=by
  intro n
  induction n with
  |zero=>
   intro j hj hjs k hb
   obtain rfl:j=0:=by omega
   rw[(hokT 0 hjs).2]at hb
   rcases maskOf_spec T k _ 0 hb with hb|⟨m,hm,_⟩
   ·simp at hb
   ·have:=(hokT 0 hjs).1 m hm;omega
  |succ n ihn=>
   intro j hj hjs k hb
   rw[(hokT j hjs).2]at hb
   rcases maskOf_spec T k _ 0 hb with hb|⟨m,hm,hb⟩
   ·simp at hb
   ·have hmj:=(hokT j hjs).1 m hm
    rcases hb with rfl|hb
    ·exact hmj
    ·have:=ihn m (by omega) (by omega) k hb;omega
 have hT1:∀ j,j<ops.size→∀ k,(T.getD j 0).testBit k=true→k<j:=fun j hj k hb=>hlt j j (Nat.le_refl _) hj k hb
 have hnone:∀ listed:Array Bool,Region.ready .any ops listed=[]→(∀ i,listed.getD i false=true→∀ m∈preds ops i,listed.getD m false=true)→listed.size=ops.size→rem ops listed=[]:=by
  intro listed hr _ hsz
  cases hrem:rem ops listed with
  |nil=>rfl
  |cons x xs=>
   exfalso
   have hall:∀ n i,i≤n→i<ops.size→listed.getD i true=true:=by
    intro n
    induction n with
    |zero=>
     intro i h0 hi
     obtain rfl:i=0:=by omega
     cases h:listed.getD 0 true with
     |true=>rfl
     |false=>
      have:0∈Region.ready .any ops listed:=ready_preds.2 ⟨hi,h,fun m hm=>by
       have:=(hokT 0 hi).1
       have:=this m hm
       simp at this⟩
      rw[hr]at this;cases this
    |succ n ih=>
     intro i h0 hi
     rcases Nat.lt_or_ge n i with hlt|hge
     ·obtain rfl:i=n+1:=by omega
      cases h:listed.getD (n+1) true with
      |true=>rfl
      |false=>
       have:n+1∈Region.ready .any ops listed:=ready_preds.2 ⟨hi,h,fun m hm=>by
        have h1:=(hokT (n+1) hi).1
        have h2:m<n+1:=h1 m hm
        have h3:=ih m (by omega) (by omega)
        have hms:m<listed.size:=by omega
        simp[hms]at h3 ⊢
        exact h3⟩
       rw[hr]at this;cases this
     ·exact ih i hge hi
   have hx:x∈rem ops listed:=by rw[hrem];exact List.mem_cons_self ..
   simp only[rem,List.mem_filter,List.mem_range,Bool.not_eq_true']at hx
   have:=hall x x (Nat.le_refl _) hx.1
   rw[hx.2]at this;cases this
 intro fuel
 induction fuel with
 |zero=>
  intro n listed a w hsz hlen hdown hS hcnt h
  have hnil:rem ops listed=[]:=List.length_eq_zero_iff.1 (by omega)
  rw[hnil]at h hcnt
  obtain rfl:n=0:=by simpa using hcnt.symm
  unfold Node at h
  refine⟨?_,hN _ _ h⟩
  cases hr:Region.ready .any ops listed with
  |nil=>rfl
  |cons x xs=>
   have hx:x∈Region.ready .any ops listed:=by rw[hr];exact List.mem_cons_self ..
   obtain⟨h1,h2,_⟩:=ready_preds.1 hx
   have:x∈rem ops listed:=by simp only[rem,List.mem_filter,List.mem_range,Bool.not_eq_true'];exact⟨h1,h2⟩
   rw[hnil]at this;cases this
 |succ fuel ih=>
  intro n listed a w hsz hlen hdown hS hcnt h
  refine⟨fun hr=>?_,fun i hi=>?_⟩
  ·rw[hnone listed hr hdown hsz]at h hcnt
   obtain rfl:n=0:=by simpa using hcnt.symm
   unfold Node at h
   exact hN _ _ h
  ·have hmemr:∀ x,x∈rem ops listed↔x<ops.size∧listed.getD x true=false:=fun x=>by simp[rem]
   have unl:∀ x,x<ops.size→listed.getD x true=false→listed.getD x false=false:=fun x hx h=>by
    have:x<listed.size:=by omega
    simp[this]at h ⊢;exact h
   obtain⟨h1,h2,h3⟩:=ready_preds.1 hi
   have hbit:∀ j,(T.getD i 0).testBit j=true→listed.getD j false=true:=fun j hb=>bit_listed hokT hdown i i (Nat.le_refl _) h1 h3 hb
   have hmem:i∈rem ops listed:=(hmemr i).2 ⟨h1,h2⟩
   have hls:i<listed.size:=by omega
   have hdown':∀ k,(listed.setIfInBounds i true).getD k false=true→∀ m∈preds ops k,(listed.setIfInBounds i true).getD m false=true:=by
    intro k hk m hm
    by_cases hki:k=i
    ·subst hki;exact getD_set_true (h3 m hm)
    ·rw[getD_set_ne false (Ne.symm hki)]at hk
     exact getD_set_true (hdown k hk m hm)
   have hrem:rem ops (listed.setIfInBounds i true)=(rem ops listed).filter (· != i):=by
    unfold rem
    rw[List.filter_filter]
    apply List.filter_congr
    intro y hy
    by_cases hyi:y=i
    ·subst hyi;simp[hls]
    ·rw[getD_set_ne true (Ne.symm hyi)];simp[hyi]
   have hsorted:(rem ops listed).Pairwise (· < ·):=List.Pairwise.filter _ List.pairwise_lt_range
   have hnd:(rem ops listed).Nodup:=hsorted.imp (fun h=>by omega)
   have hrd:∀ j∈rem ops listed,(T.getD i 0).testBit j=false:=fun j hj=>by
    cases hb:(T.getD i 0).testBit j with
    |false=>rfl
    |true=>
     have h4:=hbit j hb
     obtain⟨h5,h6⟩:=(hmemr j).1 hj
     rw[unl j h5 h6]at h4;cases h4
   have hnb:∀ j∈rem ops listed,kd j=2→nb.contains j=true:=fun j hj hk=>by
    have:=(hok j ((hmemr j).1 hj).1).1
    simpa [hk]using this
   obtain⟨n1,n2,he⟩:=List.append_of_mem hmem
   have hlen':((rem ops listed).filter (· != i)).length≤fuel:=by
    rw[filter_ne_split he hnd]
    rw[he]at hlen
    simp at hlen ⊢;omega
   by_cases hk:kd i=2
   ·cases n with
    |zero=>
     exfalso
     have:i∈(rem ops listed).filter fun j=>kd j==2:=List.mem_filter.2 ⟨hmem,by simpa using hk⟩
     rw[List.length_eq_zero_iff.1 hcnt]at this;cases this
    |succ n=>
     have hav:availB kd T (rem ops listed) i=true:=by
      simp only[availB,Bool.and_eq_true,List.all_eq_true,Bool.or_eq_true,bne_iff_ne,Bool.not_eq_true',beq_iff_eq]
      exact⟨hk,fun j hj=>.inr (hrd j hj)⟩
     have hcn:=count_rest hnd hmem hav hcnt
     unfold Node at h
     have h4:=h i hmem hav
     have e1:needL T (rem ops listed) i=[]:=by
      unfold needL
      rw[List.filter_eq_nil_iff]
      intro j hj
      rw[hrd j hj];simp
     have e2:restL T (rem ops listed) i=(rem ops listed).filter (· != i):=by
      unfold restL
      apply List.filter_congr
      intro j hj
      rw[hrd j hj];simp
     rw[e1,e2,List.nil_append]at h4
     rw[e2]at hcn
     obtain⟨oi,hio,hdi,h4⟩:=h4
     have hnext:∀ a' w',S w'→Node P ops kd nb Tm N T S n ((rem ops listed).filter (· != i)) a' w'→Go.wpAnyIn (Fw r) 0 P .any ops Q fuel (listed.setIfInBounds i true) a' w':=fun a' w' hS' h'=>
      ih n _ a' w' (by simpa using hsz) (by rw[hrem];exact hlen') hdown' hS' (by rw[hrem];exact hcn) (by rw[hrem];exact h')
     rcases h4 with⟨_,hw,h4⟩|⟨v,hq,h4⟩
     ·refine OpVal.wpOpIn hio hdi hw (h4.mono fun v w' ⟨S',hS1,hS',hT',h'⟩=>?_)
      rcases hS1 with hS1|hS1
      ·rw[hnb i hmem hk]at hS1;cases hS1
      ·subst hS1
       exact hnext _ _ hS' h'
     ·cases hw:Region.wanted oi (yielded ops a.tmps)with
      |true=>
       refine OpVal.wpOpIn hio hdi hw ?_
       unfold OpVal
       rw[hq.run hST hS hw]
       exact hnext _ _ hS h4
      |false=>
       unfold Go.wpOpIn
       simp only[hio,hw,Bool.false_eq_true,if_false]
       rcases hq with⟨h1,_⟩|⟨_,rfl⟩
       ·rw[hw]at h1;cases h1
       ·exact⟨fun _ _=>trivial,hnext _ _ hS h4⟩
   ·have hcm:∀ j∈rem ops listed,j≠i→(T.getD j 0).testBit i=true∨commPair ops kd nb j i=true:=fun j hj hne=>by
     have hjs:=((hmemr j).1 hj).1
     rcases Nat.lt_or_gt_of_ne hne with hji|hji
     ·have h5:=(hok i h1).2.2 j hji
      simp only[Bool.or_eq_true,Bool.and_eq_true,beq_iff_eq]at h5
      rcases h5 with(h5|h5)|h5
      ·rw[hrd j hj]at h5;cases h5
      ·exact .inr h5
      ·exact absurd h5.2 hk
     ·have h5:=(hok j hjs).2.2 i hji
      simp only[Bool.or_eq_true,Bool.and_eq_true,beq_iff_eq]at h5
      rcases h5 with(h5|h5)|h5
      ·exact .inl h5
      ·exact .inr (commPair_symm h5)
      ·exact absurd h5.1 hk
    have htr':∀ c∈rem ops listed,∀ j∈rem ops listed,(T.getD c 0).testBit j=true→(T.getD j 0).testBit i=true→(T.getD c 0).testBit i=true:=fun c hc j hj hcj hji=>by
     have hcs:=((hmemr c).1 hc).1
     have hjs:=((hmemr j).1 hj).1
     have q1:=hT1 c hcs j hcj
     have q2:=hT1 j hjs i hji
     simp only[transB,List.all_eq_true,List.mem_range,Bool.or_eq_true,Bool.not_eq_true']at htr
     rcases htr c hcs j q1 with h5|h5
     ·rw[hcj]at h5;cases h5
     ·rcases h5 i q2 with h6|h6
      ·rw[hji]at h6;cases h6
      ·exact h6
    obtain⟨oi,hio,hdi,v,hq,h4⟩:=Node.takeQ (Region.noSelect_spec hsel) hST hk n _ a w hsorted hmem hS hnb (fun j hj=>hT1 j ((hmemr j).1 hj).1) hcm hrd htr' hcnt h
    have hcn:(((rem ops listed).filter (· != i)).filter fun j=>kd j==2).length=n:=by
     rw[← hcnt,List.filter_filter]
     congr 1
     apply List.filter_congr
     intro j hj
     by_cases hji:j=i
     ·subst hji;simp[hk]
     ·simp[hji]
    have hnext:Go.wpAnyIn (Fw r) 0 P .any ops Q fuel (listed.setIfInBounds i true) (a.put oi.dst v) w:=
     ih n _ _ w (by simpa using hsz) (by rw[hrem];exact hlen') hdown' hS (by rw[hrem];exact hcn) (by rw[hrem];exact h4)
    cases hw:Region.wanted oi (yielded ops a.tmps)with
    |true=>
     refine OpVal.wpOpIn hio hdi hw ?_
     unfold OpVal
     rw[hq.run hST hS hw]
     exact hnext
    |false=>
     unfold Go.wpOpIn
     simp only[hio,hw,Bool.false_eq_true,if_false]
     rcases hq with⟨h1,_⟩|⟨_,rfl⟩
     ·rw[hw]at h1;cases h1
     ·exact⟨fun _ _=>trivial,hnext⟩
theorem OkT.relabel{S:World→Prop}{ops':Array Oper}{kd':Nat→Nat}{nb':List Nat}:∀ (l:List Nat) (k:Nat) (a:Act) (w:World),(∀ t x,l[t]? =some x→(∃ o,ops[x]? =some o∧ops'[k+t]? =some o∧o.guard=none)∧kd' (k+t)=kd x∧nb'.contains (k+t)=true)→
  OkT P ops' kd' nb' Tm N (List.range' k l.length) S a w→OkT P ops kd nb Tm N l S a w
 | [],_,a,w,_,h=>h
 |x::l,k,a,w,hl,h=>by
  rw[List.length_cons,List.range'_succ]at h
  obtain⟨o',hi,hd,h⟩:=h
  obtain⟨⟨o,ho,ho',hg⟩,hk,hn⟩:=hl 0 x rfl
  rw[Nat.add_zero]at ho' hk hn
  rw[ho']at hi
  have eo:o=o':=Option.some.inj hi
  subst eo
  have hwt:∀ y,Region.wanted o y=true:=fun y=>by unfold Region.wanted;rw[hg]
  have hl':∀ t y,l[t]? =some y→(∃ o,ops[y]? =some o∧ops'[k+1+t]? =some o∧o.guard=none)∧kd' (k+1+t)=kd y∧nb'.contains (k+1+t)=true:=fun t y ht=>by
   have:=hl (t+1) y (by simpa using ht)
   rw[show k+1+t=k+(t+1)by omega]
   exact this
  rcases h with⟨h4,_,h⟩|⟨v,hv,h⟩
  ·refine⟨o,ho,hd,.inl ⟨hk▸h4,hwt _,h.mono fun v w' ⟨S',hS1,hS',hT',h'⟩=>?_⟩⟩
   rcases hS1 with hS1|hS1
   ·rw[hn]at hS1;cases hS1
   ·subst hS1
    exact⟨_,.inr rfl,hS',hT',OkT.relabel l (k+1) _ _ hl' h'⟩
  ·refine⟨o,ho,hd,.inr ⟨v,?_,OkT.relabel l (k+1) _ _ hl' h⟩⟩
   unfold Quiet at hv ⊢
   rw[hwt,hk]at hv
   rw[hwt]
   exact hv
end
section
variable{X:Cx}{ds:List Deferred}{ρ:Regs}{L:List HProp}{Q:Exit→Act→World→Prop}{ops:Array Oper}
def subOps(ops:Array Oper)(l:List Nat):Array Oper:=(l.map fun i=>ops.getD i ⟨none,.move (.tmp 0),0, "",#[],none⟩).toArray
def NodeX(X:Cx)(ops:Array Oper)(nb:List Nat)(Q:Exit→Act→World→Prop)(Ls:List HProp)(n:Nat)(l:List Nat):Exit→Act→World→Prop:=fun _ a w=>
 Node X.P ops (kdf X.cv ops) nb (fun w=>Sats X.w0 w []) (Q .normal) (Region.before ops) (fun w=>Sats X.w0 w Ls) n l a w
def plainB(ops:Array Oper)(l:List Nat):Bool:=l.all fun j=>Nat.blt j ops.size&&((ops[j]?).map (·.guard.isNone)).getD false
theorem opsL_sub{nb:List Nat}{Ls:List HProp}{N:Act→World→Prop}{l:List Nat}{os:List Oper}{m:Nat}(hm:l.length=m)(hpl:plainB ops l=true)(hos:(subOps ops l).toList=os)
  (h:OpsL X (subOps ops l) ⟨List.range m,[],[]⟩ N 0 os Ls ds ρ L){a:Act}{w:World}(ha:Agr X.nt ρ ds a)(hs:Sats X.w0 w L):OkT X.P ops (kdf X.cv ops) nb (fun w=>Sats X.w0 w []) N l (fun w=>Sats X.w0 w Ls) a w:=by
 subst hm
 simp only[plainB,List.all_eq_true,Bool.and_eq_true]at hpl
 unfold OpsL at h
 have h:=h (by rw[hos];rfl) a w ha hs
 rw[kdS_nil]at h
 have hlen:os.length=l.length:=by rw[← hos];simp[subOps]
 rw[hlen]at h
 refine OkT.relabel (ops':=subOps ops l) (kd':=kdf X.cv (subOps ops l)) (nb':=List.range l.length) l 0 a w (fun t x ht=>?_) h
 obtain⟨htl,hx⟩:=List.getElem?_eq_some_iff.1 ht
 have hp:=hpl x (hx▸List.getElem_mem htl)
 have hxs:x<ops.size:=by simpa using hp.1
 have hso:(subOps ops l)[0+t]? =some ops[x]:=by
  rw[Nat.zero_add]
  simp[subOps,ht,hxs]
 have hox:ops[x]? =some ops[x]:=Array.getElem?_eq_getElem hxs
 refine⟨⟨ops[x],hox,hso,?_⟩,?_,?_⟩
 ·have:=hp.2
  rw[hox]at this
  simpa using this
 ·simp only[kdf,hso,hox]
 ·simpa using htl
def nodeB(ops:Array Oper)(cv:List TypeId)(l:List Nat)(c:List (Nat×List Nat×List Nat)):Bool:=
 (l.all fun i=> !availB (kdf cv ops) (Region.before ops) l i||c.any fun x=>x.1==i&&(x.2.1==needL (Region.before ops) l i++[i]&&x.2.2==restL (Region.before ops) l i))&&c.all fun x=>plainB ops x.2.1
theorem cont_node{nb:List Nat}{Ls:List HProp}{n:Nat}{l:List Nat}(cv:List TypeId)(c:List (Nat×List Nat×List Nat))(hcv:X.cv=cv)(hc:nodeB ops cv l c=true)
  (h:∀ x∈c,OpsL X (subOps ops x.2.1) ⟨List.range x.2.1.length,[],[]⟩ (NodeX X ops nb Q Ls n x.2.2 .normal) 0 (subOps ops x.2.1).toList Ls ds ρ L):Cont X (NodeX X ops nb Q Ls (n+1) l) .normal ds ρ L:=by
 subst hcv
 refine foldCont fun a w ha hs=>?_
 unfold NodeX Node
 intro i hi hav
 simp only[nodeB,Bool.and_eq_true,List.all_eq_true,Bool.or_eq_true,Bool.not_eq_true',List.any_eq_true,beq_iff_eq]at hc
 obtain⟨hc,hp⟩:=hc
 rcases hc i hi with h1|⟨x,hx,rfl,h2,h3⟩
 ·rw[hav]at h1;cases h1
 ·have h4:=opsL_sub (nb:=nb) rfl (hp x hx) rfl (h x hx) ha hs
  rw[h2,h3]at h4
  exact h4
theorem cont_node0{nb:List Nat}{Ls:List HProp}{l:List Nat}(hpl:plainB ops l=true)(h:OpsL X (subOps ops l) ⟨List.range l.length,[],[]⟩ (Q .normal) 0 (subOps ops l).toList Ls ds ρ L):Cont X (NodeX X ops nb Q Ls 0 l) .normal ds ρ L:=by
 refine foldCont fun a w ha hs=>?_
 unfold NodeX Node
 exact opsL_sub rfl hpl rfl h ha hs
theorem ok_draw_node(n:Nat)(nb:List Nat)(Ls:List HProp){id:Nat}{cv:List TypeId}(hm:X.P.follows .mixedOrders=true)(hcv:X.cv=cv)(hok:regionOkN ops (kdf cv ops) nb (Region.before ops)=true)(htr:transB ops (Region.before ops)=true)
  (hcnt:((List.range ops.size).filter fun j=>kdf cv ops j==2).length=n)(hsub:∀ h,SatL L h→SatL Ls h)(l:List Nat)(hl:List.range ops.size=l)(h:Cont X (NodeX X ops nb Q Ls n l) .normal ds ρ L):Ok X (.region id ops true) ds ρ L Q:=by
 subst hcv
 subst hl
 refine foldOk fun a w ha hs=>wpIn_region_any hm ?_
 have hw:=unfoldCont h a _ ha hs.drew
 unfold NodeX at hw
 have hr0:rem ops (Array.replicate ops.size false)=List.range ops.size:=by
  unfold rem
  rw[List.filter_eq_self]
  intro i hi
  have:=List.mem_range.1 hi
  simp[this]
 refine OkT.any_goN (fun _ _ h=>h) (S:=fun w=>Sats X.w0 w Ls) (fun w (h:Sats X.w0 w Ls)=>(show Sats X.w0 w []from h.map fun _ _=>trivial)) hok htr ops.size n _ a _ (by simp) (by rw[hr0];simp) (fun i hi m _=>?_) (hs.drew.map hsub) (by rw[hr0];exact hcnt) (by rw[hr0];exact hw)
 exfalso
 rcases Nat.lt_or_ge i ops.size with h1|h1
 ·simp[h1]at hi
 ·simp[Array.getD]at hi
end
end Go.Fx
