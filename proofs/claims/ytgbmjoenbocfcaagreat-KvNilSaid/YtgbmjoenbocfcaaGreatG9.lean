/- Texts merged: RnP RnA RnB RnC. -/
import Derived.Test.YtgbmjoenbocfcaaGreatH32
import Derived.Test.YtgbmjoenbocfcaaGreatG8
import Derived.Test.YtgbmjoenbocfcaaGreatG7
import Derived.Test.YtgbmjoenbocfcaaGreatG0
import Derived.Test.YtgbmjoenbocfcaaGreatG10
set_option linter.unusedVariables false
namespace Go.Proofs.YtgbmjoenbocfcaaGreat
open Go Go.Fx Go.Pl
def okP(p:Pr):Bool:=decide (1≤p.k.size)&&decide (p.k.size≤512)&&decide (p.v.size≤262144)&&(!p.g||p.v.toList==[])
theorem okP_k{p:Pr}(h:okP p=true):1≤p.k.size∧p.k.size≤512∧p.v.size≤262144:=by
 simp only[okP,Bool.and_eq_true,decide_eq_true_eq]at h
 exact⟨h.1.1.1,h.1.1.2,h.1.2⟩
def put2(n:Nat):BA:=⟨(putL n 2).toArray⟩
theorem put2_size(n:Nat):(put2 n).size=2:=by show(putL n 2).length=2;simp[putL]
theorem put2_get(n:Nat)(h:n<65536):getL (put2 n).data.toList 2=(n:Int):=by
 have e:=getL_putL n 2 (by omega) (by omega) 2 (Nat.le_refl _)
 rw[show(put2 n).data.toList=putL n 2 from rfl,e,Nat.mod_eq_of_lt (by simpa using h)]
def flagB(g:Bool):BA:=if g then⟨#[1]⟩else⟨#[0]⟩
theorem flagB_size(g:Bool):(flagB g).size=1:=by cases g<;>rfl
def txtR(p:Pr):BA:=flagB p.g++put2 p.k.size++p.k++p.v
theorem txtR_size(p:Pr):(txtR p).size=3+p.k.size+p.v.size:=by
 unfold txtR
 simp only[ByteArray.size_append,flagB_size,put2_size]
theorem txtR_0(p:Pr):(txtR p).data.toList[0]? =some (if p.g then 1 else 0):=by
 have e:(txtR p).data.toList=bl (flagB p.g)++(bl (put2 p.k.size)++(bl p.k++bl p.v)):=by
  show bl (txtR p)=_
  unfold txtR
  rw[bl_app,bl_app,bl_app,List.append_assoc,List.append_assoc]
 rw[e]
 cases p.g<;>rfl
theorem txtR_n(p:Pr):(txtR p).extract 1 3=put2 p.k.size:=by
 unfold txtR
 rw[ByteArray.append_assoc (a:=flagB p.g++put2 p.k.size)]
 exact ext_mid _ _ _ (flagB_size p.g).symm (by rw[flagB_size,put2_size])
theorem txtR_k(p:Pr):(txtR p).extract 3 (3+p.k.size)=p.k:=by
 unfold txtR
 exact ext_mid _ _ _ (by rw[ByteArray.size_append,flagB_size,put2_size]) (by rw[ByteArray.size_append,flagB_size,put2_size])
theorem txtR_v(p:Pr):(txtR p).extract (3+p.k.size) (txtR p).size=p.v:=by
 rw[txtR_size]
 unfold txtR
 exact ext_right _ _ (by simp only[ByteArray.size_append,flagB_size,put2_size]) (by simp only[ByteArray.size_append,flagB_size,put2_size])
theorem txtR_small{p:Pr}(h:okP p=true):(txtR p).size≤262659:=by
 have:=okP_k h
 rw[txtR_size];omega
def runL(l:List Pr):List BA:=put8 (l.length:Int)::l.map txtR
def runB(l:List Pr):BA:=framesOf (runL l)
theorem runL_ok{l:List Pr}(h:∀ p∈l,okP p=true):allOk (runL l)=true:=by
 simp only[runL,allOk,List.all_cons,Bool.and_eq_true,decide_eq_true_eq,List.all_eq_true,List.mem_map]
 refine⟨by rw[put8_size];decide,?_⟩
 rintro x ⟨p,hp,rfl⟩
 have:=txtR_small (h p hp)
 omega
theorem runB_size(l:List Pr):(runB l).size=20+lenT (l.map txtR):=by
 unfold runB
 rw[framesOf_size]
 simp only[runL,lenT,List.map_cons,List.sum_cons,put8_size]
theorem runB_scan{l:List Pr}(h:∀ p∈l,okP p=true):scanOf (runB l)=(runL l,(runB l).size,0):=by
 have:=scanOf_frames ⟨#[]⟩ (runL l) (runL_ok h)
 rw[ba_nil,scanOf_nil]at this
 unfold runB
 rw[this,framesOf_size]
 simp
def riseB:List Pr→Bool
 | []=>true
 | [_]=>true
 |p::q::l=>ltS p.k q.k&&riseB (q::l)
theorem riseB_at:∀ {l:List Pr} {i:Nat} (h:i+1<l.length),riseB l=true→ltS l[i].k l[i+1].k=true
 | [],i,h,_=>by simp at h
 | [_],i,h,_=>by simp at h
 |p::q::l,0,h,hr=>by
  simp only[riseB,Bool.and_eq_true]at hr
  exact hr.1
 |p::q::l,i+1,h,hr=>by
  simp only[riseB,Bool.and_eq_true]at hr
  exact riseB_at (l:=q::l) (i:=i) (by simpa using h) hr.2
theorem riseB_of:∀ {l:List Pr},(∀ i (h:i+1<l.length),ltS l[i].k l[i+1].k=true)→riseB l=true
 | [],_=>rfl
 | [_],_=>rfl
 |p::q::l,h=>by
  simp only[riseB,Bool.and_eq_true]
  exact⟨h 0 (by simp),riseB_of fun i hi=>h (i+1) (by simpa using hi)⟩
theorem sorted_rise:∀ {l:List Pr},Sorted l→riseB l=true
 | [],_=>rfl
 | [_],_=>rfl
 |p::q::l,h=>by
  have h':=List.pairwise_cons.1 h
  simp only[riseB,Bool.and_eq_true]
  exact⟨h'.1 q (List.mem_cons_self ..),sorted_rise h'.2⟩
def chkR(l:List Pr):Int:=if l.all okP then(if riseB l then 0 else 100)else 2
structure En where
 p:Pr
 at_:Nat
 sz:Nat
def entsF(at_:Nat):List Pr→List En
 | []=>[]
 |p::l=>⟨p,at_,12+(txtR p).size⟩::entsF (at_+(12+(txtR p).size)) l
def ents(l:List Pr):List En:=entsF 20 l
theorem entsF_p:∀ (l:List Pr) (a:Nat),(entsF a l).map (·.p)=l
 | [],_=>rfl
 |p::l,a=>by simp[entsF,entsF_p l]
theorem entsF_len(l:List Pr)(a:Nat):(entsF a l).length=l.length:=by
 have:=congrArg List.length (entsF_p l a);simpa using this
theorem entsF_snoc:∀ (l:List Pr) (p:Pr) (a:Nat),entsF a (l++[p])=entsF a l++[⟨p,a+lenT (l.map txtR),12+(txtR p).size⟩]
 | [],p,a=>by simp[entsF,lenT]
 |q::l,p,a=>by
  simp only[List.cons_append,entsF,entsF_snoc l p,List.map_cons,lenT,List.sum_cons,List.cons_append]
  congr 4
  omega
theorem entsF_get:∀ (l:List Pr) (a i:Nat) (h:i<l.length),(entsF a l)[i]? =some ⟨l[i],a+lenT ((l.take i).map txtR),12+(txtR l[i]).size⟩
 | [],_,i,h=>by simp at h
 |p::l,a,0,h=>by simp[entsF,lenT]
 |p::l,a,i+1,h=>by
  have ih:=entsF_get l (a+(12+(txtR p).size)) i (by simpa using h)
  simp only[entsF,List.getElem?_cons_succ,ih,List.getElem_cons_succ,List.take_succ_cons,List.map_cons,lenT,List.sum_cons]
  congr 2
  omega
end Go.Proofs.YtgbmjoenbocfcaaGreat
set_option linter.unusedSimpArgs false
set_option maxRecDepth 100000
namespace Go.Proofs.YtgbmjoenbocfcaaGreat
open Go Go.Fx Go.Proofs Go.Pl
def prV(p:Pr):List Value:=[.string p.k,.string p.v,.bool p.g]
theorem memCheck_spec(p:Pr):FSpec Tryz.prog 47 [.agg (prV p).toArray] [] Unit (fun _=>True) (fun _=>.int .i64 (if okP p then 0 else 2)) (fun _=>[]):=by
 obtain⟨k,v,g⟩:=p
 dsimp only[prV]
 refine spec_intro [] _ Tryz.func47 rfl Tryz.ntmps47 (by rfl) (fun w0 R=>?_)
 repeat'(first|(refine gY ?_;intros)|(refine hY ?_ ?_<;>intro hgd)|(refine jY ?_ ?_<;>intro _)|fail)
 all_goals(refine rt_Y (y:=()) (hrs:=Tryz.results47) (hv:=?_) (hφ:=?_))
 all_goals first|exact trivial|skip
 all_goals(simp only[retOf,Value.int.injEq,true_and,nil_toList]at *;simp_all [okP];try omega)
theorem wput2_spec(n:Nat)(h:n≤65535):FSpec Tryz.prog 102 [.int .u64 n,.int .i64 2] [] Unit (fun _=>True) (fun _=>.tuple #[.string (put2 n),.int .i64 0]) (fun _=>[]):=
 put_spec n 2 (by omega) (by omega) (by omega) (by
  have e:shiftOf .shr .u64 (n:Int) 16=0:=by
   show Int.fdiv (n:Int) (2 ^ (min (16:Int).toNat 64))=0
   have e2:(2:Int) ^ (min (16:Int).toNat 64)=65536:=by decide
   rw[e2,Int.fdiv_eq_ediv_of_nonneg _ (by decide)]
   exact Int.ediv_eq_zero_of_lt (by omega) (by omega)
  unfold fitsB;simp[e])
theorem text_spec(p:Pr)(hk:p.k.size≤512)(hv:p.v.size≤262144):FSpec Tryz.prog 158 [.agg (prV p).toArray] [] Unit (fun _=>True) (fun _=>.string (txtR p)) (fun _=>[]):=by
 obtain⟨k,v,g⟩:=p
 dsimp only at hk hv
 have hw:IntKind.u64.wrap (k.size:Int)=(k.size:Int):=wrap_u64 _ (by omega)
 have z2:=put2_size k.size
 have zf:∀ g,(flagB g).size=1:=flagB_size
 have z0:((⟨#[0]⟩:BA)).size=1:=rfl
 have z1:((⟨#[1]⟩:BA)).size=1:=rfl
 dsimp only[prV]
 cases g with
 |true=>
  have e0:txtR ⟨k,v,true⟩=(⟨#[1]⟩:BA)++put2 k.size++k++v:=rfl
  rw[e0]
  have s1:((⟨#[1]⟩:BA)++put2 k.size).size=3:=by rw[ByteArray.size_append,z1,z2]
  have s2:((⟨#[1]⟩:BA)++put2 k.size++k).size=3+k.size:=by rw[ByteArray.size_append,s1]
  refine spec_intro [] _ Tryz.func158 rfl Tryz.ntmps158 (by rfl) (fun w0 R=>?_)
  repeat'(first|(refine gY ?_;intros)|(refine hY ?_ ?_<;>intro hgd)|(refine jY ?_ ?_<;>intro _)|fail)
  refine cl_Y (wput2_spec k.size (by omega)) ?_
  intro _ _
  repeat'(first|(refine gY ?_;intros)|(refine hY ?_ ?_<;>intro hgd)|(refine jY ?_ ?_<;>intro _)|fail)
  (refine rt_Y (y:=()) (hrs:=Tryz.results158) (hv:=?_) (hφ:=?_))
  ·rfl
  ·trivial
 |false=>
  have e0:txtR ⟨k,v,false⟩=(⟨#[0]⟩:BA)++put2 k.size++k++v:=rfl
  rw[e0]
  have s1:((⟨#[0]⟩:BA)++put2 k.size).size=3:=by rw[ByteArray.size_append,z0,z2]
  have s2:((⟨#[0]⟩:BA)++put2 k.size++k).size=3+k.size:=by rw[ByteArray.size_append,s1]
  refine spec_intro [] _ Tryz.func158 rfl Tryz.ntmps158 (by rfl) (fun w0 R=>?_)
  repeat'(first|(refine gY ?_;intros)|(refine hY ?_ ?_<;>intro hgd)|(refine jY ?_ ?_<;>intro _)|fail)
  refine cl_Y (wput2_spec k.size (by omega)) ?_
  intro _ _
  repeat'(first|(refine gY ?_;intros)|(refine hY ?_ ?_<;>intro hgd)|(refine jY ?_ ?_<;>intro _)|fail)
  (refine rt_Y (y:=()) (hrs:=Tryz.results158) (hv:=?_) (hφ:=?_))
  ·rfl
  ·trivial
theorem rcheck_spec(u:Value)(A:HProp)(xs:List Pr)(hA:Vw A 3 u (xs.map prV))(hz:xs.length≤1099511627776):
  FSpec Tryz.prog 157 [u] [A] Unit (fun _=>True) (fun _=>.int .i64 (chkR xs)) (fun _=>[A]):=by
 have hlen:(xs.map prV).length=xs.length:=by simp
 refine spec_intro [] _ Tryz.func157 rfl Tryz.ntmps157 (by rfl) (fun w0 R=>?_)
 refine ok_learn (VwIn.slice (VwIn.here hA)) ?_
 rintro⟨pu,cu,rfl⟩
 repeat'(first|(refine gY ?_;intros)|(refine hY ?_ ?_<;>intro hgd)|(refine jY ?_ ?_<;>intro _)|fail)
 refine ok_loop' (γ:=Nat) (fun i ρ L=>i≤xs.length∧(xs.take i).all okP=true∧Knows ρ [(0,.slice pu (xs.map prV).length cu),(7,.slice pu (xs.map prV).length cu),(8,.int .i64 (xs.map prV).length),(9,.int .i64 i)]∧L=[A]++R) (fun i=>xs.length-i) 0 ⟨by simp,by simp,⟨rfl,rfl,rfl,rfl,trivial⟩,rfl⟩ ?_
 rintro i ρ L ⟨hi,hok,hk,rfl⟩
 refine ok_regs hk ?_
 cases t1:decide ((i:Int)<((xs.map prV).length:Int))with
 |true=>
  have h:i<xs.length:=by simp at t1;omega
  have hn1:i<(xs.map prV).length:=by omega
  have hx:(xs.map prV)[i]? =some (prV xs[i]):=by rw[List.getElem?_map,List.getElem?_eq_getElem h];rfl
  have htk:xs.take (i+1)=xs.take i++[xs[i]]:=List.take_succ_eq_append_getElem h
  have hmem:=List.getElem_mem h
  refine ok_learn (VwIn.base (VwIn.here hA) (by intro e;rw[e]at hn1;simp at hn1)) ?_
  rintro⟨bu,ou,rfl⟩
  generalize xs[i]=x at hx htk hmem
  have hc:=memCheck_spec x
  cases hx1:okP x with
  |true=>
   rw[hx1]at hc
   simp only[if_true]at hc
   repeat'(first|(refine gY ?_;intros)|(refine hY ?_ ?_<;>intro hgd)|(refine jY ?_ ?_<;>intro _)|fail)
   refine cl_Y (hc) ?_
   intro _ _
   repeat'(first|(refine gY ?_;intros)|(refine hY ?_ ?_<;>intro hgd)|(refine jY ?_ ?_<;>intro _)|fail)
   refine cont_map (L':=[A]++R) entD ?_
   refine cont_back (i+1) ⟨h,by rw[htk,List.all_append,hok];simp[hx1],⟨rfl,rfl,rfl,rfl,trivial⟩,rfl⟩ (by omega)
  |false=>
   rw[hx1]at hc
   simp only[Bool.false_eq_true,if_false]at hc
   have hno:chkR xs=2:=by
    unfold chkR
    have:xs.all okP=false:=by rw[List.all_eq_false];exact⟨x,hmem,by simp[hx1]⟩
    rw[this];rfl
   rw[hno]
   repeat'(first|(refine gY ?_;intros)|(refine hY ?_ ?_<;>intro hgd)|(refine jY ?_ ?_<;>intro _)|fail)
   refine cl_Y (hc) ?_
   intro _ _
   repeat'(first|(refine gY ?_;intros)|(refine hY ?_ ?_<;>intro hgd)|(refine jY ?_ ?_<;>intro _)|fail)
   (refine rt_Y (y:=()) (hrs:=Tryz.results157) (hv:=?_) (hφ:=?_))
   ·rfl
   ·trivial
 |false=>
  have hie:i=xs.length:=by simp at t1;omega
  have hall:xs.all okP=true:=by rw[hie,List.take_length]at hok;exact hok
  repeat'(first|(refine gY ?_;intros)|(refine hY ?_ ?_<;>intro hgd)|(refine jY ?_ ?_<;>intro _)|fail)
  refine ok_loop' (γ:=Nat) (fun i ρ L=>i≤xs.length∧(∀ j (h:j+1<xs.length),j+1<i→ltS xs[j].k xs[j+1].k=true)∧Knows ρ [(0,.slice pu (xs.map prV).length cu),(19,.slice pu (xs.map prV).length cu),(20,.int .i64 (xs.map prV).length),(21,.int .i64 i)]∧L=[A]++R) (fun i=>xs.length-i) 0 ⟨by simp,fun j h h0=>by omega,⟨rfl,rfl,rfl,rfl,trivial⟩,rfl⟩ ?_
  rintro i ρ L ⟨hi,hlt,hk,rfl⟩
  refine ok_regs hk ?_
  cases t2:decide ((i:Int)<((xs.map prV).length:Int))with
  |false=>
   have hie:i=xs.length:=by simp at t2;omega
   have hr:riseB xs=true:=riseB_of fun j h=>hlt j h (by omega)
   have hc:chkR xs=0:=by unfold chkR;rw[hall,hr];rfl
   rw[hc]
   repeat'(first|(refine gY ?_;intros)|(refine hY ?_ ?_<;>intro hgd)|(refine jY ?_ ?_<;>intro _)|fail)
   (refine rt_Y (y:=()) (hrs:=Tryz.results157) (hv:=?_) (hφ:=?_))
   ·rfl
   ·trivial
  |true=>
   have h:i<xs.length:=by simp at t2;omega
   cases i with
   |zero=>
    have t3:decide ((0:Int)<((0:Nat):Int))=false:=rfl
    repeat'(first|(refine gY ?_;intros)|(refine hY ?_ ?_<;>intro hgd)|(refine jY ?_ ?_<;>intro _)|fail)
    refine cont_back 1 ⟨by omega,fun j h h0=>by omega,⟨rfl,rfl,rfl,rfl,trivial⟩,rfl⟩ (by omega)
   |succ k=>
    have t3:decide ((0:Int)<((k+1:Nat):Int))=true:=by rw[decide_eq_true_eq];omega
    have hn1:k+1<(xs.map prV).length:=by omega
    have hn2:k<(xs.map prV).length:=by omega
    have hk1:k<xs.length:=by omega
    have hx:(xs.map prV)[k+1]? =some (prV xs[k+1]):=by rw[List.getElem?_map,List.getElem?_eq_getElem h];rfl
    have hy:(xs.map prV)[k]? =some (prV xs[k]):=by rw[List.getElem?_map,List.getElem?_eq_getElem hk1];rfl
    have ek:((k+1:Nat):Int)-1=(k:Int):=by omega
    have hstep:ltS xs[k].k xs[k+1].k=true→∀ j (h:j+1<xs.length),j+1<k+2→ltS xs[j].k xs[j+1].k=true:=by
     intro hl j hj hj2
     by_cases hjk:j=k
     ·subst hjk;exact hl
     ·exact hlt j hj (by omega)
    have hbad:ltS xs[k].k xs[k+1].k=false→chkR xs=100:=by
     intro hl
     unfold chkR
     have:riseB xs=false:=by
      cases hr:riseB xs with
      |false=>rfl
      |true=>have:=riseB_at h hr;rw[hl]at this;cases this
     rw[hall,this];rfl
    refine ok_learn (VwIn.base (VwIn.here hA) (by intro e;rw[e]at hn1;simp at hn1)) ?_
    rintro⟨bu,ou,rfl⟩
    generalize xs[k+1]=x at hx hstep hbad
    generalize xs[k]=y at hy hstep hbad
    cases t4:(!(Op.bytesLess y.k.toList x.k.toList))with
    |true=>
     have hl:ltS y.k x.k=false:=by unfold ltS;simpa using t4
     rw[hbad hl]
     repeat'(first|(refine gY ?_;intros)|(refine hY ?_ ?_<;>intro hgd)|(refine jY ?_ ?_<;>intro _)|fail)
     (refine rt_Y (y:=()) (hrs:=Tryz.results157) (hv:=?_) (hφ:=?_))
     ·rfl
     ·trivial
    |false=>
     have hl:ltS y.k x.k=true:=by unfold ltS;simpa using t4
     repeat'(first|(refine gY ?_;intros)|(refine hY ?_ ?_<;>intro hgd)|(refine jY ?_ ?_<;>intro _)|fail)
     refine cont_back (k+2) ⟨by omega,hstep hl,⟨rfl,rfl,rfl,rfl,trivial⟩,rfl⟩ (by omega)
theorem get2_spec(n:Nat)(h:n<65536):FSpec Tryz.prog 144 [.string (put2 n)] [] Unit (fun _=>True) (fun _=>.tuple #[.int .u64 n,.int .i64 0]) (fun _=>[]):=by
 have:=get_spec (put2 n) (by rw[put2_size];decide) (by rw[put2_size];decide)
 rw[put2_size,put2_get n h]at this
 exact this
theorem pair_spec(p:Pr)(hp:okP p=true):FSpec Tryz.prog 134 [.string (txtR p)] [] Unit (fun _=>True) (fun _=>.tuple #[.agg (prV p).toArray,.int .i64 0]) (fun _=>[]):=by
 obtain⟨q1,q2,q3⟩:=okP_k hp
 have hsz:=txtR_size p
 have h0:=txtR_0 p
 have hn:=txtR_n p
 have hk:=txtR_k p
 have hv:=txtR_v p
 have hm:=memCheck_spec p
 rw[hp]at hm
 simp only[if_true]at hm
 generalize txtR p=s at hsz h0 hn hk hv
 have hg:=get2_spec p.k.size (by omega)
 rw[← hn]at hg
 have hw:IntKind.i64.wrap (p.k.size:Int)=(p.k.size:Int):=wrap_i64 (by omega) (by omega)
 have t1:decide ((s.size:Int)<3)=false:=by simp;omega
 have t2:decide ((s.size:Int)<3+(p.k.size:Int))=false:=by simp;omega
 have e3:(3+(p.k.size:Int)).toNat=3+p.k.size:=by omega
 have hk':s.extract (3:Int).toNat (3+(p.k.size:Int)).toNat=p.k:=by rw[e3];exact hk
 have hv':s.extract (3+(p.k.size:Int)).toNat s.size=p.v:=by rw[e3];exact hv
 obtain⟨k,v,g⟩:=p
 dsimp only at*
 dsimp only[prV]at*
 cases g with
 |true=>
  have h0':s.data.toList[0]? =some 1:=h0
  have t3:decide ((1:Int)<((UInt8.toNat 1:Nat):Int))=false:=by decide
  have t4:decide (((UInt8.toNat 1:Nat):Int)=1)=true:=by decide
  refine spec_intro [] _ Tryz.func134 rfl Tryz.ntmps134 (by rfl) (fun w0 R=>?_)
  repeat'(first|(refine gY ?_;intros)|(refine hY ?_ ?_<;>intro hgd)|(refine jY ?_ ?_<;>intro _)|fail)
  refine cl_Y (hg) ?_
  intro _ _
  repeat'(first|(refine gY ?_;intros)|(refine hY ?_ ?_<;>intro hgd)|(refine jY ?_ ?_<;>intro _)|fail)
  rw[hk',hv',t4]
  refine cl_Y (hm) ?_
  intro _ _
  repeat'(first|(refine gY ?_;intros)|(refine hY ?_ ?_<;>intro hgd)|(refine jY ?_ ?_<;>intro _)|fail)
  (refine rt_Y (y:=()) (hrs:=Tryz.results134) (hv:=?_) (hφ:=?_))
  ·rfl
  ·trivial
 |false=>
  have h0':s.data.toList[0]? =some 0:=h0
  have t3:decide ((1:Int)<((UInt8.toNat 0:Nat):Int))=false:=by decide
  have t4:decide (((UInt8.toNat 0:Nat):Int)=1)=false:=by decide
  refine spec_intro [] _ Tryz.func134 rfl Tryz.ntmps134 (by rfl) (fun w0 R=>?_)
  repeat'(first|(refine gY ?_;intros)|(refine hY ?_ ?_<;>intro hgd)|(refine jY ?_ ?_<;>intro _)|fail)
  refine cl_Y (hg) ?_
  intro _ _
  repeat'(first|(refine gY ?_;intros)|(refine hY ?_ ?_<;>intro hgd)|(refine jY ?_ ?_<;>intro _)|fail)
  rw[hk',hv',t4]
  refine cl_Y (hm) ?_
  intro _ _
  repeat'(first|(refine gY ?_;intros)|(refine hY ?_ ?_<;>intro hgd)|(refine jY ?_ ?_<;>intro _)|fail)
  (refine rt_Y (y:=()) (hrs:=Tryz.results134) (hv:=?_) (hφ:=?_))
  ·rfl
  ·trivial
def enV(e:En):List Value:=[.string e.p.k,.string e.p.v,.bool e.p.g,.int .i64 e.at_,.int .i64 e.sz]
theorem dsize_spec(b:Nat)(d:Dk)(nm:BA)(hn:nm.size≤4611686018427387904):
  FSpec Tryz.prog 30 [.pointer (some ⟨b,0,none⟩),.string nm] [diskP b d] Unit (fun _=>True) (fun _=>.tuple #[.int .i64 (if(d.read nm 0 0).2=0 then((ftext nm d.files).size:Int)else 0),.int .i64 (d.read nm 0 0).2]) (fun _=>[diskP b d]):=by
 have hr:=read_spec b d nm 0 0 hn
 generalize d.read nm 0 0=r at hr
 obtain⟨s,e⟩:=r
 dsimp only at hr ⊢
 cases t1:(!decide (e=0))with
 |true=>
  have h0:¬ e=0:=by simpa using t1
  rw[if_neg h0]
  refine spec_intro [] _ Tryz.func30 rfl Tryz.ntmps30 (by rfl) (fun w0 R=>?_)
  repeat'(first|(refine gY ?_;intros)|(refine hY ?_ ?_<;>intro hgd)|(refine jY ?_ ?_<;>intro _)|fail)
  refine cl_Y (hr) ?_
  intro _ _
  repeat'(first|(refine gY ?_;intros)|(refine hY ?_ ?_<;>intro hgd)|(refine jY ?_ ?_<;>intro _)|fail)
  (refine rt_Y (y:=()) (hrs:=Tryz.results30) (hv:=?_) (hφ:=?_))
  ·rfl
  ·trivial
 |false=>
  have h0:e=0:=by simpa using t1
  subst h0
  rw[if_pos rfl]
  refine spec_intro [] _ Tryz.func30 rfl Tryz.ntmps30 (by rfl) (fun w0 R=>?_)
  repeat'(first|(refine gY ?_;intros)|(refine hY ?_ ?_<;>intro hgd)|(refine jY ?_ ?_<;>intro _)|fail)
  refine cl_Y (hr) ?_
  intro _ _
  repeat'(first|(refine ro_Y ?_;intros)|fail)
  refine cont_then (ok_seq (ok_region ?_))
  repeat'(first|(refine ro_Y ?_;intros)|fail)
  refine cont_then (ok_cond_false ?_ (ok_skip ?_))
  ·((conv=>lhs;whnf);first|done|with_reducible rfl|(refine congrArg Value.bool ?_;with_reducible assumption))
  refine cont_then ?_
  (refine ok_ex selD ?_)
  rintro⟨⟨m1,m2,v,vs⟩,hv,hvs⟩
  dsimp only[diskL]
  dsimp only at hv hvs
  have hg:=getK_encF nm d.files
  cases hf:fget nm d.files with
  |none=>
   have ht:ftext nm d.files=⟨#[]⟩:=by unfold ftext;rw[hf];rfl
   rw[hf]at hg
   simp only[Option.map_none]at hg
   rw[ht]
   repeat'(first|(refine gY ?_;intros)|(refine hY ?_ ?_<;>intro hgd)|(refine jY ?_ ?_<;>intro _)|fail)
   refine cont_map (fun _ h=>disk_in (b:=b) (m1:=m1) (m2:=m2) (d:=d) (v:=v) (vs:=vs) hv hvs (Take.out takeD h)) ?_
   (refine rt_Y (y:=()) (hrs:=Tryz.results30) (hv:=?_) (hφ:=?_))
   ·rfl
   ·trivial
  |some t=>
   have ht:ftext nm d.files=t:=by unfold ftext;rw[hf];rfl
   rw[hf]at hg
   simp only[Option.map_some]at hg
   rw[ht]
   repeat'(first|(refine gY ?_;intros)|(refine hY ?_ ?_<;>intro hgd)|(refine jY ?_ ?_<;>intro _)|fail)
   refine cont_map (fun _ h=>disk_in (b:=b) (m1:=m1) (m2:=m2) (d:=d) (v:=v) (vs:=vs) hv hvs (Take.out takeD h)) ?_
   (refine rt_Y (y:=()) (hrs:=Tryz.results30) (hv:=?_) (hφ:=?_))
   ·rfl
   ·trivial
theorem rise_spec(u:Value)(A:HProp)(xs:List En)(hA:Vw A 5 u (xs.map enV))(hz:xs.length≤1099511627776)(hr:riseB (xs.map (·.p))=true):
  FSpec Tryz.prog 145 [u] [A] Unit (fun _=>True) (fun _=>.bool true) (fun _=>[A]):=by
 have hlen:(xs.map enV).length=xs.length:=by simp
 refine spec_intro [] _ Tryz.func145 rfl Tryz.ntmps145 (by rfl) (fun w0 R=>?_)
 refine ok_learn (VwIn.slice (VwIn.here hA)) ?_
 rintro⟨pu,cu,rfl⟩
 repeat'(first|(refine gY ?_;intros)|(refine hY ?_ ?_<;>intro hgd)|(refine jY ?_ ?_<;>intro _)|fail)
 refine ok_loop' (γ:=Nat) (fun i ρ L=>i≤xs.length∧Knows ρ [(0,.slice pu (xs.map enV).length cu),(5,.slice pu (xs.map enV).length cu),(6,.int .i64 (xs.map enV).length),(7,.int .i64 i)]∧L=[A]++R) (fun i=>xs.length-i) 0 ⟨by simp,⟨rfl,rfl,rfl,rfl,trivial⟩,rfl⟩ ?_
 rintro i ρ L ⟨hi,hk,rfl⟩
 refine ok_regs hk ?_
 cases t2:decide ((i:Int)<((xs.map enV).length:Int))with
 |false=>
  repeat'(first|(refine gY ?_;intros)|(refine hY ?_ ?_<;>intro hgd)|(refine jY ?_ ?_<;>intro _)|fail)
  (refine rt_Y (y:=()) (hrs:=Tryz.results145) (hv:=?_) (hφ:=?_))
  ·rfl
  ·trivial
 |true=>
  have h:i<xs.length:=by simp at t2;omega
  have hn1:i<(xs.map enV).length:=by omega
  have hx:(xs.map enV)[i]? =some (enV xs[i]):=by rw[List.getElem?_map,List.getElem?_eq_getElem h];rfl
  cases i with
  |zero=>
   have t3:decide ((0:Int)<((0:Nat):Int))=false:=rfl
   refine ok_learn (VwIn.base (VwIn.here hA) (by intro e;rw[e]at hn1;simp at hn1)) ?_
   rintro⟨bu,ou,rfl⟩
   generalize xs[0]=x at hx
   repeat'(first|(refine gY ?_;intros)|(refine hY ?_ ?_<;>intro hgd)|(refine jY ?_ ?_<;>intro _)|fail)
   refine cont_map (L':=[A]++R) entD ?_
   refine cont_back 1 ⟨by omega,⟨rfl,rfl,rfl,rfl,trivial⟩,rfl⟩ (by omega)
  |succ k=>
   have t3:decide ((0:Int)<((k+1:Nat):Int))=true:=by rw[decide_eq_true_eq];omega
   have hn2:k<(xs.map enV).length:=by omega
   have hk1:k<xs.length:=by omega
   have hy:(xs.map enV)[k]? =some (enV xs[k]):=by rw[List.getElem?_map,List.getElem?_eq_getElem hk1];rfl
   have ek:((k+1:Nat):Int)-1=(k:Int):=by omega
   have hl:ltS xs[k].p.k xs[k+1].p.k=true:=by
    have:=riseB_at (l:=xs.map (·.p)) (i:=k) (by simpa using h) hr
    simpa using this
   refine ok_learn (VwIn.base (VwIn.here hA) (by intro e;rw[e]at hn1;simp at hn1)) ?_
   rintro⟨bu,ou,rfl⟩
   generalize xs[k+1]=x at hx hl
   generalize xs[k]=y at hy hl
   have t4:(!(Op.bytesLess y.p.k.toList x.p.k.toList))=false:=by rw[show Op.bytesLess y.p.k.toList x.p.k.toList=true from hl];rfl
   repeat'(first|(refine gY ?_;intros)|(refine hY ?_ ?_<;>intro hgd)|(refine jY ?_ ?_<;>intro _)|fail)
   refine cont_map (L':=[A]++R) entD ?_
   refine cont_back (k+2) ⟨by omega,⟨rfl,rfl,rfl,rfl,trivial⟩,rfl⟩ (by omega)
def writeR(d:Dk)(nm:BA)(l:List Pr):Dk×Int:=
 if chkR l≠0 then(d,chkR l)else
 if(d.read nm 0 0).2=0 then(d,9)else
 if(d.read nm 0 0).2≠3 then(d,(d.read nm 0 0).2)else
 if(d.append nm (runB l)).2≠0 then((d.append nm (runB l)).1,(d.append nm (runB l)).2)else
 (d.append nm (runB l)).1.sync
theorem chkR_0{l:List Pr}(h:chkR l=0):(∀ p∈l,okP p=true)∧riseB l=true:=by
 unfold chkR at h
 cases h1:l.all okP with
 |false=>rw[h1]at h;cases h
 |true=>
  rw[h1]at h
  cases h2:riseB l with
  |false=>rw[h2]at h;cases h
  |true=>exact⟨fun p hp=>List.all_eq_true.1 h1 p hp,rfl⟩
theorem lenT_small:∀ {l:List Pr},(∀ p∈l,okP p=true)→lenT (l.map txtR)≤l.length*262671
 | [],_=>by simp[lenT]
 |p::l,h=>by
  have ih:=lenT_small (l:=l) (fun q hq=>h q (List.mem_cons_of_mem _ hq))
  have:=txtR_small (h p (List.mem_cons_self ..))
  simp only[lenT,List.map_cons,List.sum_cons,List.length_cons]at ih ⊢
  omega
theorem Write_spec(b:Nat)(d:Dk)(nm:BA)(u:Value)(A:HProp)(l:List Pr)(hd:d.Ok)(hl:d.loose.length≤1000000000)(hn:nm.size≤4611686018427387904)(hA:Vw A 3 u (l.map prV))(hz:l.length≤1048576):
  FSpec Tryz.prog 111 [.pointer (some ⟨b,0,none⟩),.string nm,u] [diskP b d,A] Unit (fun _=>True) (fun _=>.int .i64 (writeR d nm l).2) (fun _=>[diskP b (writeR d nm l).1,A]):=by
 have hlen:(l.map prV).length=l.length:=by simp
 have hck:=rcheck_spec u A l hA (by omega)
 unfold writeR
 by_cases h0:chkR l=0
 ·rw[if_neg (by simpa using h0)]
  obtain⟨hok,hrise⟩:=chkR_0 h0
  rw[h0]at hck
  have hsz:=dsize_spec b d nm hn
  generalize (d.read nm 0 0).2=e at hsz
  generalize (if e=0 then((ftext nm d.files).size:Int)else 0)=fz at hsz
  cases t1:decide (e=0)with
  |true=>
   have e0:e=0:=by simpa using t1
   rw[if_pos e0]
   refine spec_intro [] _ Tryz.func111 rfl Tryz.ntmps111 (by rfl) (fun w0 R=>?_)
   repeat'(first|(refine gY ?_;intros)|(refine hY ?_ ?_<;>intro hgd)|(refine jY ?_ ?_<;>intro _)|fail)
   refine cl_Y (hck) ?_
   intro _ _
   repeat'(first|(refine gY ?_;intros)|(refine hY ?_ ?_<;>intro hgd)|(refine jY ?_ ?_<;>intro _)|fail)
   refine cl_Y (hsz) ?_
   intro _ _
   repeat'(first|(refine gY ?_;intros)|(refine hY ?_ ?_<;>intro hgd)|(refine jY ?_ ?_<;>intro _)|fail)
   (refine rt_Y (y:=()) (hrs:=Tryz.results111) (hv:=?_) (hφ:=?_))
   ·rfl
   ·trivial
  |false=>
   have e0:¬ e=0:=by simpa using t1
   rw[if_neg e0]
   cases t2:(!decide (e=3))with
   |true=>
    have e3:e≠3:=by simpa using t2
    rw[if_pos e3]
    refine spec_intro [] _ Tryz.func111 rfl Tryz.ntmps111 (by rfl) (fun w0 R=>?_)
    repeat'(first|(refine gY ?_;intros)|(refine hY ?_ ?_<;>intro hgd)|(refine jY ?_ ?_<;>intro _)|fail)
    refine cl_Y (hck) ?_
    intro _ _
    repeat'(first|(refine gY ?_;intros)|(refine hY ?_ ?_<;>intro hgd)|(refine jY ?_ ?_<;>intro _)|fail)
    refine cl_Y (hsz) ?_
    intro _ _
    repeat'(first|(refine gY ?_;intros)|(refine hY ?_ ?_<;>intro hgd)|(refine jY ?_ ?_<;>intro _)|fail)
    (refine rt_Y (y:=()) (hrs:=Tryz.results111) (hv:=?_) (hφ:=?_))
    ·rfl
    ·trivial
   |false=>
    have e3:e=3:=by simpa using t2
    rw[if_neg (by simpa using e3)]
    have hsmall:=lenT_small hok
    have hB:(runB l).size≤549755813888:=by rw[runB_size];omega
    have hap:=append_spec b d nm (runB l) hd (by omega) hn hB
    have hok1:=hd.append (name:=nm) hB
    generalize d.append nm (runB l)=r at hap hok1
    obtain⟨d1,ea⟩:=r
    have hsy:=sync_spec b d1 hok1
    dsimp only at hap hok1 hsy ⊢
    generalize d1.sync=r2 at hsy
    obtain⟨d2,es⟩:=r2
    dsimp only at hsy ⊢
    have hw:IntKind.u64.wrap ((l.map prV).length:Int)=(l.length:Int):=by rw[hlen];exact wrap_u64 _ (by omega)
    have hw8:=wput8_spec (l.length:Int) (by omega) (by omega)
    have z8:=put8_size (l.length:Int)
    have zf:(frameOf (put8 (l.length:Int))).size=20:=by rw[frameOf_size,z8]
    refine spec_intro [] _ Tryz.func111 rfl Tryz.ntmps111 (by rfl) (fun w0 R=>?_)
    refine ok_learn (VwIn.slice (VwIn.there (VwIn.here hA))) ?_
    rintro⟨pu,cu,rfl⟩
    repeat'(first|(refine gY ?_;intros)|(refine hY ?_ ?_<;>intro hgd)|(refine jY ?_ ?_<;>intro _)|fail)
    refine cl_Y (hck) ?_
    intro _ _
    repeat'(first|(refine gY ?_;intros)|(refine hY ?_ ?_<;>intro hgd)|(refine jY ?_ ?_<;>intro _)|fail)
    refine cl_Y (hsz) ?_
    intro _ _
    repeat'(first|(refine gY ?_;intros)|(refine hY ?_ ?_<;>intro hgd)|(refine jY ?_ ?_<;>intro _)|fail)
    rename_i bb
    refine opsL_map (fun _ h=>bld_new h) ?_
    refine cl_Y (hw8) ?_
    intro _ _
    repeat'(first|(refine gY ?_;intros)|(refine hY ?_ ?_<;>intro hgd)|(refine jY ?_ ?_<;>intro _)|fail)
    refine cl_Y (fPut_spec (put8 (l.length:Int)) (by rw[z8];decide)) ?_
    intro _ _
    repeat'(first|(refine gY ?_;intros)|(refine hY ?_ ?_<;>intro hgd)|(refine jY ?_ ?_<;>intro _)|fail)
    refine cl_Y (writeString_spec bb ⟨#[]⟩ (frameOf (put8 (l.length:Int))) (by rw[zf];show 0+20≤_;omega)) ?_
    intro _ _
    repeat'(first|(refine gY ?_;intros)|(refine hY ?_ ?_<;>intro hgd)|(refine jY ?_ ?_<;>intro _)|fail)
    rw[ba_nil0]
    refine ok_loop' (γ:=Nat) (fun i ρ L=>i≤l.length∧Knows ρ [(0,.pointer (some ⟨b,0,none⟩)),(1,.string nm),(10,.pointer (some ⟨bb,0,none⟩)),(54,.slice pu (l.map prV).length cu),(55,.int .i64 (l.map prV).length),(56,.int .i64 i)]∧L=[bldP bb (framesOf (put8 (l.length:Int)::(l.take i).map txtR)),diskP b d,A]++R) (fun i=>l.length-i) 0 ⟨by simp,⟨rfl,rfl,rfl,rfl,rfl,rfl,trivial⟩,by rw[List.take_zero,List.map_nil,show framesOf [put8 (l.length:Int)]=frameOf (put8 (l.length:Int))from ba_nil _];rfl⟩ ?_
    rintro i ρ L ⟨hi,hk,rfl⟩
    refine ok_regs hk ?_
    cases t3:decide ((i:Int)<((l.map prV).length:Int))with
    |true=>
     have h:i<l.length:=by simp at t3;omega
     have hn1:i<(l.map prV).length:=by omega
     have hx:(l.map prV)[i]? =some (prV l[i]):=by rw[List.getElem?_map,List.getElem?_eq_getElem h];rfl
     have htk:l.take (i+1)=l.take i++[l[i]]:=List.take_succ_eq_append_getElem h
     have hpo:=hok _ (List.getElem_mem h)
     have hpre:=lenT_small (l:=l.take i) (fun p hp=>hok p (List.mem_of_mem_take hp))
     rw[List.length_take]at hpre
     have hfs:=framesOf_size (put8 (l.length:Int)::(l.take i).map txtR)
     have hfl:lenT (put8 (l.length:Int)::(l.take i).map txtR)=20+lenT ((l.take i).map txtR):=by simp only[lenT,List.map_cons,List.sum_cons,z8]
     refine ok_learn (VwIn.base (VwIn.there (VwIn.there (VwIn.here hA))) (by intro e;rw[e]at hn1;simp at hn1)) ?_
     rintro⟨bu,ou,rfl⟩
     generalize l[i]=p at hx htk hpo
     have hps:=okP_k hpo
     have hpz:=txtR_small hpo
     have hfz:=frameOf_size (txtR p)
     repeat'(first|(refine gY ?_;intros)|(refine hY ?_ ?_<;>intro hgd)|(refine jY ?_ ?_<;>intro _)|fail)
     refine cl_Y (text_spec p hps.2.1 hps.2.2) ?_
     intro _ _
     repeat'(first|(refine gY ?_;intros)|(refine hY ?_ ?_<;>intro hgd)|(refine jY ?_ ?_<;>intro _)|fail)
     refine cl_Y (fPut_spec (txtR p) (by omega)) ?_
     intro _ _
     repeat'(first|(refine gY ?_;intros)|(refine hY ?_ ?_<;>intro hgd)|(refine jY ?_ ?_<;>intro _)|fail)
     refine cl_Y (writeString_spec bb (framesOf (put8 (l.length:Int)::(l.take i).map txtR)) (frameOf (txtR p)) (by omega)) ?_
     intro _ _
     repeat'(first|(refine gY ?_;intros)|(refine hY ?_ ?_<;>intro hgd)|(refine jY ?_ ?_<;>intro _)|fail)
     rw[← framesOf_snoc,show(put8 (l.length:Int)::(l.take i).map txtR)++[txtR p]=put8 (l.length:Int)::(l.take (i+1)).map txtR by rw[htk,List.map_append];rfl]
     refine cont_map (L':=[bldP bb (framesOf (put8 (l.length:Int)::(l.take (i+1)).map txtR)),diskP b d,A]++R) entD ?_
     refine cont_back (i+1) ⟨h,⟨rfl,rfl,rfl,rfl,rfl,rfl,trivial⟩,rfl⟩ (by omega)
    |false=>
     have hie:i=l.length:=by simp at t3;omega
     subst hie
     rw[List.take_length,show framesOf (put8 (l.length:Int)::l.map txtR)=runB l from rfl]
     cases t5:(!decide (ea=0))with
     |true=>
      have ha0:ea≠0:=by simpa using t5
      rw[if_pos ha0]
      repeat'(first|(refine gY ?_;intros)|(refine hY ?_ ?_<;>intro hgd)|(refine jY ?_ ?_<;>intro _)|fail)
      refine cl_Y (string_spec bb (runB l) (by omega)) ?_
      intro _ _
      repeat'(first|(refine gY ?_;intros)|(refine hY ?_ ?_<;>intro hgd)|(refine jY ?_ ?_<;>intro _)|fail)
      refine cl_Y (hap) ?_
      intro _ _
      repeat'(first|(refine gY ?_;intros)|(refine hY ?_ ?_<;>intro hgd)|(refine jY ?_ ?_<;>intro _)|fail)
      (refine rt_Y (y:=()) (hrs:=Tryz.results111) (hv:=?_) (hφ:=?_))
      ·rfl
      ·trivial
     |false=>
      have ha0:ea=0:=by simpa using t5
      rw[if_neg (by simpa using ha0)]
      repeat'(first|(refine gY ?_;intros)|(refine hY ?_ ?_<;>intro hgd)|(refine jY ?_ ?_<;>intro _)|fail)
      refine cl_Y (string_spec bb (runB l) (by omega)) ?_
      intro _ _
      repeat'(first|(refine gY ?_;intros)|(refine hY ?_ ?_<;>intro hgd)|(refine jY ?_ ?_<;>intro _)|fail)
      refine cl_Y (hap) ?_
      intro _ _
      repeat'(first|(refine gY ?_;intros)|(refine hY ?_ ?_<;>intro hgd)|(refine jY ?_ ?_<;>intro _)|fail)
      refine cl_Y (hsy) ?_
      intro _ _
      repeat'(first|(refine gY ?_;intros)|(refine hY ?_ ?_<;>intro hgd)|(refine jY ?_ ?_<;>intro _)|fail)
      (refine rt_Y (y:=()) (hrs:=Tryz.results111) (hv:=?_) (hφ:=?_))
      ·rfl
      ·trivial
 ·rw[if_pos h0]
  have t0:(!decide (chkR l=0))=true:=by simpa using h0
  generalize chkR l=c at hck t0
  refine spec_intro [] _ Tryz.func111 rfl Tryz.ntmps111 (by rfl) (fun w0 R=>?_)
  repeat'(first|(refine gY ?_;intros)|(refine hY ?_ ?_<;>intro hgd)|(refine jY ?_ ?_<;>intro _)|fail)
  refine cl_Y (hck) ?_
  intro _ _
  repeat'(first|(refine gY ?_;intros)|(refine hY ?_ ?_<;>intro hgd)|(refine jY ?_ ?_<;>intro _)|fail)
  (refine rt_Y (y:=()) (hrs:=Tryz.results111) (hv:=?_) (hφ:=?_))
  ·rfl
  ·trivial
end Go.Proofs.YtgbmjoenbocfcaaGreat
