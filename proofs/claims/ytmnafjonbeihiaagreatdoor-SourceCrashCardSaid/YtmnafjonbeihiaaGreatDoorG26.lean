/- Texts merged: SuQ SuB SuC SuD. -/
import Derived.Test.YtmnafjonbeihiaaGreatDoorG24
import Derived.Test.YtmnafjonbeihiaaGreatDoorG25
import Derived.Test.YtmnafjonbeihiaaGreatDoorK8
import Derived.Test.YtmnafjonbeihiaaGreatDoorG4
import Derived.Test.YtmnafjonbeihiaaGreatDoorG14
set_option linter.unusedSimpArgs false
set_option linter.unusedVariables false
namespace Go.Proofs.YtmnafjonbeihiaaGreatDoor
open Go Go.Fx Go.Pl
theorem rest_rest(s:BA)(i j:Nat)(h:i≤s.size):(s.extract i s.size).extract j (s.extract i s.size).size=s.extract (i+j) s.size:=by
 apply tl_inj
 rw[tl_ext,tl_ext,tl_ext,ByteArray.size_extract,Nat.min_self,List.drop_take,List.drop_drop,List.take_take]
 congr 1
 omega
theorem rest_size(s:BA)(i:Nat)(h:i≤s.size):(s.extract i s.size).size=s.size-i:=by rw[ByteArray.size_extract,Nat.min_self]
theorem recE_size{n k:Nat}{l:List Chg}{c:Chg}(h:ChOk c)(hk:k<200):(recE n l k c).size≤1648:=by
 have hm:=h.may (k:Int) (nthC l k c.table:Int) (by omega) (by have:=nthC_le l k c.table;omega) (by omega)
 obtain⟨_,_,_,_,_,_,_,_,hrow⟩:=mayE_all hm
 obtain⟨_,hl2⟩:=hasE_len c
 have hsz:=foldR_size hrow (⟨#[]⟩:BA)
 have hs1:(rowsB (hasE c)).size≤1634:=by
  have:(rowsB (hasE c)).size≤(⟨#[]⟩:BA).size+817*(hasE c).length:=hsz
  have e:(⟨#[]⟩:BA).size=0:=rfl
  omega
 unfold recE
 rw[putEB_apart]
 simp only[ByteArray.size_append,numB_size,oneB_size]
 omega
theorem recT_size_succ(n:Nat){l:List Chg}{k:Nat}{c:Chg}(h:l[k]? =some c):(recT n l (k+1)).size=(recT n l k).size+(4+(recE n l k c).size):=by
 rw[recT_succ n h,ByteArray.size_append,ByteArray.size_append,numB_size]
theorem recT_le{n:Nat}{l:List Chg}(hc:∀ c∈l,ChOk c)(hl:l.length≤199):∀ k,k≤l.length→(recT n l k).size≤2+1652*k
 |0,_=>by show(numB l.length 2).size≤_;rw[numB_size];omega
 |k+1,hk=>by
  have h:l[k]? =some l[k]:=List.getElem?_eq_getElem (by omega)
  have h1:=recT_le (n:=n) hc hl k (by omega)
  have h2:=recE_size (n:=n) (k:=k) (l:=l) (hc _ (List.getElem_mem (by omega:k<l.length))) (by omega)
  rw[recT_size_succ n h]
  omega
theorem rec_0(n:Nat)(l:List Chg):At (recB n l) 0 (numB l.length 2):=by
 obtain⟨r,h⟩:=recT_pre n l 0 l.length
 rw[Nat.zero_add]at h
 refine⟨[],tl r,?_,rfl⟩
 show tl (recT n l l.length)=_
 rw[h,tl_app]
 rfl
theorem rec_at'(n:Nat){l:List Chg}{k:Nat}{c:Chg}(h:l[k]? =some c):At (recB n l) (recT n l k).size (numB (recE n l k c).size 4++recE n l k c):=by
 have hk:k<l.length:=by
  rcases Nat.lt_or_ge k l.length with h1|h1
  ·exact h1
  ·rw[List.getElem?_eq_none h1]at h;cases h
 obtain⟨r,hr⟩:=recT_pre n l (k+1) (l.length-(k+1))
 rw[show k+1+(l.length-(k+1))=l.length by omega,recT_succ n h]at hr
 refine⟨tl (recT n l k),tl r,?_,tl_len _⟩
 show tl (recT n l l.length)=_
 rw[hr,tl_app,tl_app,List.append_assoc]
end Go.Proofs.YtmnafjonbeihiaaGreatDoor
set_option maxRecDepth 100000
namespace Go.Proofs.YtmnafjonbeihiaaGreatDoor
open Go Go.Fx Go.Proofs Go.Pl
instance keyI64:KeyT Tryz.prog 3 (KInt .i64):=keyT_int Tryz.underlying3
theorem fitsW4{v:Nat}(h:v<4294967296):fitsB v 4 8=true:=by
 unfold fitsB
 rw[Bool.or_eq_true]
 refine .inr ?_
 rw[decide_eq_true_eq]
 show(v:Int).fdiv (2 ^ (min (4*8:Int).toNat IntKind.u64.bits))=0
 rw[show min (4*8:Int).toNat IntKind.u64.bits=32 from rfl,show(2:Int) ^ 32=4294967296 from rfl,Int.fdiv_eq_ediv_of_nonneg _ (by decide)]
 omega
theorem num2_spec(v:Nat)(h:v<65536):FSpec Tryz.prog 100 [.int .i64 (v:Int),.int .i64 2] [] Unit (fun _=>True) (fun _=>.string (numB v 2)) (fun _=>[]):=by
 have hp:=wput_spec v 2 (by omega) (by omega) (by omega) (fits2 h)
 have hw:IntKind.u64.wrap (v:Int)=(v:Int):=by rw[wrap_u64];omega
 refine spec_intro [] _ Tryz.func100 rfl Tryz.ntmps100 (by rfl) (fun w0 R=>?_)
 repeat'(first|(refine gY ?_;intros)|(refine hY ?_ ?_<;>intro hgd)|(refine jY ?_ ?_<;>intro _)|fail)
 refine cl_Y (hp) ?_
 intro _ _
 repeat'(first|(refine gY ?_;intros)|(refine hY ?_ ?_<;>intro hgd)|(refine jY ?_ ?_<;>intro _)|fail)
 (refine rt_Y (y:=()) (hrs:=Tryz.results100) (hv:=?_) (hφ:=?_))
 ·rfl
 ·trivial
theorem num4_spec(v:Nat)(h:v<4294967296):FSpec Tryz.prog 100 [.int .i64 (v:Int),.int .i64 4] [] Unit (fun _=>True) (fun _=>.string (numB v 4)) (fun _=>[]):=by
 have hp:=wput_spec v 4 (by omega) (by omega) (by omega) (fitsW4 h)
 have hw:IntKind.u64.wrap (v:Int)=(v:Int):=by rw[wrap_u64];omega
 refine spec_intro [] _ Tryz.func100 rfl Tryz.ntmps100 (by rfl) (fun w0 R=>?_)
 repeat'(first|(refine gY ?_;intros)|(refine hY ?_ ?_<;>intro hgd)|(refine jY ?_ ?_<;>intro _)|fail)
 refine cl_Y (hp) ?_
 intro _ _
 repeat'(first|(refine gY ?_;intros)|(refine hY ?_ ?_<;>intro hgd)|(refine jY ?_ ?_<;>intro _)|fail)
 (refine rt_Y (y:=()) (hrs:=Tryz.results100) (hv:=?_) (hφ:=?_))
 ·rfl
 ·trivial
theorem getK_put_self(a:Int)(v:Value):∀ l:List (Int×Value),getK (KInt .i64) a (putK (KInt .i64) a v l)=some v
 | []=>by show(if a=a then some v else none)=_;rw[if_pos rfl]
 |(b,u)::l=>by
  show getK (KInt .i64) a (if a=b then(a,v)::l else(b,u)::putK (KInt .i64) a v l)=_
  split
  ·show(if a=a then some v else _)=_;rw[if_pos rfl]
  ·rename_i h
   show(if a=b then some u else getK (KInt .i64) a (putK (KInt .i64) a v l))=_
   rw[if_neg h];exact getK_put_self a v l
theorem getK_put_ne(a j:Int)(v:Value)(hj:j≠a):∀ l:List (Int×Value),getK (KInt .i64) j (putK (KInt .i64) a v l)=getK (KInt .i64) j l
 | []=>by show(if j=a then some v else none)=none;rw[if_neg hj]
 |(b,u)::l=>by
  show getK (KInt .i64) j (if a=b then(a,v)::l else(b,u)::putK (KInt .i64) a v l)=(if j=b then some u else getK (KInt .i64) j l)
  split
  ·rename_i h
   show(if j=a then some v else getK (KInt .i64) j l)=_
   rw[if_neg hj,if_neg (fun e=>hj (e.trans h.symm))]
  ·show(if j=b then some u else getK (KInt .i64) j (putK (KInt .i64) a v l))=_
   split
   ·rfl
   ·exact getK_put_ne a j v hj l
def NthM(l:List Chg)(k:Nat)(es:List (Int×Value)):Prop:=∀ t:Int,(getK (KInt .i64) t es=none∧nthC l k t=0)∨getK (KInt .i64) t es=some (.int .i64 (nthC l k t:Int))
theorem NthM.succ{l:List Chg}{k:Nat}{es:List (Int×Value)}(h:NthM l k es)(hk:k<l.length):NthM l (k+1) (putK (KInt .i64) l[k].table (.int .i64 (((nthC l k l[k].table:Nat):Int)+1)) es):=fun t=>by
 rw[nthC_succ hk]
 by_cases e:l[k].table=t
 ·right
  subst e
  rw[getK_put_self,if_pos rfl]
  rfl
 ·rw[getK_put_ne _ _ _ (fun h=>e h.symm),if_neg e,Nat.add_zero]
  exact h t
set_option maxHeartbeats 8000000 in
theorem record_spec(n:Nat)(u:Value)(P:HProp)(cs:List Cm)(hn:n≤1000000)(hU:UT P)(hu:Vw P 4 u (cs.map cmV))(hc:∀ c∈cs,ChI P c∧ChOk c.c)(hl:cs.length≤199):
  FSpec Tryz.prog 49 [.int .u64 (n:Int),u] [P] Unit (fun _=>True) (fun _=>.string (recB n (cs.map Cm.c))) (fun _=>[P]):=by
 have lc:(cs.map cmV).length=cs.length:=by simp
 have lC:(cs.map Cm.c).length=cs.length:=by simp
 have h2:=num2_spec cs.length (by omega)
 refine spec_intro [] _ Tryz.func49 rfl Tryz.ntmps49 (by rfl) (fun w0 R=>?_)
 refine ok_learn (VwIn.slice (VwIn.here hu)) ?_
 rintro⟨pu,cu,rfl⟩
 have hT0:recT n (cs.map Cm.c) 0=numB cs.length 2:=by show numB (cs.map Cm.c).length 2=_;rw[lC]
 rw[← hT0,← lc]at h2
 have hNth0:NthM (cs.map Cm.c) 0 []:=fun t=>.inl ⟨rfl,rfl⟩
 repeat'(first|(refine gY ?_;intros)|(refine hY ?_ ?_<;>intro hgd)|(refine jY ?_ ?_<;>intro _)|fail)
 refine cl_Y (h2) ?_
 intro _ _
 repeat'(first|(refine gY ?_;intros)|(refine hY ?_ ?_<;>intro hgd)|(refine jY ?_ ?_<;>intro _)|fail)
 rename_i bm
 refine ok_map (L':=[mapK (KInt .i64) bm [],P]++R) entD ?_
 refine ok_loop' (γ:=Nat×List (Int×Value)) (fun g ρ L=>g.1≤cs.length∧NthM (cs.map Cm.c) g.1 g.2∧Knows ρ [(0,.int .u64 (n:Int)),(5,.string (recT n (cs.map Cm.c) g.1)),(6,.map (some bm)),(15,.slice pu (cs.map cmV).length cu),(16,.int .i64 ((cs.map cmV).length:Int)),(17,.int .i64 (g.1:Int))]∧
   L=[mapK (KInt .i64) bm g.2,P]++R) (fun g=>cs.length-g.1) (0,[]) ?_ ?_
 ·refine⟨Nat.zero_le _,hNth0,?_,?_⟩
  ·exact⟨rfl,rfl,rfl,rfl,rfl,rfl,trivial⟩
  ·rfl
 rintro⟨k,es⟩ ρ L ⟨hk0,hN,hk,rfl⟩
 dsimp only at hk0 hN hk ⊢
 refine ok_regs hk ?_
 have hTz:=recT_le (n:=n) (l:=cs.map Cm.c) (fun c hm=>by
  obtain⟨x,hx,rfl⟩:=List.mem_map.1 hm
  exact(hc x hx).2) (by omega) k (by omega)
 cases t1:decide ((k:Int)<((cs.map cmV).length:Int))with
 |false=>
  have hke:k=cs.length:=by have:=of_decide_eq_false t1;omega
  have hfin:recT n (cs.map Cm.c) k=recB n (cs.map Cm.c):=by unfold recB;rw[hke,lC]
  rw[hfin]
  generalize recB n (cs.map Cm.c)=S
  repeat'(first|(refine gY ?_;intros)|(refine hY ?_ ?_<;>intro hgd)|(refine jY ?_ ?_<;>intro _)|fail)
  (refine rt_Y (y:=()) (hrs:=Tryz.results49) (hv:=?_) (hφ:=?_))
  ·rfl
  ·trivial
 |true=>
  have h:k<cs.length:=by have:=of_decide_eq_true t1;omega
  have hx:(cs.map cmV)[k]? =some (cmV cs[k]):=by rw[List.getElem?_map,List.getElem?_eq_getElem h];rfl
  have hxc:(cs.map Cm.c)[k]? =some cs[k].c:=by rw[List.getElem?_map,List.getElem?_eq_getElem h];rfl
  have hn1:k<(cs.map cmV).length:=by omega
  obtain⟨hI,hO⟩:=hc _ (List.getElem_mem h)
  have hNt:=hN cs[k].c.table
  have hNs:=hN.succ (by omega:k<(cs.map Cm.c).length)
  have hnl:=nthC_le (cs.map Cm.c) k cs[k].c.table
  have hez:=recE_size (n:=n) (k:=k) (l:=cs.map Cm.c) hO (by omega)
  have hput:=evPut_spec ⟨(n:Int),(k:Int),(nthC (cs.map Cm.c) k cs[k].c.table:Int),cs[k]⟩ P hU hI.r hI.wb hI.wa hI.lb hI.la (hO.may _ _ (by dsimp only;omega) (by dsimp only;omega) (by dsimp only;omega)) (by dsimp only;omega) (by dsimp only;omega)
  have hE:putEB (n:Int) (k:Int) (nthC (cs.map Cm.c) k cs[k].c.table:Int) cs[k].c=recE n (cs.map Cm.c) k cs[k].c:=rfl
  dsimp only at hput
  rw[hE]at hput
  have hst:=recT_succ n hxc
  have hnz:=numB_size (recE n (cs.map Cm.c) k cs[k].c).size 4
  have hsm:(numB (recE n (cs.map Cm.c) k cs[k].c).size 4++recE n (cs.map Cm.c) k cs[k].c).size=4+(recE n (cs.map Cm.c) k cs[k].c).size:=by rw[ByteArray.size_append,numB_size]
  have hn4:=num4_spec (recE n (cs.map Cm.c) k cs[k].c).size (by omega)
  rw[List.getElem_map]at hNs
  generalize recE n (cs.map Cm.c) k cs[k].c=E at hput hez hst hn4 hnz hsm
  generalize recT n (cs.map Cm.c) k=T at hTz hst
  generalize hnn:nthC (cs.map Cm.c) k cs[k].c.table=nn at hNt hNs hnl hput
  clear hE hnn hO
  have hcb:=hI.r.bv
  have hca:=hI.r.av
  generalize cs[k]=c at hx hNt hNs hput hcb hca
  obtain⟨ck,ct,⟨bv,hbv⟩,bef,⟨av,hav⟩,aft⟩:=c
  dsimp only[cmV,emV,Cm.c]at hx hNt hNs hput hcb hca
  refine ok_learn (VwIn.slice (VwIn.there (VwIn.here hcb))) ?_
  rintro⟨pb,cb,rfl⟩
  refine ok_learn (VwIn.slice (VwIn.there (VwIn.here hca))) ?_
  rintro⟨pa,ca,rfl⟩
  refine ok_learn (VwIn.base (n:=4) (p:=pu) (len:=(cs.map cmV).length) (cap:=cu) (xs:=cs.map cmV) (VwIn.there (VwIn.here hu)) (by intro e;rw[e]at hn1;simp at hn1)) ?_
  rintro⟨bu,ou,rfl⟩
  rcases hNt with⟨hg,h0⟩|hg
  ·subst h0
   repeat'(first|(refine gY ?_;intros)|(refine hY ?_ ?_<;>intro hgd)|(refine jY ?_ ?_<;>intro _)|fail)
   refine cl_Y (hput) ?_
   intro _ _
   repeat'(first|(refine gY ?_;intros)|(refine hY ?_ ?_<;>intro hgd)|(refine jY ?_ ?_<;>intro _)|fail)
   refine cl_Y (hn4) ?_
   intro _ _
   repeat'(first|(refine gY ?_;intros)|(refine hY ?_ ?_<;>intro hgd)|(refine jY ?_ ?_<;>intro _)|fail)
   rw[← hst]
   refine cont_map (L':=[mapK (KInt .i64) bm (putK (KInt .i64) ct (.int .i64 (((0:Nat):Int)+1)) es),P]++R) entD ?_
   exact cont_back (k+1,putK (KInt .i64) ct (.int .i64 (((0:Nat):Int)+1)) es) ⟨h,hNs,⟨rfl,rfl,rfl,rfl,rfl,rfl,trivial⟩,rfl⟩ (by dsimp only;omega)
  ·repeat'(first|(refine gY ?_;intros)|(refine hY ?_ ?_<;>intro hgd)|(refine jY ?_ ?_<;>intro _)|fail)
   refine cl_Y (hput) ?_
   intro _ _
   repeat'(first|(refine gY ?_;intros)|(refine hY ?_ ?_<;>intro hgd)|(refine jY ?_ ?_<;>intro _)|fail)
   refine cl_Y (hn4) ?_
   intro _ _
   repeat'(first|(refine gY ?_;intros)|(refine hY ?_ ?_<;>intro hgd)|(refine jY ?_ ?_<;>intro _)|fail)
   rw[← hst]
   refine cont_map (L':=[mapK (KInt .i64) bm (putK (KInt .i64) ct (.int .i64 ((nn:Int)+1)) es),P]++R) entD ?_
   exact cont_back (k+1,putK (KInt .i64) ct (.int .i64 ((nn:Int)+1)) es) ⟨h,hNs,⟨rfl,rfl,rfl,rfl,rfl,rfl,trivial⟩,rfl⟩ (by dsimp only;omega)
def ycV(c:Cm):List Value:=[.agg (cmV c).toArray,.bool true]
def YcR(P:HProp)(x:Chg)(c:Cm):Prop:=CmR P c∧c.c=x
theorem YcR.ext{P P':HProp}(e:Ext P P'){x:Chg}{c:Cm}(h:YcR P x c):YcR P' x c:=⟨h.1.ext e,h.2⟩
theorem wgetN(t:BA)(v m:Nat)(ht:t=numB v m)(h1:1≤m)(h8:m≤8)(hv:v<256 ^ m):FSpec Tryz.prog 159 [.string t] [] Unit (fun _=>True) (fun _=>.tuple #[.int .u64 (v:Int),.int .i64 0]) (fun _=>[]):=by
 have hz:t.size=m:=by rw[ht,numB_size]
 have hg:=wget_spec t (by omega) (by omega)
 rw[getL_valB t (by omega),show valB t=(v:Int)by rw[ht];exact valB_numB hv]at hg
 exact hg
set_option maxHeartbeats 16000000 in
theorem changes1_spec(bt n:Nat)(l:List Chg)(A0:HProp)(hU:UT A0)(hn:n≤1000000)(hl:l.length≤199)(hc:∀ c∈l,ChOk c):
  ∀ (yv:Value) (St:HProp→List Cm→HProp) (P0:HProp),Ext A0 P0→(∀ (pre:List Cm) (x:Chg) (b:Cm) (Pq Pa:HProp),l[pre.length]? =some x→AllR YcR Pq l pre→Ext P0 Pq→Ext Pq Pa→YcR Pa x b→
   VSpec Tryz.prog yv (ycV b) [Pa,St Pq pre] HProp (fun Pb=>Ext Pa Pb) (fun _=>.bool true) (fun Pb=>[Pb,St Pb (pre++[b])]))→
  FSpec Tryz.prog 158 (yv::[.pointer (some ⟨bt,0,none⟩)]) ([pts bt (.cells [.string (recB n l)].toArray 9)]++[P0,St P0 []]) (List Cm×HProp×HProp) (fun y=>y.1.length=l.length∧AllR YcR y.2.1 l y.1∧Ext P0 y.2.1∧Ext y.2.1 y.2.2) (fun _=>.tuple #[]) (fun y=>y.2.2::St y.2.1 y.1::[]):=by
 intro yv St P0 hA0 hy
 have hsz:=recT_le (n:=n) hc hl l.length (Nat.le_refl _)
 have hsz':(recB n l).size≤2+1652*l.length:=hsz
 have h0:=rec_0 n l
 have hle:=h0.le
 rw[numB_size]at hle
 have hx0:=h0.ext
 rw[numB_size]at hx0
 have hg0:=wgetN ((recB n l).extract 0 2) l.length 2 hx0 (by omega) (by omega) (by omega)
 have hlast:(recT n l l.length).size=(recB n l).size:=rfl
 have hlen0:decide (((recB n l).size:Int)<2)=false:=decide_eq_false (by omega)
 have hr1:(0:Int)≤2∧(2:Int)≤((recB n l).size:Int):=⟨by omega,by omega⟩
 have hat:=fun(k:Nat) (c:Chg) (h:l[k]? =some c)=>rec_at' n h
 have hsu:=fun(k:Nat) (c:Chg) (h:l[k]? =some c)=>recT_size_succ n h
 have hT0:(recT n l 0).size=2:=by show(numB l.length 2).size=2;rw[numB_size]
 generalize hS:recB n l=s at*
 refine spec_intro [] _ Tryz.func158 rfl Tryz.ntmps158 (by rfl) (fun w0 R=>?_)
 repeat'(first|(refine gY ?_;intros)|(refine hY ?_ ?_<;>intro hgd)|(refine jY ?_ ?_<;>intro _)|fail)
 refine cl_Y (hg0) ?_
 intro _ _
 repeat'(first|(refine gY ?_;intros)|(refine hY ?_ ?_<;>intro hgd)|(refine jY ?_ ?_<;>intro _)|fail)
 refine ok_map (L':=[pts bt (.cells [.string (s.extract (recT n l 0).size s.size)].toArray 9),P0,St P0 []]++R) (by rw[hT0];exact entD) ?_
 refine ok_loop' (γ:=Nat×List Cm×HProp×HProp) (fun g ρ L=>g.2.1.length+g.1=l.length∧AllR YcR g.2.2.1 l g.2.1∧Ext P0 g.2.2.1∧Ext g.2.2.1 g.2.2.2∧Knows ρ [(0,yv),(1,.pointer (some ⟨bt,0,none⟩)),(3,.int .u64 (g.1:Int))]∧
   L=[pts bt (.cells [.string (s.extract (recT n l g.2.1.length).size s.size)].toArray 9),g.2.2.2,St g.2.2.1 g.2.1]++R) (fun g=>g.1) (l.length,[],P0,P0)
  ⟨by simp,.nil,.refl _,.refl _,⟨rfl,rfl,rfl,trivial⟩,rfl⟩ ?_
 rintro⟨m,bs,Pq,Pa⟩ ρ L ⟨hm,hall,hE0,hE1,hk,rfl⟩
 dsimp only at hm hall hE0 hE1 hk ⊢
 refine ok_regs hk ?_
 cases t1:decide ((0:Int)<(m:Int))with
 |false=>
  have hm0:m=0:=by have:=of_decide_eq_false t1;omega
  subst hm0
  have hbl:bs.length=l.length:=by omega
  have hend:(s.extract (recT n l bs.length).size s.size).size=0:=by rw[hbl,hlast];simp
  have t2:(!((s.extract (recT n l bs.length).size s.size).toList==(⟨#[]⟩:ByteArray).toList))=false:=by rw[emp_size,hend];rfl
  repeat'(first|(refine gY ?_;intros)|(refine hY ?_ ?_<;>intro hgd)|(refine jY ?_ ?_<;>intro _)|fail)
  (refine rt_Y (y:=(bs,Pq,Pa)) (hrs:=Tryz.results158) (hv:=?_) (hφ:=?_))
  ·rfl
  ·exact⟨hbl,hall,hE0,hE1⟩
 |true=>
  have hm1:0<m:=by have:=of_decide_eq_true t1;omega
  have hkl:bs.length<l.length:=by omega
  obtain⟨c,hcl⟩:∃ c,l[bs.length]? =some c:=⟨_,List.getElem?_eq_getElem hkl⟩
  have hcm:=hc c (List.mem_of_getElem? hcl)
  have hA:=hat _ _ hcl
  have hS1:=hsu _ _ hcl
  have hle1:=hA.le
  rw[ByteArray.size_append,numB_size]at hle1
  have hez:=recE_size (n:=n) (k:=bs.length) (l:=l) hcm (by omega)
  have hrz:=rest_size s (recT n l bs.length).size (by omega)
  have hR:At (s.extract (recT n l bs.length).size s.size) 0 (numB (recE n l bs.length c).size 4++recE n l bs.length c):=At.rest (i:=(recT n l bs.length).size) (j:=0) hA
  have hx4:=hR.left.ext
  have hxe:=hR.right.ext
  rw[numB_size]at hx4 hxe
  rw[Nat.zero_add]at hx4 hxe
  have hrr:=rest_rest s (recT n l bs.length).size (4+(recE n l bs.length c).size) (by omega)
  rw[← hS1]at hrr
  have hge:=evGet_spec (n:Int) (bs.length:Int) (nthC l bs.length c.table:Int) c Pa (hU.ext (hA0.trans (hE0.trans hE1))) (hcm.may _ _ (by omega) (by have:=nthC_le l bs.length c.table;omega) (by omega)) (by omega) (by omega) hcm.wb hcm.wa
  have hE:putEB (n:Int) (bs.length:Int) (nthC l bs.length c.table:Int) c=recE n l bs.length c:=rfl
  rw[hE]at hge
  generalize recE n l bs.length c=e at hx4 hxe hrr hge hez hle1 hS1
  generalize hoff:(recT n l bs.length).size=off at*
  generalize s.extract off s.size=rest at*
  have hg4:=wgetN (rest.extract 0 4) e.size 4 hx4 (by omega) (by omega) (by omega)
  have t2:decide ((4:Int)≤(rest.size:Int))=true:=decide_eq_true (by omega)
  have hw1:IntKind.u64.wrap ((rest.size:Int)-4)=(rest.size:Int)-4:=by show((rest.size:Int)-4) % 18446744073709551616=_;omega
  have hw2:IntKind.u64.wrap (arith BinOp.add 4 (e.size:Int))=4+(e.size:Int):=by show(4+(e.size:Int)) % 18446744073709551616=_;omega
  have hxe':rest.extract (4:Int).toNat (4+(e.size:Int)).toNat=e:=by rw[show(4+(e.size:Int)).toNat=4+e.size by omega];exact hxe
  have hrr':rest.extract (4+(e.size:Int)).toNat rest.size=s.extract (recT n l (bs.length+1)).size s.size:=by rw[show(4+(e.size:Int)).toNat=4+e.size by omega];exact hrr
  have hm2:IntKind.u64.wrap (arith BinOp.sub (m:Int) 1)=((m-1:Nat):Int):=by show((m:Int)-1) % 18446744073709551616=_;omega
  have t3:decide ((rest.size:Int)-4<(e.size:Int))=false:=decide_eq_false (by omega)
  have hr2:(0:Int)≤4∧(4:Int)≤(rest.size:Int):=⟨by omega,by omega⟩
  have hr3:(0:Int)≤4∧(4:Int)≤4+(e.size:Int)∧4+(e.size:Int)≤(rest.size:Int):=⟨by omega,by omega,by omega⟩
  have hr4:(0:Int)≤4+(e.size:Int)∧4+(e.size:Int)≤(rest.size:Int):=⟨by omega,by omega⟩
  repeat'(first|(refine gY ?_;intros)|(refine hY ?_ ?_<;>intro hgd)|(refine jY ?_ ?_<;>intro _)|fail)
  refine cl_Y (hg4) ?_
  intro _ _
  repeat'(first|(refine gY ?_;intros)|(refine hY ?_ ?_<;>intro hgd)|(refine jY ?_ ?_<;>intro _)|fail)
  rw[hw2,hxe']
  refine cl_Y (hge) ?_
  rintro⟨c',P'⟩ ⟨hE',hcr,hce⟩
  dsimp only at hE' hcr hce ⊢
  have hyc:=hy bs c c' Pq P' hcl hall hE0 (hE1.trans hE') ⟨hcr,hce⟩
  have hall':=fun(Pb:HProp) (hEb:Ext P' Pb)=>AllR.snoc (fun x b h=>YcR.ext ((hE1.trans hE').trans hEb) h) hall hcl (b:=c') ⟨hcr.ext hEb,hce⟩
  have hb':Vw P' 4 c'.bv.1 (c'.bef.map valV):=hcr.bv
  have ha':Vw P' 4 c'.av.1 (c'.aft.map valV):=hcr.av
  generalize hbs':bs++[c']=bs' at hyc hall'
  have hbl':bs'.length=bs.length+1:=by rw[← hbs',List.length_append,List.length_singleton]
  clear hce hcr
  obtain⟨ck',ct',⟨bv',hbv'⟩,bef',⟨av',hav'⟩,aft'⟩:=c'
  dsimp only[emV,cmV,ycV]at hyc hb' ha' ⊢
  refine ops_learn (VwIn.slice (VwIn.here hb')) ?_
  rintro⟨pb',cb',rfl⟩
  refine ops_learn (VwIn.slice (VwIn.here ha')) ?_
  rintro⟨pa',ca',rfl⟩
  repeat'(first|(refine gY ?_;intros)|(refine hY ?_ ?_<;>intro hgd)|(refine jY ?_ ?_<;>intro _)|fail)
  refine clV_Y (hyc) ?_
  intro Pb hEb
  repeat'(first|(refine gY ?_;intros)|(refine hY ?_ ?_<;>intro hgd)|(refine jY ?_ ?_<;>intro _)|fail)
  rw[hw2,hrr']
  refine cont_map (L':=[pts bt (.cells [.string (s.extract (recT n l bs'.length).size s.size)].toArray 9),Pb,St Pb bs']++R) (by rw[hbl'];exact entD) ?_
  exact cont_back (m-1,bs',Pb,Pb) ⟨by dsimp only;omega,hall' Pb hEb,hE0.trans ((hE1.trans hE').trans hEb),.refl _,⟨rfl,rfl,by rw[← hm2];rfl,trivial⟩,rfl⟩ (by dsimp only;omega)
theorem changes1_iter(bt n:Nat)(l:List Chg)(P0:HProp)(hU:UT P0)(hn:n≤1000000)(hl:l.length≤199)(hc:∀ c∈l,ChOk c):
  IterSpecP Tryz.prog 158 [.pointer (some ⟨bt,0,none⟩)] [pts bt (.cells [.string (recB n l)].toArray 9)] [] l ycV YcR P0:=
 fun yv St hy=>changes1_spec bt n l P0 hU hn hl hc yv St P0 (.refl _) hy
theorem sChgs_spec(s:BA):FSpec Tryz.prog 108 [.string s] [] Nat (fun _=>True) (fun y=>.func (.func 158) #[] [.pointer (some ⟨y,0,none⟩)].toArray) (fun y=>[pts y (.cells [.string s].toArray 9)]):=by
 refine spec_intro [] _ Tryz.func108 rfl Tryz.ntmps108 (by rfl) (fun w0 R=>?_)
 repeat'(first|(refine gY ?_;intros)|(refine hY ?_ ?_<;>intro hgd)|(refine jY ?_ ?_<;>intro _)|fail)
 rename_i b1
 (refine rt_Y (y:=b1) (hrs:=Tryz.results108) (hv:=?_) (hφ:=?_))
 ·rfl
 ·trivial
end Go.Proofs.YtmnafjonbeihiaaGreatDoor
namespace Go.Pl
open Go
def doneN(r:Rl)(l:List Chg):Rl:=l.foldl (fun r c=>(doneC r c).1) r
theorem dones_N:∀ {l:List Chg} {r r':Rl},dones r l=some r'→doneN r l=r'∧∀ k c,l[k]? =some c→(doneC (doneN r (l.take k)) c).2=true
 | [],r,r',h=>⟨Option.some.inj h,fun k c hk=>by simp at hk⟩
 |a::l,r,r',h=>by
  unfold dones at h
  split at h
  ·rename_i h1
   obtain⟨e1,e2⟩:=dones_N h
   refine⟨e1,fun k c hk=>?_⟩
   cases k with
   |zero=>
    obtain rfl:a=c:=by simpa using hk
    exact h1
   |succ k=>exact e2 k c (by simpa using hk)
  ·cases h
theorem doneN_succ(r:Rl){l:List Chg}{k:Nat}{c:Chg}(h:l[k]? =some c):doneN r (l.take (k+1))=(doneC (doneN r (l.take k)) c).1:=by
 have hk:k<l.length:=by
  rcases Nat.lt_or_ge k l.length with h1|h1
  ·exact h1
  ·rw[List.getElem?_eq_none h1]at h;cases h
 rw[List.getElem?_eq_getElem hk]at h
 obtain rfl:=Option.some.inj h
 unfold doneN
 rw[List.take_succ_eq_append_getElem hk,List.foldl_append]
 rfl
theorem doneC_ok{r:Rl}(h:r.Ok)(c:Chg):(doneC r c).1.Ok:=by
 unfold doneC
 split
 ·exact h
 ·exact h.doOp _
theorem doneN_ok{r:Rl}(h:r.Ok):∀ l:List Chg,(doneN r l).Ok:=fun l=>by
 unfold doneN
 induction l generalizing r with
 |nil=>exact h
 |cons c l ih=>exact ih (doneC_ok h c)
theorem doneN_s(r:Rl):∀ l:List Chg,(doneN r l).s=r.s:=fun l=>by
 unfold doneN
 induction l generalizing r with
 |nil=>rfl
 |cons c l ih=>rw[List.foldl_cons,ih,doneC_s]
end Go.Pl
namespace Go.Proofs.YtmnafjonbeihiaaGreatDoor
open Go Go.Fx Go.Proofs Go.Pl
abbrev Cmt:=V1s×List Cm
def cmtV(x:Cmt):List Value:=[x.1.1]
theorem ChI.ext{P P':HProp}(e:Ext P P'){c:Cm}(h:ChI P c):ChI P' c:=⟨h.r.ext e,h.wb,h.wa,h.lb,h.la,h.t0⟩
structure CmtI(P:HProp)(x:Cmt):Prop where
 vw:Vw P 4 x.1.1 (x.2.map cmV)
 ch:∀ c∈x.2,ChI P c∧ChOk c.c
 len:x.2.length≤199
theorem CmtI.ext{P P':HProp}(e:Ext P P'){x:Cmt}(h:CmtI P x):CmtI P' x:=⟨e.vw h.vw,fun c hc=>⟨(h.ch c hc).1.ext e,(h.ch c hc).2⟩,h.len⟩
theorem rowB_len{l:List Vl}(h:rowB l=true):l.length≤8:=by
 unfold rowB at h
 simp only[Bool.and_eq_true,decide_eq_true_eq]at h
 exact h.2.1
theorem chok_lens{c:Chg}(h:ChOk c):c.bef.length≤1000000∧c.aft.length≤1000000∧0≤c.table:=by
 have hm:=h.may 0 0 (by decide) (by decide) (by decide)
 obtain⟨_,_,b0,_,_,_,_,_,hrow⟩:=mayE_all hm
 have hn:=notE_nil hm
 refine⟨?_,?_,b0⟩
 ·have:c.bef∈hasE c∨c.bef∈notE c:=by unfold hasE notE;split<;>(try split)<;>simp
  rcases this with h1|h1
  ·have:=rowB_len (hrow _ h1);omega
  ·rw[hn _ h1];simp
 ·have:c.aft∈hasE c∨c.aft∈notE c:=by unfold hasE notE;split<;>(try split)<;>simp
  rcases this with h1|h1
  ·have:=rowB_len (hrow _ h1);omega
  ·rw[hn _ h1];simp
theorem ChI.of{P:HProp}{b:Cm}(h:CmR P b)(hc:ChOk b.c):ChI P b:=⟨h,hc.wb,hc.wa,(chok_lens hc).1,(chok_lens hc).2.1,(chok_lens hc).2.2⟩
theorem allR_eq{P:HProp}{l:List Chg}{bs:List Cm}(h:AllR YcR P l bs)(hl:bs.length≤l.length):bs.map Cm.c=l.take bs.length:=by
 apply List.ext_getElem?
 intro j
 rcases Nat.lt_or_ge j bs.length with h1|h1
 ·rw[List.getElem?_map,List.getElem?_eq_getElem h1,List.getElem?_take_of_lt h1,List.getElem?_eq_getElem (by omega:j<l.length)]
  exact congrArg some (h j _ _ (List.getElem?_eq_getElem (by omega)) (List.getElem?_eq_getElem h1)).2
 ·rw[List.getElem?_eq_none (by rw[List.length_map];exact h1),List.getElem?_eq_none (by rw[List.length_take];omega)]
def grwM(b5:Nat)(bs:List Cm)(v:V1s):List HProp:=[pts b5 (.cells [v.1].toArray 33),row 61 4 v.1 (bs.map cmV)]
set_option maxHeartbeats 32000000 in
theorem stake_spec(xb wb rb:Nat)(vs:Value)(ts:List Tb)(lv:V1s)(ls:List Cmt)(tp:Value)(r r':Rl)(l:List Chg)(P:HProp)(hvc:vs.oneCell'=true)(htc:tp.oneCell'=true)(hsv:SV P vs ts)(hts:ts.map Tb.c=r.s)(hok:r.Ok)(hU:UT P)(hls:ls.length<300)(hll:l.length≤199)(hd:dones r l=some r')(hw:r'.whole=true)(hch:∀ c∈l,ChOk c):
  FSpec Tryz.prog 62 [.pointer (some ⟨xb,0,none⟩),.string (recB (ls.length+1) l)] [pts xb (.cells [vs,.pointer (some ⟨wb,0,none⟩),lv.1,.pointer (some ⟨rb,0,none⟩),tp].toArray 99),row 33 1 lv.1 (ls.map cmtV),relP P rb r,P]
   (V1s×Cmt×HProp) (fun y=>Ext P y.2.2∧CmtI y.2.2 y.2.1∧y.2.1.2.map Cm.c=l) (fun _=>.bool true)
   (fun y=>[pts xb (.cells [vs,.pointer (some ⟨wb,0,none⟩),y.1.1,.pointer (some ⟨rb,0,none⟩),tp].toArray 99),row 33 1 y.1.1 ((ls++[y.2.1]).map cmtV),relP y.2.2 rb r',y.2.2]):=by
 obtain⟨lv,hlv⟩:=lv
 dsimp only
 obtain⟨hN1,hN2⟩:=dones_N hd
 have lls:(ls.map cmtV).length=ls.length:=by simp
 refine spec_intro [] _ Tryz.func62 rfl Tryz.ntmps62 (by rfl) (fun w0 R=>?_)
 repeat'(first|(refine gY ?_;intros)|(refine hY ?_ ?_<;>intro hgd)|(refine jY ?_ ?_<;>intro _)|fail)
 rename_i b4 b5
 refine ok_meetE (γ:=Nat×Nat×Nat) (fun g ρ L=>Knows ρ [(0,.pointer (some ⟨xb,0,none⟩)),(1,.string (recB (ls.length+1) l)),(4,.pointer (some ⟨b4,0,none⟩)),(5,.pointer (some ⟨b5,0,none⟩)),(6,.pointer (some ⟨g.2.2,0,none⟩))]∧
   L=[pts xb (.cells [vs,.pointer (some ⟨wb,0,none⟩),lv,.pointer (some ⟨rb,0,none⟩),tp].toArray 99),row 33 1 lv (ls.map cmtV),relP P rb r,P,pts b4 (.cells [.bool false].toArray 4),pts b5 (.cells [.slice none 0 0].toArray 33),
    pts g.2.2 (.cells [.func (.func 89) #[] [.pointer (some ⟨g.1,0,none⟩),.pointer (some ⟨g.2.1,0,none⟩)].toArray].toArray 101),pts g.1 (.cells [vs].toArray 29),pts g.2.1 (.cells [.pointer (some ⟨rb,0,none⟩)].toArray 37)]++R) ?_ ?_
 ·refine ok_draw_forkQ (cv:=[]) 8 9 [8,9] [pts xb (.cells [vs,.pointer (some ⟨wb,0,none⟩),lv,.pointer (some ⟨rb,0,none⟩),tp].toArray 99)] (by decide) (by kernel_rfl) rfl (by decide +kernel) (by decide +kernel) (takePre takeD) ?_
  repeat'(first|(refine gY ?_;intros)|(refine hY ?_ ?_<;>intro hgd)|(refine jY ?_ ?_<;>intro _)|fail)
  refine cont_forkQ (cv:=[]) rfl (by decide) rfl rfl rfl rfl rfl rfl (takePre takeD) (by decide +kernel) (by decide +kernel) ?_ ?_
  ·repeat'(first|(refine gY ?_;intros)|(refine hY ?_ ?_<;>intro hgd)|(refine jY ?_ ?_<;>intro _)|fail)
   refine clN_Y (doer_spec rb vs hvc) ?_
   rintro⟨d1,d2⟩ _
   repeat'(first|(refine gY ?_;intros)|(refine hY ?_ ?_<;>intro hgd)|(refine jY ?_ ?_<;>intro _)|fail)
   rename_i b6
   refine cont_map (L':=[pts xb (.cells [vs,.pointer (some ⟨wb,0,none⟩),lv,.pointer (some ⟨rb,0,none⟩),tp].toArray 99),row 33 1 lv (ls.map cmtV),relP P rb r,P,pts b4 (.cells [.bool false].toArray 4),pts b5 (.cells [.slice none 0 0].toArray 33),pts b6 (.cells [.func (.func 89) #[] [.pointer (some ⟨d1,0,none⟩),.pointer (some ⟨d2,0,none⟩)].toArray].toArray 101),pts d1 (.cells [vs].toArray 29),pts d2 (.cells [.pointer (some ⟨rb,0,none⟩)].toArray 37)]++R) entD ?_
   exact cont_meet (d1,d2,b6) ⟨⟨rfl,rfl,rfl,rfl,rfl,trivial⟩,rfl⟩
  ·intro b6
   repeat'(first|(refine gY ?_;intros)|(refine hY ?_ ?_<;>intro hgd)|(refine jY ?_ ?_<;>intro _)|fail)
   refine clN_Y (doer_spec rb vs hvc) ?_
   rintro⟨d1,d2⟩ _
   repeat'(first|(refine gY ?_;intros)|(refine hY ?_ ?_<;>intro hgd)|(refine jY ?_ ?_<;>intro _)|fail)
   refine cont_late rfl ?_
   repeat'(first|(refine gY ?_;intros)|(refine hY ?_ ?_<;>intro hgd)|(refine jY ?_ ?_<;>intro _)|fail)
   refine cont_map (L':=[pts xb (.cells [vs,.pointer (some ⟨wb,0,none⟩),lv,.pointer (some ⟨rb,0,none⟩),tp].toArray 99),row 33 1 lv (ls.map cmtV),relP P rb r,P,pts b4 (.cells [.bool false].toArray 4),pts b5 (.cells [.slice none 0 0].toArray 33),pts b6 (.cells [.func (.func 89) #[] [.pointer (some ⟨d1,0,none⟩),.pointer (some ⟨d2,0,none⟩)].toArray].toArray 101),pts d1 (.cells [vs].toArray 29),pts d2 (.cells [.pointer (some ⟨rb,0,none⟩)].toArray 37)]++R) entD ?_
   exact cont_meet (d1,d2,b6) ⟨⟨rfl,rfl,rfl,rfl,rfl,trivial⟩,rfl⟩
 rintro⟨d1,d2,b6⟩ ρ L ⟨hk,rfl⟩
 refine cont_regs hk ?_
 dsimp only
 repeat'(first|(refine gY ?_;intros)|(refine hY ?_ ?_<;>intro hgd)|(refine jY ?_ ?_<;>intro _)|fail)
 refine cl_Y (sChgs_spec (recB (ls.length+1) l)) ?_
 intro bt _
 repeat'(first|(refine gY ?_;intros)|(refine hY ?_ ?_<;>intro hgd)|(refine jY ?_ ?_<;>intro _)|fail)
 refine ok_map (fun _ h=>nilRow (e:=61) (n:=4) h) ?_
 refine ok_map (fun _ h=>ex_in (M:=grwM b5 []) ⟨.slice none 0 0,rfl⟩ rfl (Take.out takeD h)) ?_
 refine ok_rangeP (P0:=P) (fun Pq q=>[relP Pq rb (doneN r (l.take q.length)),exP (grwM b5 q),pts b4 (.cells [.bool false].toArray 4),pts b6 (.cells [.func (.func 89) #[] [.pointer (some ⟨d1,0,none⟩),.pointer (some ⟨d2,0,none⟩)].toArray].toArray 101),pts d1 (.cells [vs].toArray 29),pts d2 (.cells [.pointer (some ⟨rb,0,none⟩)].toArray 37),pts xb (.cells [vs,.pointer (some ⟨wb,0,none⟩),lv,.pointer (some ⟨rb,0,none⟩),tp].toArray 99),row 33 1 lv (ls.map cmtV)]) (changes1_iter bt (ls.length+1) l P hU (by omega) hll hch) rfl rfl takeD (R':=R) entD (fun _=>rfl) (by rfl) ?_ ?_
 ·intro l0 pre x b Pq Pa hx hall h0 hq hrel w1 R1 LP0 LP1 QB QE hB hN
  have hpl:pre.length<l.length:=by
   rcases Nat.lt_or_ge pre.length l.length with h1|h1
   ·exact h1
   ·rw[List.getElem?_eq_none h1]at hx;cases hx
  have hcx:=hch x (List.mem_of_getElem? hx)
  have hdc:=hN2 _ _ hx
  have hds:=doneN_succ r hx
  obtain⟨hcr,hce⟩:=hrel
  have hUa:=hU.ext (h0.trans hq)
  have hI:ChI Pa b:=ChI.of hcr (by rw[hce];exact hcx)
  have hdo:=doer1_spec d1 d2 rb (doneN r (l.take pre.length)) vs ts b Pa (doneN_ok hok _) hUa (hsv.ext (h0.trans hq)) (by rw[hts,doneN_s]) hvc hI
  rw[hce,hdc,← hds]at hdo
  have hl1:(pre++[b]).length=pre.length+1:=by rw[List.length_append,List.length_singleton]
  rw[hl1]at hN
  generalize doneN r (l.take (pre.length+1))=r2 at hdo hN
  generalize doneN r (l.take pre.length)=r1 at hdo ⊢
  have hv:=vspec_func (args:=[.agg (cmV b).toArray]) (cap:=[.pointer (some ⟨d1,0,none⟩),.pointer (some ⟨d2,0,none⟩)]) hdo
  have hb':Vw Pa 4 b.bv.1 (b.bef.map valV):=hcr.bv
  have ha':Vw Pa 4 b.av.1 (b.aft.map valV):=hcr.av
  have lp:(pre.map cmV).length=pre.length:=by simp
  refine ok_map (fun _ h=>relP_ext hq (b:=rb) (r:=r1) (Take.out1 (A:=relP Pq rb r1) takeD h)) ?_
  refine ok_ex (M:=grwM b5 pre) (by repeat(first|exact Sel.here|apply Sel.there)) ?_
  rintro⟨gv,hgv⟩
  unfold grwM
  dsimp only
  have hmm:(pre++[b]).map cmV=pre.map cmV++[cmV b]:=by rw[List.map_append];rfl
  generalize hpb:pre++[b]=pb at hN hmm
  clear hce hcr hI hdo hpb
  obtain⟨ck,ct,⟨bv,hbv⟩,bef,⟨av,hav⟩,aft⟩:=b
  dsimp only[ycV,cmV]at hv hb' ha' hmm ⊢
  refine ok_learn (VwIn.slice (VwIn.there (VwIn.there (VwIn.there (VwIn.there (VwIn.here hb')))))) ?_
  rintro⟨pb',cb',rfl⟩
  refine ok_learn (VwIn.slice (VwIn.there (VwIn.there (VwIn.there (VwIn.there (VwIn.here ha')))))) ?_
  rintro⟨pa',ca',rfl⟩
  repeat'(first|(refine gY ?_;intros)|(refine hY ?_ ?_<;>intro hgd)|(refine jY ?_ ?_<;>intro _)|fail)
  (refine hB takeD ?_)
  repeat'(first|(refine gY ?_;intros)|(refine hY ?_ ?_<;>intro hgd)|(refine jY ?_ ?_<;>intro _)|fail)
  refine clV_Y (hv) ?_
  intro Pb hEb
  repeat'(first|(refine gY ?_;intros)|(refine hY ?_ ?_<;>intro hgd)|(refine jY ?_ ?_<;>intro _)|fail)
  rename_i w hw
  rw[← hmm]
  refine cont_map (fun _ h=>ex_in (M:=grwM b5 pb) ⟨w,hw⟩ rfl (Take.out takeD h)) ?_
  exact hN Pb hEb takeD entD
 ·intro dk bs Pq Pe hbl hall h0 hq
  have hlt:l.take bs.length=l:=by rw[hbl,List.take_length]
  have hbc:=allR_eq hall (by omega)
  rw[hlt]at hbc ⊢
  rw[hN1]
  have lb:(bs.map cmV).length=bs.length:=by simp
  refine cont_ex (M:=grwM b5 bs) (by repeat(first|exact Sel.here|apply Sel.there)) ?_
  rintro⟨gv,hgv⟩
  unfold grwM
  dsimp only
  refine cont_map (fun _ h=>relP_ext hq (b:=rb) (r:=r') (Take.out1 (A:=relP Pq rb r') takeD h)) ?_
  refine cont_map (L':=[row 61 4 gv (bs.map cmV),Pe,relP Pe rb r',Fx.marked dk,pts b5 (.cells [gv].toArray 33),pts b4 (.cells [.bool false].toArray 4),pts xb (.cells [vs,.pointer (some ⟨wb,0,none⟩),lv,.pointer (some ⟨rb,0,none⟩),tp].toArray 99),row 33 1 lv (ls.map cmtV)]++R) entD ?_
  refine cont_poolN (ty:=61) (n:=4) (v:=gv) (xs:=bs.map cmV) (P:=Pe) takeD ?_
  intro P1 hE1 hv1
  refine cont_map (fun _ h=>relP_ext hE1 (b:=rb) (r:=r') (Take.out1 (A:=relP Pe rb r') takeD h)) ?_
  have hE0:=h0.trans (hq.trans hE1)
  have hcs:∀ c∈bs,ChI P1 c∧ChOk c.c:=fun c hm=>by
   obtain⟨k,hk,rfl⟩:=List.getElem_of_mem hm
   have hx:l[k]? =some (l[k]'(by omega)):=List.getElem?_eq_getElem _
   obtain⟨a1,a2⟩:=hall k _ _ hx (List.getElem?_eq_getElem hk)
   have hO:ChOk bs[k].c:=by rw[a2];exact hch _ (List.getElem_mem _)
   exact⟨ChI.of (a1.ext (hq.trans hE1)) hO,hO⟩
  have hrc:=record_spec (ls.length+1) gv P1 bs (by omega) (hU.ext hE0) hv1 hcs (by omega)
  rw[hbc]at hrc
  have hok':r'.Ok:=by rw[← hN1];exact doneN_ok hok l
  have hWh:=relWhole_spec rb r' P1 hok'
  rw[hw,cond_true]at hWh
  have hI:CmtI P1 (⟨gv,hgv⟩,bs):=⟨hv1,hcs,by show bs.length≤199;omega⟩
  have f1:((recB (ls.length+1) l).toList==(recB (ls.length+1) l).toList)=true:=by simp
  have f2:decide ((0:Int)=0)=true:=rfl
  generalize recB (ls.length+1) l=S at hrc f1 ⊢
  repeat'(first|(refine gY ?_;intros)|(refine hY ?_ ?_<;>intro hgd)|(refine jY ?_ ?_<;>intro _)|fail)
  refine ok_learn (VwIn.slice (VwIn.there (VwIn.here hv1))) ?_
  rintro⟨pg,cg,rfl⟩
  refine ok_learn (rowShapeS (e:=33) (n:=1) (v:=lv) (xs:=ls.map cmtV) (by decide) takeD) ?_
  rintro⟨pl,cl,rfl,_,_⟩
  have f3:decide (((ls.map cmtV++[(Value.slice pg (bs.map cmV).length cg).cells.toList]).length:Int)≤300)=true:=by rw[List.length_append,List.length_map];exact decide_eq_true (by show((ls.length+1:Nat):Int)≤300;omega)
  have f4:((ls.map cmtV++[(Value.slice pg (bs.map cmV).length cg).cells.toList]).length:Int)=((ls.length+1:Nat):Int):=by rw[List.length_append,List.length_map];rfl
  refine ok_drawL (cv:=[]) [6] ([pts xb (.cells [vs,.pointer (some ⟨wb,0,none⟩),.slice pl (ls.map cmtV).length cl,.pointer (some ⟨rb,0,none⟩),tp].toArray 99),pts b5 (.cells [.slice pg (bs.map cmV).length cg].toArray 33)]) (takeD) (by kernel_rfl) rfl (by decide +kernel) ?_
  repeat'(first|(refine gY ?_;intros)|(refine hY ?_ ?_<;>intro hgd)|(refine jY ?_ ?_<;>intro _)|fail)
  rename_i w2 hw2 w1 hw1
  refine cl_Y (hWh) ?_
  intro _ _
  repeat'(first|(refine gY ?_;intros)|(refine hY ?_ ?_<;>intro hgd)|(refine jY ?_ ?_<;>intro _)|fail)
  rw[f4,show IntKind.u64.wrap ((ls.length+1:Nat):Int)=((ls.length+1:Nat):Int)by rw[wrap_u64];omega]
  refine cl_Y (hrc) ?_
  intro _ _
  repeat'(first|(refine gY ?_;intros)|(refine hY ?_ ?_<;>intro hgd)|(refine jY ?_ ?_<;>intro _)|fail)
  rw[f1,show ls.map cmtV++[(Value.slice pg (bs.map cmV).length cg).cells.toList]=(ls++[((⟨.slice pg (bs.map cmV).length cg,hgv⟩,bs):Cmt)]).map cmtV by rw[List.map_append];rfl]
  refine rtM_Y (y:=(⟨w1,hw1⟩,(⟨.slice pg (bs.map cmV).length cg,hgv⟩,bs),P1)) (hrs:=Tryz.results62) (hv:=?_) (hφ:=?_)
  ·rfl
  ·exact⟨hE0,hI,hbc⟩
end Go.Proofs.YtmnafjonbeihiaaGreatDoor
