/- Texts merged: KxE KxF KxG KxH. -/
import Derived.Test.YtgbmjoenbocfcaaGreatG25
import Derived.Test.YtgbmjoenbocfcaaGreatFwRg
import Derived.Test.YtgbmjoenbocfcaaGreatG12
import Derived.Test.YtgbmjoenbocfcaaGreatG22
set_option linter.unusedSimpArgs false
set_option linter.unusedVariables false
set_option maxRecDepth 100000
namespace Go.Proofs.YtgbmjoenbocfcaaGreat
open Go Go.Fx Go.Proofs Go.Pl
def ueK(y:Ru×Nat):List Value:=.int .i64 (y.2:Int)::krV y.1
theorem rbackward_spec(pu:Option Addr)(nu cu:Nat):FSpec Tryz.prog 35 [.slice pu nu cu] [] Nat (fun _=>True) (fun y=>.func (.func 86) #[] [.pointer (some ⟨y,0,none⟩)].toArray) (fun y=>[pts y (.cells [.slice pu nu cu].toArray 76)]):=by
 refine spec_intro [] _ Tryz.func35 rfl Tryz.ntmps35 (by rfl) (fun w0 R=>?_)
 repeat'(first|(refine gY ?_;intros)|(refine hY ?_ ?_<;>intro hgd)|(refine jY ?_ ?_<;>intro _)|fail)
 rename_i p
 (refine rt_Y (y:=p) (hrs:=Tryz.results35) (hv:=?_) (hφ:=?_))
 ·rfl
 ·trivial
theorem zip_rev_takeK(us:List Ru)(j:Nat)(h:j<us.length):us.zipIdx.reverse.take (us.length-j)=us.zipIdx.reverse.take (us.length-(j+1))++[(us[j],j)]:=by
 have hl:us.zipIdx.reverse.length=us.length:=by simp
 have e:us.length-j=(us.length-(j+1))+1:=by omega
 rw[e,List.take_succ_eq_append_getElem (by rw[hl];omega)]
 congr 2
 rw[List.getElem_reverse,List.getElem_zipIdx]
 have:us.zipIdx.length-1-(us.length-(j+1))=j:=by rw[List.length_zipIdx];omega
 simp only[this,Nat.zero_add]
theorem rbackward1_spec(p:Nat)(u:Value)(us:List Ru)(hn:us.length≤1000000000):
  IterSpec Tryz.prog 86 [.pointer (some ⟨p,0,none⟩)] [pts p (.cells [u].toArray 76),row 83 1 u (us.map krV)] us.zipIdx.reverse ueK:=by
 intro yv St Sp go hy
 have lu:(us.map krV).length=us.length:=by simp
 have hzl:us.zipIdx.reverse.length=us.length:=by simp
 refine spec_intro [] _ Tryz.func86 rfl Tryz.ntmps86 (by rfl) (fun w0 R=>?_)
 refine ok_learn (rowShapeS (e:=83) (n:=1) (v:=u) (xs:=us.map krV) (by decide) takeD) ?_
 rintro⟨pu,cu,rfl,hcu,_⟩
 repeat'(first|(refine gY ?_;intros)|(refine hY ?_ ?_<;>intro hgd)|(refine jY ?_ ?_<;>intro _)|fail)
 refine ok_map (L':=[pts p (.cells [.slice pu (us.map krV).length cu].toArray 76),row 83 1 (.slice pu (us.map krV).length cu) (us.map krV),St []]++R) entD ?_
 refine ok_loop' (γ:=Nat) (fun g ρ L=>g≤us.length∧eat go [] us.zipIdx.reverse=eat go (us.zipIdx.reverse.take (us.length-g)) (us.zipIdx.reverse.drop (us.length-g))∧Knows ρ [(0,yv),(1,.pointer (some ⟨p,0,none⟩)),(3,.int .i64 ((g:Int)-1))]∧
   L=[pts p (.cells [.slice pu (us.map krV).length cu].toArray 76),row 83 1 (.slice pu (us.map krV).length cu) (us.map krV),St (us.zipIdx.reverse.take (us.length-g))]++R) (fun g=>g) us.length ⟨Nat.le_refl _,by rw[Nat.sub_self];rfl,⟨rfl,rfl,by rw[lu];rfl,trivial⟩,by rw[Nat.sub_self];rfl⟩ ?_
 rintro g ρ L ⟨hg,he,hk,rfl⟩
 refine ok_regs hk ?_
 cases t1:decide ((0:Int)≤(g:Int)-1)with
 |false=>
  have h0:g=0:=by have:=of_decide_eq_false t1;omega
  subst h0
  rw[Nat.sub_zero,List.drop_of_length_le (by rw[hzl];exact Nat.le_refl _),List.take_of_length_le (by rw[hzl];exact Nat.le_refl _)]at he
  rw[he,Nat.sub_zero,List.take_of_length_le (by rw[hzl];exact Nat.le_refl _)]
  repeat'(first|(refine gY ?_;intros)|(refine hY ?_ ?_<;>intro hgd)|(refine jY ?_ ?_<;>intro _)|fail)
  (refine rt_Y (y:=()) (hrs:=Tryz.results86) (hv:=?_) (hφ:=?_))
  ·rfl
  ·trivial
 |true=>
  obtain⟨j,rfl⟩:∃ j,g=j+1:=⟨g-1,by have:=of_decide_eq_true t1;omega⟩
  have hj:j<us.length:=by omega
  have hti:=zip_rev_takeK us j hj
  have hin:j<(us.map krV).length:=by omega
  have hx:(us.map krV)[j]? =some (krV us[j]):=by rw[List.getElem?_map,List.getElem?_eq_getElem hj];rfl
  have hgi:((j+1:Nat):Int)-1=(j:Int):=by omega
  have hdr:us.zipIdx.reverse.drop (us.length-(j+1))=(us[j],j)::us.zipIdx.reverse.drop (us.length-j):=by
   rw[List.drop_eq_getElem_cons (by rw[hzl];omega)]
   have e:us.length-(j+1)+1=us.length-j:=by omega
   rw[e]
   congr 1
   rw[List.getElem_reverse,List.getElem_zipIdx]
   have:us.zipIdx.length-1-(us.length-(j+1))=j:=by rw[List.length_zipIdx];omega
   simp only[this,Nat.zero_add]
  rw[hdr,eat_cons,← hti]at he
  have hpre:us.zipIdx.reverse.take (us.length-(j+1))++[(us[j],j)] <+:us.zipIdx.reverse:=by rw[← hti];exact List.take_prefix _ _
  have hv:=hy _ _ hpre
  rw[← hti]at hv
  refine ok_learn (VwIn.base (n:=1) (p:=pu) (len:=(us.map krV).length) (cap:=cu) (xs:=us.map krV) (VwIn.there (VwIn.here Vw.row)) (by intro e;rw[e]at hin;simp at hin)) ?_
  rintro⟨bu,ou,rfl⟩
  generalize us[j]=u0 at hx hv he
  dsimp only[krV]at hx
  unfold ueK krV at hv
  dsimp only at hv
  rw[hgi]at t1 ⊢
  cases hgo:go (us.zipIdx.reverse.take (us.length-j))with
  |false=>
   rw[hgo]at hv he
   rw[he]
   repeat'(first|(refine gY ?_;intros)|(refine hY ?_ ?_<;>intro hgd)|(refine jY ?_ ?_<;>intro _)|fail)
   refine clV_Y (hv) ?_
   intro _ _
   repeat'(first|(refine gY ?_;intros)|(refine hY ?_ ?_<;>intro hgd)|(refine jY ?_ ?_<;>intro _)|fail)
   (refine rt_Y (y:=()) (hrs:=Tryz.results86) (hv:=?_) (hφ:=?_))
   ·rfl
   ·trivial
  |true=>
   rw[hgo]at hv he
   repeat'(first|(refine gY ?_;intros)|(refine hY ?_ ?_<;>intro hgd)|(refine jY ?_ ?_<;>intro _)|fail)
   refine clV_Y (hv) ?_
   intro _ _
   repeat'(first|(refine gY ?_;intros)|(refine hY ?_ ?_<;>intro hgd)|(refine jY ?_ ?_<;>intro _)|fail)
   rw[if_pos rfl]at he
   rw[if_pos rfl]
   refine cont_map (L':=[pts p (.cells [.slice (some ⟨bu,ou,none⟩) (us.map krV).length cu].toArray 76),row 83 1 (.slice (some ⟨bu,ou,none⟩) (us.map krV).length cu) (us.map krV),St (us.zipIdx.reverse.take (us.length-j))]++R) entD ?_
   exact cont_back j ⟨by omega,he,⟨rfl,rfl,rfl,trivial⟩,rfl⟩ (by omega)
def getX(rd:En→Pr×Int)(l:List Pr)(key:BA):Pr×Bool×Int:=match(ents l).find? (fun e=>key.toList==e.p.k.toList)with|none=>(pr0,false,0)|some e=>((rd e).1,decide ((rd e).2=0),(rd e).2)
theorem rget_ds{b mb:Nat}{nm:BA}{rs:List Ru}{d:Dk}{mem:List Pr}{x:Ru}{rd:En→Pr×Int}(hx:x∈rs)(hr:RdF nm d x.n x.l rd)(hs:Sorted x.l)(hz:x.l.length≤1000000)(key:BA):
  FSpec Tryz.prog 36 [.pointer (some ⟨x.rb,0,none⟩),.string key] [dsP b nm rs d mb mem] Unit (fun _=>True) (fun _=>.tuple #[.agg (prV (getX rd x.l key).1).toArray,.bool (getX rd x.l key).2.1,.int .i64 (getX rd x.l key).2.2]) (fun _=>[dsP b nm rs d mb mem]):=by
 obtain⟨r1,r2,rfl⟩:=List.append_of_mem hx
 have hes:Sorted ((ents x.l).map (·.p)):=by rw[show(ents x.l).map (·.p)=x.l from entsF_p x.l 20];exact hs
 have hel:(ents x.l).length≤1099511627776:=by rw[show(ents x.l).length=x.l.length from entsF_len x.l 20];omega
 have h0:FSpec Tryz.prog 36 [.pointer (some ⟨x.rb,0,none⟩),.string key] [runX b nm x,diskP b d] Unit (fun _=>True) (fun _=>.tuple #[.agg (prV (getX rd x.l key).1).toArray,.bool (getX rd x.l key).2.1,.int .i64 (getX rd x.l key).2.2]) (fun _=>[runX b nm x,diskP b d]):=by
  refine fspec_ex ?_
  rintro⟨v,hv⟩
  unfold getX
  cases hf:(ents x.l).find? (fun e=>key.toList==e.p.k.toList)with
  |none=>
   have hn:∀ e∈ents x.l,e.p.k≠key:=fun e he hk=>by
    have:=List.find?_eq_none.1 hf e he
    exact this (eqS_iff.2 hk.symm)
   refine(fspec_frameK (rGet_none x.rb b (fileK nm runK x.n) v (runB x.l).size (ents x.l) key hes hel hn) [diskP b d]).conseq (fun R h s=>s) (fun y hy=>⟨(),trivial,rfl,fun R h s=>?_⟩)
   have s1:SatL ([rnP x.rb b (fileK nm runK x.n) v (runB x.l).size,enP v (ents x.l),diskP b d]++R) h:=s
   exact runX_in hv s1
  |some e=>
   have he:=List.mem_of_find?_eq_some hf
   have hk:(key.toList==e.p.k.toList)=true:=List.find?_some (p:=fun e:En=>key.toList==e.p.k.toList) hf
   obtain⟨j,hj,rfl⟩:=List.getElem_of_mem he
   refine(rGet_at x.rb b (fileK nm runK x.n) v (runB x.l).size (ents x.l) key (diskP b d) j _ _ hes hel hj (eqS_iff.1 hk).symm (hr x.rb b v _ _ he)).conseq (fun R h s=>s) (fun y hy=>⟨(),trivial,rfl,fun R h s=>?_⟩)
   have s1:SatL ([rnP x.rb b (fileK nm runK x.n) v (runB x.l).size,enP v (ents x.l),diskP b d]++R) h:=s
   exact runX_in hv s1
 refine(fspec_frameK h0 [runsX b nm r1,runsX b nm r2,memX mb mem]).conseq (fun R h s=>?_) (fun y hy=>⟨(),trivial,rfl,fun R h s=>?_⟩)
 ·have s1:SatL ([runsX b nm (r1++x::r2),diskP b d,memX mb mem]++R) h:=ds_out s
  have s2:SatL ([runX b nm x,runsX b nm r1,runsX b nm r2,diskP b d,memX mb mem]++R) h:=runs_open s1
  exact(entD) _ s2
 ·have s1:SatL ([runX b nm x,runsX b nm r1,runsX b nm r2,diskP b d,memX mb mem]++R) h:=(entD) _ s
  exact ds_in (runs_shut s1)
structure GS where
 p:Pr
 is:Bool
 e:Int
def gsP(s:GS):Bool:=s.is|| !decide (s.e=0)
def gsStep(rd:Int×List Pr→En→Pr×Int)(key:BA)(s:GS)(y:Ru×Nat):GS:=bif gsP s then s else⟨(getX (rd ((y.1.n:Int),y.1.l)) y.1.l key).1,(getX (rd ((y.1.n:Int),y.1.l)) y.1.l key).2.1,(getX (rd ((y.1.n:Int),y.1.l)) y.1.l key).2.2⟩
def gsQ(rd:Int×List Pr→En→Pr×Int)(key:BA)(s:GS)(q:List (Ru×Nat)):GS:=q.foldl (gsStep rd key) s
theorem gsQ_snoc(rd:Int×List Pr→En→Pr×Int)(key:BA)(s:GS)(q:List (Ru×Nat))(y:Ru×Nat):gsQ rd key s (q++[y])=gsStep rd key (gsQ rd key s q) y:=by unfold gsQ;rw[List.foldl_append];rfl
def goG(rd:Int×List Pr→En→Pr×Int)(key:BA)(s:GS)(q:List (Ru×Nat)):Bool:= !gsP (gsQ rd key s q.dropLast)
theorem goG_snoc(rd:Int×List Pr→En→Pr×Int)(key:BA)(s:GS)(q:List (Ru×Nat))(y:Ru×Nat):goG rd key s (q++[y])= !gsP (gsQ rd key s q):=by unfold goG;rw[List.dropLast_concat]
theorem gsQ_stop{rd:Int×List Pr→En→Pr×Int}{key:BA}{s:GS}(h:gsP s=true):∀ q:List (Ru×Nat),gsQ rd key s q=s
 | []=>rfl
 |y::q=>by
  show gsQ rd key (gsStep rd key s y) q=s
  rw[show gsStep rd key s y=s by unfold gsStep;rw[h];rfl]
  exact gsQ_stop h q
theorem eat_goG(rd:Int×List Pr→En→Pr×Int)(key:BA)(s:GS):∀ (l q:List (Ru×Nat)),gsQ rd key s (eat (goG rd key s) q l).1=gsQ rd key s (q++l)
 | [],q=>by simp[eat]
 |y::l,q=>by
  rw[eat_cons,goG_snoc]
  cases h:gsP (gsQ rd key s q)with
  |true=>
   simp only[Bool.not_true,Bool.false_eq_true,if_false]
   have e1:gsQ rd key s (q++[y])=gsQ rd key s q:=by rw[gsQ_snoc];unfold gsStep;rw[h];rfl
   have e2:gsQ rd key s (q++y::l)=gsQ rd key s q:=by
    have:gsQ rd key s (q++y::l)=gsQ rd key (gsQ rd key s q) (y::l):=by unfold gsQ;rw[List.foldl_append]
    rw[this,gsQ_stop h]
   rw[e1,e2]
  |false=>
   simp only[Bool.not_false,if_true]
   rw[eat_goG rd key s l (q++[y])];simp
def GSt(BAD:Prop)(s:GS)(o:Option Pr):Prop:=(s.e=0∧s.is=o.isSome∧∀ p,o=some p→s.p=p)∨(BAD∧s.e=71∧s.is=false)
theorem getX_ans{rd:En→Pr×Int}{BAD:Prop}{l:List Pr}(h:∀ e∈ents l,rd e=rdG e∨(BAD∧(rd e).2=71))(key:BA):GSt BAD ⟨(getX rd l key).1,(getX rd l key).2.1,(getX rd l key).2.2⟩ (Pl.look key l):=by
 have hm:(ents l).map (·.p)=l:=entsF_p l 20
 have hl:Pl.look key l=((ents l).find? (fun e=>key.toList==e.p.k.toList)).map (·.p):=by
  conv=>lhs;rw[← hm]
  unfold Pl.look
  rw[List.find?_map];rfl
 rw[hl]
 unfold getX
 cases hf:(ents l).find? (fun e=>key.toList==e.p.k.toList)with
 |none=>exact .inl ⟨rfl,rfl,fun p h=>by cases h⟩
 |some e=>
  rcases h e (List.mem_of_find?_eq_some hf)with he|⟨hb,he⟩
  ·dsimp only
   rw[he]
   exact .inl ⟨rfl,rfl,fun p h=>Option.some.inj h⟩
  ·refine .inr ⟨hb,he,?_⟩
   show decide ((rd e).2=0)=false
   rw[he];rfl
theorem gsStep_ans{rd:Int×List Pr→En→Pr×Int}{BAD:Prop}{key:BA}{s:GS}{o:Option Pr}{y:Ru×Nat}(h:GSt BAD s o)(hb:∀ e∈ents y.1.l,rd ((y.1.n:Int),y.1.l) e=rdG e∨(BAD∧(rd ((y.1.n:Int),y.1.l) e).2=71)):GSt BAD (gsStep rd key s y) (o.or (Pl.look key y.1.l)):=by
 unfold gsStep
 rcases h with⟨h1,h2,h3⟩|⟨h1,h2,h3⟩
 ·cases o with
  |some p=>
   have:gsP s=true:=by unfold gsP;rw[h2];rfl
   rw[this,cond_true]
   exact .inl ⟨h1,h2,h3⟩
  |none=>
   have:gsP s=false:=by unfold gsP;rw[h2,h1];rfl
   rw[this,cond_false]
   exact getX_ans hb key
 ·have:gsP s=true:=by unfold gsP;rw[h2];simp
  rw[this,cond_true]
  exact .inr ⟨h1,h2,h3⟩
theorem gsQ_ans{rd:Int×List Pr→En→Pr×Int}{BAD:Prop}{key:BA}(q:List (Ru×Nat)):∀ (s:GS) (o:Option Pr),GSt BAD s o→(∀ y∈q,∀ e∈ents y.1.l,rd ((y.1.n:Int),y.1.l) e=rdG e∨(BAD∧(rd ((y.1.n:Int),y.1.l) e).2=71))→GSt BAD (gsQ rd key s q) (o.or (lookB key (q.reverse.map fun y=>y.1.l) none)):=by
 induction q with
 |nil=>
  intro s o h _
  show GSt BAD s (o.or none)
  rw[Option.or_none];exact h
 |cons y q ih=>
  intro s o h hb
  have h1:=ih (gsStep rd key s y) _ (gsStep_ans (key:=key) h (hb y (List.mem_cons_self ..))) (fun y hy=>hb y (List.mem_cons_of_mem _ hy))
  rw[Option.or_assoc]at h1
  rw[List.reverse_cons,List.map_append,List.map_singleton,lookB_snoc]
  exact h1
def retG(s:GS):Value:=bif !decide (s.e=0)|| !s.is||s.p.g then .tuple #[.string ⟨#[]⟩,.bool false,.int .i64 s.e]else .tuple #[.string s.p.v,.bool true,.int .i64 0]
def gs0(o:Option Pr):GS:=match o with|some p=>⟨p,true,0⟩|none=>⟨pr0,false,0⟩
theorem gs0_get(o:Option Pr):getV o= .tuple #[.agg #[.string (gs0 o).p.k,.string (gs0 o).p.v,.bool (gs0 o).p.g],.bool (gs0 o).is]:=by cases o<;>rfl
theorem gs0_st(BAD:Prop)(o:Option Pr):GSt BAD (gs0 o) o:=by
 cases o with
 |none=>exact .inl ⟨rfl,rfl,fun p h=>by cases h⟩
 |some p=>exact .inl ⟨rfl,rfl,fun q h=>Option.some.inj h⟩
theorem gs0_e(o:Option Pr):(gs0 o).e=0:=by cases o<;>rfl
theorem zip_rev_map(rs:List Ru):(rs.zipIdx.reverse.reverse.map fun y=>y.1.l)=rs.map (·.l):=by
 rw[List.reverse_reverse]
 refine List.ext_getElem? fun i=>?_
 simp[List.getElem?_map,List.getElem?_zipIdx]
 cases rs[i]? <;>rfl
theorem ok_meetK{X:Cx}{ds:List Deferred}{ρ:Regs}{L:List HProp}{Q:Exit→Act→World→Prop}{c:Code}{γ:Type}(I:γ→Regs→List HProp→Prop)(h1:Ok X c ds ρ L (Meet X I ds Q))(h2:∀ g ρ L,I g ρ L→Cont X Q .normal ds ρ L):Ok X c ds ρ L Q:=by
 refine foldOk fun a w ha hs=>?_
 refine wpIn_mono (unfoldOk h1 a w ha hs) fun e a' w' he=>?_
 unfold Meet at he
 cases e with
 |normal=>
  obtain⟨g,ρ',L',hI,ha',hs'⟩:=he
  exact unfoldCont (h2 g ρ' L' hI) a' w' ha' hs'
 |_=>exact he
set_option maxHeartbeats 8000000 in
theorem kGet_spec(kb b mb:Nat)(nm:BA)(ft:Int)(K:Kv)(key:BA)(rd:Int×List Pr→En→Pr×Int)(BAD:Prop)(hK:KvR nm K rd BAD):
  FSpec Tryz.prog 10 [.pointer (some ⟨kb,0,none⟩),.string key] [stP kb b nm mb ft (kvD b mb nm K)] GS (fun s=>GSt BAD s (Pl.look key (putAllB (allS K) []))) retG (fun _=>[stP kb b nm mb ft (kvD b mb nm K)]):=by
 refine fspec_ex ?_
 rintro⟨m,⟨mv,hmv⟩,⟨wp,hwp⟩,⟨rv,hrv⟩⟩
 show FSpec _ _ _ (exP (kvM b mb nm K ⟨m,⟨mv,hmv⟩,⟨wp,hwp⟩,⟨rv,hrv⟩⟩)::[kvP kb b nm m mv wp mb rv ft]) _ _ _ _
 refine fspec_ex ?_
 rintro⟨wb,rs,g1,g2,g3⟩
 dsimp only at g1 g2 g3
 subst g1 g2
 have hlr:rs.length=K.rs.length:=by rw[← g3,List.length_map]
 have h256:=hK.num
 have lrv:(rs.map krV).length=rs.length:=by simp
 have hmg:=mGetX mb K.mem key hK.mem.sorted
 rw[gs0_get]at hmg
 have hst0:=gs0_st BAD (Pl.look key K.mem)
 have hfin:GSt BAD (gsQ rd key (gs0 (Pl.look key K.mem)) rs.zipIdx.reverse) (Pl.look key (putAllB (allS K) [])):=by
  have h1:=gsQ_ans (rd:=rd) (key:=key) rs.zipIdx.reverse _ _ hst0 (fun y hy=>by
   have h1:=List.mem_reverse.1 hy
   have h2:=List.mem_map_of_mem (f:=Prod.fst) h1
   rw[List.zipIdx_map_fst]at h2
   have h3:((y.1.n:Int),y.1.l)∈K.rs:=by rw[← g3];exact List.mem_map_of_mem (f:=fun x:Ru=>((x.n:Int),x.l)) h2
   exact hK.bad _ h3)
  rw[zip_rev_map]at h1
  rw[look_putAllB key [] hK.sorted]
  unfold allS
  rw[lookB_snoc,← g3,List.map_map]
  exact h1
 have hgx:∀ y∈rs.zipIdx.reverse,FSpec Tryz.prog 36 [.pointer (some ⟨y.1.rb,0,none⟩),.string key] [dsP b nm rs K.d mb K.mem] Unit (fun _=>True) (fun _=>.tuple #[.agg (prV (getX (rd ((y.1.n:Int),y.1.l)) y.1.l key).1).toArray,.bool (getX (rd ((y.1.n:Int),y.1.l)) y.1.l key).2.1,.int .i64 (getX (rd ((y.1.n:Int),y.1.l)) y.1.l key).2.2]) (fun _=>[dsP b nm rs K.d mb K.mem]):=fun y hy=>by
  have h1:=List.mem_reverse.1 hy
  have h2:=List.mem_map_of_mem (f:=Prod.fst) h1
  rw[List.zipIdx_map_fst]at h2
  have h3:((y.1.n:Int),y.1.l)∈K.rs:=by rw[← g3];exact List.mem_map_of_mem (f:=fun x:Ru=>((x.n:Int),x.l)) h2
  have hr:=hK.rds _ h3
  rw[Int.toNat_natCast]at hr
  exact rget_ds h2 hr (hK.srt _ h3) (hK.len _ h3) key
 have hs0e:=gs0_e (Pl.look key K.mem)
 generalize gs0 (Pl.look key K.mem)=s0 at hmg hst0 hfin hs0e
 clear hst0
 unfold kvM
 dsimp only
 unfold kvP kvC
 refine spec_intro [] _ Tryz.func10 rfl Tryz.ntmps10 (by rfl) (fun w0 R=>?_)
 repeat'(first|(refine gY ?_;intros)|(refine hY ?_ ?_<;>intro hgd)|(refine jY ?_ ?_<;>intro _)|fail)
 rename_i b3 b6
 refine ok_meetK (γ:=Nat×Nat) (fun g ρ L=>Knows ρ [(0,.pointer (some ⟨kb,0,none⟩)),(3,.pointer (some ⟨b3,0,none⟩)),(6,.pointer (some ⟨b6,0,none⟩)),(7,.pointer (some ⟨g.1,0,none⟩)),(8,.pointer (some ⟨g.2,0,none⟩))]∧
   L=[pts g.1 (.cells [.string s0.p.k,.string s0.p.v,.bool s0.p.g].toArray 65),pts g.2 (.cells [.bool s0.is].toArray 4),pts b6 (.cells [.int .i64 0].toArray 29),pts b3 (.cells [.string key].toArray 9),memX mb K.mem,pts kb (.cells [.pointer (some ⟨b,0,none⟩),.string nm,.int .u64 K.m.wal,mv,.int .u64 K.m.next,.pointer (some ⟨wb,0,none⟩),.pointer (some ⟨mb,0,none⟩),rv,.int .i64 ft].toArray 78),runsX b nm rs,diskP b K.d,row 70 1 mv (K.m.runs.map uV),row 83 1 rv (rs.map krV),walP wb b (fileK nm walK K.m.wal.toNat) K.w]++R) ?_ ?_
 ·refine ok_draw_node (cv:=[]) 5 [5,9,10,11,12] [pts kb (.cells [.pointer (some ⟨b,0,none⟩),.string nm,.int .u64 K.m.wal,mv,.int .u64 K.m.next,.pointer (some ⟨wb,0,none⟩),.pointer (some ⟨mb,0,none⟩),rv,.int .i64 ft].toArray 78),pts b3 (.cells [.string key].toArray 9)] (by kernel_rfl) rfl (by decide +kernel) (by decide +kernel) (by decide +kernel) (takePre takeD) _ rfl ?_
  refine cont_node [] [(5,[0,1,2,3,4,5],[6,7,8,9,10,11,12]),(9,[9],[0,1,2,3,4,5,6,7,8,10,11,12]),(10,[10],[0,1,2,3,4,5,6,7,8,9,11,12])] rfl (by decide +kernel) ?_
  intro x hx
  simp only[List.mem_cons,List.not_mem_nil,or_false]at hx
  rcases hx with rfl|rfl|rfl
  ·dsimp only[List.length_cons,List.length_nil]
   repeat'(first|(refine gY ?_;intros)|(refine hY ?_ ?_<;>intro hgd)|(refine jY ?_ ?_<;>intro _)|fail)
   refine clN_Y (hmg) ?_
   intro _ _
   repeat'(first|(refine gY ?_;intros)|(refine hY ?_ ?_<;>intro hgd)|(refine jY ?_ ?_<;>intro _)|fail)
   refine cont_node [] [(9,[9],[6,7,8,10,11,12]),(10,[10],[6,7,8,9,11,12])] rfl (by decide +kernel) ?_
   intro x hx
   simp only[List.mem_cons,List.not_mem_nil,or_false]at hx
   rcases hx with rfl|rfl
   ·dsimp only[List.length_cons,List.length_nil]
    repeat'(first|(refine gY ?_;intros)|(refine hY ?_ ?_<;>intro hgd)|(refine jY ?_ ?_<;>intro _)|fail)
    rename_i b7
    refine cont_node [] [(10,[10],[6,7,8,11,12])] rfl (by decide +kernel) ?_
    intro x hx
    simp only[List.mem_cons,List.not_mem_nil,or_false]at hx
    subst hx
    ·dsimp only[List.length_cons,List.length_nil]
     repeat'(first|(refine gY ?_;intros)|(refine hY ?_ ?_<;>intro hgd)|(refine jY ?_ ?_<;>intro _)|fail)
     rename_i b8
     refine cont_node [] [(11,[6,7,11],[8,12])] rfl (by decide +kernel) ?_
     intro x hx
     simp only[List.mem_cons,List.not_mem_nil,or_false]at hx
     subst hx
     ·dsimp only[List.length_cons,List.length_nil]
      repeat'(first|(refine gY ?_;intros)|(refine hY ?_ ?_<;>intro hgd)|(refine jY ?_ ?_<;>intro _)|fail)
      refine cont_node [] [(12,[8,12],[])] rfl (by decide +kernel) ?_
      intro x hx
      simp only[List.mem_cons,List.not_mem_nil,or_false]at hx
      subst hx
      ·dsimp only[List.length_cons,List.length_nil]
       repeat'(first|(refine gY ?_;intros)|(refine hY ?_ ?_<;>intro hgd)|(refine jY ?_ ?_<;>intro _)|fail)
       refine cont_node0 (by decide +kernel) ?_
       repeat'(first|(refine gY ?_;intros)|(refine hY ?_ ?_<;>intro hgd)|(refine jY ?_ ?_<;>intro _)|fail)
       refine cont_map (L':=[pts b7 (.cells [.string s0.p.k,.string s0.p.v,.bool s0.p.g].toArray 65),pts b8 (.cells [.bool s0.is].toArray 4),pts b6 (.cells [.int .i64 0].toArray 29),pts b3 (.cells [.string key].toArray 9),memX mb K.mem,pts kb (.cells [.pointer (some ⟨b,0,none⟩),.string nm,.int .u64 K.m.wal,mv,.int .u64 K.m.next,.pointer (some ⟨wb,0,none⟩),.pointer (some ⟨mb,0,none⟩),rv,.int .i64 ft].toArray 78),runsX b nm rs,diskP b K.d,row 70 1 mv (K.m.runs.map uV),row 83 1 rv (rs.map krV),walP wb b (fileK nm walK K.m.wal.toNat) K.w]++R) entD ?_
       exact cont_meet (b7,b8) ⟨⟨rfl,rfl,rfl,rfl,rfl,trivial⟩,rfl⟩
   ·dsimp only[List.length_cons,List.length_nil]
    repeat'(first|(refine gY ?_;intros)|(refine hY ?_ ?_<;>intro hgd)|(refine jY ?_ ?_<;>intro _)|fail)
    rename_i b8
    refine cont_node [] [(9,[9],[6,7,8,11,12])] rfl (by decide +kernel) ?_
    intro x hx
    simp only[List.mem_cons,List.not_mem_nil,or_false]at hx
    subst hx
    ·dsimp only[List.length_cons,List.length_nil]
     repeat'(first|(refine gY ?_;intros)|(refine hY ?_ ?_<;>intro hgd)|(refine jY ?_ ?_<;>intro _)|fail)
     rename_i b7
     refine cont_node [] [(11,[6,7,11],[8,12])] rfl (by decide +kernel) ?_
     intro x hx
     simp only[List.mem_cons,List.not_mem_nil,or_false]at hx
     subst hx
     ·dsimp only[List.length_cons,List.length_nil]
      repeat'(first|(refine gY ?_;intros)|(refine hY ?_ ?_<;>intro hgd)|(refine jY ?_ ?_<;>intro _)|fail)
      refine cont_node [] [(12,[8,12],[])] rfl (by decide +kernel) ?_
      intro x hx
      simp only[List.mem_cons,List.not_mem_nil,or_false]at hx
      subst hx
      ·dsimp only[List.length_cons,List.length_nil]
       repeat'(first|(refine gY ?_;intros)|(refine hY ?_ ?_<;>intro hgd)|(refine jY ?_ ?_<;>intro _)|fail)
       refine cont_node0 (by decide +kernel) ?_
       repeat'(first|(refine gY ?_;intros)|(refine hY ?_ ?_<;>intro hgd)|(refine jY ?_ ?_<;>intro _)|fail)
       refine cont_map (L':=[pts b7 (.cells [.string s0.p.k,.string s0.p.v,.bool s0.p.g].toArray 65),pts b8 (.cells [.bool s0.is].toArray 4),pts b6 (.cells [.int .i64 0].toArray 29),pts b3 (.cells [.string key].toArray 9),memX mb K.mem,pts kb (.cells [.pointer (some ⟨b,0,none⟩),.string nm,.int .u64 K.m.wal,mv,.int .u64 K.m.next,.pointer (some ⟨wb,0,none⟩),.pointer (some ⟨mb,0,none⟩),rv,.int .i64 ft].toArray 78),runsX b nm rs,diskP b K.d,row 70 1 mv (K.m.runs.map uV),row 83 1 rv (rs.map krV),walP wb b (fileK nm walK K.m.wal.toNat) K.w]++R) entD ?_
       exact cont_meet (b7,b8) ⟨⟨rfl,rfl,rfl,rfl,rfl,trivial⟩,rfl⟩
  ·dsimp only[List.length_cons,List.length_nil]
   repeat'(first|(refine gY ?_;intros)|(refine hY ?_ ?_<;>intro hgd)|(refine jY ?_ ?_<;>intro _)|fail)
   rename_i b7
   refine cont_node [] [(5,[0,1,2,3,4,5],[6,7,8,10,11,12]),(10,[10],[0,1,2,3,4,5,6,7,8,11,12])] rfl (by decide +kernel) ?_
   intro x hx
   simp only[List.mem_cons,List.not_mem_nil,or_false]at hx
   rcases hx with rfl|rfl
   ·dsimp only[List.length_cons,List.length_nil]
    repeat'(first|(refine gY ?_;intros)|(refine hY ?_ ?_<;>intro hgd)|(refine jY ?_ ?_<;>intro _)|fail)
    refine clN_Y (hmg) ?_
    intro _ _
    repeat'(first|(refine gY ?_;intros)|(refine hY ?_ ?_<;>intro hgd)|(refine jY ?_ ?_<;>intro _)|fail)
    refine cont_node [] [(10,[10],[6,7,8,11,12])] rfl (by decide +kernel) ?_
    intro x hx
    simp only[List.mem_cons,List.not_mem_nil,or_false]at hx
    subst hx
    ·dsimp only[List.length_cons,List.length_nil]
     repeat'(first|(refine gY ?_;intros)|(refine hY ?_ ?_<;>intro hgd)|(refine jY ?_ ?_<;>intro _)|fail)
     rename_i b8
     refine cont_node [] [(11,[6,7,11],[8,12])] rfl (by decide +kernel) ?_
     intro x hx
     simp only[List.mem_cons,List.not_mem_nil,or_false]at hx
     subst hx
     ·dsimp only[List.length_cons,List.length_nil]
      repeat'(first|(refine gY ?_;intros)|(refine hY ?_ ?_<;>intro hgd)|(refine jY ?_ ?_<;>intro _)|fail)
      refine cont_node [] [(12,[8,12],[])] rfl (by decide +kernel) ?_
      intro x hx
      simp only[List.mem_cons,List.not_mem_nil,or_false]at hx
      subst hx
      ·dsimp only[List.length_cons,List.length_nil]
       repeat'(first|(refine gY ?_;intros)|(refine hY ?_ ?_<;>intro hgd)|(refine jY ?_ ?_<;>intro _)|fail)
       refine cont_node0 (by decide +kernel) ?_
       repeat'(first|(refine gY ?_;intros)|(refine hY ?_ ?_<;>intro hgd)|(refine jY ?_ ?_<;>intro _)|fail)
       refine cont_map (L':=[pts b7 (.cells [.string s0.p.k,.string s0.p.v,.bool s0.p.g].toArray 65),pts b8 (.cells [.bool s0.is].toArray 4),pts b6 (.cells [.int .i64 0].toArray 29),pts b3 (.cells [.string key].toArray 9),memX mb K.mem,pts kb (.cells [.pointer (some ⟨b,0,none⟩),.string nm,.int .u64 K.m.wal,mv,.int .u64 K.m.next,.pointer (some ⟨wb,0,none⟩),.pointer (some ⟨mb,0,none⟩),rv,.int .i64 ft].toArray 78),runsX b nm rs,diskP b K.d,row 70 1 mv (K.m.runs.map uV),row 83 1 rv (rs.map krV),walP wb b (fileK nm walK K.m.wal.toNat) K.w]++R) entD ?_
       exact cont_meet (b7,b8) ⟨⟨rfl,rfl,rfl,rfl,rfl,trivial⟩,rfl⟩
   ·dsimp only[List.length_cons,List.length_nil]
    repeat'(first|(refine gY ?_;intros)|(refine hY ?_ ?_<;>intro hgd)|(refine jY ?_ ?_<;>intro _)|fail)
    rename_i b8
    refine cont_node [] [(5,[0,1,2,3,4,5],[6,7,8,11,12])] rfl (by decide +kernel) ?_
    intro x hx
    simp only[List.mem_cons,List.not_mem_nil,or_false]at hx
    subst hx
    ·dsimp only[List.length_cons,List.length_nil]
     repeat'(first|(refine gY ?_;intros)|(refine hY ?_ ?_<;>intro hgd)|(refine jY ?_ ?_<;>intro _)|fail)
     refine clN_Y (hmg) ?_
     intro _ _
     repeat'(first|(refine gY ?_;intros)|(refine hY ?_ ?_<;>intro hgd)|(refine jY ?_ ?_<;>intro _)|fail)
     refine cont_node [] [(11,[6,7,11],[8,12])] rfl (by decide +kernel) ?_
     intro x hx
     simp only[List.mem_cons,List.not_mem_nil,or_false]at hx
     subst hx
     ·dsimp only[List.length_cons,List.length_nil]
      repeat'(first|(refine gY ?_;intros)|(refine hY ?_ ?_<;>intro hgd)|(refine jY ?_ ?_<;>intro _)|fail)
      refine cont_node [] [(12,[8,12],[])] rfl (by decide +kernel) ?_
      intro x hx
      simp only[List.mem_cons,List.not_mem_nil,or_false]at hx
      subst hx
      ·dsimp only[List.length_cons,List.length_nil]
       repeat'(first|(refine gY ?_;intros)|(refine hY ?_ ?_<;>intro hgd)|(refine jY ?_ ?_<;>intro _)|fail)
       refine cont_node0 (by decide +kernel) ?_
       repeat'(first|(refine gY ?_;intros)|(refine hY ?_ ?_<;>intro hgd)|(refine jY ?_ ?_<;>intro _)|fail)
       refine cont_map (L':=[pts b7 (.cells [.string s0.p.k,.string s0.p.v,.bool s0.p.g].toArray 65),pts b8 (.cells [.bool s0.is].toArray 4),pts b6 (.cells [.int .i64 0].toArray 29),pts b3 (.cells [.string key].toArray 9),memX mb K.mem,pts kb (.cells [.pointer (some ⟨b,0,none⟩),.string nm,.int .u64 K.m.wal,mv,.int .u64 K.m.next,.pointer (some ⟨wb,0,none⟩),.pointer (some ⟨mb,0,none⟩),rv,.int .i64 ft].toArray 78),runsX b nm rs,diskP b K.d,row 70 1 mv (K.m.runs.map uV),row 83 1 rv (rs.map krV),walP wb b (fileK nm walK K.m.wal.toNat) K.w]++R) entD ?_
       exact cont_meet (b7,b8) ⟨⟨rfl,rfl,rfl,rfl,rfl,trivial⟩,rfl⟩
  ·dsimp only[List.length_cons,List.length_nil]
   repeat'(first|(refine gY ?_;intros)|(refine hY ?_ ?_<;>intro hgd)|(refine jY ?_ ?_<;>intro _)|fail)
   rename_i b8
   refine cont_node [] [(5,[0,1,2,3,4,5],[6,7,8,9,11,12]),(9,[9],[0,1,2,3,4,5,6,7,8,11,12])] rfl (by decide +kernel) ?_
   intro x hx
   simp only[List.mem_cons,List.not_mem_nil,or_false]at hx
   rcases hx with rfl|rfl
   ·dsimp only[List.length_cons,List.length_nil]
    repeat'(first|(refine gY ?_;intros)|(refine hY ?_ ?_<;>intro hgd)|(refine jY ?_ ?_<;>intro _)|fail)
    refine clN_Y (hmg) ?_
    intro _ _
    repeat'(first|(refine gY ?_;intros)|(refine hY ?_ ?_<;>intro hgd)|(refine jY ?_ ?_<;>intro _)|fail)
    refine cont_node [] [(9,[9],[6,7,8,11,12])] rfl (by decide +kernel) ?_
    intro x hx
    simp only[List.mem_cons,List.not_mem_nil,or_false]at hx
    subst hx
    ·dsimp only[List.length_cons,List.length_nil]
     repeat'(first|(refine gY ?_;intros)|(refine hY ?_ ?_<;>intro hgd)|(refine jY ?_ ?_<;>intro _)|fail)
     rename_i b7
     refine cont_node [] [(11,[6,7,11],[8,12])] rfl (by decide +kernel) ?_
     intro x hx
     simp only[List.mem_cons,List.not_mem_nil,or_false]at hx
     subst hx
     ·dsimp only[List.length_cons,List.length_nil]
      repeat'(first|(refine gY ?_;intros)|(refine hY ?_ ?_<;>intro hgd)|(refine jY ?_ ?_<;>intro _)|fail)
      refine cont_node [] [(12,[8,12],[])] rfl (by decide +kernel) ?_
      intro x hx
      simp only[List.mem_cons,List.not_mem_nil,or_false]at hx
      subst hx
      ·dsimp only[List.length_cons,List.length_nil]
       repeat'(first|(refine gY ?_;intros)|(refine hY ?_ ?_<;>intro hgd)|(refine jY ?_ ?_<;>intro _)|fail)
       refine cont_node0 (by decide +kernel) ?_
       repeat'(first|(refine gY ?_;intros)|(refine hY ?_ ?_<;>intro hgd)|(refine jY ?_ ?_<;>intro _)|fail)
       refine cont_map (L':=[pts b7 (.cells [.string s0.p.k,.string s0.p.v,.bool s0.p.g].toArray 65),pts b8 (.cells [.bool s0.is].toArray 4),pts b6 (.cells [.int .i64 0].toArray 29),pts b3 (.cells [.string key].toArray 9),memX mb K.mem,pts kb (.cells [.pointer (some ⟨b,0,none⟩),.string nm,.int .u64 K.m.wal,mv,.int .u64 K.m.next,.pointer (some ⟨wb,0,none⟩),.pointer (some ⟨mb,0,none⟩),rv,.int .i64 ft].toArray 78),runsX b nm rs,diskP b K.d,row 70 1 mv (K.m.runs.map uV),row 83 1 rv (rs.map krV),walP wb b (fileK nm walK K.m.wal.toNat) K.w]++R) entD ?_
       exact cont_meet (b7,b8) ⟨⟨rfl,rfl,rfl,rfl,rfl,trivial⟩,rfl⟩
   ·dsimp only[List.length_cons,List.length_nil]
    repeat'(first|(refine gY ?_;intros)|(refine hY ?_ ?_<;>intro hgd)|(refine jY ?_ ?_<;>intro _)|fail)
    rename_i b7
    refine cont_node [] [(5,[0,1,2,3,4,5],[6,7,8,11,12])] rfl (by decide +kernel) ?_
    intro x hx
    simp only[List.mem_cons,List.not_mem_nil,or_false]at hx
    subst hx
    ·dsimp only[List.length_cons,List.length_nil]
     repeat'(first|(refine gY ?_;intros)|(refine hY ?_ ?_<;>intro hgd)|(refine jY ?_ ?_<;>intro _)|fail)
     refine clN_Y (hmg) ?_
     intro _ _
     repeat'(first|(refine gY ?_;intros)|(refine hY ?_ ?_<;>intro hgd)|(refine jY ?_ ?_<;>intro _)|fail)
     refine cont_node [] [(11,[6,7,11],[8,12])] rfl (by decide +kernel) ?_
     intro x hx
     simp only[List.mem_cons,List.not_mem_nil,or_false]at hx
     subst hx
     ·dsimp only[List.length_cons,List.length_nil]
      repeat'(first|(refine gY ?_;intros)|(refine hY ?_ ?_<;>intro hgd)|(refine jY ?_ ?_<;>intro _)|fail)
      refine cont_node [] [(12,[8,12],[])] rfl (by decide +kernel) ?_
      intro x hx
      simp only[List.mem_cons,List.not_mem_nil,or_false]at hx
      subst hx
      ·dsimp only[List.length_cons,List.length_nil]
       repeat'(first|(refine gY ?_;intros)|(refine hY ?_ ?_<;>intro hgd)|(refine jY ?_ ?_<;>intro _)|fail)
       refine cont_node0 (by decide +kernel) ?_
       repeat'(first|(refine gY ?_;intros)|(refine hY ?_ ?_<;>intro hgd)|(refine jY ?_ ?_<;>intro _)|fail)
       refine cont_map (L':=[pts b7 (.cells [.string s0.p.k,.string s0.p.v,.bool s0.p.g].toArray 65),pts b8 (.cells [.bool s0.is].toArray 4),pts b6 (.cells [.int .i64 0].toArray 29),pts b3 (.cells [.string key].toArray 9),memX mb K.mem,pts kb (.cells [.pointer (some ⟨b,0,none⟩),.string nm,.int .u64 K.m.wal,mv,.int .u64 K.m.next,.pointer (some ⟨wb,0,none⟩),.pointer (some ⟨mb,0,none⟩),rv,.int .i64 ft].toArray 78),runsX b nm rs,diskP b K.d,row 70 1 mv (K.m.runs.map uV),row 83 1 rv (rs.map krV),walP wb b (fileK nm walK K.m.wal.toNat) K.w]++R) entD ?_
       exact cont_meet (b7,b8) ⟨⟨rfl,rfl,rfl,rfl,rfl,trivial⟩,rfl⟩
 rintro⟨b7,b8⟩ ρ L ⟨hk,rfl⟩
 dsimp only at hk ⊢
 refine cont_regs hk ?_
 clear hk
 repeat'(first|(refine gY ?_;intros)|(refine hY ?_ ?_<;>intro hgd)|(refine jY ?_ ?_<;>intro _)|fail)
 refine ops_learn (rowShapeS (e:=83) (n:=1) (v:=rv) (xs:=rs.map krV) (by decide) takeD) ?_
 rintro⟨pr,cr,rfl,hcr,hsr⟩
 refine cl_Y (rbackward_spec pr (rs.map krV).length cr) ?_
 intro p _
 repeat'(first|(refine gY ?_;intros)|(refine hY ?_ ?_<;>intro hgd)|(refine jY ?_ ?_<;>intro _)|fail)
 refine ok_map (L':=[runsX b nm rs,diskP b K.d,memX mb K.mem,pts b7 (.cells [.string s0.p.k,.string s0.p.v,.bool s0.p.g].toArray 65),pts b8 (.cells [.bool s0.is].toArray 4),pts b6 (.cells [.int .i64 s0.e].toArray 29),pts b3 (.cells [.string key].toArray 9),pts kb (.cells [.pointer (some ⟨b,0,none⟩),.string nm,.int .u64 K.m.wal,mv,.int .u64 K.m.next,.pointer (some ⟨wb,0,none⟩),.pointer (some ⟨mb,0,none⟩),.slice pr (rs.map krV).length cr,.int .i64 ft].toArray 78),row 70 1 mv (K.m.runs.map uV),walP wb b (fileK nm walK K.m.wal.toNat) K.w,pts p (.cells [(.slice pr (rs.map krV).length cr)].toArray 76),row 83 1 (.slice pr (rs.map krV).length cr) (rs.map krV)]++R) (by rw[hs0e];exact entD) ?_
 refine ok_map (fun _ h=>ds_in h) ?_
 have lz:rs.zipIdx.reverse.length=rs.length:=by simp
 refine ok_rangeW (goG rd key s0) (fun q=>[pts b7 (.cells [.string (gsQ rd key s0 q).p.k,.string (gsQ rd key s0 q).p.v,.bool (gsQ rd key s0 q).p.g].toArray 65),pts b8 (.cells [.bool (gsQ rd key s0 q).is].toArray 4),pts b6 (.cells [.int .i64 (gsQ rd key s0 q).e].toArray 29),pts b3 (.cells [.string key].toArray 9),dsP b nm rs K.d mb K.mem]) (fun _=>.exit 0) (rbackward1_spec p (.slice pr (rs.map krV).length cr) rs (by omega)) rfl rfl takeD (R':=[pts kb (.cells [.pointer (some ⟨b,0,none⟩),.string nm,.int .u64 K.m.wal,mv,.int .u64 K.m.next,.pointer (some ⟨wb,0,none⟩),.pointer (some ⟨mb,0,none⟩),.slice pr (rs.map krV).length cr,.int .i64 ft].toArray 78),row 70 1 mv (K.m.runs.map uV),walP wb b (fileK nm walK K.m.wal.toNat) K.w]++R) entD (fun _=>rfl) (by rfl) ?_ ?_ ?_
 ·intro l pre y hp w1 R1 LP0 LP1 QB QE hB hN hE hR
  have hgo:=goG_snoc rd key s0 pre y
  rw[gsQ_snoc]at hN hE
  have hg:=hgx y (hp.subset (by simp))
  obtain⟨x,i⟩:=y
  unfold gsStep at hN hE
  dsimp only at hN hE hg hgo ⊢
  generalize gsQ rd key s0 pre=S at hgo hN hE ⊢
  generalize getX (rd ((x.n:Int),x.l)) x.l key=gx at hg hN hE
  obtain⟨⟨qk,qv,qg⟩,qi,qe⟩:=gx
  obtain⟨⟨pk,pv,pg⟩,is,e⟩:=S
  dsimp only[prV]at hgo hN hE hg ⊢
  unfold gsP at hgo hN hE
  dsimp only at hgo hN hE
  unfold ueK krV
  dsimp only
  generalize dsP b nm rs K.d mb K.mem=DS at hg hN hE ⊢
  clear hgx hfin hmg
  cases is with
  |true=>
   simp only[Bool.true_or,Bool.not_true,cond_true]at hgo hE
   repeat'(first|(refine gY ?_;intros)|(refine hY ?_ ?_<;>intro hgd)|(refine jY ?_ ?_<;>intro _)|fail)
   (refine hB takeD ?_)
   repeat'(first|(refine gY ?_;intros)|(refine hY ?_ ?_<;>intro hgd)|(refine jY ?_ ?_<;>intro _)|fail)
   refine hE hgo rfl takeD entD
  |false=>
   cases t1:(!decide (e=0))with
   |true=>
    simp only[t1,Bool.false_or,Bool.not_true,cond_true]at hgo hE
    repeat'(first|(refine gY ?_;intros)|(refine hY ?_ ?_<;>intro hgd)|(refine jY ?_ ?_<;>intro _)|fail)
    (refine hB takeD ?_)
    repeat'(first|(refine gY ?_;intros)|(refine hY ?_ ?_<;>intro hgd)|(refine jY ?_ ?_<;>intro _)|fail)
    refine hE hgo rfl takeD entD
   |false=>
    simp only[t1,Bool.false_or,Bool.not_false,cond_false]at hgo hN
    repeat'(first|(refine gY ?_;intros)|(refine hY ?_ ?_<;>intro hgd)|(refine jY ?_ ?_<;>intro _)|fail)
    (refine hB takeD ?_)
    repeat'(first|(refine gY ?_;intros)|(refine hY ?_ ?_<;>intro hgd)|(refine jY ?_ ?_<;>intro _)|fail)
    refine cl_Y (hg) ?_
    intro _ _
    repeat'(first|(refine gY ?_;intros)|(refine hY ?_ ?_<;>intro hgd)|(refine jY ?_ ?_<;>intro _)|fail)
    refine hN hgo takeD entD
 ·intro dk hb
  generalize gsQ rd key s0 rs.zipIdx.reverse=F at hfin ⊢
  clear hgx hmg
  obtain⟨⟨pk,pv,pg⟩,is,e⟩:=F
  cases t1:(!decide (e=0))with
  |true=>
   repeat'(first|(refine gY ?_;intros)|(refine hY ?_ ?_<;>intro hgd)|(refine jY ?_ ?_<;>intro _)|fail)
   refine cont_map (L':=[dsP b nm rs K.d mb K.mem,row 70 1 mv (K.m.runs.map uV),row 83 1 (.slice pr (rs.map krV).length cr) (rs.map krV),walP wb b (fileK nm walK K.m.wal.toNat) K.w,pts kb (.cells [.pointer (some ⟨b,0,none⟩),.string nm,.int .u64 K.m.wal,mv,.int .u64 K.m.next,.pointer (some ⟨wb,0,none⟩),.pointer (some ⟨mb,0,none⟩),.slice pr (rs.map krV).length cr,.int .i64 ft].toArray 78),Fx.marked dk,pts b6 (.cells [.int .i64 e].toArray 29)]++R) entD ?_
   refine cont_map (fun _ h=>st_close hmv hwp rfl g3 h) ?_
   refine rtM_Y (y:=⟨⟨pk,pv,pg⟩,is,e⟩) (hrs:=Tryz.results10) (hv:=?_) (hφ:=?_)
   ·unfold retG;dsimp only;rw[t1];rfl
   ·exact hfin
  |false=>
   have he:e=0:=by simpa using t1
   subst he
   cases is with
   |false=>
    repeat'(first|(refine gY ?_;intros)|(refine hY ?_ ?_<;>intro hgd)|(refine jY ?_ ?_<;>intro _)|fail)
    refine cont_map (L':=[dsP b nm rs K.d mb K.mem,row 70 1 mv (K.m.runs.map uV),row 83 1 (.slice pr (rs.map krV).length cr) (rs.map krV),walP wb b (fileK nm walK K.m.wal.toNat) K.w,pts kb (.cells [.pointer (some ⟨b,0,none⟩),.string nm,.int .u64 K.m.wal,mv,.int .u64 K.m.next,.pointer (some ⟨wb,0,none⟩),.pointer (some ⟨mb,0,none⟩),.slice pr (rs.map krV).length cr,.int .i64 ft].toArray 78),Fx.marked dk,pts b6 (.cells [.int .i64 0].toArray 29)]++R) entD ?_
    refine cont_map (fun _ h=>st_close hmv hwp rfl g3 h) ?_
    refine rtM_Y (y:=⟨⟨pk,pv,pg⟩,false,0⟩) (hrs:=Tryz.results10) (hv:=?_) (hφ:=?_)
    ·rfl
    ·exact hfin
   |true=>
    cases pg with
    |true=>
     repeat'(first|(refine gY ?_;intros)|(refine hY ?_ ?_<;>intro hgd)|(refine jY ?_ ?_<;>intro _)|fail)
     refine cont_map (L':=[dsP b nm rs K.d mb K.mem,row 70 1 mv (K.m.runs.map uV),row 83 1 (.slice pr (rs.map krV).length cr) (rs.map krV),walP wb b (fileK nm walK K.m.wal.toNat) K.w,pts kb (.cells [.pointer (some ⟨b,0,none⟩),.string nm,.int .u64 K.m.wal,mv,.int .u64 K.m.next,.pointer (some ⟨wb,0,none⟩),.pointer (some ⟨mb,0,none⟩),.slice pr (rs.map krV).length cr,.int .i64 ft].toArray 78),Fx.marked dk,pts b6 (.cells [.int .i64 0].toArray 29)]++R) entD ?_
     refine cont_map (fun _ h=>st_close hmv hwp rfl g3 h) ?_
     refine rtM_Y (y:=⟨⟨pk,pv,true⟩,true,0⟩) (hrs:=Tryz.results10) (hv:=?_) (hφ:=?_)
     ·rfl
     ·exact hfin
    |false=>
     repeat'(first|(refine gY ?_;intros)|(refine hY ?_ ?_<;>intro hgd)|(refine jY ?_ ?_<;>intro _)|fail)
     refine cont_map (L':=[dsP b nm rs K.d mb K.mem,row 70 1 mv (K.m.runs.map uV),row 83 1 (.slice pr (rs.map krV).length cr) (rs.map krV),walP wb b (fileK nm walK K.m.wal.toNat) K.w,pts kb (.cells [.pointer (some ⟨b,0,none⟩),.string nm,.int .u64 K.m.wal,mv,.int .u64 K.m.next,.pointer (some ⟨wb,0,none⟩),.pointer (some ⟨mb,0,none⟩),.slice pr (rs.map krV).length cr,.int .i64 ft].toArray 78),Fx.marked dk,pts b6 (.cells [.int .i64 0].toArray 29)]++R) entD ?_
     refine cont_map (fun _ h=>st_close hmv hwp rfl g3 h) ?_
     refine rtM_Y (y:=⟨⟨pk,pv,false⟩,true,0⟩) (hrs:=Tryz.results10) (hv:=?_) (hφ:=?_)
     ·rfl
     ·exact hfin
 ·intro dk q hq
  have hF:=eat_goG rd key s0 rs.zipIdx.reverse []
  rw[hq,List.nil_append]at hF
  rw[← hF]at hfin
  dsimp only at hfin
  generalize gsQ rd key s0 q=F at hfin ⊢
  clear hgx hmg hF
  obtain⟨⟨pk,pv,pg⟩,is,e⟩:=F
  cases t1:(!decide (e=0))with
  |true=>
   repeat'(first|(refine gY ?_;intros)|(refine hY ?_ ?_<;>intro hgd)|(refine jY ?_ ?_<;>intro _)|fail)
   refine cont_map (L':=[dsP b nm rs K.d mb K.mem,row 70 1 mv (K.m.runs.map uV),row 83 1 (.slice pr (rs.map krV).length cr) (rs.map krV),walP wb b (fileK nm walK K.m.wal.toNat) K.w,pts kb (.cells [.pointer (some ⟨b,0,none⟩),.string nm,.int .u64 K.m.wal,mv,.int .u64 K.m.next,.pointer (some ⟨wb,0,none⟩),.pointer (some ⟨mb,0,none⟩),.slice pr (rs.map krV).length cr,.int .i64 ft].toArray 78),Fx.marked dk,pts b6 (.cells [.int .i64 e].toArray 29)]++R) entD ?_
   refine cont_map (fun _ h=>st_close hmv hwp rfl g3 h) ?_
   refine rtM_Y (y:=⟨⟨pk,pv,pg⟩,is,e⟩) (hrs:=Tryz.results10) (hv:=?_) (hφ:=?_)
   ·unfold retG;dsimp only;rw[t1];rfl
   ·exact hfin
  |false=>
   have he:e=0:=by simpa using t1
   subst he
   cases is with
   |false=>
    repeat'(first|(refine gY ?_;intros)|(refine hY ?_ ?_<;>intro hgd)|(refine jY ?_ ?_<;>intro _)|fail)
    refine cont_map (L':=[dsP b nm rs K.d mb K.mem,row 70 1 mv (K.m.runs.map uV),row 83 1 (.slice pr (rs.map krV).length cr) (rs.map krV),walP wb b (fileK nm walK K.m.wal.toNat) K.w,pts kb (.cells [.pointer (some ⟨b,0,none⟩),.string nm,.int .u64 K.m.wal,mv,.int .u64 K.m.next,.pointer (some ⟨wb,0,none⟩),.pointer (some ⟨mb,0,none⟩),.slice pr (rs.map krV).length cr,.int .i64 ft].toArray 78),Fx.marked dk,pts b6 (.cells [.int .i64 0].toArray 29)]++R) entD ?_
    refine cont_map (fun _ h=>st_close hmv hwp rfl g3 h) ?_
    refine rtM_Y (y:=⟨⟨pk,pv,pg⟩,false,0⟩) (hrs:=Tryz.results10) (hv:=?_) (hφ:=?_)
    ·rfl
    ·exact hfin
   |true=>
    cases pg with
    |true=>
     repeat'(first|(refine gY ?_;intros)|(refine hY ?_ ?_<;>intro hgd)|(refine jY ?_ ?_<;>intro _)|fail)
     refine cont_map (L':=[dsP b nm rs K.d mb K.mem,row 70 1 mv (K.m.runs.map uV),row 83 1 (.slice pr (rs.map krV).length cr) (rs.map krV),walP wb b (fileK nm walK K.m.wal.toNat) K.w,pts kb (.cells [.pointer (some ⟨b,0,none⟩),.string nm,.int .u64 K.m.wal,mv,.int .u64 K.m.next,.pointer (some ⟨wb,0,none⟩),.pointer (some ⟨mb,0,none⟩),.slice pr (rs.map krV).length cr,.int .i64 ft].toArray 78),Fx.marked dk,pts b6 (.cells [.int .i64 0].toArray 29)]++R) entD ?_
     refine cont_map (fun _ h=>st_close hmv hwp rfl g3 h) ?_
     refine rtM_Y (y:=⟨⟨pk,pv,true⟩,true,0⟩) (hrs:=Tryz.results10) (hv:=?_) (hφ:=?_)
     ·rfl
     ·exact hfin
    |false=>
     repeat'(first|(refine gY ?_;intros)|(refine hY ?_ ?_<;>intro hgd)|(refine jY ?_ ?_<;>intro _)|fail)
     refine cont_map (L':=[dsP b nm rs K.d mb K.mem,row 70 1 mv (K.m.runs.map uV),row 83 1 (.slice pr (rs.map krV).length cr) (rs.map krV),walP wb b (fileK nm walK K.m.wal.toNat) K.w,pts kb (.cells [.pointer (some ⟨b,0,none⟩),.string nm,.int .u64 K.m.wal,mv,.int .u64 K.m.next,.pointer (some ⟨wb,0,none⟩),.pointer (some ⟨mb,0,none⟩),.slice pr (rs.map krV).length cr,.int .i64 ft].toArray 78),Fx.marked dk,pts b6 (.cells [.int .i64 0].toArray 29)]++R) entD ?_
     refine cont_map (fun _ h=>st_close hmv hwp rfl g3 h) ?_
     refine rtM_Y (y:=⟨⟨pk,pv,false⟩,true,0⟩) (hrs:=Tryz.results10) (hv:=?_) (hφ:=?_)
     ·rfl
     ·exact hfin
theorem fspec_lrnK{P:Program}{f:FuncId}{args:List Value}{pre:List HProp}{Y:Type}{φ:Y→Prop}{ret:Y→Value}{post:Y→List HProp}{φ0:Prop}(k:∀ R h,SatL (pre++R) h→φ0)(h:φ0→FSpec P f args pre Y φ ret post):FSpec P f args pre Y φ ret post:=
 fun w0 w R hs=>h (k R _ hs.heap) w0 w R hs
theorem cloneR_spec(u:Value)(A:HProp)(xs:List (List Value))(hA:Vw A 1 u xs)(hl:xs.length≤1000000000):
  FSpec Tryz.prog 118 [u] [A] V1s (fun _=>True) (fun y=>y.1) (fun y=>[row 83 1 y.1 xs,A]):=by
 refine fspec_lrnK (fun R hh s=>(VwIn.slice (VwIn.here hA)) hh s) ?_
 rintro⟨pu,cu,rfl⟩
 cases pu with
 |none=>
  refine fspec_lrnK (φ0:=xs=[]) (fun R hh s=>?_) ?_
  ·obtain⟨_,p',c',e,_,h3,_⟩:=(VwIn.here hA).satL s
   cases e
   exact h3 rfl
  intro hn
  subst hn
  refine spec_intro [] _ Tryz.func118 rfl Tryz.ntmps118 (by rfl) (fun w0 R=>?_)
  refine ok_map (fun _ h=>nilRow (e:=83) (n:=1) h) ?_
  repeat'(first|(refine gY ?_;intros)|(refine hY ?_ ?_<;>intro hgd)|(refine jY ?_ ?_<;>intro _)|fail)
  (refine rt_Y (y:=⟨.slice none 0 0,rfl⟩) (hrs:=Tryz.results118) (hv:=?_) (hφ:=?_))
  ·rfl
  ·trivial
 |some p=>
  refine spec_intro [] _ Tryz.func118 rfl Tryz.ntmps118 (by rfl) (fun w0 R=>?_)
  repeat'(first|(refine gY ?_;intros)|(refine hY ?_ ?_<;>intro hgd)|(refine jY ?_ ?_<;>intro _)|fail)
  rename_i v1 hv1 v2 hv2
  rw[List.nil_append]
  (refine rt_Y (y:=⟨v2,hv2⟩) (hrs:=Tryz.results118) (hv:=?_) (hφ:=?_))
  ·rfl
  ·trivial
theorem cloneN_spec(u:Value)(A:HProp)(xs:List (List Value))(hA:Vw A 1 u xs)(hl:xs.length≤1000000000):
  FSpec Tryz.prog 53 [u] [A] V1s (fun _=>True) (fun y=>y.1) (fun y=>[row 70 1 y.1 xs,A]):=by
 refine fspec_lrnK (fun R hh s=>(VwIn.slice (VwIn.here hA)) hh s) ?_
 rintro⟨pu,cu,rfl⟩
 cases pu with
 |none=>
  refine fspec_lrnK (φ0:=xs=[]) (fun R hh s=>?_) ?_
  ·obtain⟨_,p',c',e,_,h3,_⟩:=(VwIn.here hA).satL s
   cases e
   exact h3 rfl
  intro hn
  subst hn
  refine spec_intro [] _ Tryz.func53 rfl Tryz.ntmps53 (by rfl) (fun w0 R=>?_)
  refine ok_map (fun _ h=>nilRow (e:=70) (n:=1) h) ?_
  repeat'(first|(refine gY ?_;intros)|(refine hY ?_ ?_<;>intro hgd)|(refine jY ?_ ?_<;>intro _)|fail)
  (refine rt_Y (y:=⟨.slice none 0 0,rfl⟩) (hrs:=Tryz.results53) (hv:=?_) (hφ:=?_))
  ·rfl
  ·trivial
 |some p=>
  refine spec_intro [] _ Tryz.func53 rfl Tryz.ntmps53 (by rfl) (fun w0 R=>?_)
  repeat'(first|(refine gY ?_;intros)|(refine hY ?_ ?_<;>intro hgd)|(refine jY ?_ ?_<;>intro _)|fail)
  rename_i v1 hv1 v2 hv2
  rw[List.nil_append]
  (refine rt_Y (y:=⟨v2,hv2⟩) (hrs:=Tryz.results53) (hv:=?_) (hφ:=?_))
  ·rfl
  ·trivial
set_option maxHeartbeats 8000000 in
theorem turnF_spec(kb b mb:Nat)(nm:BA)(m nx:Mn)(mv wp rv v u:Value)(ft:Int)(d:Dk)(n:Nat)(l:List Pr)(rs:List Ru)(rr:List Int)(Am Ar:HProp)(hv:v.oneCell'=true)(hwp:wp.oneCell'=true)(hAm:Vw Am 1 v (nx.runs.map uV))(hAr:Vw Ar 1 u (rs.map krV))(hrs:rs.length≤1000)(hla:nx.runs=rr++[(n:Int)])(hnl:nx.runs.length≤1000)
  (h12:n<281474976710656)(hn:nm.size≤1000000)(hd:d.Ok)(hl:d.loose.length≤1000000)(hf:d.read (fileK nm runK n) 0 16777216=(runB l,0))(hok:∀ p∈l,okP p=true)(hri:riseB l=true)(wn:Nat)(hwn:nx.wal=(wn:Int))(hw12:wn<281474976710656)(hne:nx.wal≠m.wal)(hOW:openW d (fileK nm walK wn)=(d,0,[],0)):
  FSpec Tryz.prog 61 [.pointer (some ⟨kb,0,none⟩),.agg (manV nx v).toArray,u] [kvP kb b nm m mv wp mb rv ft,diskP b d,Am,Ar] (Nat×Nat×V1s) (fun _=>True) (fun _=>.int .i64 0)
   (fun y=>[kvP kb b nm nx v (.pointer (some ⟨y.1,0,none⟩)) mb y.2.2.1 ft,diskP b d,runX b nm ⟨y.2.1,n,l⟩,walP y.1 b (fileK nm walK wn) ⟨0,0,0⟩,row 83 1 y.2.2.1 ((rs++[(⟨y.2.1,n,l⟩:Ru)]).map krV),Am,Ar]):=by
 obtain⟨nwal,nruns,nnext⟩:=nx
 dsimp only at hAm hla hnl hwn hne ⊢
 subst hwn
 have h16:n<16 ^ 12:=by
  have:(16:Nat) ^ 12=281474976710656:=by decide
  omega
 have hF1:=kfile_spec kb b nm m mv wp mb rv ft runK n h16 (by omega) (by decide)
 have hfz:(fileK nm runK n).size≤4611686018427387904:=by rw[fileK_size];have hk:runK.size=3:=rfl;omega
 have hO:=rOpen_spec b d (fileK nm runK n) l hfz hf hok hri
 have hcl:=cloneR_spec u Ar (rs.map krV) hAr (by simp;omega)
 have lnx:(nruns.map uV).length=rr.length+1:=by rw[hla];simp
 have hn1:rr.length<(nruns.map uV).length:=by omega
 have hx:(nruns.map uV)[rr.length]? =some [.int .u64 (n:Int)]:=by rw[hla];simp[uV]
 have hnlz:(nruns.map uV).length≤1000:=by simpa using hnl
 have hw16:wn<16 ^ 12:=by
  have:(16:Nat) ^ 12=281474976710656:=by decide
  omega
 have hF2:=kfile_spec kb b nm m mv wp mb rv ft walK wn hw16 (by omega) (by decide)
 have hfw:(fileK nm walK wn).size≤4611686018427387904:=by rw[fileK_size];have hk:walK.size=3:=rfl;omega
 have hW:=Open_good b d (fileK nm walK wn) hd (by omega) hfw (by rw[hOW])
 rw[hOW]at hW
 dsimp only at hW
 have t1:(!decide ((wn:Int)=m.wal))=true:=by simp[hne]
 generalize nruns.map uV=NR at hAm lnx hx hn1 hnlz
 have lrs:(rs.map krV).length≤1000:=by simp;omega
 generalize hRK:rs.map krV=RS at*
 unfold kvP kvC at hF1 hF2 ⊢
 dsimp only[manV]
 refine spec_intro [] _ Tryz.func61 rfl Tryz.ntmps61 (by rfl) (fun w0 R=>?_)
 refine ok_learn (VwIn.slice (VwIn.there (VwIn.there (VwIn.here hAm)))) ?_
 rintro⟨pv,cv0,rfl⟩
 refine ok_learn (VwIn.base (n:=1) (xs:=NR) (VwIn.there (VwIn.there (VwIn.here hAm))) (by intro e;rw[e]at hn1;simp at hn1)) ?_
 rintro⟨bu,ou,rfl⟩
 have hix:((NR.length:Int)-1)=(rr.length:Int):=by omega
 repeat'(first|(refine gY ?_;intros)|(refine hY ?_ ?_<;>intro hgd)|(refine jY ?_ ?_<;>intro _)|fail)
 rename_i b4
 refine ok_drawL (cv:=[]) [13] ([pts b4 (.cells [.int .u64 (wn:Int),(.slice (some ⟨bu,ou,none⟩) NR.length cv0),.int .u64 nnext].toArray 73),pts kb (.cells [.pointer (some ⟨b,0,none⟩),.string nm,.int .u64 m.wal,mv,.int .u64 m.next,wp,.pointer (some ⟨mb,0,none⟩),rv,.int .i64 ft].toArray 78),Am]) (takeD) (by kernel_rfl) rfl (by decide +kernel) ?_
 repeat'(first|(refine gY ?_;intros)|(refine hY ?_ ?_<;>intro hgd)|(refine jY ?_ ?_<;>intro _)|fail)
 refine clN_Y (hF1) ?_
 intro _ _
 repeat'(first|(refine gY ?_;intros)|(refine hY ?_ ?_<;>intro hgd)|(refine jY ?_ ?_<;>intro _)|fail)
 refine cl_Y (hO) ?_
 rintro⟨rb,⟨ev,hev⟩⟩ _
 dsimp only
 repeat'(first|(refine gY ?_;intros)|(refine hY ?_ ?_<;>intro hgd)|(refine jY ?_ ?_<;>intro _)|fail)
 refine ok_drawL (cv:=[]) [7] ([pts kb (.cells [.pointer (some ⟨b,0,none⟩),.string nm,.int .u64 m.wal,mv,.int .u64 m.next,wp,.pointer (some ⟨mb,0,none⟩),rv,.int .i64 ft].toArray 78),pts b4 (.cells [.int .u64 (wn:Int),(.slice (some ⟨bu,ou,none⟩) NR.length cv0),.int .u64 nnext].toArray 73)]) (takeD) (by kernel_rfl) rfl (by decide +kernel) ?_
 repeat'(first|(refine gY ?_;intros)|(refine hY ?_ ?_<;>intro hgd)|(refine jY ?_ ?_<;>intro _)|fail)
 refine clN_Y (hF2) ?_
 intro _ _
 repeat'(first|(refine gY ?_;intros)|(refine hY ?_ ?_<;>intro hgd)|(refine jY ?_ ?_<;>intro _)|fail)
 refine cl_Y (hW) ?_
 rintro⟨wb,⟨sv,hsv⟩⟩ _
 dsimp only
 repeat'(first|(refine gY ?_;intros)|(refine hY ?_ ?_<;>intro hgd)|(refine jY ?_ ?_<;>intro _)|fail)
 refine ok_meetK (γ:=V1s) (fun y ρ L=>L=[runX b nm ⟨rb,n,l⟩,pts kb (.cells [.pointer (some ⟨b,0,none⟩),.string nm,.int .u64 (wn:Int),(.slice (some ⟨bu,ou,none⟩) NR.length cv0),.int .u64 nnext,(.pointer (some ⟨wb,0,none⟩)),.pointer (some ⟨mb,0,none⟩),y.1,.int .i64 ft].toArray 78),diskP b d,walP wb b (fileK nm walK wn) ⟨0,0,0⟩,row 83 1 y.1 (RS++[[.pointer (some ⟨rb,0,none⟩)]]),Am,Ar]++R) ?_ ?_
 ·refine ok_draw_node (cv:=[]) 6 [6,8,9,12,15,18] [pts b4 (.cells [.int .u64 (wn:Int),(.slice (some ⟨bu,ou,none⟩) NR.length cv0),.int .u64 nnext].toArray 73)] (by kernel_rfl) rfl (by decide +kernel) (by decide +kernel) (by decide +kernel) (takePre takeD) _ rfl ?_
  refine cont_node [] [(6,[5,6],[0,1,2,3,4,7,8,9,10,11,12,13,14,15,16,17,18]),(8,[7,8],[0,1,2,3,4,5,6,9,10,11,12,13,14,15,16,17,18])] rfl (by decide +kernel) ?_
  intro x hx
  simp only[List.mem_cons,List.not_mem_nil,or_false]at hx
  rcases hx with rfl|rfl
  ·dsimp only[List.length_cons,List.length_nil]
   repeat'(first|(refine gY ?_;intros)|(refine hY ?_ ?_<;>intro hgd)|(refine jY ?_ ?_<;>intro _)|fail)
   refine clN_Y (hcl) ?_
   rintro⟨cv,hcv⟩ _
   dsimp only
   repeat'(first|(refine gY ?_;intros)|(refine hY ?_ ?_<;>intro hgd)|(refine jY ?_ ?_<;>intro _)|fail)
   refine cont_node [] [(8,[7,8],[0,1,2,3,4,9,10,11,12,13,14,15,16,17,18])] rfl (by decide +kernel) ?_
   intro x hx
   simp only[List.mem_cons,List.not_mem_nil,or_false]at hx
   subst hx
   ·dsimp only[List.length_cons,List.length_nil]
    repeat'(first|(refine gY ?_;intros)|(refine hY ?_ ?_<;>intro hgd)|(refine jY ?_ ?_<;>intro _)|fail)
    refine cont_node [] [(9,[9],[0,1,2,3,4,10,11,12,13,14,15,16,17,18])] rfl (by decide +kernel) ?_
    intro x hx
    simp only[List.mem_cons,List.not_mem_nil,or_false]at hx
    subst hx
    ·dsimp only[List.length_cons,List.length_nil]
     repeat'(first|(refine gY ?_;intros)|(refine hY ?_ ?_<;>intro hgd)|(refine jY ?_ ?_<;>intro _)|fail)
     rename_i v2 hv2
     refine cont_node [] [(12,[0,3,10,11,12],[1,2,4,13,14,15,16,17,18])] rfl (by decide +kernel) ?_
     intro x hx
     simp only[List.mem_cons,List.not_mem_nil,or_false]at hx
     subst hx
     ·dsimp only[List.length_cons,List.length_nil]
      repeat'(first|(refine gY ?_;intros)|(refine hY ?_ ?_<;>intro hgd)|(refine jY ?_ ?_<;>intro _)|fail)
      refine cont_node [] [(15,[1,4,13,14,15],[2,16,17,18])] rfl (by decide +kernel) ?_
      intro x hx
      simp only[List.mem_cons,List.not_mem_nil,or_false]at hx
      subst hx
      ·dsimp only[List.length_cons,List.length_nil]
       repeat'(first|(refine gY ?_;intros)|(refine hY ?_ ?_<;>intro hgd)|(refine jY ?_ ?_<;>intro _)|fail)
       refine cont_node [] [(18,[2,16,17,18],[])] rfl (by decide +kernel) ?_
       intro x hx
       simp only[List.mem_cons,List.not_mem_nil,or_false]at hx
       subst hx
       ·dsimp only[List.length_cons,List.length_nil]
        repeat'(first|(refine gY ?_;intros)|(refine hY ?_ ?_<;>intro hgd)|(refine jY ?_ ?_<;>intro _)|fail)
        refine cont_node0 (by decide +kernel) ?_
        repeat'(first|(refine gY ?_;intros)|(refine hY ?_ ?_<;>intro hgd)|(refine jY ?_ ?_<;>intro _)|fail)
        refine cont_map (L':=[rnP rb b (fileK nm runK n) ev (runB l).size,enP ev (ents l),pts kb (.cells [.pointer (some ⟨b,0,none⟩),.string nm,.int .u64 (wn:Int),(.slice (some ⟨bu,ou,none⟩) NR.length cv0),.int .u64 nnext,(.pointer (some ⟨wb,0,none⟩)),.pointer (some ⟨mb,0,none⟩),v2,.int .i64 ft].toArray 78),diskP b d,walP wb b (fileK nm walK wn) ⟨0,0,0⟩,row 83 1 v2 (RS++[[.pointer (some ⟨rb,0,none⟩)]]),Am,Ar]++R) entD ?_
        refine cont_map (fun _ h=>runX_in (x:=⟨rb,n,l⟩) hev h) ?_
        exact cont_meet ⟨v2,hv2⟩ rfl
  ·dsimp only[List.length_cons,List.length_nil]
   repeat'(first|(refine gY ?_;intros)|(refine hY ?_ ?_<;>intro hgd)|(refine jY ?_ ?_<;>intro _)|fail)
   refine cont_node [] [(6,[5,6],[0,1,2,3,4,9,10,11,12,13,14,15,16,17,18])] rfl (by decide +kernel) ?_
   intro x hx
   simp only[List.mem_cons,List.not_mem_nil,or_false]at hx
   subst hx
   ·dsimp only[List.length_cons,List.length_nil]
    repeat'(first|(refine gY ?_;intros)|(refine hY ?_ ?_<;>intro hgd)|(refine jY ?_ ?_<;>intro _)|fail)
    refine clN_Y (hcl) ?_
    rintro⟨cv,hcv⟩ _
    dsimp only
    repeat'(first|(refine gY ?_;intros)|(refine hY ?_ ?_<;>intro hgd)|(refine jY ?_ ?_<;>intro _)|fail)
    refine cont_node [] [(9,[9],[0,1,2,3,4,10,11,12,13,14,15,16,17,18])] rfl (by decide +kernel) ?_
    intro x hx
    simp only[List.mem_cons,List.not_mem_nil,or_false]at hx
    subst hx
    ·dsimp only[List.length_cons,List.length_nil]
     repeat'(first|(refine gY ?_;intros)|(refine hY ?_ ?_<;>intro hgd)|(refine jY ?_ ?_<;>intro _)|fail)
     rename_i v2 hv2
     refine cont_node [] [(12,[0,3,10,11,12],[1,2,4,13,14,15,16,17,18])] rfl (by decide +kernel) ?_
     intro x hx
     simp only[List.mem_cons,List.not_mem_nil,or_false]at hx
     subst hx
     ·dsimp only[List.length_cons,List.length_nil]
      repeat'(first|(refine gY ?_;intros)|(refine hY ?_ ?_<;>intro hgd)|(refine jY ?_ ?_<;>intro _)|fail)
      refine cont_node [] [(15,[1,4,13,14,15],[2,16,17,18])] rfl (by decide +kernel) ?_
      intro x hx
      simp only[List.mem_cons,List.not_mem_nil,or_false]at hx
      subst hx
      ·dsimp only[List.length_cons,List.length_nil]
       repeat'(first|(refine gY ?_;intros)|(refine hY ?_ ?_<;>intro hgd)|(refine jY ?_ ?_<;>intro _)|fail)
       refine cont_node [] [(18,[2,16,17,18],[])] rfl (by decide +kernel) ?_
       intro x hx
       simp only[List.mem_cons,List.not_mem_nil,or_false]at hx
       subst hx
       ·dsimp only[List.length_cons,List.length_nil]
        repeat'(first|(refine gY ?_;intros)|(refine hY ?_ ?_<;>intro hgd)|(refine jY ?_ ?_<;>intro _)|fail)
        refine cont_node0 (by decide +kernel) ?_
        repeat'(first|(refine gY ?_;intros)|(refine hY ?_ ?_<;>intro hgd)|(refine jY ?_ ?_<;>intro _)|fail)
        refine cont_map (L':=[rnP rb b (fileK nm runK n) ev (runB l).size,enP ev (ents l),pts kb (.cells [.pointer (some ⟨b,0,none⟩),.string nm,.int .u64 (wn:Int),(.slice (some ⟨bu,ou,none⟩) NR.length cv0),.int .u64 nnext,(.pointer (some ⟨wb,0,none⟩)),.pointer (some ⟨mb,0,none⟩),v2,.int .i64 ft].toArray 78),diskP b d,walP wb b (fileK nm walK wn) ⟨0,0,0⟩,row 83 1 v2 (RS++[[.pointer (some ⟨rb,0,none⟩)]]),Am,Ar]++R) entD ?_
        refine cont_map (fun _ h=>runX_in (x:=⟨rb,n,l⟩) hev h) ?_
        exact cont_meet ⟨v2,hv2⟩ rfl
 rintro⟨v2,hv2⟩ ρ L rfl
 dsimp only
 repeat'(first|(refine gY ?_;intros)|(refine hY ?_ ?_<;>intro hgd)|(refine jY ?_ ?_<;>intro _)|fail)
 refine cont_map (L':=[pts kb (.cells [.pointer (some ⟨b,0,none⟩),.string nm,.int .u64 (wn:Int),(.slice (some ⟨bu,ou,none⟩) NR.length cv0),.int .u64 nnext,(.pointer (some ⟨wb,0,none⟩)),.pointer (some ⟨mb,0,none⟩),v2,.int .i64 ft].toArray 78),diskP b d,runX b nm ⟨rb,n,l⟩,walP wb b (fileK nm walK wn) ⟨0,0,0⟩,row 83 1 v2 ((rs++[(⟨rb,n,l⟩:Ru)]).map krV),Am,Ar]++R) (by rw[List.map_append,hRK];exact entD) ?_
 (refine rt_Y (y:=(wb,rb,⟨v2,hv2⟩)) (hrs:=Tryz.results61) (hv:=?_) (hφ:=?_))
 ·rfl
 ·trivial
set_option maxHeartbeats 8000000 in
theorem turnC_spec(kb b mb:Nat)(nm:BA)(m nx:Mn)(mv wp rv v u:Value)(ft:Int)(d:Dk)(n:Nat)(l:List Pr)(rs:List Ru)(rr:List Int)(Am Ar:HProp)(hv:v.oneCell'=true)(hwp:wp.oneCell'=true)(hAm:Vw Am 1 v (nx.runs.map uV))(hAr:Vw Ar 1 u (rs.map krV))(hrs:rs.length≤1000)(hla:nx.runs=rr++[(n:Int)])(hnl:nx.runs.length≤1000)
  (h12:n<281474976710656)(hn:nm.size≤1000000)(hd:d.Ok)(hl:d.loose.length≤1000000)(hf:d.read (fileK nm runK n) 0 16777216=(runB l,0))(hok:∀ p∈l,okP p=true)(hri:riseB l=true)(hne:nx.wal=m.wal):
  FSpec Tryz.prog 61 [.pointer (some ⟨kb,0,none⟩),.agg (manV nx v).toArray,u] [kvP kb b nm m mv wp mb rv ft,diskP b d,Am,Ar] (Nat×V1s) (fun _=>True) (fun _=>.int .i64 0)
   (fun y=>[kvP kb b nm nx v wp mb y.2.1 ft,diskP b d,runX b nm ⟨y.1,n,l⟩,row 83 1 y.2.1 ((rs++[(⟨y.1,n,l⟩:Ru)]).map krV),Am,Ar]):=by
 obtain⟨nwal,nruns,nnext⟩:=nx
 dsimp only at hAm hla hnl hne ⊢
 have h16:n<16 ^ 12:=by
  have:(16:Nat) ^ 12=281474976710656:=by decide
  omega
 have hF1:=kfile_spec kb b nm m mv wp mb rv ft runK n h16 (by omega) (by decide)
 have hfz:(fileK nm runK n).size≤4611686018427387904:=by rw[fileK_size];have hk:runK.size=3:=rfl;omega
 have hO:=rOpen_spec b d (fileK nm runK n) l hfz hf hok hri
 have hcl:=cloneR_spec u Ar (rs.map krV) hAr (by simp;omega)
 have lnx:(nruns.map uV).length=rr.length+1:=by rw[hla];simp
 have hn1:rr.length<(nruns.map uV).length:=by omega
 have hx:(nruns.map uV)[rr.length]? =some [.int .u64 (n:Int)]:=by rw[hla];simp[uV]
 have hnlz:(nruns.map uV).length≤1000:=by simpa using hnl
 have t1:(!decide (nwal=m.wal))=false:=by simp[hne]
 generalize nruns.map uV=NR at hAm lnx hx hn1 hnlz
 have lrs:(rs.map krV).length≤1000:=by simp;omega
 generalize hRK:rs.map krV=RS at*
 unfold kvP kvC at hF1 ⊢
 dsimp only[manV]
 refine spec_intro [] _ Tryz.func61 rfl Tryz.ntmps61 (by rfl) (fun w0 R=>?_)
 refine ok_learn (VwIn.slice (VwIn.there (VwIn.there (VwIn.here hAm)))) ?_
 rintro⟨pv,cv0,rfl⟩
 refine ok_learn (VwIn.base (n:=1) (xs:=NR) (VwIn.there (VwIn.there (VwIn.here hAm))) (by intro e;rw[e]at hn1;simp at hn1)) ?_
 rintro⟨bu,ou,rfl⟩
 have hix:((NR.length:Int)-1)=(rr.length:Int):=by omega
 repeat'(first|(refine gY ?_;intros)|(refine hY ?_ ?_<;>intro hgd)|(refine jY ?_ ?_<;>intro _)|fail)
 rename_i b4
 refine ok_drawL (cv:=[]) [13] ([pts b4 (.cells [.int .u64 nwal,(.slice (some ⟨bu,ou,none⟩) NR.length cv0),.int .u64 nnext].toArray 73),pts kb (.cells [.pointer (some ⟨b,0,none⟩),.string nm,.int .u64 m.wal,mv,.int .u64 m.next,wp,.pointer (some ⟨mb,0,none⟩),rv,.int .i64 ft].toArray 78),Am]) (takeD) (by kernel_rfl) rfl (by decide +kernel) ?_
 repeat'(first|(refine gY ?_;intros)|(refine hY ?_ ?_<;>intro hgd)|(refine jY ?_ ?_<;>intro _)|fail)
 refine clN_Y (hF1) ?_
 intro _ _
 repeat'(first|(refine gY ?_;intros)|(refine hY ?_ ?_<;>intro hgd)|(refine jY ?_ ?_<;>intro _)|fail)
 refine cl_Y (hO) ?_
 rintro⟨rb,⟨ev,hev⟩⟩ _
 dsimp only
 repeat'(first|(refine gY ?_;intros)|(refine hY ?_ ?_<;>intro hgd)|(refine jY ?_ ?_<;>intro _)|fail)
 refine ok_meetK (γ:=V1s) (fun y ρ L=>L=[runX b nm ⟨rb,n,l⟩,pts kb (.cells [.pointer (some ⟨b,0,none⟩),.string nm,.int .u64 nwal,(.slice (some ⟨bu,ou,none⟩) NR.length cv0),.int .u64 nnext,wp,.pointer (some ⟨mb,0,none⟩),y.1,.int .i64 ft].toArray 78),diskP b d,row 83 1 y.1 (RS++[[.pointer (some ⟨rb,0,none⟩)]]),Am,Ar]++R) ?_ ?_
 ·refine ok_draw_node (cv:=[]) 6 [6,8,9,12,15,18] [pts b4 (.cells [.int .u64 nwal,(.slice (some ⟨bu,ou,none⟩) NR.length cv0),.int .u64 nnext].toArray 73)] (by kernel_rfl) rfl (by decide +kernel) (by decide +kernel) (by decide +kernel) (takePre takeD) _ rfl ?_
  refine cont_node [] [(6,[5,6],[0,1,2,3,4,7,8,9,10,11,12,13,14,15,16,17,18]),(8,[7,8],[0,1,2,3,4,5,6,9,10,11,12,13,14,15,16,17,18])] rfl (by decide +kernel) ?_
  intro x hx
  simp only[List.mem_cons,List.not_mem_nil,or_false]at hx
  rcases hx with rfl|rfl
  ·dsimp only[List.length_cons,List.length_nil]
   repeat'(first|(refine gY ?_;intros)|(refine hY ?_ ?_<;>intro hgd)|(refine jY ?_ ?_<;>intro _)|fail)
   refine clN_Y (hcl) ?_
   rintro⟨cv,hcv⟩ _
   dsimp only
   repeat'(first|(refine gY ?_;intros)|(refine hY ?_ ?_<;>intro hgd)|(refine jY ?_ ?_<;>intro _)|fail)
   refine cont_node [] [(8,[7,8],[0,1,2,3,4,9,10,11,12,13,14,15,16,17,18])] rfl (by decide +kernel) ?_
   intro x hx
   simp only[List.mem_cons,List.not_mem_nil,or_false]at hx
   subst hx
   ·dsimp only[List.length_cons,List.length_nil]
    repeat'(first|(refine gY ?_;intros)|(refine hY ?_ ?_<;>intro hgd)|(refine jY ?_ ?_<;>intro _)|fail)
    refine cont_node [] [(9,[9],[0,1,2,3,4,10,11,12,13,14,15,16,17,18])] rfl (by decide +kernel) ?_
    intro x hx
    simp only[List.mem_cons,List.not_mem_nil,or_false]at hx
    subst hx
    ·dsimp only[List.length_cons,List.length_nil]
     repeat'(first|(refine gY ?_;intros)|(refine hY ?_ ?_<;>intro hgd)|(refine jY ?_ ?_<;>intro _)|fail)
     rename_i v2 hv2
     refine cont_node [] [(12,[0,3,10,11,12],[1,2,4,13,14,15,16,17,18])] rfl (by decide +kernel) ?_
     intro x hx
     simp only[List.mem_cons,List.not_mem_nil,or_false]at hx
     subst hx
     ·dsimp only[List.length_cons,List.length_nil]
      repeat'(first|(refine gY ?_;intros)|(refine hY ?_ ?_<;>intro hgd)|(refine jY ?_ ?_<;>intro _)|fail)
      refine cont_node [] [(15,[1,4,13,14,15],[2,16,17,18])] rfl (by decide +kernel) ?_
      intro x hx
      simp only[List.mem_cons,List.not_mem_nil,or_false]at hx
      subst hx
      ·dsimp only[List.length_cons,List.length_nil]
       repeat'(first|(refine gY ?_;intros)|(refine hY ?_ ?_<;>intro hgd)|(refine jY ?_ ?_<;>intro _)|fail)
       refine cont_node [] [(18,[2,16,17,18],[])] rfl (by decide +kernel) ?_
       intro x hx
       simp only[List.mem_cons,List.not_mem_nil,or_false]at hx
       subst hx
       ·dsimp only[List.length_cons,List.length_nil]
        repeat'(first|(refine gY ?_;intros)|(refine hY ?_ ?_<;>intro hgd)|(refine jY ?_ ?_<;>intro _)|fail)
        refine cont_node0 (by decide +kernel) ?_
        repeat'(first|(refine gY ?_;intros)|(refine hY ?_ ?_<;>intro hgd)|(refine jY ?_ ?_<;>intro _)|fail)
        refine cont_map (L':=[rnP rb b (fileK nm runK n) ev (runB l).size,enP ev (ents l),pts kb (.cells [.pointer (some ⟨b,0,none⟩),.string nm,.int .u64 nwal,(.slice (some ⟨bu,ou,none⟩) NR.length cv0),.int .u64 nnext,wp,.pointer (some ⟨mb,0,none⟩),v2,.int .i64 ft].toArray 78),diskP b d,row 83 1 v2 (RS++[[.pointer (some ⟨rb,0,none⟩)]]),Am,Ar]++R) entD ?_
        refine cont_map (fun _ h=>runX_in (x:=⟨rb,n,l⟩) hev h) ?_
        exact cont_meet ⟨v2,hv2⟩ rfl
  ·dsimp only[List.length_cons,List.length_nil]
   repeat'(first|(refine gY ?_;intros)|(refine hY ?_ ?_<;>intro hgd)|(refine jY ?_ ?_<;>intro _)|fail)
   refine cont_node [] [(6,[5,6],[0,1,2,3,4,9,10,11,12,13,14,15,16,17,18])] rfl (by decide +kernel) ?_
   intro x hx
   simp only[List.mem_cons,List.not_mem_nil,or_false]at hx
   subst hx
   ·dsimp only[List.length_cons,List.length_nil]
    repeat'(first|(refine gY ?_;intros)|(refine hY ?_ ?_<;>intro hgd)|(refine jY ?_ ?_<;>intro _)|fail)
    refine clN_Y (hcl) ?_
    rintro⟨cv,hcv⟩ _
    dsimp only
    repeat'(first|(refine gY ?_;intros)|(refine hY ?_ ?_<;>intro hgd)|(refine jY ?_ ?_<;>intro _)|fail)
    refine cont_node [] [(9,[9],[0,1,2,3,4,10,11,12,13,14,15,16,17,18])] rfl (by decide +kernel) ?_
    intro x hx
    simp only[List.mem_cons,List.not_mem_nil,or_false]at hx
    subst hx
    ·dsimp only[List.length_cons,List.length_nil]
     repeat'(first|(refine gY ?_;intros)|(refine hY ?_ ?_<;>intro hgd)|(refine jY ?_ ?_<;>intro _)|fail)
     rename_i v2 hv2
     refine cont_node [] [(12,[0,3,10,11,12],[1,2,4,13,14,15,16,17,18])] rfl (by decide +kernel) ?_
     intro x hx
     simp only[List.mem_cons,List.not_mem_nil,or_false]at hx
     subst hx
     ·dsimp only[List.length_cons,List.length_nil]
      repeat'(first|(refine gY ?_;intros)|(refine hY ?_ ?_<;>intro hgd)|(refine jY ?_ ?_<;>intro _)|fail)
      refine cont_node [] [(15,[1,4,13,14,15],[2,16,17,18])] rfl (by decide +kernel) ?_
      intro x hx
      simp only[List.mem_cons,List.not_mem_nil,or_false]at hx
      subst hx
      ·dsimp only[List.length_cons,List.length_nil]
       repeat'(first|(refine gY ?_;intros)|(refine hY ?_ ?_<;>intro hgd)|(refine jY ?_ ?_<;>intro _)|fail)
       refine cont_node [] [(18,[2,16,17,18],[])] rfl (by decide +kernel) ?_
       intro x hx
       simp only[List.mem_cons,List.not_mem_nil,or_false]at hx
       subst hx
       ·dsimp only[List.length_cons,List.length_nil]
        repeat'(first|(refine gY ?_;intros)|(refine hY ?_ ?_<;>intro hgd)|(refine jY ?_ ?_<;>intro _)|fail)
        refine cont_node0 (by decide +kernel) ?_
        repeat'(first|(refine gY ?_;intros)|(refine hY ?_ ?_<;>intro hgd)|(refine jY ?_ ?_<;>intro _)|fail)
        refine cont_map (L':=[rnP rb b (fileK nm runK n) ev (runB l).size,enP ev (ents l),pts kb (.cells [.pointer (some ⟨b,0,none⟩),.string nm,.int .u64 nwal,(.slice (some ⟨bu,ou,none⟩) NR.length cv0),.int .u64 nnext,wp,.pointer (some ⟨mb,0,none⟩),v2,.int .i64 ft].toArray 78),diskP b d,row 83 1 v2 (RS++[[.pointer (some ⟨rb,0,none⟩)]]),Am,Ar]++R) entD ?_
        refine cont_map (fun _ h=>runX_in (x:=⟨rb,n,l⟩) hev h) ?_
        exact cont_meet ⟨v2,hv2⟩ rfl
 rintro⟨v2,hv2⟩ ρ L rfl
 dsimp only
 repeat'(first|(refine gY ?_;intros)|(refine hY ?_ ?_<;>intro hgd)|(refine jY ?_ ?_<;>intro _)|fail)
 refine cont_map (L':=[pts kb (.cells [.pointer (some ⟨b,0,none⟩),.string nm,.int .u64 nwal,(.slice (some ⟨bu,ou,none⟩) NR.length cv0),.int .u64 nnext,wp,.pointer (some ⟨mb,0,none⟩),v2,.int .i64 ft].toArray 78),diskP b d,runX b nm ⟨rb,n,l⟩,row 83 1 v2 ((rs++[(⟨rb,n,l⟩:Ru)]).map krV),Am,Ar]++R) (by rw[List.map_append,hRK];exact entD) ?_
 (refine rt_Y (y:=(rb,⟨v2,hv2⟩)) (hrs:=Tryz.results61) (hv:=?_) (hφ:=?_))
 ·rfl
 ·trivial
def fP(g0:KG)(Lp:List HProp)(g:KG):HProp:=pcP (g=g0) Lp
abbrev bxN(b4:Nat)(n:Nat):HProp:=pts b4 (.cells [.int .u64 (n:Int)].toArray 70)
abbrev bxM(b6:Nat)(nx:Mn)(v:Value):HProp:=pts b6 (.cells [.int .u64 nx.wal,v,.int .u64 nx.next].toArray 73)
theorem fP_out{kb b mb:Nat}{nm:BA}{ft:Int}{g0:KG}{Lp:List HProp}{P:Program}{f:FuncId}{args:List Value}{Y:Type}{φ:Y→Prop}{ret:Y→Value}{post:Y→List HProp}
  (h:FSpec P f args (Lp++[kvP kb b nm g0.m g0.mv.1 g0.wp.1 mb g0.rv.1 ft]) Y φ ret post):FSpec P f args [stP kb b nm mb ft (fP g0 Lp)] Y φ ret post:=by
 refine fspec_ex fun g=>?_
 show FSpec _ _ _ (exP (pcM (g=g0) Lp)::[kvP kb b nm g.m g.mv.1 g.wp.1 mb g.rv.1 ft]) _ _ _ _
 refine fspec_ex ?_
 rintro⟨_,rfl⟩
 exact h
theorem fP_in{kb b mb:Nat}{nm:BA}{ft:Int}{g0:KG}{Lp:List HProp}{L:List HProp}{h:Frag}(s:SatL (Lp++(kvP kb b nm g0.m g0.mv.1 g0.wp.1 mb g0.rv.1 ft::L)) h):SatL (stP kb b nm mb ft (fP g0 Lp)::L) h:=st_in (D:=fP g0 Lp) g0 (pc_in rfl s)
theorem scan_all{l:List Pr}(hs:Sorted l)(h:1≤l.length):scanL ⟨#[]⟩ ⟨#[]⟩ (l.length:Int) l=l:=by
 rw[scanL_eq hs _ _ _ h]
 unfold scanR
 have:l.filter (withB ⟨#[]⟩ ⟨#[]⟩)=l:=by
  rw[List.filter_eq_self]
  intro p hp
  unfold withB ltS
  rw[nil_toList]
  cases p.k.toList<;>rfl
 rw[this,List.take_length]
theorem satL_app{M L L':List HProp}{h:Frag}(k:∀ h,SatL L h→SatL L' h)(s:SatL (M++L) h):SatL (M++L') h:=by
 induction M generalizing h with
 |nil=>exact k _ s
 |cons A M ih=>exact s.consMono fun h s=>ih s
theorem rest_in{M Z R:List HProp}{K:HProp}{h:Frag}(s:SatL (M++Z++[K]++R) h):SatL (M++[K,fun h=>SatL Z h]++R) h:=by
 rw[List.append_assoc,List.append_assoc]at s
 rw[List.append_assoc]
 refine satL_app (fun h s=>?_) s
 have s1:SatL ((fun h=>SatL Z h)::K::R) h:=SatL.unflat s
 exact s1.swap
theorem rest_out{M Z R:List HProp}{K:HProp}{h:Frag}(s:SatL (M++[K,fun h=>SatL Z h]++R) h):SatL ((M++Z)++(K::R)) h:=by
 rw[List.append_assoc]at s ⊢
 refine satL_app (fun h s=>?_) s
 have s1:SatL ((fun h=>SatL Z h)::K::R) h:=SatL.swap s
 exact SatL.flat s1
set_option maxHeartbeats 4000000 in
theorem flush1_spec(kb b mb b1 b4:Nat)(nm:BA)(ft:Int)(g0:KG)(d:Dk)(n:Nat)(mem:List Pr)(Z:List HProp)(hm:MemOk mem)(h1:1≤mem.length)(h12:n<281474976710656)(hn:nm.size≤1000000)(hd:d.Ok)(hl:d.loose.length≤1000000):
  FSpec Tryz.prog 54 [.pointer (some ⟨b1,0,none⟩),.pointer (some ⟨b4,0,none⟩)] [stP kb b nm mb ft (fP g0 (diskP b d::memX mb mem::bxK b1 kb::bxN b4 n::Z))] Unit (fun _=>True) (fun _=>.int .i64 (wrK d (fileK nm runK n) mem).2)
   (fun _=>[stP kb b nm mb ft (fP g0 (diskP b (wrK d (fileK nm runK n) mem).1::memX mb mem::bxK b1 kb::bxN b4 n::Z))]):=by
 refine fP_out ?_
 have hL:=mLenX mb mem
 have hS:=mScanX mb mem ⟨#[]⟩ ⟨#[]⟩ (mem.length:Int) (by omega) hm
 rw[scan_all hm.sorted h1]at hS
 have hW:=fun(u:Value)=>kwrite_spec kb b nm g0.m g0.mv.1 g0.wp.1 mb g0.rv.1 ft d n u (row 65 3 u (mem.map prV)) mem Vw.row hm.len h12 hn hd hl
 generalize wrK d (fileK nm runK n) mem=wr at hW ⊢
 refine(show FSpec Tryz.prog 54 [.pointer (some ⟨b1,0,none⟩),.pointer (some ⟨b4,0,none⟩)] [diskP b d,memX mb mem,bxK b1 kb,bxN b4 n,kvP kb b nm g0.m g0.mv.1 g0.wp.1 mb g0.rv.1 ft,fun h=>SatL Z h] Unit (fun _=>True) (fun _=>.int .i64 wr.2) (fun _=>[diskP b wr.1,memX mb mem,bxK b1 kb,bxN b4 n,kvP kb b nm g0.m g0.mv.1 g0.wp.1 mb g0.rv.1 ft,fun h=>SatL Z h])from ?_).conseq (fun R h s=>?_) (fun y _=>⟨(),trivial,rfl,fun R h s=>?_⟩)
 ·obtain⟨m,⟨mv,hmv⟩,⟨wp,hwp⟩,⟨rv,hrv⟩⟩:=g0
  dsimp only at hW ⊢
  unfold kvP kvC at hW ⊢
  unfold bxK bxN
  refine spec_intro [] _ Tryz.func54 rfl Tryz.ntmps54 (by rfl) (fun w0 R=>?_)
  repeat'(first|(refine gY ?_;intros)|(refine hY ?_ ?_<;>intro hgd)|(refine jY ?_ ?_<;>intro _)|fail)
  refine ok_drawL (cv:=[]) [10,11] ([pts b1 (.cells [.pointer (some ⟨kb,0,none⟩)].toArray 28),pts b4 (.cells [.int .u64 (n:Int)].toArray 70),pts kb (.cells [.pointer (some ⟨b,0,none⟩),.string nm,.int .u64 m.wal,mv,.int .u64 m.next,wp,.pointer (some ⟨mb,0,none⟩),rv,.int .i64 ft].toArray 78)]) (takeD) (by kernel_rfl) rfl (by decide +kernel) ?_
  repeat'(first|(refine gY ?_;intros)|(refine hY ?_ ?_<;>intro hgd)|(refine jY ?_ ?_<;>intro _)|fail)
  refine clN_Y (hL) ?_
  intro _ _
  repeat'(first|(refine gY ?_;intros)|(refine hY ?_ ?_<;>intro hgd)|(refine jY ?_ ?_<;>intro _)|fail)
  refine clN_Y (hS) ?_
  intro u _
  repeat'(first|(refine gY ?_;intros)|(refine hY ?_ ?_<;>intro hgd)|(refine jY ?_ ?_<;>intro _)|fail)
  refine cl_Y (hW u) ?_
  intro _ _
  repeat'(first|(refine gY ?_;intros)|(refine hY ?_ ?_<;>intro hgd)|(refine jY ?_ ?_<;>intro _)|fail)
  (refine rt_Y (y:=()) (hrs:=Tryz.results54) (hv:=?_) (hφ:=?_))
  ·rfl
  ·trivial
 ·exact rest_in (M:=[diskP b d,memX mb mem,bxK b1 kb,bxN b4 n]) s
 ·exact fP_in (rest_out (M:=[diskP b wr.1,memX mb mem,bxK b1 kb,bxN b4 n]) s)
set_option maxHeartbeats 4000000 in
theorem flush2_spec(kb b mb b1 b4 b6:Nat)(nm:BA)(ft:Int)(g0:KG)(d:Dk)(n:Nat)(mem:List Pr)(nx:Mn)(v6:Value)(Z:List HProp)(hcap:capOk v6)(hc:nx.chk=true)(hw:nx.wf)(hz:nx.runs.length≤1000)(hn:nm.size≤1000000)(hd:d.Ok)(hl:d.loose.length≤1000000):
  FSpec Tryz.prog 57 [.pointer (some ⟨b1,0,none⟩),.pointer (some ⟨b6,0,none⟩)] [stP kb b nm mb ft (fP g0 (diskP b d::memX mb mem::bxK b1 kb::bxN b4 n::bxM b6 nx v6::row 70 1 v6 (nx.runs.map uV)::Z))] Unit (fun _=>True) (fun _=>.int .i64 (saveD (manK nm) (mBytes nx) d).2)
   (fun _=>[stP kb b nm mb ft (fP g0 (diskP b (saveD (manK nm) (mBytes nx) d).1::memX mb mem::bxK b1 kb::bxN b4 n::bxM b6 nx v6::row 70 1 v6 (nx.runs.map uV)::Z))]):=by
 refine fP_out ?_
 have hM:=kman_spec kb b nm g0.m g0.mv.1 g0.wp.1 mb g0.rv.1 ft (by omega)
 have hS:=Save_spec b d (manK nm) nx v6 (row 70 1 v6 (nx.runs.map uV)) hd (by omega) (by rw[manK_size];omega) Vw.row hcap (by omega) hc hw
 generalize saveD (manK nm) (mBytes nx) d=sv at hS ⊢
 refine(show FSpec Tryz.prog 57 [.pointer (some ⟨b1,0,none⟩),.pointer (some ⟨b6,0,none⟩)] [diskP b d,memX mb mem,bxK b1 kb,bxN b4 n,bxM b6 nx v6,row 70 1 v6 (nx.runs.map uV),kvP kb b nm g0.m g0.mv.1 g0.wp.1 mb g0.rv.1 ft,fun h=>SatL Z h] Unit (fun _=>True) (fun _=>.int .i64 sv.2) (fun _=>[diskP b sv.1,memX mb mem,bxK b1 kb,bxN b4 n,bxM b6 nx v6,row 70 1 v6 (nx.runs.map uV),kvP kb b nm g0.m g0.mv.1 g0.wp.1 mb g0.rv.1 ft,fun h=>SatL Z h])from ?_).conseq (fun R h s=>?_) (fun y _=>⟨(),trivial,rfl,fun R h s=>?_⟩)
 ·obtain⟨m,⟨mv,hmv⟩,⟨wp,hwp⟩,⟨rv,hrv⟩⟩:=g0
  obtain⟨nw,nr,nn⟩:=nx
  dsimp only[manV]at hM hS ⊢
  unfold kvP kvC at hM ⊢
  unfold bxK bxN bxM
  refine spec_intro [] _ Tryz.func57 rfl Tryz.ntmps57 (by rfl) (fun w0 R=>?_)
  repeat'(first|(refine gY ?_;intros)|(refine hY ?_ ?_<;>intro hgd)|(refine jY ?_ ?_<;>intro _)|fail)
  refine ok_drawL (cv:=[]) [5] ([pts b1 (.cells [.pointer (some ⟨kb,0,none⟩)].toArray 28),pts b6 (.cells [.int .u64 nw,v6,.int .u64 nn].toArray 73),pts kb (.cells [.pointer (some ⟨b,0,none⟩),.string nm,.int .u64 m.wal,mv,.int .u64 m.next,wp,.pointer (some ⟨mb,0,none⟩),rv,.int .i64 ft].toArray 78)]) (takeD) (by kernel_rfl) rfl (by decide +kernel) ?_
  repeat'(first|(refine gY ?_;intros)|(refine hY ?_ ?_<;>intro hgd)|(refine jY ?_ ?_<;>intro _)|fail)
  refine clN_Y (hM) ?_
  intro _ _
  repeat'(first|(refine gY ?_;intros)|(refine hY ?_ ?_<;>intro hgd)|(refine jY ?_ ?_<;>intro _)|fail)
  refine cl_Y (hS) ?_
  intro _ _
  repeat'(first|(refine gY ?_;intros)|(refine hY ?_ ?_<;>intro hgd)|(refine jY ?_ ?_<;>intro _)|fail)
  (refine rt_Y (y:=()) (hrs:=Tryz.results57) (hv:=?_) (hφ:=?_))
  ·rfl
  ·trivial
 ·exact rest_in (M:=[diskP b d,memX mb mem,bxK b1 kb,bxN b4 n,bxM b6 nx v6,row 70 1 v6 (nx.runs.map uV)]) s
 ·exact fP_in (rest_out (M:=[diskP b sv.1,memX mb mem,bxK b1 kb,bxN b4 n,bxM b6 nx v6,row 70 1 v6 (nx.runs.map uV)]) s)
def tD(b mb:Nat)(nm:BA)(K2:Kv)(wb:Nat)(f:BA)(w:Wv)(X:HProp):KG→HProp:=pkD (kvD b mb nm K2) (walP wb b f w) X
set_option maxHeartbeats 4000000 in
theorem flush3_spec(kb b mb wb b1 b4 b6:Nat)(nm:BA)(ft:Int)(K:Kv)(g0:KG)(rs:List Ru)(d:Dk)(n wn:Nat)(mem:List Pr)(nx:Mn)(v6:Value)(rr:List Int)(hv6:v6.oneCell'=true)(hg:g0.m=K.m)(hgw:g0.wp.1= .pointer (some ⟨wb,0,none⟩))(g3:(rs.map fun x=>((x.n:Int),x.l))=K.rs)(hrs:rs.length≤1000)
  (hla:nx.runs=rr++[(n:Int)])(hnl:nx.runs.length≤1000)(h12:n<281474976710656)(hn:nm.size≤1000000)(hd:d.Ok)(hl:d.loose.length≤1000000)(hf:d.read (fileK nm runK n) 0 16777216=(runB mem,0))(hok:∀ p∈mem,okP p=true)(hri:riseB mem=true)
  (hwn:nx.wal=(wn:Int))(hw12:wn<281474976710656)(hne:nx.wal≠K.m.wal)(hOW:openW d (fileK nm walK wn)=(d,0,[],0))(f:BA):
  FSpec Tryz.prog 60 [.pointer (some ⟨b1,0,none⟩),.pointer (some ⟨b6,0,none⟩)] [stP kb b nm mb ft (fP g0 [diskP b d,memX mb mem,bxK b1 kb,bxN b4 n,bxM b6 nx v6,row 70 1 v6 (nx.runs.map uV),row 70 1 g0.mv.1 (K.m.runs.map uV),row 83 1 g0.rv.1 (rs.map krV),runsX b nm rs,walP wb b f K.w])] Unit (fun _=>True) (fun _=>.int .i64 0)
   (fun _=>[stP kb b nm mb ft (tD b mb nm ⟨d,nx,⟨0,0,0⟩,mem,K.rs++[((n:Int),mem)]⟩ wb f K.w (bxK b1 kb))]):=by
 refine fP_out ?_
 have hT:=turnF_spec kb b mb nm g0.m nx g0.mv.1 g0.wp.1 g0.rv.1 v6 g0.rv.1 ft d n mem rs rr (row 70 1 v6 (nx.runs.map uV)) (row 83 1 g0.rv.1 (rs.map krV)) hv6 g0.wp.2 Vw.row Vw.row hrs hla hnl h12 hn hd hl hf hok hri wn hwn hw12 (by rw[hg];exact hne) hOW
 have q:FSpec Tryz.prog 60 [.pointer (some ⟨b1,0,none⟩),.pointer (some ⟨b6,0,none⟩)] [diskP b d,bxK b1 kb,bxM b6 nx v6,row 70 1 v6 (nx.runs.map uV),row 83 1 g0.rv.1 (rs.map krV),kvP kb b nm g0.m g0.mv.1 g0.wp.1 mb g0.rv.1 ft] (Nat×Nat×V1s) (fun _=>True) (fun _=>.int .i64 0)
   (fun y=>[kvP kb b nm nx v6 (.pointer (some ⟨y.1,0,none⟩)) mb y.2.2.1 ft,diskP b d,runX b nm ⟨y.2.1,n,mem⟩,walP y.1 b (fileK nm walK wn) ⟨0,0,0⟩,row 83 1 y.2.2.1 ((rs++[(⟨y.2.1,n,mem⟩:Ru)]).map krV),row 70 1 v6 (nx.runs.map uV),bxK b1 kb]):=by
  obtain⟨m,⟨mv,hmv⟩,⟨wp,hwp⟩,⟨rv,hrv⟩⟩:=g0
  obtain⟨nw,nr,nn⟩:=nx
  dsimp only[manV]at hT hg ⊢
  unfold kvP kvC at hT ⊢
  unfold bxK bxM
  generalize hRK:rs.map krV=RS at hT ⊢
  refine spec_intro [] _ Tryz.func60 rfl Tryz.ntmps60 (by rfl) (fun w0 R=>?_)
  repeat'(first|(refine gY ?_;intros)|(refine hY ?_ ?_<;>intro hgd)|(refine jY ?_ ?_<;>intro _)|fail)
  refine cl_Y (hT) ?_
  rintro⟨wb2,rb,⟨v2,hv2⟩⟩ _
  dsimp only
  repeat'(first|(refine gY ?_;intros)|(refine hY ?_ ?_<;>intro hgd)|(refine jY ?_ ?_<;>intro _)|fail)
  (refine rt_Y (y:=(wb2,rb,⟨v2,hv2⟩)) (hrs:=Tryz.results60) (hv:=?_) (hφ:=?_))
  ·rfl
  ·trivial
 refine(fspec_frameK q [memX mb mem,runsX b nm rs,walP wb b f K.w]).conseq (fun R h s=>(entD) _ s) (fun y _=>⟨(),trivial,rfl,fun R h s=>?_⟩)
 obtain⟨wb2,rb,⟨v2,hv2⟩⟩:=y
 dsimp only at s
 have hw2:(fileK nm walK nx.wal.toNat)=fileK nm walK wn:=by rw[hwn,Int.toNat_natCast]
 have s1:SatL ([runsX b nm rs,runX b nm ⟨rb,n,mem⟩,walP wb b f K.w,bxK b1 kb,row 70 1 v6 (nx.runs.map uV),row 83 1 v2 ((rs++[(⟨rb,n,mem⟩:Ru)]).map krV),walP wb2 b (fileK nm walK wn) ⟨0,0,0⟩,diskP b d,memX mb mem,kvP kb b nm nx v6 (.pointer (some ⟨wb2,0,none⟩)) mb v2 ft]++R) h:=(entD) _ s
 have s2:SatL ([runsX b nm (rs++[⟨rb,n,mem⟩]),walP wb b f K.w,bxK b1 kb,row 70 1 v6 (nx.runs.map uV),row 83 1 v2 ((rs++[(⟨rb,n,mem⟩:Ru)]).map krV),walP wb2 b (fileK nm walK wn) ⟨0,0,0⟩,diskP b d,memX mb mem,kvP kb b nm nx v6 (.pointer (some ⟨wb2,0,none⟩)) mb v2 ft]++R) h:=runsX_add s1
 rw[← hw2]at s2
 have s3:SatL ([row 70 1 v6 (nx.runs.map uV),row 83 1 v2 ((rs++[(⟨rb,n,mem⟩:Ru)]).map krV),runsX b nm (rs++[⟨rb,n,mem⟩]),walP wb2 b (fileK nm walK nx.wal.toNat) ⟨0,0,0⟩,diskP b d,memX mb mem,walP wb b f K.w,bxK b1 kb,kvP kb b nm nx v6 (.pointer (some ⟨wb2,0,none⟩)) mb v2 ft]++R) h:=(entD) _ s2
 have s4:SatL ([kvD b mb nm ⟨d,nx,⟨0,0,0⟩,mem,K.rs++[((n:Int),mem)]⟩ ⟨nx,⟨v6,hv6⟩,⟨.pointer (some ⟨wb2,0,none⟩),rfl⟩,⟨v2,hv2⟩⟩,walP wb b f K.w,bxK b1 kb,kvP kb b nm nx v6 (.pointer (some ⟨wb2,0,none⟩)) mb v2 ft]++R) h:=
  kv_in (b:=b) (mb:=mb) (nm:=nm) (K:=⟨d,nx,⟨0,0,0⟩,mem,K.rs++[((n:Int),mem)]⟩) (g:=⟨nx,⟨v6,hv6⟩,⟨.pointer (some ⟨wb2,0,none⟩),rfl⟩,⟨v2,hv2⟩⟩) ⟨wb2,rs++[(⟨rb,n,mem⟩:Ru)],rfl,rfl,by rw[List.map_append,g3];rfl⟩ s3
 exact st_in (D:=tD b mb nm ⟨d,nx,⟨0,0,0⟩,mem,K.rs++[((n:Int),mem)]⟩ wb f K.w (bxK b1 kb)) ⟨nx,⟨v6,hv6⟩,⟨.pointer (some ⟨wb2,0,none⟩),rfl⟩,⟨v2,hv2⟩⟩ (pc_in (c:=True) (L:=[kvD b mb nm ⟨d,nx,⟨0,0,0⟩,mem,K.rs++[((n:Int),mem)]⟩ ⟨nx,⟨v6,hv6⟩,⟨.pointer (some ⟨wb2,0,none⟩),rfl⟩,⟨v2,hv2⟩⟩,walP wb b f K.w,bxK b1 kb]) trivial s4)
end Go.Proofs.YtgbmjoenbocfcaaGreat
