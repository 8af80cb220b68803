/- Texts merged: RnH RnQ RnR RnI. -/
import Derived.Test.YtgbmjoenbocfcaaGreatG17
set_option linter.unusedSimpArgs false
set_option linter.unusedVariables false
set_option maxRecDepth 100000
namespace Go.Proofs.YtgbmjoenbocfcaaGreat
open Go Go.Fx Go.Proofs Go.Pl
def errR(q:List (Pr×Int)):Int:=match q.getLast? with|some y=>y.2|none=>0
def colR(q:List (Pr×Int)):List Pr:=if errR q≠0 then []else q.map (·.1)
def goR(most:Int)(q:List (Pr×Int)):Bool:=decide (errR q=0)&& !decide ((q.length:Int)=most)
def jpR(q:List (Pr×Int)):Code:=if errR q≠0 then .ret else .exit 1
theorem errR_snoc(pre:List (Pr×Int))(y:Pr×Int):errR (pre++[y])=y.2:=by unfold errR;rw[List.getLast?_concat]
theorem errR_ok{q:List (Pr×Int)}(h:∀ y∈q,y.2=0):errR q=0:=by
 unfold errR
 cases hq:q.getLast? with
 |none=>rfl
 |some y=>exact h y (List.mem_of_getLast? hq)
theorem colR_ok{q:List (Pr×Int)}(h:∀ y∈q,y.2=0):colR q=q.map (·.1):=by unfold colR;rw[errR_ok h,if_neg (by simp)]
theorem yR_pre{rd:En→Pr×Int}{to:BA}:∀ {l:List En} {pre:List (Pr×Int)} {y:Pr×Int},pre++[y] <+:yR rd to l→∀ z∈pre,z.2=0
 | [],pre,y,h=>by
  have:=h.length_le
  simp[yR]at this
 |x::l,pre,y,h=>by
  unfold yR at h
  split at h
  ·have:=h.length_le;simp at this
  ·split at h
   ·have h1:=h.length_le
    simp at h1
    subst h1
    simp
   ·rename_i h2
    cases pre with
    |nil=>simp
    |cons z pre=>
     rw[List.cons_append,List.cons_prefix_cons]at h
     intro w hw
     rcases List.mem_cons.1 hw with rfl|hw
     ·rw[h.1];simpa using h2
     ·exact yR_pre h.2 w hw
theorem yR_len{rd:En→Pr×Int}{to:BA}:∀ (l:List En),(yR rd to l).length≤l.length
 | []=>Nat.le_refl _
 |x::l=>by
  unfold yR
  split
  ·simp
  ·split
   ·simp
   ·have:=yR_len (rd:=rd) (to:=to) l;simp;omega
theorem eat_goR{most:Int}:∀ (l pre:List (Pr×Int)),(eat (goR most) pre l).2=true→(∀ y∈pre,y.2=0)→∀ y∈pre++l,y.2=0
 | [],pre,_,h=>by simpa using h
 |x::l,pre,h,hp=>by
  rw[eat_cons]at h
  cases hg:goR most (pre++[x])with
  |false=>rw[hg]at h;cases h
  |true=>
   rw[hg,if_pos rfl]at h
   have h0:x.2=0:=by
    unfold goR at hg
    rw[errR_snoc,Bool.and_eq_true,decide_eq_true_eq]at hg
    exact hg.1
   have:=eat_goR l (pre++[x]) h (fun y hy=>by
    rcases List.mem_append.1 hy with hy|hy
    ·exact hp y hy
    ·rw[List.mem_singleton]at hy;subst hy;exact h0)
   rw[List.append_assoc]at this
   exact this
def prS(b:Nat)(xs:List Pr):HProp:=exP fun v:{v:Value // v.oneCell'=true}=>[pts b (.cells [v.1].toArray 22),row 65 3 v.1 (xs.map prV)]
theorem prS_in{b:Nat}{v:Value}{xs:List Pr}(hv:v.oneCell'=true){L:List HProp}{h:Frag}(s:SatL (pts b (.cells [v].toArray 22)::row 65 3 v (xs.map prV)::L) h):SatL (prS b xs::L) h:=
 ex_in (M:=fun v:{v:Value // v.oneCell'=true}=>[pts b (.cells [v.1].toArray 22),row 65 3 v.1 (xs.map prV)]) ⟨v,hv⟩ rfl s
theorem rScan_spec(rb b:Nat)(fr to nm:BA)(v:Value)(sz:Int)(es:List En)(D:HProp)(rd:En→Pr×Int)(most:Int)(hm:1≤most)(hs:Sorted (es.map (·.p)))(hz:es.length≤1099511627776)
  (hrd:∀ x∈es,FSpec Tryz.prog 88 [.pointer (some ⟨rb,0,none⟩),.agg (enV x).toArray] [rnP rb b nm v sz,D] Unit (fun _=>True) (fun _=>.tuple #[.agg (prV (rd x).1).toArray,.int .i64 (rd x).2]) (fun _=>[rnP rb b nm v sz,D])):
  FSpec Tryz.prog 237 [.pointer (some ⟨rb,0,none⟩),.string fr,.string to,.int .i64 most] [rnP rb b nm v sz,enP v es,D] {v:Value // v.oneCell'=true} (fun _=>True)
   (fun y=>.tuple #[y.1,.int .i64 (errR (eat (goR most) [] (yR rd to (es.drop (posR es fr)))).1)]) (fun y=>[rnP rb b nm v sz,enP v es,D,row 65 3 y.1 ((colR (eat (goR most) [] (yR rd to (es.drop (posR es fr)))).1).map prV)]):=by
 have t1:decide (most<1)=false:=by simp;omega
 have hxl:(yR rd to (es.drop (posR es fr))).length≤es.length:=by
  have:=yR_len (rd:=rd) (to:=to) (es.drop (posR es fr))
  rw[List.length_drop]at this;omega
 have hyp:=fun pre y=>yR_pre (rd:=rd) (to:=to) (l:=es.drop (posR es fr)) (pre:=pre) (y:=y)
 refine spec_intro [] _ Tryz.func237 rfl Tryz.ntmps237 (by rfl) (fun w0 R=>?_)
 repeat'(first|(refine gY ?_;intros)|(refine hY ?_ ?_<;>intro hgd)|(refine jY ?_ ?_<;>intro _)|fail)
 rename_i b7 b8 b9
 refine cl_Y (pairs_spec rb fr to) ?_
 rintro⟨b3,b4,b5⟩ _
 dsimp only
 repeat'(first|(refine gY ?_;intros)|(refine hY ?_ ?_<;>intro hgd)|(refine jY ?_ ?_<;>intro _)|fail)
 have hit:=pairs1_spec b3 b4 b5 rb b fr to nm v sz es D rd hs hz hrd
 generalize yR rd to (es.drop (posR es fr))=ys at hxl hyp hit ⊢
 refine ok_map (fun _ h=>prS_in (xs:=[]) (v:=.slice none 0 0) (b:=b8) rfl (Take.out2 takeD (rowNil (e:=65) (n:=3) h))) ?_
 refine ok_range (goR most) (fun q=>[prS b8 (colR q),pts b9 (.cells [.int .i64 (errR q)].toArray 29),pts b7 (.cells [.int .i64 most].toArray 3)]) jpR hit rfl rfl takeD (R':=R) entD (fun _=>rfl) (by rfl) ?_ ?_ ?_
 ·intro l pre y hp w1 R1 LP0 LP1 QB QE hB hN hE hR
  have hpl:=hp.length_le
  rw[List.length_append]at hpl
  have hall:=hyp pre y hp
  have hcp:=colR_ok hall
  have hep:=errR_ok hall
  obtain⟨p,e⟩:=y
  have hes:=errR_snoc pre (p,e)
  dsimp only at hes ⊢
  rw[hcp,hep]
  unfold yrV
  dsimp only
  cases u1:(!decide (e=0))with
  |true=>
   have u2:e≠0:=by simpa using u1
   have hgo:goR most (pre++[(p,e)])=false:=by unfold goR;rw[hes];simp[u2]
   have hj:jpR (pre++[(p,e)])= .ret:=by unfold jpR;rw[hes,if_pos u2]
   have hc:colR (pre++[(p,e)])=[]:=by unfold colR;rw[hes,if_pos u2]
   dsimp only at hR
   rw[hes,hc]at hR
   repeat'(first|(refine gY ?_;intros)|(refine hY ?_ ?_<;>intro hgd)|(refine jY ?_ ?_<;>intro _)|fail)
   (refine hB takeD ?_)
   (refine ok_ex selD ?_)
   rintro⟨v1,hv1⟩
   dsimp only
   repeat'(first|(refine gY ?_;intros)|(refine hY ?_ ?_<;>intro hgd)|(refine jY ?_ ?_<;>intro _)|fail)
   refine cont_map (fun _ h=>rowNil (e:=65) (n:=3) h) ?_
   refine cont_map (fun _ h=>prS_in (xs:=[]) (v:=.slice none 0 0) (b:=b8) rfl (Take.out2 takeD h)) ?_
   refine hR hgo hj takeD entD
  |false=>
   have u2:e=0:=by simpa using u1
   subst u2
   have hc:colR (pre++[(p,0)])=pre.map (·.1)++[p]:=by unfold colR;rw[hes,if_neg (by simp),List.map_append];rfl
   have hpm:((pre.map (·.1)).map prV).length=pre.length:=by simp
   have hpm2:(List.map prV (List.map (fun x:Pr×Int=>x.1) pre)++[prV p]).length=pre.length+1:=by simp
   dsimp only[prV]at hpm2
   dsimp only at hN hE
   rw[hes,hc]at hN hE
   cases u3:decide (((pre.length+1:Nat):Int)=most)with
   |true=>
    have hgo:goR most (pre++[(p,0)])=false:=by unfold goR;rw[List.length_append,List.length_singleton,u3];simp
    have hj:jpR (pre++[(p,0)])= .exit 1:=by unfold jpR;rw[hes,if_neg (by simp)]
    have u4:decide (((List.map prV (List.map (fun x:Pr×Int=>x.1) pre)++[[Value.string p.k,Value.string p.v,Value.bool p.g]]).length:Int)=most)=true:=by rw[hpm2];exact u3
    repeat'(first|(refine gY ?_;intros)|(refine hY ?_ ?_<;>intro hgd)|(refine jY ?_ ?_<;>intro _)|fail)
    (refine hB takeD ?_)
    (refine ok_ex selD ?_)
    rintro⟨v1,hv1⟩
    dsimp only
    dsimp only[prV]
    repeat'(first|(refine gY ?_;intros)|(refine hY ?_ ?_<;>intro hgd)|(refine jY ?_ ?_<;>intro _)|fail)
    rename_i v2 hv2 v3 hv3
    refine cont_map (fun _ h=>prS_in (xs:=pre.map (·.1)++[p]) (v:=v3) (b:=b8) hv3 (by rw[List.map_append];exact Take.out2 takeD h)) ?_
    refine hE hgo hj takeD entD
   |false=>
    have hgo:goR most (pre++[(p,0)])=true:=by unfold goR;rw[hes,List.length_append,List.length_singleton,u3];rfl
    have u4:decide (((List.map prV (List.map (fun x:Pr×Int=>x.1) pre)++[[Value.string p.k,Value.string p.v,Value.bool p.g]]).length:Int)=most)=false:=by rw[hpm2];exact u3
    repeat'(first|(refine gY ?_;intros)|(refine hY ?_ ?_<;>intro hgd)|(refine jY ?_ ?_<;>intro _)|fail)
    (refine hB takeD ?_)
    (refine ok_ex selD ?_)
    rintro⟨v1,hv1⟩
    dsimp only
    dsimp only[prV]
    repeat'(first|(refine gY ?_;intros)|(refine hY ?_ ?_<;>intro hgd)|(refine jY ?_ ?_<;>intro _)|fail)
    rename_i v2 hv2 v3 hv3
    refine cont_map (fun _ h=>prS_in (xs:=pre.map (·.1)++[p]) (v:=v3) (b:=b8) hv3 (by rw[List.map_append];exact Take.out2 takeD h)) ?_
    refine hN hgo takeD entD
 ·intro dk hb
  have hall:=eat_goR ys [] hb (by simp)
  rw[List.nil_append]at hall
  have he0:=errR_ok hall
  have heq:(eat (goR most) [] ys).1=ys:=by rw[eat_true hb,List.nil_append]
  rw[heq,he0]
  (refine cont_ex selD ?_)
  rintro⟨v1,hv1⟩
  dsimp only
  repeat'(first|(refine gY ?_;intros)|(refine hY ?_ ?_<;>intro hgd)|(refine jY ?_ ?_<;>intro _)|fail)
  refine rtM_Y (y:=⟨v1,hv1⟩) (hrs:=Tryz.results237) (hv:=?_) (hφ:=?_)
  ·rfl
  ·trivial
 ·intro dk q hq
  rw[hq]
  dsimp only
  unfold jpR
  by_cases he:errR q≠0
  ·rw[if_pos he]
   (refine ok_ex selD ?_)
   rintro⟨v1,hv1⟩
   dsimp only
   repeat'(first|(refine gY ?_;intros)|(refine hY ?_ ?_<;>intro hgd)|(refine jY ?_ ?_<;>intro _)|fail)
   refine rtM_Y (y:=⟨v1,hv1⟩) (hrs:=Tryz.results237) (hv:=?_) (hφ:=?_)
   ·rfl
   ·trivial
  ·have he0:errR q=0:=by simpa using he
   rw[if_neg he,he0]
   (refine ok_ex selD ?_)
   rintro⟨v1,hv1⟩
   dsimp only
   repeat'(first|(refine gY ?_;intros)|(refine hY ?_ ?_<;>intro hgd)|(refine jY ?_ ?_<;>intro _)|fail)
   refine rtM_Y (y:=⟨v1,hv1⟩) (hrs:=Tryz.results237) (hv:=?_) (hφ:=?_)
   ·rfl
   ·trivial
end Go.Proofs.YtgbmjoenbocfcaaGreat
namespace Go.Proofs.YtgbmjoenbocfcaaGreat
open Go Go.Fx Go.Pl
def dR(room:Int)(nm t:BA):Dk:=⟨[(nm,t)],[(nm,t)],[],room, -1,false⟩
theorem dR_text(room:Int)(nm t:BA):ftext nm (dR room nm t).files=t:=by simp[dR,ftext,fget]
theorem dR_has(room:Int)(nm t:BA):(dR room nm t).has nm=true:=by simp[dR,Dk.has,fget]
theorem dR_live{nm:BA}(hm:mayN nm=true)(room:Int)(t:BA):(dR room nm t).live [nm]=0:=by rw[live1 _ hm];rfl
theorem dR_read{nm:BA}(hm:mayN nm=true)(room:Int)(t:BA)(off n:Nat):(dR room nm t).read nm off n=(cut t off n,0):=by
 unfold Dk.read
 rw[dR_live hm]
 simp only[ne_eq,not_true_eq_false,if_false,dR_has,Bool.not_true,Bool.false_eq_true,dR_text]
 rw[if_neg (by omega)]
theorem cut_mid(t:BA)(a n:Nat)(h:a+n≤t.size):cut t a n=t.extract a (a+n):=by
 unfold cut
 dsimp only
 have e1:(if(t.size:Int)<(a:Int)then(t.size:Int)else(a:Int)).toNat=a:=by split<;>omega
 rw[e1]
 have e2:(t.extract a t.size).size=t.size-a:=by rw[ByteArray.size_extract];omega
 rw[e2]
 have e3:(if((t.size-a:Nat):Int)<(n:Int)then((t.size-a:Nat):Int)else(n:Int)).toNat=n:=by split<;>omega
 rw[e3]
 apply bl_inj
 rw[bl_ext,bl_ext,bl_ext,List.drop_zero,Nat.sub_zero,List.take_take,Nat.add_sub_cancel_left]
 congr 1
 omega
theorem frames_at:∀ (l:List BA) (i:Nat) (h:i<l.length),(framesOf l).extract (lenT (l.take i)) (lenT (l.take i)+(12+l[i].size))=frameOf l[i]
 | [],i,h=>by simp at h
 |s::l,0,h=>by
  show(frameOf s++framesOf l).extract 0 (0+(12+s.size))=frameOf s
  exact ext_left _ _ (by rw[frameOf_size];omega)
 |s::l,i+1,h=>by
  have hi':i<l.length:=by simpa using h
  have ih:=frames_at l i hi'
  have hz:=frameOf_size s
  have e:lenT ((s::l).take (i+1))=(frameOf s).size+lenT (l.take i):=by rw[hz];simp[lenT]
  show(frameOf s++framesOf l).extract (lenT ((s::l).take (i+1))) (lenT ((s::l).take (i+1))+(12+l[i].size))=frameOf l[i]
  rw[e,← ih]
  apply bl_inj
  rw[bl_ext,bl_ext,bl_app,List.drop_append,← bl_len]
  have e2:List.drop ((bl (frameOf s)).length+lenT (List.take i l)) (bl (frameOf s))=[]:=List.drop_of_length_le (by omega)
  rw[e2,List.nil_append]
  congr 1
  ·omega
  ·congr 1;omega
theorem frames_fit(l:List BA)(i:Nat)(h:i<l.length):lenT (l.take i)+(12+l[i].size)≤lenT l:=by
 have h1:lenT (l.take (i+1))≤lenT l:=lenT_pre (List.take_prefix _ _)
 rw[List.take_succ_eq_append_getElem h,lenT_snoc]at h1
 exact h1
theorem ents_get(l:List Pr)(i:Nat)(h:i<l.length):(ents l)[i]? =some ⟨l[i],lenT ((runL l).take (i+1)),12+(txtR l[i]).size⟩:=by
 have:=entsF_get l 20 i h
 unfold ents
 rw[this]
 congr 2
 simp only[runL,List.take_succ_cons,lenT,List.map_cons,List.sum_cons,put8_size,← List.map_take]
theorem runL_get(l:List Pr)(i:Nat)(h:i<l.length):∃ h':i+1<(runL l).length,(runL l)[i+1]=txtR l[i]:=by
 refine⟨by simp[runL];omega,?_⟩
 simp[runL]
theorem ents_read{room:Int}{nm:BA}(hm:mayN nm=true){l:List Pr}{x:En}(hx:x∈ents l):x.p∈l∧(dR room nm (runB l)).read nm x.at_ x.sz=(frameOf (txtR x.p),0)∧x.sz=12+(txtR x.p).size:=by
 obtain⟨i,hi⟩:=List.mem_iff_getElem?.1 hx
 have hil:i<l.length:=by
  have:=(List.getElem?_eq_some_iff.1 hi).1
  rw[show(ents l).length=l.length from entsF_len l 20]at this
  exact this
 rw[ents_get l i hil]at hi
 simp only[Option.some.injEq]at hi
 subst hi
 obtain⟨h',e'⟩:=runL_get l i hil
 have h1:=frames_at (runL l) (i+1) h'
 have h2:=frames_fit (runL l) (i+1) h'
 rw[e']at h1 h2
 refine⟨List.getElem_mem hil,?_,rfl⟩
 dsimp only
 rw[dR_read hm,cut_mid _ _ _ (by unfold runB;rw[framesOf_size];exact h2)]
 unfold runB
 rw[h1]
theorem scan_frame(s:BA)(h:s.size≤4194304):scanOf (frameOf s)=([s],12+s.size,0):=scanOf_one s h
def withB(fr to:BA)(p:Pr):Bool:= !(ltS p.k fr)&&((to.toList==(⟨#[]⟩:BA).toList)||ltS p.k to)
def rdG(x:En):Pr×Int:=(x.p,0)
theorem yR_good(to:BA):∀ l:List En,yR rdG to l=(l.takeWhile fun x=> !endR to x).map rdG
 | []=>rfl
 |x::l=>by
  unfold yR
  rw[List.takeWhile_cons]
  cases he:endR to x with
  |true=>simp
  |false=>
   have h0:(rdG x).2=0:=rfl
   simp[h0,yR_good to l]
theorem eat_take{most:Nat}:∀ (ys pre:List (Pr×Int)),(∀ y∈ys,y.2=0)→pre.length<most→(eat (goR most) pre ys).1=pre++ys.take (most-pre.length)
 | [],pre,_,_=>by simp[eat]
 |y::ys,pre,h,hp=>by
  have h0:y.2=0:=h y (List.mem_cons_self ..)
  rw[eat_cons]
  obtain⟨k,hk⟩:∃ k,most-pre.length=k+1:=⟨most-pre.length-1,by omega⟩
  rw[hk,List.take_succ_cons]
  by_cases hl:pre.length+1=most
  ·have hg:goR (most:Int) (pre++[y])=false:=by
    unfold goR
    rw[errR_snoc,h0,List.length_append,List.length_singleton,hl];simp
   have hk0:k=0:=by omega
   rw[hg,hk0];simp
  ·have hg:goR (most:Int) (pre++[y])=true:=by
    unfold goR
    rw[errR_snoc,h0,List.length_append,List.length_singleton]
    simp;omega
   rw[hg,if_pos rfl,eat_take ys (pre++[y]) (fun z hz=>h z (List.mem_cons_of_mem _ hz)) (by rw[List.length_append,List.length_singleton];omega),List.append_assoc,List.length_append,List.length_singleton]
   have:most-(pre.length+1)=k:=by omega
   rw[this];rfl
theorem drop_takeWhile{α:Type}(p:α→Bool):∀ l:List α,l.drop (l.takeWhile p).length=l.dropWhile p
 | []=>rfl
 |x::l=>by
  rw[List.takeWhile_cons,List.dropWhile_cons]
  cases h:p x with
  |true=>simp[drop_takeWhile p l]
  |false=>simp
theorem within_sorted(fr to:BA):∀ {l:List Pr},Sorted l→l.filter (withB fr to)=(l.dropWhile fun p=>ltS p.k fr).takeWhile fun p=>(to.toList==(⟨#[]⟩:BA).toList)||ltS p.k to
 | [],_=>rfl
 |p::l,hs=>by
  have h':=List.pairwise_cons.1 hs
  have ih:=within_sorted fr to h'.2
  rw[List.dropWhile_cons,List.filter_cons]
  cases hf:ltS p.k fr with
  |true=>
   have:withB fr to p=false:=by unfold withB;rw[hf];rfl
   rw[this];simp[ih]
  |false=>
   have hnf:∀ q∈l,ltS q.k fr=false:=fun q hq=>by
    cases h:ltS q.k fr with
    |false=>rfl
    |true=>have:=ltS_trans (h'.1 q hq) h;rw[hf]at this;cases this
   simp only[Bool.false_eq_true,if_false]
   have hdl:(l.dropWhile fun p=>ltS p.k fr)=l:=by
    cases l with
    |nil=>rfl
    |cons q l=>rw[List.dropWhile_cons,hnf q (List.mem_cons_self ..)];rfl
   rw[hdl]at ih
   rw[List.takeWhile_cons]
   cases ht:((to.toList==(⟨#[]⟩:BA).toList)||ltS p.k to)with
   |true=>
    have:withB fr to p=true:=by unfold withB;rw[hf,ht];rfl
    rw[this];simp[ih]
   |false=>
    have:withB fr to p=false:=by unfold withB;rw[hf,ht];rfl
    rw[this]
    simp only[Bool.false_eq_true,if_false]
    rw[Bool.or_eq_false_iff]at ht
    rw[List.filter_eq_nil_iff]
    intro q hq
    unfold withB
    rw[ht.1,Bool.false_or]
    have:ltS q.k to=false:=by
     cases h:ltS q.k to with
     |false=>rfl
     |true=>have:=ltS_trans (h'.1 q hq) h;rw[ht.2]at this;cases this
    rw[this];simp
theorem takeWhile_map_p(g:Pr→Bool):∀ l:List En,(l.takeWhile fun x=>g x.p).map (·.p)=(l.map (·.p)).takeWhile g
 | []=>rfl
 |x::l=>by
  rw[List.takeWhile_cons,List.map_cons,List.takeWhile_cons]
  cases h:g x.p<;>simp[takeWhile_map_p g l]
theorem dropWhile_map_p(g:Pr→Bool):∀ l:List En,(l.dropWhile fun x=>g x.p).map (·.p)=(l.map (·.p)).dropWhile g
 | []=>rfl
 |x::l=>by
  rw[List.dropWhile_cons,List.map_cons,List.dropWhile_cons]
  cases h:g x.p<;>simp[dropWhile_map_p g l]
def scanR(l:List Pr)(fr to:BA)(most:Nat):List Pr:=(l.filter (withB fr to)).take most
theorem scan_good{l:List Pr}(hs:Sorted l)(fr to:BA)(most:Nat)(hm:1≤most):
  errR (eat (goR (most:Int)) [] (yR rdG to ((ents l).drop (posR (ents l) fr)))).1=0∧colR (eat (goR (most:Int)) [] (yR rdG to ((ents l).drop (posR (ents l) fr)))).1=scanR l fr to most:=by
 have hz:∀ y∈yR rdG to ((ents l).drop (posR (ents l) fr)),y.2=0:=by
  rw[yR_good]
  intro y hy
  obtain⟨x,_,rfl⟩:=List.mem_map.1 hy
  rfl
 have he:=eat_take (most:=most) (yR rdG to ((ents l).drop (posR (ents l) fr))) [] hz (by simp;omega)
 rw[List.nil_append,List.length_nil,Nat.sub_zero]at he
 have hz':∀ y∈(yR rdG to ((ents l).drop (posR (ents l) fr))).take most,y.2=0:=fun y hy=>hz y (List.mem_of_mem_take hy)
 rw[he]
 refine⟨errR_ok hz',?_⟩
 rw[colR_ok hz',List.map_take]
 unfold scanR
 congr 1
 rw[yR_good,List.map_map,within_sorted fr to hs]
 have e1:((fun x:Pr×Int=>x.1) ∘ rdG)=fun x:En=>x.p:=rfl
 rw[e1]
 unfold posR
 rw[drop_takeWhile]
 have e2:(fun x:En=> !endR to x)=fun x:En=>((to.toList==(⟨#[]⟩:BA).toList)||ltS x.p.k to):=by
  funext x
  unfold endR
  cases (to.toList==(⟨#[]⟩:BA).toList)<;>cases ltS x.p.k to<;>rfl
 rw[e2,takeWhile_map_p (fun p=>(to.toList==(⟨#[]⟩:BA).toList)||ltS p.k to),dropWhile_map_p (fun p=>ltS p.k fr),show(ents l).map (·.p)=l from entsF_p l 20]
end Go.Proofs.YtgbmjoenbocfcaaGreat
namespace Go.Proofs.YtgbmjoenbocfcaaGreat
open Go Go.Fx Go.Proofs Go.Pl
def sumP(l:List Pr):Nat:=(l.map fun p=>p.k.size+p.v.size).sum
theorem sumP_snoc(l:List Pr)(p:Pr):sumP (l++[p])=sumP l+(p.k.size+p.v.size):=by simp[sumP]
theorem LargeP_spec(u:Value)(A:HProp)(xs:List Pr)(hA:Vw A 3 u (xs.map prV))(hz:∀ x∈xs,x.k.size≤140737488355328∧x.v.size≤140737488355328):
  FSpec Tryz.prog 33 [u] [A] Bool (fun y=>y=false→xs.length≤200∧sumP xs≤32768) (fun y=>.bool y) (fun _=>[A]):=by
 have hlen:(xs.map prV).length=xs.length:=by simp
 refine spec_intro [] _ Tryz.func33 rfl Tryz.ntmps33 (by rfl) (fun w0 R=>?_)
 refine ok_learn (VwIn.slice (VwIn.here hA)) ?_
 rintro⟨pu,cu,rfl⟩
 repeat'(first|(refine gY ?_;intros)|(refine hY ?_ ?_<;>intro hgd)|(refine jY ?_ ?_<;>intro _)|fail)
 refine ok_loop' (γ:=Nat) (fun n ρ L=>n≤xs.length∧n≤300∧sumP (xs.take n)≤n*281474976710656∧Knows ρ [(0,.slice pu (xs.map prV).length cu),(3,.int .i64 (sumP (xs.take n))),(4,.int .i64 n)]∧L=[A]++R) (fun n=>300-n) 0 ⟨by omega,by omega,by simp[sumP],⟨rfl,rfl,rfl,trivial⟩,rfl⟩ ?_
 rintro n ρ L ⟨hn,hn3,hw,hk,rfl⟩
 refine ok_regs hk ?_
 cases t1:decide ((n:Int)<((xs.map prV).length:Int))with
 |false=>
  have hn':n=xs.length:=by simp at t1;omega
  have hfull:xs.take n=xs:=by rw[hn'];exact List.take_length
  rw[hfull]at hk ⊢
  repeat'(first|(refine gY ?_;intros)|(refine hY ?_ ?_<;>intro hgd)|(refine jY ?_ ?_<;>intro _)|fail)
  all_goals(refine rt_Y (y:=_) (hrs:=Tryz.results33) (hv:=by exact rfl) (hφ:=?_))
  all_goals(intro hb;first|(exact absurd hb Bool.noConfusion)|(simp only[decide_eq_false_iff_not,decide_eq_true_eq,hlen]at hgd hb;exact⟨by omega,by omega⟩))
 |true=>
  have h:n<xs.length:=by simp at t1;omega
  cases t2:decide ((n:Int)<300)with
  |false=>
   have hbig:decide ((200:Int)<((xs.map prV).length:Int))=true:=by simp at t2 ⊢;omega
   repeat'(first|(refine gY ?_;intros)|(refine hY ?_ ?_<;>intro hgd)|(refine jY ?_ ?_<;>intro _)|fail)
   (refine rt_Y (y:=_) (hrs:=Tryz.results33) (hv:=by exact rfl) (hφ:=?_))
   intro hb
   cases hb
  |true=>
   have h3:n<300:=by simp at t2;omega
   have hn1:n<(xs.map prV).length:=by simpa using h
   have hx:(xs.map prV)[n]? =some (prV xs[n]):=by rw[List.getElem?_map,List.getElem?_eq_getElem h];rfl
   have htk:sumP (xs.take (n+1))=sumP (xs.take n)+(xs[n].k.size+xs[n].v.size):=by rw[List.take_succ_eq_append_getElem h,sumP_snoc]
   obtain⟨z1,z2⟩:=hz xs[n] (List.getElem_mem h)
   refine ok_learn (VwIn.base (VwIn.here hA) (by intro e;rw[e]at hn1;simp at hn1)) ?_
   rintro⟨bu,ou,rfl⟩
   generalize xs[n]=x at hx htk z1 z2
   have hsum:(sumP (xs.take n):Int)+(x.k.size:Int)+(x.v.size:Int)=(sumP (xs.take (n+1)):Int):=by omega
   repeat'(first|(refine gY ?_;intros)|(refine hY ?_ ?_<;>intro hgd)|(refine jY ?_ ?_<;>intro _)|fail)
   rw[hsum]
   refine cont_back (n+1) ⟨h,h3,by omega,⟨rfl,rfl,rfl,trivial⟩,rfl⟩ (by omega)
structure Sr where
 op:Int
 file:BA
 l:List Pr
 v:{v:Value // v.oneCell'=true}
 key:BA
 fr:BA
 to:BA
 n:Int
 m:Int
def srV(x:Sr):List Value:=[.int .i64 x.op,.string x.file,x.v.1,.string x.key,.string x.fr,.string x.to,.int .i64 x.n,.int .i64 x.m]
def eqPr(p q:Pr):Bool:=eqL [.string,.string,.bool] (prV p) (prV q)
def samePr:List Pr→List Pr→Bool
 | [],[]=>true
 |x::xs,y::ys=>eqPr x y&&samePr xs ys
 |_,_=>false
theorem eqPr_self(p:Pr):eqPr p p=true:=by simp[eqPr,eqL,eqD,prV]
theorem samePr_self:∀ l:List Pr,samePr l l=true
 | []=>rfl
 |p::l=>by simp[samePr,eqPr_self,samePr_self l]
theorem samePr_len:∀ {xs ys:List Pr},xs.length≠ys.length→samePr xs ys=false
 | [],[],h=>absurd rfl h
 | [],_::_,_=>rfl
 |_::_,[],_=>rfl
 |x::xs,y::ys,h=>by
  simp only[samePr,samePr_len (xs:=xs) (ys:=ys) (by simpa using h),Bool.and_false]
theorem prSame_spec(u v:Value)(A B:HProp)(xs ys:List Pr)(hA:Vw A 3 u (xs.map prV))(hB:Vw B 3 v (ys.map prV))(hb:xs.length≤4611686018427387904):
  FSpec Tryz.prog 32 [u,v] [A,B] Unit (fun _=>True) (fun _=>.bool (samePr xs ys)) (fun _=>[A,B]):=by
 have hlm:(xs.map prV).length=xs.length:=List.length_map ..
 have hlm':(ys.map prV).length=ys.length:=List.length_map ..
 refine spec_intro [] _ Tryz.func32 rfl Tryz.ntmps32 (by rfl) (fun w0 R=>?_)
 refine ok_learn (VwIn.slice (VwIn.here hA)) ?_
 rintro⟨pu,cu,rfl⟩
 refine ok_learn (VwIn.slice (VwIn.there (VwIn.here hB))) ?_
 rintro⟨pv,cv,rfl⟩
 cases hl:(!decide (((xs.map prV).length:Int)=((ys.map prV).length:Int)))with
 |true=>
  have e1:samePr xs ys=false:=samePr_len (by simp only[List.length_map,Bool.not_eq_true',decide_eq_false_iff_not]at hl;omega)
  rw[e1]
  repeat'(first|(refine gY ?_;intros)|(refine hY ?_ ?_<;>intro hgd)|(refine jY ?_ ?_<;>intro _)|fail)
  (refine rt_Y (y:=()) (hrs:=Tryz.results32) (hv:=?_) (hφ:=?_))
  ·rfl
  ·trivial
 |false=>
  have e1:xs.length=ys.length:=by simp only[List.length_map,Bool.not_eq_false',decide_eq_true_eq]at hl;omega
  repeat'(first|(refine gY ?_;intros)|(refine hY ?_ ?_<;>intro hgd)|(refine jY ?_ ?_<;>intro _)|fail)
  refine ok_loop' (γ:=Nat) (fun n ρ L=>n≤xs.length∧samePr (xs.drop n) (ys.drop n)=samePr xs ys∧Knows ρ [(0,.slice pu (xs.map prV).length cu),(1,.slice pv (ys.map prV).length cv),(5,.int .i64 n)]∧L=[A,B]++R) (fun n=>xs.length-n) 0 ⟨Nat.zero_le _,rfl,⟨rfl,rfl,rfl,trivial⟩,rfl⟩ ?_
  rintro n ρ L ⟨hn,hsm,hk,rfl⟩
  refine ok_regs hk ?_
  rcases Nat.lt_or_ge n xs.length with h|h
  ·have t1:decide ((n:Int)<((xs.map prV).length:Int))=true:=by simp only[decide_eq_true_eq];omega
   have hn1:n<(xs.map prV).length:=by omega
   have hn2:n<(ys.map prV).length:=by omega
   have h':n<ys.length:=by omega
   have hx:(xs.map prV)[n]? =some (prV xs[n]):=by rw[List.getElem?_map,List.getElem?_eq_getElem h];rfl
   have hy:(ys.map prV)[n]? =some (prV ys[n]):=by rw[List.getElem?_map,List.getElem?_eq_getElem h'];rfl
   have hd:samePr xs ys=(eqPr xs[n] ys[n]&&samePr (xs.drop (n+1)) (ys.drop (n+1))):=by
    rw[← hsm,List.drop_eq_getElem_cons h,List.drop_eq_getElem_cons h'];rfl
   refine ok_learn (VwIn.base (VwIn.here hA) (by intro e;rw[e]at hn1;simp at hn1)) ?_
   rintro⟨bu,ou,rfl⟩
   refine ok_learn (VwIn.base (VwIn.there (VwIn.here hB)) (by intro e;rw[e]at hn2;simp at hn2)) ?_
   rintro⟨bv,ov,rfl⟩
   generalize xs[n]=x at hx hd
   generalize ys[n]=y at hy hd
   dsimp only[prV]at hx hy
   cases hc:nilB .neq (eqL [.string,.string,.bool] [.string x.k,.string x.v,.bool x.g] [.string y.k,.string y.v,.bool y.g])with
   |true=>
    have e2:eqPr x y=false:=by
     have:(!eqPr x y)=true:=hc
     simpa using this
    rw[e2,Bool.false_and]at hd
    rw[hd]
    repeat'(first|(refine gY ?_;intros)|(refine hY ?_ ?_<;>intro hgd)|(refine jY ?_ ?_<;>intro _)|fail)
    (refine rt_Y (y:=()) (hrs:=Tryz.results32) (hv:=?_) (hφ:=?_))
    ·rfl
    ·trivial
   |false=>
    have e2:eqPr x y=true:=by
     have:(!eqPr x y)=false:=hc
     simpa using this
    rw[e2,Bool.true_and]at hd
    repeat'(first|(refine gY ?_;intros)|(refine hY ?_ ?_<;>intro hgd)|(refine jY ?_ ?_<;>intro _)|fail)
    refine cont_back (n+1) ⟨h,hd.symm,⟨rfl,rfl,rfl,trivial⟩,rfl⟩ (by omega)
  ·have t1:decide ((n:Int)<((xs.map prV).length:Int))=false:=by simp only[decide_eq_false_iff_not,List.length_map];omega
   have e2:samePr xs ys=true:=by
    rw[← hsm,List.drop_eq_nil_of_le h,List.drop_eq_nil_of_le (by omega)];rfl
   rw[e2]
   repeat'(first|(refine gY ?_;intros)|(refine hY ?_ ?_<;>intro hgd)|(refine jY ?_ ?_<;>intro _)|fail)
   (refine rt_Y (y:=()) (hrs:=Tryz.results32) (hv:=?_) (hφ:=?_))
   ·rfl
   ·trivial
end Go.Proofs.YtgbmjoenbocfcaaGreat
