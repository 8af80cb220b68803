/- Texts merged: RnD RnE RnF RnG. -/
import Derived.Test.YtgbmjoenbocfcaaGreatG9
import Derived.Test.YtgbmjoenbocfcaaGreatFwY
set_option linter.unusedSimpArgs false
set_option linter.unusedVariables false
set_option maxRecDepth 100000
namespace Go.Proofs.YtgbmjoenbocfcaaGreat
open Go Go.Fx Go.Proofs Go.Pl
def rnV(b:Nat)(nm:BA)(v:Value)(sz:Int):List Value:=[.pointer (some ⟨b,0,none⟩),.string nm,v,.int .i64 sz]
abbrev rnP(rb b:Nat)(nm:BA)(v:Value)(sz:Int):HProp:=pts rb (.cells (rnV b nm v sz).toArray 139)
abbrev enP(v:Value)(es:List En):HProp:=row 136 5 v (es.map enV)
theorem rd_size(d:Dk)(nm:BA)(n:Int)(h0:0≤n):((d.read nm 0 n).1.size:Int)≤n:=by
 unfold Dk.read
 split
 ·exact h0
 ·split
  ·exact h0
  ·split
   ·exact h0
   ·unfold cut
    simp only[ByteArray.size_extract]
    split<;>omega
theorem len_lenT:∀ l:List BA,l.length≤lenT l
 | []=>Nat.le_refl _
 |s::l=>by have:=len_lenT l;simp[lenT]at this ⊢;omega
theorem get8_spec(n:Nat)(h:n<18446744073709551616):FSpec Tryz.prog 144 [.string (put8 (n:Int))] [] Unit (fun _=>True) (fun _=>.tuple #[.int .u64 n,.int .i64 0]) (fun _=>[]):=by
 have:=get_spec (put8 (n:Int)) (by rw[put8_size];decide) (by rw[put8_size];decide)
 rw[put8_size,put8_get _ (by omega) (by omega)]at this
 exact this
theorem dropV_some(g len c m n:Nat):∃ o,dropV n (some ⟨g,0,none⟩) len c m= .slice (some ⟨g,o,none⟩) (len-m) (c-m):=by
 unfold dropV
 by_cases h:c=m
 ·exact⟨0,by rw[if_pos h]⟩
 ·exact⟨0+m*n,by rw[if_neg h,Option.map_some,add_plain]⟩
theorem rOpen_spec(b:Nat)(d:Dk)(nm:BA)(l:List Pr)(hn:nm.size≤4611686018427387904)(hr0:d.read nm 0 16777216=(runB l,0))(hok:∀ p∈l,okP p=true)(hrise:riseB l=true):
  FSpec Tryz.prog 96 [.pointer (some ⟨b,0,none⟩),.string nm] [diskP b d] (Nat×{v:Value // v.oneCell'=true}) (fun _=>True) (fun y=>.tuple #[.pointer (some ⟨y.1,0,none⟩),.int .i64 0])
   (fun y=>[diskP b d,rnP y.1 b nm y.2.1 (runB l).size,enP y.2.1 (ents l)]):=by
 have hr:=read_spec b d nm 0 16777216 hn
 have hz:=rd_size d nm 16777216 (by decide)
 rw[hr0]at hr hz
 dsimp only at hr hz
 have hS:=Scan_spec (runB l) (by omega)
 rw[runB_scan hok]at hS
 dsimp only at hS
 have hlz:l.length≤(runB l).size:=by
  rw[runB_size]
  have h1:=len_lenT (l.map txtR)
  rw[List.length_map]at h1
  omega
 have hrl:((runL l).map strV).length=l.length+1:=by simp[runL]
 have t1:decide ((((runL l).map strV).length:Int)=0)=false:=by rw[hrl];simp;omega
 have x0:((runL l).map strV)[0]? =some (strV (put8 (l.length:Int))):=rfl
 have z8:=put8_size (l.length:Int)
 have t2:(!decide (((put8 (l.length:Int)).size:Int)=8))=false:=by rw[z8];rfl
 have hlt0:0<((runL l).map strV).length:=by omega
 have h1le:1≤((runL l).map strV).length:=by omega
 have hg:=get8_spec l.length (by omega)
 have hel:((ents l).map enV).length=l.length:=by rw[List.length_map];exact entsF_len l 20
 have hw:IntKind.u64.wrap (((ents l).map enV).length:Int)=(l.length:Int):=by rw[hel];exact wrap_u64 _ (by omega)
 have t9:(!decide ((l.length:Int)=(l.length:Int)))=false:=by simp
 refine spec_intro [] _ Tryz.func96 rfl Tryz.ntmps96 (by rfl) (fun w0 R=>?_)
 repeat'(first|(refine gY ?_;intros)|(refine hY ?_ ?_<;>intro hgd)|(refine jY ?_ ?_<;>intro _)|fail)
 refine cl_Y (hr) ?_
 intro _ _
 repeat'(first|(refine gY ?_;intros)|(refine hY ?_ ?_<;>intro hgd)|(refine jY ?_ ?_<;>intro _)|fail)
 refine cl_Y (hS) ?_
 rintro⟨v,hv⟩ _
 refine ops_learn (row_cases (e:=9) (v:=v) (xs:=(runL l).map strV) takeD) ?_
 rintro(⟨rfl,hnil⟩|⟨g,c,rfl,hc⟩)
 ·simp[runL]at hnil
 obtain⟨o,hdv⟩:=dropV_some g ((runL l).map strV).length c 1 1
 have hdr:Vw (row 9 1 (.slice (some ⟨g,0,none⟩) ((runL l).map strV).length c) ((runL l).map strV)) 1 (dropV 1 (some ⟨g,0,none⟩) ((runL l).map strV).length c 1) ((l.map txtR).map strV):=Vw.drop Vw.row hc
 rw[hdv]at hdr
 repeat'(first|(refine gY ?_;intros)|(refine hY ?_ ?_<;>intro hgd)|(refine jY ?_ ?_<;>intro _)|fail)
 refine cl_Y (hg) ?_
 intro _ _
 repeat'(first|(refine gY ?_;intros)|(refine hY ?_ ?_<;>intro hgd)|(refine jY ?_ ?_<;>intro _)|fail)
 rename_i rb
 have hl1:((runL l).map strV).length-1=l.length:=by omega
 rw[hl1]at hdv hdr
 rw[hdv,hl1]
 refine ok_map (fun _ h=>rowNil (e:=136) (n:=5) h) ?_
 refine ok_map (L':=[rnP rb b nm (.slice none 0 0) (runB l).size,enP (.slice none 0 0) (entsF 20 (l.take 0)),row 9 1 (.slice (some ⟨g,0,none⟩) ((runL l).map strV).length c) ((runL l).map strV),diskP b d]++R) entD ?_
 refine ok_loop' (γ:=Nat×{v:Value // v.oneCell'=true}) (fun q ρ L=>q.1≤l.length∧Knows ρ [(10,.int .u64 l.length),(12,.pointer (some ⟨rb,0,none⟩)),(13,.int .i64 ((20+lenT ((l.take q.1).map txtR):Nat):Int)),(65,.slice (some ⟨g,o,none⟩) l.length (c-1)),(66,.int .i64 l.length),(67,.int .i64 q.1)]∧
   L=[rnP rb b nm q.2.1 (runB l).size,enP q.2.1 (entsF 20 (l.take q.1)),row 9 1 (.slice (some ⟨g,0,none⟩) ((runL l).map strV).length c) ((runL l).map strV),diskP b d]++R) (fun q=>l.length-q.1) (0,⟨.slice none 0 0,rfl⟩) ⟨by simp,⟨rfl,rfl,rfl,rfl,rfl,rfl,trivial⟩,rfl⟩ ?_
 rintro⟨i,⟨vi,hvi⟩⟩ ρ L ⟨hi,hk,rfl⟩
 dsimp only at hi hk ⊢
 refine ok_regs hk ?_
 cases t3:decide ((i:Int)<(l.length:Int))with
 |true=>
  have h:i<l.length:=by simpa using t3
  have hx:((l.map txtR).map strV)[i]? =some (strV (txtR l[i])):=by rw[List.getElem?_map,List.getElem?_map,List.getElem?_eq_getElem h];rfl
  have htk:l.take (i+1)=l.take i++[l[i]]:=List.take_succ_eq_append_getElem h
  have hpo:=hok _ (List.getElem_mem h)
  have hpre:lenT ((l.take i).map txtR)≤(runB l).size:=by
   rw[runB_size]
   have:=lenT_pre (List.IsPrefix.map txtR (List.take_prefix i l))
   omega
  have hei:((entsF 20 (l.take i)).map enV).length=i:=by rw[List.length_map,entsF_len,List.length_take];omega
  have hei2:(entsF 20 (l.take i)).length=i:=by rw[entsF_len,List.length_take];omega
  generalize l[i]=p at hx htk hpo
  have hps:=okP_k hpo
  have hpz:=txtR_size p
  have hp:=pair_spec p hpo
  dsimp only[prV]at hp
  repeat'(first|(refine gY ?_;intros)|(refine hY ?_ ?_<;>intro hgd)|(refine jY ?_ ?_<;>intro _)|fail)
  refine cl_Y (hp) ?_
  intro _ _
  repeat'(first|(refine gY ?_;intros)|(refine hY ?_ ?_<;>intro hgd)|(refine jY ?_ ?_<;>intro _)|fail)
  rename_i b16
  refine ok_drawL (cv:=[]) [9] ([rnP rb b nm vi (runB l).size,pts b16 (.cells [.string p.k,.string p.v,.bool p.g].toArray 65)]) (takeD) (by kernel_rfl) rfl (by decide +kernel) ?_
  repeat'(first|(refine gY ?_;intros)|(refine hY ?_ ?_<;>intro hgd)|(refine jY ?_ ?_<;>intro _)|fail)
  rename_i v1 hv1 v2 hv2
  have ec:(12+((txtR p).size:Int))=((12+(txtR p).size:Nat):Int):=by omega
  have eS:(entsF 20 (l.take (i+1))).map enV=(entsF 20 (l.take i)).map enV++[[.string p.k,.string p.v,.bool p.g,.int .i64 ((20+lenT ((l.take i).map txtR):Nat):Int),.int .i64 ((12+(txtR p).size:Nat):Int)]]:=by
   rw[htk,entsF_snoc,List.map_append];rfl
  have eL:((20+lenT ((l.take i).map txtR):Nat):Int)+((12+(txtR p).size:Nat):Int)=((20+lenT ((l.take (i+1)).map txtR):Nat):Int):=by
   rw[htk,List.map_append,List.map_cons,List.map_nil,lenT_snoc];omega
  rw[ec,← eS,eL]
  refine cont_map (L':=[rnP rb b nm v2 (runB l).size,enP v2 (entsF 20 (l.take (i+1))),row 9 1 (.slice (some ⟨g,0,none⟩) ((runL l).map strV).length c) ((runL l).map strV),diskP b d]++R) entD ?_
  refine cont_back (i+1,⟨v2,hv2⟩) ⟨h,⟨rfl,rfl,rfl,rfl,rfl,rfl,trivial⟩,rfl⟩ (by dsimp only;omega)
 |false=>
  have hie:i=l.length:=by simp at t3;omega
  subst hie
  rw[List.take_length,show entsF 20 l=ents l from rfl]
  have hrs:=rise_spec vi (enP vi (ents l)) (ents l) Vw.row (by rw[show(ents l).length=l.length from entsF_len l 20];omega) (by rw[show(ents l).map (·.p)=l from entsF_p l 20];exact hrise)
  repeat'(first|(refine gY ?_;intros)|(refine hY ?_ ?_<;>intro hgd)|(refine jY ?_ ?_<;>intro _)|fail)
  refine cl_Y (hrs) ?_
  intro _ _
  repeat'(first|(refine gY ?_;intros)|(refine hY ?_ ?_<;>intro hgd)|(refine jY ?_ ?_<;>intro _)|fail)
  (refine rt_Y (y:=(rb,⟨vi,hvi⟩)) (hrs:=Tryz.results96) (hv:=?_) (hφ:=?_))
  ·rfl
  ·trivial
instance prEq:SEq Tryz.prog 65 [.string,.string,.bool]:=⟨by kernel_rfl⟩
theorem eqP_self(p:Pr):nilB .eql (eqL [.string,.string,.bool] [.string p.k,.string p.v,.bool p.g] [.string p.k,.string p.v,.bool p.g])=true:=by
 simp[nilB,eqL,eqD]
theorem rread_good(rb b:Nat)(nm:BA)(v:Value)(sz:Int)(d:Dk)(x:En)(s:BA)(hn:nm.size≤4611686018427387904)(hr0:d.read nm x.at_ x.sz=(s,0))(hs:scanOf s=([txtR x.p],x.sz,0))(hp:okP x.p=true)(hz:s.size≤1099511627776):
  FSpec Tryz.prog 88 [.pointer (some ⟨rb,0,none⟩),.agg (enV x).toArray] [rnP rb b nm v sz,diskP b d] Unit (fun _=>True) (fun _=>.tuple #[.agg (prV x.p).toArray,.int .i64 0]) (fun _=>[rnP rb b nm v sz,diskP b d]):=by
 have hr:=read_spec b d nm x.at_ x.sz hn
 rw[hr0]at hr
 dsimp only at hr
 have hS:=Scan_spec s hz
 rw[hs]at hS
 dsimp only at hS
 have hpr:=pair_spec x.p hp
 have heq:=eqP_self x.p
 obtain⟨p,at_,n⟩:=x
 dsimp only at hr hS hpr heq ⊢
 dsimp only[prV]at hpr
 have t1:(!decide (((([txtR p]:List BA).map strV).length:Int)=1))=false:=rfl
 have t2:(!decide ((n:Int)=(n:Int)))=false:=by simp
 have x0:(([txtR p]:List BA).map strV)[0]? =some (strV (txtR p)):=rfl
 have hlt:0<(([txtR p]:List BA).map strV).length:=by simp
 unfold rnP rnV enV prV
 refine spec_intro [] _ Tryz.func88 rfl Tryz.ntmps88 (by rfl) (fun w0 R=>?_)
 repeat'(first|(refine gY ?_;intros)|(refine hY ?_ ?_<;>intro hgd)|(refine jY ?_ ?_<;>intro _)|fail)
 refine cl_Y (hr) ?_
 intro _ _
 repeat'(first|(refine gY ?_;intros)|(refine hY ?_ ?_<;>intro hgd)|(refine jY ?_ ?_<;>intro _)|fail)
 refine cl_Y (hS) ?_
 rintro⟨v',hv'⟩ _
 refine ops_learn (row_cases (e:=9) (v:=v') (xs:=([txtR p]:List BA).map strV) takeD) ?_
 rintro(⟨rfl,hnil⟩|⟨g,c,rfl,hc⟩)
 ·simp at hnil
 repeat'(first|(refine gY ?_;intros)|(refine hY ?_ ?_<;>intro hgd)|(refine jY ?_ ?_<;>intro _)|fail)
 refine cl_Y (hpr) ?_
 intro _ _
 repeat'(first|(refine gY ?_;intros)|(refine hY ?_ ?_<;>intro hgd)|(refine jY ?_ ?_<;>intro _)|fail)
 (refine rt_Y (y:=()) (hrs:=Tryz.results88) (hv:=?_) (hφ:=?_))
 ·rfl
 ·trivial
def cmpS(a b:BA):Int:=if ltS a b then -1 else if ltS b a then 1 else 0
theorem isNaN_spec(a:BA):FSpec Tryz.prog 197 [.string a] [] Unit (fun _=>True) (fun _=>.bool false) (fun _=>[]):=by
 refine spec_intro [] _ Tryz.func197 rfl Tryz.ntmps197 (by rfl) (fun w0 R=>?_)
 repeat'(first|(refine gY ?_;intros)|(refine hY ?_ ?_<;>intro hgd)|(refine jY ?_ ?_<;>intro _)|fail)
 (refine rt_Y (y:=()) (hrs:=Tryz.results197) (hv:=?_) (hφ:=?_))
 ·simp[retOf]
 ·trivial
theorem Compare_spec(a b:BA):FSpec Tryz.prog 172 [.string a,.string b] [] Unit (fun _=>True) (fun _=>.int .i64 (cmpS a b)) (fun _=>[]):=by
 have h1:=isNaN_spec a
 have h2:=isNaN_spec b
 unfold cmpS
 cases t1:ltS a b with
 |true=>
  have t1':Op.bytesLess a.toList b.toList=true:=t1
  refine spec_intro [] _ Tryz.func172 rfl Tryz.ntmps172 (by rfl) (fun w0 R=>?_)
  repeat'(first|(refine gY ?_;intros)|(refine hY ?_ ?_<;>intro hgd)|(refine jY ?_ ?_<;>intro _)|fail)
  refine cl_Y (h1) ?_
  intro _ _
  repeat'(first|(refine gY ?_;intros)|(refine hY ?_ ?_<;>intro hgd)|(refine jY ?_ ?_<;>intro _)|fail)
  refine cl_Y (h2) ?_
  intro _ _
  repeat'(first|(refine gY ?_;intros)|(refine hY ?_ ?_<;>intro hgd)|(refine jY ?_ ?_<;>intro _)|fail)
  (refine rt_Y (y:=()) (hrs:=Tryz.results172) (hv:=?_) (hφ:=?_))
  ·rfl
  ·trivial
 |false=>
  have t1':Op.bytesLess a.toList b.toList=false:=t1
  cases t2:ltS b a with
  |true=>
   have t3:(!(Op.bytesLess a.toList b.toList||a.toList==b.toList))=true:=by
    rw[t1',Bool.false_or]
    have:(a.toList==b.toList)=false:=by
     cases h:(a.toList==b.toList)with
     |false=>rfl
     |true=>have:=eqS_iff.1 h;subst this;rw[ltS_irrefl]at t2;cases t2
    rw[this];rfl
   refine spec_intro [] _ Tryz.func172 rfl Tryz.ntmps172 (by rfl) (fun w0 R=>?_)
   repeat'(first|(refine gY ?_;intros)|(refine hY ?_ ?_<;>intro hgd)|(refine jY ?_ ?_<;>intro _)|fail)
   refine cl_Y (h1) ?_
   intro _ _
   repeat'(first|(refine gY ?_;intros)|(refine hY ?_ ?_<;>intro hgd)|(refine jY ?_ ?_<;>intro _)|fail)
   refine cl_Y (h2) ?_
   intro _ _
   repeat'(first|(refine gY ?_;intros)|(refine hY ?_ ?_<;>intro hgd)|(refine jY ?_ ?_<;>intro _)|fail)
   (refine rt_Y (y:=()) (hrs:=Tryz.results172) (hv:=?_) (hφ:=?_))
   ·rfl
   ·trivial
  |false=>
   have t3:(!(Op.bytesLess a.toList b.toList||a.toList==b.toList))=false:=by
    rcases ltS_tri a b with h|h|h
    ·rw[t1]at h;cases h
    ·subst h;simp
    ·rw[t2]at h;cases h
   refine spec_intro [] _ Tryz.func172 rfl Tryz.ntmps172 (by rfl) (fun w0 R=>?_)
   repeat'(first|(refine gY ?_;intros)|(refine hY ?_ ?_<;>intro hgd)|(refine jY ?_ ?_<;>intro _)|fail)
   refine cl_Y (h1) ?_
   intro _ _
   repeat'(first|(refine gY ?_;intros)|(refine hY ?_ ?_<;>intro hgd)|(refine jY ?_ ?_<;>intro _)|fail)
   refine cl_Y (h2) ?_
   intro _ _
   repeat'(first|(refine gY ?_;intros)|(refine hY ?_ ?_<;>intro hgd)|(refine jY ?_ ?_<;>intro _)|fail)
   (refine rt_Y (y:=()) (hrs:=Tryz.results172) (hv:=?_) (hφ:=?_))
   ·rfl
   ·trivial
theorem cmpS_lt{a b:BA}:cmpS a b<0↔ltS a b=true:=by
 unfold cmpS
 cases h:ltS a b with
 |true=>simp
 |false=>cases h2:ltS b a<;>simp
theorem cmpS_eq{a b:BA}:cmpS a b=0↔a=b:=by
 unfold cmpS
 constructor
 ·intro h
  rcases ltS_tri a b with h1|h1|h1
  ·rw[h1]at h;cases h
  ·exact h1
  ·rw[h1,ltS_asymm h1]at h;cases h
 ·rintro rfl
  rw[ltS_irrefl];rfl
structure At(xs:List En)(key:BA)(i:Nat)(is:Bool):Prop where
 le:i≤xs.length
 lo:∀ t (h:t<xs.length),t<i→ltS xs[t].p.k key=true
 hi:∀ t (h:t<xs.length),i≤t→ltS xs[t].p.k key=false
 eq:is=true↔∃ h:i<xs.length,xs[i].p.k=key
theorem half_eq(i j:Nat)(h:i+j≤1099511627776*2):IntKind.u64.wrap ((i:Int)+(j:Int))=(i:Int)+(j:Int)∧IntKind.i64.wrap (shiftOf .shr .u64 ((i:Int)+(j:Int)) 1)=(((i+j) / 2:Nat):Int):=by
 constructor
 ·have:=wrap_u64 (i+j) (by omega)
  simpa using this
 ·have e:shiftOf .shr .u64 ((i:Int)+(j:Int)) 1=(((i+j) / 2:Nat):Int):=by
   show Int.fdiv ((i:Int)+(j:Int)) (2 ^ (min (1:Int).toNat 64))=_
   have e2:(2:Int) ^ (min (1:Int).toNat 64)=2:=by decide
   rw[e2,Int.fdiv_eq_ediv_of_nonneg _ (by decide)]
   omega
  rw[e]
  exact wrap_i64 (by omega) (by omega)
theorem sorted_mono{xs:List En}(hs:Sorted (xs.map (·.p))){key:BA}{s t:Nat}(hs':s<xs.length)(ht:t<xs.length)(hst:s≤t):(ltS xs[t].p.k key=true→ltS xs[s].p.k key=true)∧(ltS xs[s].p.k key=false→ltS xs[t].p.k key=false):=by
 have hlt:s<t→ltS xs[s].p.k xs[t].p.k=true:=by
  intro h
  have:=List.pairwise_iff_getElem.1 hs s t (by simpa using hs') (by simpa using ht) h
  simpa using this
 rcases Nat.lt_or_ge s t with h|h
 ·have h1:=hlt h
  refine⟨fun h2=>ltS_trans h1 h2,fun h2=>?_⟩
  cases h3:ltS xs[t].p.k key with
  |false=>rfl
  |true=>have:=ltS_trans h1 h3;rw[h2]at this;cases this
 ·have:s=t:=by omega
  subst this
  exact⟨id,id⟩
theorem search_spec(u fv:Value)(A F:HProp)(xs:List En)(key:BA)(hA:Vw A 5 u (xs.map enV))(hs:Sorted (xs.map (·.p)))(hz:xs.length≤1099511627776)
  (hf:∀ x∈xs,VSpec Tryz.prog fv [.agg (enV x).toArray,.string key] [F] Unit (fun _=>True) (fun _=>.int .i64 (cmpS x.p.k key)) (fun _=>[F])):
  FSpec Tryz.prog 170 [u,.string key,fv] [A,F] (Nat×Bool) (fun y=>At xs key y.1 y.2) (fun y=>.tuple #[.int .i64 y.1,.bool y.2]) (fun _=>[A,F]):=by
 have hlen:(xs.map enV).length=xs.length:=by simp
 refine spec_intro [] _ Tryz.func170 rfl Tryz.ntmps170 (by rfl) (fun w0 R=>?_)
 refine ok_learn (VwIn.slice (VwIn.here hA)) ?_
 rintro⟨pu,cu,rfl⟩
 repeat'(first|(refine gY ?_;intros)|(refine hY ?_ ?_<;>intro hgd)|(refine jY ?_ ?_<;>intro _)|fail)
 refine ok_loop' (γ:=Nat×Nat) (fun q ρ L=>q.1≤q.2∧q.2≤xs.length∧(∀ t (h:t<xs.length),t<q.1→ltS xs[t].p.k key=true)∧(∀ t (h:t<xs.length),q.2≤t→ltS xs[t].p.k key=false)∧
   Knows ρ [(0,.slice pu (xs.map enV).length cu),(1,.string key),(2,fv),(8,.int .i64 (xs.map enV).length),(9,.int .i64 q.1),(10,.int .i64 q.2)]∧L=[A,F]++R) (fun q=>q.2-q.1) (0,xs.length) ⟨by simp,by simp,fun t h h0=>by omega,fun t h h0=>by omega,⟨rfl,rfl,rfl,rfl,rfl,by rw[← hlen];rfl,trivial⟩,rfl⟩ ?_
 rintro⟨i,j⟩ ρ L ⟨hij,hj,hlo,hhi,hk,rfl⟩
 dsimp only at hij hj hlo hhi hk ⊢
 refine ok_regs hk ?_
 cases t1:decide ((i:Int)<(j:Int))with
 |true=>
  have hlt:i<j:=by simpa using t1
  obtain⟨w1,w2⟩:=half_eq i j (by omega)
  have hm1:i≤(i+j) / 2:=by omega
  have hm2:(i+j) / 2<j:=by omega
  have hm:(i+j) / 2<xs.length:=by omega
  generalize hmd:(i+j) / 2=m at w2 hm1 hm2 hm
  have hn1:m<(xs.map enV).length:=by omega
  have hx:(xs.map enV)[m]? =some (enV xs[m]):=by rw[List.getElem?_map,List.getElem?_eq_getElem hm];rfl
  have hfx:=hf _ (List.getElem_mem hm)
  have hmono1:∀ t (h:t<xs.length),ltS xs[m].p.k key=true→t<m+1→ltS xs[t].p.k key=true:=fun t h h1 h2=>(sorted_mono hs h hm (by omega)).1 h1
  have hmono2:∀ t (h:t<xs.length),ltS xs[m].p.k key=false→m≤t→ltS xs[t].p.k key=false:=fun t h h1 h2=>(sorted_mono hs hm h h2).2 h1
  have hcl:=cmpS_lt (a:=xs[m].p.k) (b:=key)
  refine ok_learn (VwIn.base (VwIn.here hA) (by intro e;rw[e]at hn1;simp at hn1)) ?_
  rintro⟨bu,ou,rfl⟩
  generalize xs[m]=x at hx hfx hmono1 hmono2 hcl
  generalize cmpS x.p.k key=c at hfx hcl
  cases t2:decide (c<0)with
  |true=>
   have hl:=hcl.1 (by simpa using t2)
   repeat'(first|(refine gY ?_;intros)|(refine hY ?_ ?_<;>intro hgd)|(refine jY ?_ ?_<;>intro _)|fail)
   refine clV_Y (hfx) ?_
   intro _ _
   repeat'(first|(refine gY ?_;intros)|(refine hY ?_ ?_<;>intro hgd)|(refine jY ?_ ?_<;>intro _)|fail)
   refine cont_map (L':=[A,F]++R) entD ?_
   refine cont_back (m+1,j) ⟨by dsimp only;omega,hj,fun t h h0=>hmono1 t h hl h0,hhi,⟨rfl,rfl,rfl,rfl,rfl,rfl,trivial⟩,rfl⟩ (by dsimp only;omega)
  |false=>
   have hl:ltS x.p.k key=false:=by
    cases h:ltS x.p.k key with
    |false=>rfl
    |true=>have:=hcl.2 h;simp at t2;omega
   repeat'(first|(refine gY ?_;intros)|(refine hY ?_ ?_<;>intro hgd)|(refine jY ?_ ?_<;>intro _)|fail)
   refine clV_Y (hfx) ?_
   intro _ _
   repeat'(first|(refine gY ?_;intros)|(refine hY ?_ ?_<;>intro hgd)|(refine jY ?_ ?_<;>intro _)|fail)
   refine cont_map (L':=[A,F]++R) entD ?_
   refine cont_back (i,m) ⟨hm1,by dsimp only;omega,hlo,fun t h h0=>hmono2 t h hl h0,⟨rfl,rfl,rfl,rfl,rfl,rfl,trivial⟩,rfl⟩ (by dsimp only;omega)
 |false=>
  have hije:i=j:=by simp at t1;omega
  subst hije
  cases t3:decide ((i:Int)<((xs.map enV).length:Int))with
  |false=>
   have hie:¬ i<xs.length:=by simp at t3;omega
   repeat'(first|(refine gY ?_;intros)|(refine hY ?_ ?_<;>intro hgd)|(refine jY ?_ ?_<;>intro _)|fail)
   (refine rt_Y (y:=(i,false)) (hrs:=Tryz.results170) (hv:=?_) (hφ:=?_))
   ·rfl
   ·exact⟨hj,hlo,hhi,by simp;omega⟩
  |true=>
   have hi:i<xs.length:=by simp at t3;omega
   have hn1:i<(xs.map enV).length:=by omega
   have hx:(xs.map enV)[i]? =some (enV xs[i]):=by rw[List.getElem?_map,List.getElem?_eq_getElem hi];rfl
   have hfx:=hf _ (List.getElem_mem hi)
   have heq:=cmpS_eq (a:=xs[i].p.k) (b:=key)
   have hfin:∀ is:Bool,(is=true↔xs[i].p.k=key)→At xs key i is:=fun is h=>⟨hj,hlo,hhi,h.trans ⟨fun h=>⟨hi,h⟩,fun⟨_,h⟩=>h⟩⟩
   refine ok_learn (VwIn.base (VwIn.here hA) (by intro e;rw[e]at hn1;simp at hn1)) ?_
   rintro⟨bu,ou,rfl⟩
   generalize xs[i]=x at hx hfx heq hfin
   generalize cmpS x.p.k key=c at hfx heq
   repeat'(first|(refine gY ?_;intros)|(refine hY ?_ ?_<;>intro hgd)|(refine jY ?_ ?_<;>intro _)|fail)
   refine clV_Y (hfx) ?_
   intro _ _
   repeat'(first|(refine gY ?_;intros)|(refine hY ?_ ?_<;>intro hgd)|(refine jY ?_ ?_<;>intro _)|fail)
   (refine rt_Y (y:=(i,decide (c=0))) (hrs:=Tryz.results170) (hv:=?_) (hφ:=?_))
   ·rfl
   ·exact hfin _ (by rw[decide_eq_true_eq];exact heq)
theorem find1_spec(x:En):FSpec Tryz.prog 132 [.agg (enV x).toArray] [] Unit (fun _=>True) (fun _=>.string x.p.k) (fun _=>[]):=by
 unfold enV
 refine spec_intro [] _ Tryz.func132 rfl Tryz.ntmps132 (by rfl) (fun w0 R=>?_)
 repeat'(first|(refine gY ?_;intros)|(refine hY ?_ ?_<;>intro hgd)|(refine jY ?_ ?_<;>intro _)|fail)
 (refine rt_Y (y:=()) (hrs:=Tryz.results132) (hv:=?_) (hφ:=?_))
 ·rfl
 ·trivial
abbrev ofP(b5:Nat):HProp:=pts b5 (.cells [.func (.func 132) #[] #[]].toArray 192)
theorem place1_spec(x:En)(key:BA)(b5:Nat):FSpec Tryz.prog 171 [.agg (enV x).toArray,.string key,.pointer (some ⟨b5,0,none⟩)] [ofP b5] Unit (fun _=>True) (fun _=>.int .i64 (cmpS x.p.k key)) (fun _=>[ofP b5]):=by
 have hv:=vspec_fn (find1_spec x)
 have hc:=Compare_spec x.p.k key
 generalize cmpS x.p.k key=c at hc
 unfold enV at hv ⊢
 refine spec_intro [] _ Tryz.func171 rfl Tryz.ntmps171 (by rfl) (fun w0 R=>?_)
 repeat'(first|(refine gY ?_;intros)|(refine hY ?_ ?_<;>intro hgd)|(refine jY ?_ ?_<;>intro _)|fail)
 refine clV_Y (hv) ?_
 intro _ _
 repeat'(first|(refine gY ?_;intros)|(refine hY ?_ ?_<;>intro hgd)|(refine jY ?_ ?_<;>intro _)|fail)
 refine cl_Y (hc) ?_
 intro _ _
 repeat'(first|(refine gY ?_;intros)|(refine hY ?_ ?_<;>intro hgd)|(refine jY ?_ ?_<;>intro _)|fail)
 (refine rt_Y (y:=()) (hrs:=Tryz.results171) (hv:=?_) (hφ:=?_))
 ·rfl
 ·trivial
theorem place1_v(x:En)(key:BA)(b5:Nat):VSpec Tryz.prog (.func (.func 171) #[] [.pointer (some ⟨b5,0,none⟩)].toArray) [.agg (enV x).toArray,.string key] [ofP b5] Unit (fun _=>True) (fun _=>.int .i64 (cmpS x.p.k key)) (fun _=>[ofP b5]):=
 vspec_func (args:=[.agg (enV x).toArray,.string key]) (cap:=[.pointer (some ⟨b5,0,none⟩)]) (place1_spec x key b5)
theorem search_v(u:Value)(A:HProp)(xs:List En)(key:BA)(b5:Nat)(hA:Vw A 5 u (xs.map enV))(hs:Sorted (xs.map (·.p)))(hz:xs.length≤1099511627776):
  FSpec Tryz.prog 170 [u,.string key,.func (.func 171) #[] [.pointer (some ⟨b5,0,none⟩)].toArray] [A,ofP b5] (Nat×Bool) (fun y=>At xs key y.1 y.2) (fun y=>.tuple #[.int .i64 y.1,.bool y.2]) (fun _=>[A,ofP b5]):=by
 refine search_spec u _ A (ofP b5) xs key hA hs hz ?_
 intro x _
 exact place1_v x key b5
theorem place_spec(u:Value)(A:HProp)(xs:List En)(key:BA)(hA:Vw A 5 u (xs.map enV))(hs:Sorted (xs.map (·.p)))(hz:xs.length≤1099511627776):
  FSpec Tryz.prog 131 [u,.string key,.func (.func 132) #[] #[]] [A] (Nat×Bool) (fun y=>At xs key y.1 y.2) (fun y=>.tuple #[.int .i64 y.1,.bool y.2]) (fun _=>[A]):=by
 refine spec_intro [] _ Tryz.func131 rfl Tryz.ntmps131 (by rfl) (fun w0 R=>?_)
 repeat'(first|(refine gY ?_;intros)|(refine hY ?_ ?_<;>intro hgd)|(refine jY ?_ ?_<;>intro _)|fail)
 rename_i b5
 refine cl_Y (search_v u A xs key b5 hA hs hz) ?_
 rintro⟨i,is⟩ hat
 repeat'(first|(refine gY ?_;intros)|(refine hY ?_ ?_<;>intro hgd)|(refine jY ?_ ?_<;>intro _)|fail)
 (refine rt_Y (y:=(i,is)) (hrs:=Tryz.results131) (hv:=?_) (hφ:=?_))
 ·rfl
 ·exact hat
theorem find_spec(rb b:Nat)(nm:BA)(v:Value)(sz:Int)(es:List En)(key:BA)(hs:Sorted (es.map (·.p)))(hz:es.length≤1099511627776):
  FSpec Tryz.prog 87 [.pointer (some ⟨rb,0,none⟩),.string key] [rnP rb b nm v sz,enP v es] (Nat×Bool) (fun y=>At es key y.1 y.2) (fun y=>.tuple #[.int .i64 y.1,.bool y.2]) (fun _=>[rnP rb b nm v sz,enP v es]):=by
 unfold rnP rnV
 refine spec_intro [] _ Tryz.func87 rfl Tryz.ntmps87 (by rfl) (fun w0 R=>?_)
 repeat'(first|(refine gY ?_;intros)|(refine hY ?_ ?_<;>intro hgd)|(refine jY ?_ ?_<;>intro _)|fail)
 refine cl_Y (place_spec v (enP v es) es key Vw.row hs hz) ?_
 rintro⟨i,is⟩ hat
 repeat'(first|(refine gY ?_;intros)|(refine hY ?_ ?_<;>intro hgd)|(refine jY ?_ ?_<;>intro _)|fail)
 (refine rt_Y (y:=(i,is)) (hrs:=Tryz.results87) (hv:=?_) (hφ:=?_))
 ·rfl
 ·exact hat
theorem rLen_spec(rb b:Nat)(nm:BA)(v:Value)(sz:Int)(es:List En):FSpec Tryz.prog 64 [.pointer (some ⟨rb,0,none⟩)] [rnP rb b nm v sz,enP v es] Unit (fun _=>True) (fun _=>.int .i64 es.length) (fun _=>[rnP rb b nm v sz,enP v es]):=by
 have hl:(es.map enV).length=es.length:=by simp
 unfold rnP rnV
 refine spec_intro [] _ Tryz.func64 rfl Tryz.ntmps64 (by rfl) (fun w0 R=>?_)
 repeat'(first|(refine gY ?_;intros)|(refine hY ?_ ?_<;>intro hgd)|(refine jY ?_ ?_<;>intro _)|fail)
 rw[hl]
 (refine rt_Y (y:=()) (hrs:=Tryz.results64) (hv:=?_) (hφ:=?_))
 ·rfl
 ·trivial
theorem At.found{es:List En}{key:BA}{i:Nat}{is:Bool}(h:At es key i is)(hs:Sorted (es.map (·.p))){j:Nat}(hj:j<es.length)(hk:es[j].p.k=key):i=j∧is=true:=by
 have hij:i=j:=by
  rcases Nat.lt_trichotomy i j with h1|h1|h1
  ·have h2:=h.hi i (by omega) (Nat.le_refl _)
   have h3:=List.pairwise_iff_getElem.1 hs i j (by simp;omega) (by simpa using hj) h1
   simp only[List.getElem_map]at h3
   rw[hk]at h3
   rw[h2]at h3;cases h3
  ·exact h1
  ·have h2:=h.lo j hj h1
   rw[hk,ltS_irrefl]at h2;cases h2
 subst hij
 exact⟨rfl,h.eq.2 ⟨hj,hk⟩⟩
theorem At.none{es:List En}{key:BA}{i:Nat}{is:Bool}(h:At es key i is)(hn:∀ x∈es,x.p.k≠key):is=false:=by
 cases is with
 |false=>rfl
 |true=>
  obtain⟨hi,hk⟩:=h.eq.1 rfl
  exact absurd hk (hn _ (List.getElem_mem hi))
abbrev pr0:Pr:=⟨⟨#[]⟩,⟨#[]⟩,false⟩
theorem rGet_none(rb b:Nat)(nm:BA)(v:Value)(sz:Int)(es:List En)(key:BA)(hs:Sorted (es.map (·.p)))(hz:es.length≤1099511627776)(hn:∀ x∈es,x.p.k≠key):
  FSpec Tryz.prog 36 [.pointer (some ⟨rb,0,none⟩),.string key] [rnP rb b nm v sz,enP v es] Unit (fun _=>True) (fun _=>.tuple #[.agg (prV pr0).toArray,.bool false,.int .i64 0]) (fun _=>[rnP rb b nm v sz,enP v es]):=by
 refine spec_intro [] _ Tryz.func36 rfl Tryz.ntmps36 (by rfl) (fun w0 R=>?_)
 repeat'(first|(refine gY ?_;intros)|(refine hY ?_ ?_<;>intro hgd)|(refine jY ?_ ?_<;>intro _)|fail)
 refine cl_Y (find_spec rb b nm v sz es key hs hz) ?_
 rintro⟨i,is⟩ hat
 have:=hat.none hn
 dsimp only at this
 subst this
 repeat'(first|(refine gY ?_;intros)|(refine hY ?_ ?_<;>intro hgd)|(refine jY ?_ ?_<;>intro _)|fail)
 (refine rt_Y (y:=()) (hrs:=Tryz.results36) (hv:=?_) (hφ:=?_))
 ·rfl
 ·trivial
theorem rGet_at(rb b:Nat)(nm:BA)(v:Value)(sz:Int)(es:List En)(key:BA)(D:HProp)(j:Nat)(p:Pr)(e:Int)(hs:Sorted (es.map (·.p)))(hz:es.length≤1099511627776)(hj:j<es.length)(hk:es[j].p.k=key)
  (hr:FSpec Tryz.prog 88 [.pointer (some ⟨rb,0,none⟩),.agg (enV es[j]).toArray] [rnP rb b nm v sz,D] Unit (fun _=>True) (fun _=>.tuple #[.agg (prV p).toArray,.int .i64 e]) (fun _=>[rnP rb b nm v sz,D])):
  FSpec Tryz.prog 36 [.pointer (some ⟨rb,0,none⟩),.string key] [rnP rb b nm v sz,enP v es,D] Unit (fun _=>True) (fun _=>.tuple #[.agg (prV p).toArray,.bool (decide (e=0)),.int .i64 e]) (fun _=>[rnP rb b nm v sz,enP v es,D]):=by
 have hn1:j<(es.map enV).length:=by simpa using hj
 have hx:(es.map enV)[j]? =some (enV es[j]):=by rw[List.getElem?_map,List.getElem?_eq_getElem hj];rfl
 have hat0:∀ i is,At es key i is→i=j∧is=true:=fun i is h=>h.found hs hj hk
 generalize es[j]=x at hr hx
 have hf:=find_spec rb b nm v sz es key hs hz
 unfold rnP rnV at*
 dsimp only[prV]at*
 refine spec_intro [] _ Tryz.func36 rfl Tryz.ntmps36 (by rfl) (fun w0 R=>?_)
 refine ok_learn (VwIn.slice (VwIn.there (VwIn.here (Vw.row (e:=136) (n:=5) (v:=v) (xs:=es.map enV))))) ?_
 rintro⟨pv,cv,rfl⟩
 refine ok_learn (VwIn.base (VwIn.there (VwIn.here (Vw.row (e:=136) (n:=5) (v:=.slice pv (es.map enV).length cv) (xs:=es.map enV)))) (by intro e;rw[e]at hn1;simp at hn1)) ?_
 rintro⟨bv,ov,rfl⟩
 repeat'(first|(refine gY ?_;intros)|(refine hY ?_ ?_<;>intro hgd)|(refine jY ?_ ?_<;>intro _)|fail)
 refine cl_Y (hf) ?_
 rintro⟨i,is⟩ hat
 obtain⟨rfl,rfl⟩:=hat0 i is hat
 repeat'(first|(refine gY ?_;intros)|(refine hY ?_ ?_<;>intro hgd)|(refine jY ?_ ?_<;>intro _)|fail)
 refine cl_Y (hr) ?_
 intro _ _
 repeat'(first|(refine gY ?_;intros)|(refine hY ?_ ?_<;>intro hgd)|(refine jY ?_ ?_<;>intro _)|fail)
 (refine rt_Y (y:=()) (hrs:=Tryz.results36) (hv:=?_) (hφ:=?_))
 ·rfl
 ·trivial
theorem row_shape{e n:Nat}{v:Value}{xs:List (List Value)}{L R:List HProp}(hn:0<n)(t:Take L [row e n v xs] R)(h:Frag)(s:SatL L h):∃ p c,v= .slice p xs.length c∧xs.length≤c:=by
 obtain⟨h1,_,_,_,_,hr,_⟩:=t.out s
 obtain⟨p,c,rfl⟩:∃ p c,v= .slice p xs.length c:=by
  obtain⟨_,(⟨rfl,rfl⟩|⟨b,c,_,rfl,_⟩)⟩:=hr
  ·exact⟨none,0,rfl⟩
  ·exact⟨_,c,rfl⟩
 exact⟨p,c,rfl,row_cap hn hr⟩
theorem dropV_shape(n:Nat)(p:Option Addr)(len c m:Nat):∃ p',dropV n p len c m= .slice p' (len-m) (c-m):=⟨_,rfl⟩
def posR(es:List En)(key:BA):Nat:=(es.takeWhile fun x=>ltS x.p.k key).length
theorem posR_le(es:List En)(key:BA):posR es key≤es.length:=(List.takeWhile_prefix _).length_le
theorem At.pos{es:List En}{key:BA}{i:Nat}{is:Bool}(h:At es key i is):i=posR es key:=by
 have hle:=h.le
 have hlo:=h.lo
 have hhi:=h.hi
 clear h
 unfold posR
 induction es generalizing i with
 |nil=>simp at hle;simp[hle]
 |cons x es ih=>
  cases i with
  |zero=>
   have:=hhi 0 (by simp) (Nat.le_refl _)
   rw[List.takeWhile_cons,show ltS x.p.k key=false from this];rfl
  |succ i=>
   have h0:=hlo 0 (by simp) (by omega)
   rw[List.takeWhile_cons,show ltS x.p.k key=true from h0]
   simp only[if_true,List.length_cons]
   rw[ih (i:=i) (by simpa using hle) (fun t ht hti=>hlo (t+1) (by simpa using ht) (by omega)) (fun t ht hti=>hhi (t+1) (by simpa using ht) (by omega))]
def endR(to:BA)(x:En):Bool:= !(to.toList==(⟨#[]⟩:BA).toList)&& !(ltS x.p.k to)
def yR(rd:En→Pr×Int)(to:BA):List En→List (Pr×Int)
 | []=>[]
 |x::l=>if endR to x then []else if(rd x).2≠0 then [rd x]else rd x::yR rd to l
def yrV(y:Pr×Int):List Value:=[.agg (prV y.1).toArray,.int .i64 y.2]
theorem pairs_spec(rb:Nat)(fr to:BA):FSpec Tryz.prog 238 [.pointer (some ⟨rb,0,none⟩),.string fr,.string to] [] (Nat×Nat×Nat) (fun _=>True) (fun y=>.func (.func 239) #[] [.pointer (some ⟨y.1,0,none⟩),.pointer (some ⟨y.2.1,0,none⟩),.pointer (some ⟨y.2.2,0,none⟩)].toArray)
  (fun y=>[pts y.1 (.cells [.pointer (some ⟨rb,0,none⟩)].toArray 83),pts y.2.1 (.cells [.string fr].toArray 9),pts y.2.2 (.cells [.string to].toArray 9)]):=by
 refine spec_intro [] _ Tryz.func238 rfl Tryz.ntmps238 (by rfl) (fun w0 R=>?_)
 repeat'(first|(refine gY ?_;intros)|(refine hY ?_ ?_<;>intro hgd)|(refine jY ?_ ?_<;>intro _)|fail)
 rename_i b3 b4 b5
 (refine rt_Y (y:=(b3,b4,b5)) (hrs:=Tryz.results238) (hv:=?_) (hφ:=?_))
 ·rfl
 ·trivial
theorem pairs1_spec(b3 b4 b5 rb b:Nat)(fr to nm:BA)(v:Value)(sz:Int)(es:List En)(D:HProp)(rd:En→Pr×Int)(hs:Sorted (es.map (·.p)))(hz:es.length≤1099511627776)
  (hrd:∀ x∈es,FSpec Tryz.prog 88 [.pointer (some ⟨rb,0,none⟩),.agg (enV x).toArray] [rnP rb b nm v sz,D] Unit (fun _=>True) (fun _=>.tuple #[.agg (prV (rd x).1).toArray,.int .i64 (rd x).2]) (fun _=>[rnP rb b nm v sz,D])):
  IterSpec Tryz.prog 239 [.pointer (some ⟨b3,0,none⟩),.pointer (some ⟨b4,0,none⟩),.pointer (some ⟨b5,0,none⟩)]
   [pts b3 (.cells [.pointer (some ⟨rb,0,none⟩)].toArray 83),pts b4 (.cells [.string fr].toArray 9),pts b5 (.cells [.string to].toArray 9),rnP rb b nm v sz,enP v es,D] (yR rd to (es.drop (posR es fr))) yrV:=by
 intro yv St Sp go hy
 have hle:=posR_le es fr
 have hlen:(es.map enV).length=es.length:=by simp
 have hple:posR es fr≤(es.map enV).length:=by omega
 have hf:=find_spec rb b nm v sz es fr hs hz
 unfold rnP rnV at*
 refine spec_intro [] _ Tryz.func239 rfl Tryz.ntmps239 (by rfl) (fun w0 R=>?_)
 refine ok_learn (row_shape (e:=136) (n:=5) (v:=v) (xs:=es.map enV) (by decide) takeD) ?_
 rintro⟨pv,cv,rfl,hcv⟩
 have hdr:Vw (enP (.slice pv (es.map enV).length cv) es) 5 (dropV 5 pv (es.map enV).length cv (posR es fr)) ((es.drop (posR es fr)).map enV):=by
  rw[List.map_drop];exact Vw.drop Vw.row hcv
 obtain⟨p',hdv⟩:=dropV_shape 5 pv (es.map enV).length cv (posR es fr)
 have hrl:(es.map enV).length-posR es fr=(es.drop (posR es fr)).length:=by rw[List.length_drop,hlen]
 rw[hrl]at hdv
 rw[hdv]at hdr
 have hmemd:∀ x∈es.drop (posR es fr),x∈es:=fun x hx=>List.mem_of_mem_drop hx
 have hposi:∀ i is,At es fr i is→i=posR es fr:=fun i is h=>h.pos
 repeat'(first|(refine gY ?_;intros)|(refine hY ?_ ?_<;>intro hgd)|(refine jY ?_ ?_<;>intro _)|fail)
 refine cl_Y (hf) ?_
 rintro⟨i,is⟩ hat
 have:=hposi i is hat
 subst this
 dsimp only
 repeat'(first|(refine gY ?_;intros)|(refine hY ?_ ?_<;>intro hgd)|(refine jY ?_ ?_<;>intro _)|fail)
 rw[hdv,hrl]
 have hrz:(es.drop (posR es fr)).length≤1099511627776:=by rw[List.length_drop];omega
 generalize (es.drop (posR es fr))=rest at hrz hdr hmemd hy ⊢
 generalize (cv-posR es fr)=c' at hdr ⊢
 generalize (posR es fr)=ps at hple ⊢
 have hrlen:(rest.map enV).length=rest.length:=by simp
 refine ok_map (L':=[pts b3 (.cells [.pointer (some ⟨rb,0,none⟩)].toArray 83),pts b4 (.cells [.string fr].toArray 9),pts b5 (.cells [.string to].toArray 9),pts rb (.cells [.pointer (some ⟨b,0,none⟩),.string nm,.slice pv (es.map enV).length cv,.int .i64 sz].toArray 139),enP (.slice pv (es.map enV).length cv) es,D,St []]++R) entD ?_
 refine ok_loop' (γ:=Nat×List (Pr×Int)) (fun g ρ L=>g.1≤rest.length∧g.2++yR rd to (rest.drop g.1)=yR rd to rest∧eat go [] (yR rd to rest)=eat go g.2 (yR rd to (rest.drop g.1))∧Knows ρ [(0,yv),(1,.pointer (some ⟨b3,0,none⟩)),(3,.pointer (some ⟨b5,0,none⟩)),(22,.slice p' rest.length c'),(23,.int .i64 rest.length),(24,.int .i64 g.1)]∧
   L=[pts b3 (.cells [.pointer (some ⟨rb,0,none⟩)].toArray 83),pts b4 (.cells [.string fr].toArray 9),pts b5 (.cells [.string to].toArray 9),pts rb (.cells [.pointer (some ⟨b,0,none⟩),.string nm,.slice pv (es.map enV).length cv,.int .i64 sz].toArray 139),enP (.slice pv (es.map enV).length cv) es,D,St g.2]++R) (fun g=>rest.length-g.1) (0,[]) ⟨by simp,by simp,by simp,⟨rfl,rfl,rfl,rfl,rfl,rfl,trivial⟩,rfl⟩ ?_
 rintro⟨t,pre⟩ ρ L ⟨ht,h1,h2,hk,rfl⟩
 dsimp only at ht h1 h2 hk ⊢
 refine ok_regs hk ?_
 cases t1:decide ((t:Int)<(rest.length:Int))with
 |false=>
  have hte:t=rest.length:=by simp at t1;omega
  have hdn:rest.drop t=[]:=by rw[hte];exact List.drop_length
  rw[h2,hdn,show yR rd to []=[]from rfl,show eat go pre []=(pre,true)from rfl]
  simp only[if_true]
  repeat'(first|(refine gY ?_;intros)|(refine hY ?_ ?_<;>intro hgd)|(refine jY ?_ ?_<;>intro _)|fail)
  (refine rt_Y (y:=()) (hrs:=Tryz.results239) (hv:=?_) (hφ:=?_))
  ·rfl
  ·trivial
 |true=>
  have htl:t<rest.length:=by simpa using t1
  have hn1:t<(rest.map enV).length:=by omega
  have hx:(rest.map enV)[t]? =some (enV rest[t]):=by rw[List.getElem?_map,List.getElem?_eq_getElem htl];rfl
  have hdx:rest.drop t=rest[t]::rest.drop (t+1):=List.drop_eq_getElem_cons htl
  have hrx:=hrd _ (hmemd _ (List.getElem_mem htl))
  refine ok_learn (VwIn.base (VwIn.there (VwIn.there (VwIn.there (VwIn.there (VwIn.here hdr))))) (by intro e;rw[e]at hn1;simp at hn1)) ?_
  rintro⟨bu,ou,rfl⟩
  rw[hdx]at h1 h2
  generalize rest[t]=x at hx h1 h2 hrx
  have hyc:yR rd to (x::rest.drop (t+1))=if endR to x then []else if(rd x).2≠0 then [rd x]else rd x::yR rd to (rest.drop (t+1)):=rfl
  have hend:endR to x=(!(to.toList==(⟨#[]⟩:BA).toList)&& !(Op.bytesLess x.p.k.toList to.toList)):=rfl
  have hgo2:endR to x=false→∀ (G:Prop),((!(to.toList==(⟨#[]⟩:BA).toList))=false→G)→((!(to.toList==(⟨#[]⟩:BA).toList))=true→(!(Op.bytesLess x.p.k.toList to.toList))=false→G)→G:=by
   intro h0 G g1 g2
   rw[hend]at h0
   cases q1:(!(to.toList==(⟨#[]⟩:BA).toList))with
   |false=>exact g1 q1
   |true=>rw[q1,Bool.true_and]at h0;exact g2 q1 h0
  cases he:endR to x with
  |true=>
   rw[hend,Bool.and_eq_true]at he
   obtain⟨q1,q2⟩:=he
   rw[h2,hyc,show endR to x=true by rw[hend,q1,q2];rfl,if_pos rfl,show eat go pre []=(pre,true)from rfl]
   simp only[if_true]
   obtain⟨⟨kx,vx,gx⟩,ax,nx⟩:=x
   dsimp only[enV]at*
   repeat'(first|(refine gY ?_;intros)|(refine hY ?_ ?_<;>intro hgd)|(refine jY ?_ ?_<;>intro _)|fail)
   (refine rt_Y (y:=()) (hrs:=Tryz.results239) (hv:=?_) (hφ:=?_))
   ·rfl
   ·trivial
  |false=>
   have hgo2:=hgo2 he
   rw[hyc,he,if_neg (by simp)]at h1 h2
   have hpre:pre++[rd x] <+:yR rd to rest:=by
    rw[← h1]
    split
    ·exact List.prefix_rfl
    ·exact⟨_,by rw[List.append_assoc];rfl⟩
   have hv:=hy pre (rd x) hpre
   generalize rd x=r at h1 h2 hv hrx
   obtain⟨p,e⟩:=r
   dsimp only at h1 h2 hv hrx
   unfold yrV at hv
   dsimp only at hv
   obtain⟨⟨kx,vx,gx⟩,ax,nx⟩:=x
   dsimp only[enV,prV]at*
   cases hg:go (pre++[(p,e)])with
   |false=>
    rw[hg]at hv
    have hx2:eat go pre (if e≠0 then [(p,e)]else(p,e)::yR rd to (rest.drop (t+1)))=(pre++[(p,e)],false):=by split<;>simp[eat,hg]
    rw[h2,hx2]
    refine hgo2 _ (fun q1=>?_) (fun q1 q2=>?_)
    all_goals
     repeat'(first|(refine gY ?_;intros)|(refine hY ?_ ?_<;>intro hgd)|(refine jY ?_ ?_<;>intro _)|fail)
     refine cl_Y (hrx) ?_
     intro _ _
     repeat'(first|(refine gY ?_;intros)|(refine hY ?_ ?_<;>intro hgd)|(refine jY ?_ ?_<;>intro _)|fail)
     refine clV_Y (hv) ?_
     intro _ _
     repeat'(first|(refine gY ?_;intros)|(refine hY ?_ ?_<;>intro hgd)|(refine jY ?_ ?_<;>intro _)|fail)
     (refine rt_Y (y:=()) (hrs:=Tryz.results239) (hv:=?_) (hφ:=?_))
     ·rfl
     ·trivial
   |true=>
    rw[hg]at hv
    cases u1:(!decide (e=0))with
    |true=>
     have u2:e≠0:=by simpa using u1
     have hx2:eat go pre (if e≠0 then [(p,e)]else(p,e)::yR rd to (rest.drop (t+1)))=(pre++[(p,e)],true):=by rw[if_pos u2];simp[eat,hg]
     rw[h2,hx2]
     refine hgo2 _ (fun q1=>?_) (fun q1 q2=>?_)
     all_goals
      repeat'(first|(refine gY ?_;intros)|(refine hY ?_ ?_<;>intro hgd)|(refine jY ?_ ?_<;>intro _)|fail)
      refine cl_Y (hrx) ?_
      intro _ _
      repeat'(first|(refine gY ?_;intros)|(refine hY ?_ ?_<;>intro hgd)|(refine jY ?_ ?_<;>intro _)|fail)
      refine clV_Y (hv) ?_
      intro _ _
      repeat'(first|(refine gY ?_;intros)|(refine hY ?_ ?_<;>intro hgd)|(refine jY ?_ ?_<;>intro _)|fail)
      (refine rt_Y (y:=()) (hrs:=Tryz.results239) (hv:=?_) (hφ:=?_))
      ·rfl
      ·trivial
    |false=>
     have u2:e=0:=by simpa using u1
     subst u2
     rw[if_neg (by simp)]at h1 h2
     refine hgo2 _ (fun q1=>?_) (fun q1 q2=>?_)
     all_goals
      repeat'(first|(refine gY ?_;intros)|(refine hY ?_ ?_<;>intro hgd)|(refine jY ?_ ?_<;>intro _)|fail)
      refine cl_Y (hrx) ?_
      intro _ _
      repeat'(first|(refine gY ?_;intros)|(refine hY ?_ ?_<;>intro hgd)|(refine jY ?_ ?_<;>intro _)|fail)
      refine clV_Y (hv) ?_
      intro _ _
      repeat'(first|(refine gY ?_;intros)|(refine hY ?_ ?_<;>intro hgd)|(refine jY ?_ ?_<;>intro _)|fail)
      rw[if_pos rfl]
      refine cont_map (L':=[pts b3 (.cells [.pointer (some ⟨rb,0,none⟩)].toArray 83),pts b4 (.cells [.string fr].toArray 9),pts b5 (.cells [.string to].toArray 9),pts rb (.cells [.pointer (some ⟨b,0,none⟩),.string nm,.slice pv (es.map enV).length cv,.int .i64 sz].toArray 139),enP (.slice pv (es.map enV).length cv) es,D,St (pre++[(p,(0:Int))])]++R) entD ?_
      refine cont_back (t+1,pre++[(p,0)]) ⟨htl,by dsimp only;rw[← h1,List.append_assoc];rfl,by dsimp only;rw[h2];simp[eat,hg],⟨rfl,rfl,rfl,rfl,rfl,rfl,trivial⟩,rfl⟩ (by dsimp only;omega)
end Go.Proofs.YtgbmjoenbocfcaaGreat
