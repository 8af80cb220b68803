/- Texts merged: SdC SdD SdE. -/
import Derived.Test.YtmnafjonbeihiaaGreatDoorG2
import Derived.Test.YtmnafjonbeihiaaGreatDoorFwY
set_option linter.unusedSimpArgs false
set_option linter.unusedVariables false
set_option maxRecDepth 100000
namespace Go.Proofs.YtmnafjonbeihiaaGreatDoor
open Go Go.Fx Go.Proofs Go.Pl
structure Tb where
 name:BA
 cols:List Co
 cv:{v:Value // v.oneCell'=true}
 key:Int
 ref:Int
 par:Int
def tbV(t:Tb):List Value:=[.string t.name,t.cv.1,.int .i64 t.key,.int .i64 t.ref,.int .i64 t.par]
def Tb.c(t:Tb):Tc:=⟨t.name,t.cols,t.key,t.ref,t.par⟩
structure TbOk(A:HProp)(t:Tb):Prop where
 vw:Vw A 3 t.cv.1 (t.cols.map coV)
 len:t.cols.length≤5864062014805
 nm:t.name.size≤140737488355328
 cnm:∀ c∈t.cols,c.name.size≤140737488355328
structure SV(A:HProp)(vs:Value)(ts:List Tb):Prop where
 vw:Vw A 5 vs (ts.map tbV)
 tab:∀ t∈ts,TbOk A t
 len:ts.length≤140737488355328
 cap:capOk vs
def dpV(d:Int):List Value:=[.int .i64 d]
section tS
variable{ahead:Sc}{ds:List Int}{t:Tc}
theorem tS_a(h:(t.cols.any fun c=>decide (c.kind<1)||decide (5<c.kind))=true):tableS ahead ds t=none:=by unfold tableS;rw[if_pos h]
theorem tS_b(h:t.cols.length<1∨8<t.cols.length∨namedS (t.cols.map (·.name))=false∨hasC t.cols t.key=false∨(colAt t.cols t.key).null=true):tableS ahead ds t=none:=by
 unfold tableS
 split
 ·rfl
 ·first|rfl|rw[if_pos h]
theorem tS_c(h1:(t.cols.any fun c=>decide (c.kind<1)||decide (5<c.kind))=false)(h2:¬ (t.cols.length<1∨8<t.cols.length∨namedS (t.cols.map (·.name))=false∨hasC t.cols t.key=false∨(colAt t.cols t.key).null=true))
  (h3:t.ref= -1∧t.par= -1):tableS ahead ds t=some 1:=by
 unfold tableS
 rw[if_neg (by rw[h1];decide),if_neg h2,if_pos h3]
theorem tS_d(h3:¬ (t.ref= -1∧t.par= -1))(h4:hasC t.cols t.ref=false∨t.ref=t.key∨t.par<0∨(ahead.length:Int)≤t.par):tableS ahead ds t=none:=by
 unfold tableS
 split
 ·rfl
 split
 ·rfl
 first|rfl|rw[if_neg h3,if_pos h4]
theorem tS_e(h1:(t.cols.any fun c=>decide (c.kind<1)||decide (5<c.kind))=false)(h2:¬ (t.cols.length<1∨8<t.cols.length∨namedS (t.cols.map (·.name))=false∨hasC t.cols t.key=false∨(colAt t.cols t.key).null=true))
  (h3:¬ (t.ref= -1∧t.par= -1))(h4:¬ (hasC t.cols t.ref=false∨t.ref=t.key∨t.par<0∨(ahead.length:Int)≤t.par)):
  tableS ahead ds t=if(colAt (tabAt ahead t.par).cols (tabAt ahead t.par).key).kind=(colAt t.cols t.ref).kind∧(ds[t.par.toNat]?).getD 0+1≤8 then some ((ds[t.par.toNat]?).getD 0+1)else none:=by
 unfold tableS
 rw[if_neg (by rw[h1];decide),if_neg h2,if_neg h3,if_neg h4]
end tS
theorem has1_spec(k:Int)(t:Tb)(b:Nat)(A:HProp)(hA:Vw A 3 t.cv.1 (t.cols.map coV)):
  FSpec Tryz.prog 199 [.int .i64 k,.pointer (some ⟨b,0,none⟩)] [pts b (.cells (tbV t).toArray 111),A] Unit (fun _=>True) (fun _=>.bool (hasC t.cols k)) (fun _=>[pts b (.cells (tbV t).toArray 111),A]):=by
 have hlm:((t.cols.map coV).length:Int)=(t.cols.length:Int):=by simp
 unfold hasC
 rw[← hlm]
 dsimp only[tbV]
 cases t1:decide ((0:Int)≤k)with
 |false=>
  rw[Bool.false_and]
  refine spec_intro [] _ Tryz.func199 rfl Tryz.ntmps199 (by rfl) (fun w0 R=>?_)
  repeat'(first|(refine gY ?_;intros)|(refine hY ?_ ?_<;>intro hgd)|(refine jY ?_ ?_<;>intro _)|fail)
  (refine rt_Y (y:=()) (hrs:=Tryz.results199) (hv:=?_) (hφ:=?_))
  ·rfl
  ·trivial
 |true=>
  rw[Bool.true_and]
  refine spec_intro [] _ Tryz.func199 rfl Tryz.ntmps199 (by rfl) (fun w0 R=>?_)
  repeat'(first|(refine gY ?_;intros)|(refine hY ?_ ?_<;>intro hgd)|(refine jY ?_ ?_<;>intro _)|fail)
  (refine rt_Y (y:=()) (hrs:=Tryz.results199) (hv:=?_) (hφ:=?_))
  ·rfl
  ·trivial
end Go.Proofs.YtmnafjonbeihiaaGreatDoor
namespace Go.Proofs.YtmnafjonbeihiaaGreatDoor
open Go Go.Fx Go.Proofs Go.Pl
theorem colAt_nat{l:List Co}{m:Nat}(h:m<l.length):colAt l (m:Int)=l[m]:=by
 unfold colAt;rw[Int.toNat_natCast,List.getElem?_eq_getElem h];rfl
theorem tabAt_nat{l:Sc}{m:Nat}{t:Tc}(h:l[m]? =some t):tabAt l (m:Int)=t:=by
 unfold tabAt;rw[Int.toNat_natCast,h];rfl
theorem hasC_nat{l:List Co}{k:Int}(h:hasC l k=true):∃ m:Nat,k=m∧m<l.length:=by
 simp only[hasC,Bool.and_eq_true,decide_eq_true_eq]at h
 exact⟨k.toNat,by omega,by omega⟩
set_option maxHeartbeats 8000000 in
theorem table_spec(ahead:List Tb)(ds:List Int)(t:Tb)(ua ud:Value)(A D:HProp)(ha:Vw A 5 ua (ahead.map tbV))(hat:∀ x∈ahead,TbOk A x)(hd:Vw D 1 ud (ds.map dpV))(ht:TbOk A t)(hok:AheadOk (ahead.map Tb.c) ds)(hl:ahead.length≤1000):
  FSpec Tryz.prog 161 [ua,ud,.agg (tbV t).toArray] [D,A] Int (fun y=>∀ d,tableS (ahead.map Tb.c) ds t.c=some d→y=d) (fun y=>.tuple #[.int .i64 y,.bool (tableS (ahead.map Tb.c) ds t.c).isSome]) (fun _=>[D,A]):=by
 obtain⟨hv,hlen,hnm,hcnm⟩:=ht
 obtain⟨tn,cols,⟨cv,hcv⟩,key,ref,par⟩:=t
 have has0:=fun(k:Int) (b:Nat)=>has1_spec k ⟨tn,cols,⟨cv,hcv⟩,key,ref,par⟩ b A hv
 dsimp only[tbV,Tb.c]at hv hlen hnm hcnm has0 ⊢
 generalize hT:tableS (ahead.map Tb.c) ds ⟨tn,cols,key,ref,par⟩=T
 have hlm:(cols.map coV).length=cols.length:=by simp
 refine spec_intro [] _ Tryz.func161 rfl Tryz.ntmps161 (by rfl) (fun w0 R=>?_)
 refine ok_learn (VwIn.slice (VwIn.there (VwIn.here hv))) ?_
 rintro⟨pc,cc,rfl⟩
 refine ok_learn (VwIn.slice (VwIn.there (VwIn.here ha))) ?_
 rintro⟨pa,ca,rfl⟩
 refine ok_learn (VwIn.slice (VwIn.here hd)) ?_
 rintro⟨pd,cd,rfl⟩
 repeat'(first|(refine gY ?_;intros)|(refine hY ?_ ?_<;>intro hgd)|(refine jY ?_ ?_<;>intro _)|fail)
 rename_i b5
 refine ok_map (fun _ h=>nilRow (e:=9) (n:=1) h) ?_
 refine ok_map (L':=[row 9 1 (.slice none 0 0) [],pts b5 (.cells [.string tn,.slice pc (cols.map coV).length cc,.int .i64 key,.int .i64 ref,.int .i64 par].toArray 111),D,A]++R) entD ?_
 refine ok_loop' (γ:=Nat×{v:Value // v.oneCell'=true}) (fun g ρ L=>g.1≤cols.length∧((cols.take g.1).any fun c=>decide (c.kind<1)||decide (5<c.kind))=false∧
   Knows ρ [(0,.slice pa (ahead.map tbV).length ca),(1,.slice pd (ds.map dpV).length cd),(5,.pointer (some ⟨b5,0,none⟩)),(8,g.2.1),(14,.slice pc (cols.map coV).length cc),(15,.int .i64 ((cols.map coV).length:Int)),(16,.int .i64 g.1)]∧
   L=[row 9 1 g.2.1 (((cols.take g.1).map (·.name)).map fun s=>[Value.string s]),pts b5 (.cells [.string tn,.slice pc (cols.map coV).length cc,.int .i64 key,.int .i64 ref,.int .i64 par].toArray 111),D,A]++R) (fun g=>cols.length-g.1)
  (0,⟨.slice none 0 0,rfl⟩) ⟨by omega,rfl,⟨rfl,rfl,rfl,rfl,rfl,rfl,rfl,trivial⟩,rfl⟩ ?_
 rintro⟨i,⟨vl,hvl⟩⟩ ρ L ⟨hi,hall,hk,rfl⟩
 dsimp only at hi hall hk ⊢
 refine ok_regs hk ?_
 cases t1:decide ((i:Int)<((cols.map coV).length:Int))with
 |true=>
  have h:i<cols.length:=by simp at t1;omega
  have hci:cols[i]? =some cols[i]:=List.getElem?_eq_getElem h
  have hx:(cols.map coV)[i]? =some (coV cols[i]):=by rw[List.getElem?_map,hci];rfl
  have hn1:i<(cols.map coV).length:=by omega
  have htk:cols.take (i+1)=cols.take i++[cols[i]]:=List.take_succ_eq_append_getElem h
  have hti:(cols.take i).length=i:=by rw[List.length_take];omega
  have hin:=List.getElem_mem h
  have hsz:=hcnm _ hin
  refine ok_learn (VwIn.base (VwIn.there (VwIn.there (VwIn.there (VwIn.here hv)))) (by intro e;rw[e]at hn1;simp at hn1)) ?_
  rintro⟨bu,ou,rfl⟩
  generalize cols[i]=c at hx htk hsz hin
  obtain⟨cn,ck,cb⟩:=c
  dsimp only[coV]at hx hsz
  have hbad:(decide (ck<1)||decide (5<ck))=true→T=none:=fun e=>by
   rw[← hT]
   exact tS_a (List.any_eq_true.2 ⟨⟨cn,ck,cb⟩,hin,e⟩)
  cases u1:decide (ck<1)with
  |true=>
   rw[hbad (by rw[u1];rfl)]
   repeat'(first|(refine gY ?_;intros)|(refine hY ?_ ?_<;>intro hgd)|(refine jY ?_ ?_<;>intro _)|fail)
   (refine rt_Y (y:=0) (hrs:=Tryz.results161) (hv:=?_) (hφ:=?_))
   ·rfl
   ·intro d h;cases h
  |false=>
   cases u2:decide (5<ck)with
   |true=>
    rw[hbad (by rw[u1,u2];rfl)]
    repeat'(first|(refine gY ?_;intros)|(refine hY ?_ ?_<;>intro hgd)|(refine jY ?_ ?_<;>intro _)|fail)
    (refine rt_Y (y:=0) (hrs:=Tryz.results161) (hv:=?_) (hφ:=?_))
    ·rfl
    ·intro d h;cases h
   |false=>
    repeat'(first|(refine gY ?_;intros)|(refine hY ?_ ?_<;>intro hgd)|(refine jY ?_ ?_<;>intro _)|fail)
    rename_i v1 _ v2 hv2
    have hmm:(((cols.take i).map (·.name)).map fun s=>[Value.string s])++[(Value.string cn).cells.toList]=(((cols.take (i+1)).map (·.name)).map fun s=>[Value.string s]):=by rw[htk,List.map_append,List.map_append];rfl
    rw[hmm]
    refine cont_map (L':=[row 9 1 v2 (((cols.take (i+1)).map (·.name)).map fun s=>[Value.string s]),pts b5 (.cells [.string tn,.slice (some ⟨bu,ou,none⟩) (cols.map coV).length cc,.int .i64 key,.int .i64 ref,.int .i64 par].toArray 111),D,A]++R) entD ?_
    refine cont_back (i+1,⟨v2,hv2⟩) ⟨h,by rw[htk,List.any_append,hall];simp only[List.any_cons,List.any_nil,u1,u2];rfl,⟨rfl,rfl,rfl,rfl,rfl,rfl,rfl,trivial⟩,rfl⟩ (by show cols.length-(i+1)<cols.length-i;omega)
 |false=>
  have hie:i=cols.length:=by simp at t1;omega
  rw[hie]at t1
  rw[hie,List.take_length]at hall
  rw[hie,List.take_length]
  clear hk hie hi
  have hns:=named_spec vl (row 9 1 vl ((cols.map (·.name)).map fun s=>[Value.string s])) (cols.map (·.name)) Vw.row (fun s hs=>by
   obtain⟨c,hc,rfl⟩:=List.mem_map.1 hs
   have:=hcnm c hc;omega) (by rw[List.length_map];omega)
  have hnl:((cols.map (·.name)).map fun s=>[Value.string s]).length=cols.length:=by simp
  have hkey:=has0 key b5
  have href:=has0 ref b5
  cases n1:decide (((((cols.map (·.name)).map fun s=>[Value.string s]).length:Nat):Int)<1)with
  |true=>
   have hN:T=none:=by rw[← hT];exact tS_b (.inl (by have h1:=of_decide_eq_true n1;rw[hnl]at h1;show cols.length<1;omega))
   rw[hN]
   repeat'(first|(refine gY ?_;intros)|(refine hY ?_ ?_<;>intro hgd)|(refine jY ?_ ?_<;>intro _)|fail)
   (refine rt_Y (y:=0) (hrs:=Tryz.results161) (hv:=?_) (hφ:=?_))
   ·rfl
   ·intro d h;cases h
  |false=>
  cases n2:decide ((8:Int)<((((cols.map (·.name)).map fun s=>[Value.string s]).length:Nat):Int))with
  |true=>
   have hN:T=none:=by rw[← hT];exact tS_b (.inr (.inl (by have h1:=of_decide_eq_true n2;rw[hnl]at h1;show 8<cols.length;omega)))
   rw[hN]
   repeat'(first|(refine gY ?_;intros)|(refine hY ?_ ?_<;>intro hgd)|(refine jY ?_ ?_<;>intro _)|fail)
   (refine rt_Y (y:=0) (hrs:=Tryz.results161) (hv:=?_) (hφ:=?_))
   ·rfl
   ·intro d h;cases h
  |false=>
  cases n3:namedS (cols.map (·.name))with
  |false=>
   rw[n3]at hns
   have hN:T=none:=by rw[← hT];exact tS_b (.inr (.inr (.inl n3)))
   rw[hN]
   repeat'(first|(refine gY ?_;intros)|(refine hY ?_ ?_<;>intro hgd)|(refine jY ?_ ?_<;>intro _)|fail)
   refine cl_Y (hns) ?_
   intro _ _
   repeat'(first|(refine gY ?_;intros)|(refine hY ?_ ?_<;>intro hgd)|(refine jY ?_ ?_<;>intro _)|fail)
   (refine rt_Y (y:=0) (hrs:=Tryz.results161) (hv:=?_) (hφ:=?_))
   ·rfl
   ·intro d h;cases h
  |true=>
  rw[n3]at hns
  cases n4:hasC cols key with
  |false=>
   rw[n4]at hkey
   have hN:T=none:=by rw[← hT];exact tS_b (.inr (.inr (.inr (.inl n4))))
   rw[hN]
   repeat'(first|(refine gY ?_;intros)|(refine hY ?_ ?_<;>intro hgd)|(refine jY ?_ ?_<;>intro _)|fail)
   refine cl_Y (hns) ?_
   intro _ _
   repeat'(first|(refine gY ?_;intros)|(refine hY ?_ ?_<;>intro hgd)|(refine jY ?_ ?_<;>intro _)|fail)
   refine clV_Y (vspec_func (args:=[.int .i64 key]) (cap:=[.pointer (some ⟨b5,0,none⟩)]) hkey) ?_
   intro _ _
   repeat'(first|(refine gY ?_;intros)|(refine hY ?_ ?_<;>intro hgd)|(refine jY ?_ ?_<;>intro _)|fail)
   (refine rt_Y (y:=0) (hrs:=Tryz.results161) (hv:=?_) (hφ:=?_))
   ·rfl
   ·intro d h;cases h
  |true=>
  rw[n4]at hkey
  obtain⟨km,rfl,hkm⟩:=hasC_nat n4
  have hck:cols[km]? =some cols[km]:=List.getElem?_eq_getElem hkm
  have hxk:(cols.map coV)[km]? =some (coV cols[km]):=by rw[List.getElem?_map,hck];rfl
  have hnk:km<(cols.map coV).length:=by omega
  have hak:=colAt_nat hkm
  refine ok_learn (VwIn.base (VwIn.there (VwIn.there (VwIn.there (VwIn.here hv)))) (by intro e;rw[e]at hnk;simp at hnk)) ?_
  rintro⟨bu,ou,rfl⟩
  generalize cols[km]=kc at hxk hak
  obtain⟨kn,kk,kb⟩:=kc
  dsimp only[coV]at hxk
  cases kb with
  |true=>
   have hN:T=none:=by rw[← hT];exact tS_b (.inr (.inr (.inr (.inr (by show(colAt cols (km:Int)).null=true;rw[hak])))))
   rw[hN]
   repeat'(first|(refine gY ?_;intros)|(refine hY ?_ ?_<;>intro hgd)|(refine jY ?_ ?_<;>intro _)|fail)
   refine cl_Y (hns) ?_
   intro _ _
   repeat'(first|(refine gY ?_;intros)|(refine hY ?_ ?_<;>intro hgd)|(refine jY ?_ ?_<;>intro _)|fail)
   refine clV_Y (vspec_func (args:=[.int .i64 km]) (cap:=[.pointer (some ⟨b5,0,none⟩)]) hkey) ?_
   intro _ _
   repeat'(first|(refine gY ?_;intros)|(refine hY ?_ ?_<;>intro hgd)|(refine jY ?_ ?_<;>intro _)|fail)
   (refine rt_Y (y:=0) (hrs:=Tryz.results161) (hv:=?_) (hφ:=?_))
   ·rfl
   ·intro d h;cases h
  |false=>
  have hno2:¬ (cols.length<1∨8<cols.length∨namedS (cols.map (·.name))=false∨hasC cols (km:Int)=false∨(colAt cols (km:Int)).null=true):=by
   have h1:=of_decide_eq_false n1
   have h2:=of_decide_eq_false n2
   rw[hnl]at h1 h2
   rw[n3,n4,hak]
   rintro(h|h|h|h|h)
   ·omega
   ·omega
   ·cases h
   ·cases h
   ·cases h
  by_cases h3:ref= -1∧par= -1
  ·have hN:T=some 1:=by rw[← hT];exact tS_c hall hno2 h3
   rw[hN]
   obtain⟨rfl,rfl⟩:=h3
   repeat'(first|(refine gY ?_;intros)|(refine hY ?_ ?_<;>intro hgd)|(refine jY ?_ ?_<;>intro _)|fail)
   refine cl_Y (hns) ?_
   intro _ _
   repeat'(first|(refine gY ?_;intros)|(refine hY ?_ ?_<;>intro hgd)|(refine jY ?_ ?_<;>intro _)|fail)
   refine clV_Y (vspec_func (args:=[.int .i64 km]) (cap:=[.pointer (some ⟨b5,0,none⟩)]) hkey) ?_
   intro _ _
   repeat'(first|(refine gY ?_;intros)|(refine hY ?_ ?_<;>intro hgd)|(refine jY ?_ ?_<;>intro _)|fail)
   (refine rt_Y (y:=1) (hrs:=Tryz.results161) (hv:=?_) (hφ:=?_))
   ·rfl
   ·intro d h;cases h;rfl
  ·have hm:decide (ref= -1)=false∨(decide (ref= -1)=true∧decide (par= -1)=false):=by
    by_cases hr:ref= -1
    ·exact .inr ⟨by simp[hr],by simp;exact fun e=>h3 ⟨hr,e⟩⟩
    ·exact .inl (by simp[hr])
   have hal:(ahead.map tbV).length=ahead.length:=by simp
   have hac:(ahead.map Tb.c).length=ahead.length:=by simp
   rcases hm with hm|⟨hm,hm'⟩
   all_goals
    cases r1:hasC cols ref with
    |false=>
     rw[r1]at href
     have hN:T=none:=by rw[← hT];exact tS_d h3 (.inl r1)
     rw[hN]
     repeat'(first|(refine gY ?_;intros)|(refine hY ?_ ?_<;>intro hgd)|(refine jY ?_ ?_<;>intro _)|fail)
     refine cl_Y (hns) ?_
     intro _ _
     repeat'(first|(refine gY ?_;intros)|(refine hY ?_ ?_<;>intro hgd)|(refine jY ?_ ?_<;>intro _)|fail)
     refine clV_Y (vspec_func (args:=[.int .i64 km]) (cap:=[.pointer (some ⟨b5,0,none⟩)]) hkey) ?_
     intro _ _
     repeat'(first|(refine gY ?_;intros)|(refine hY ?_ ?_<;>intro hgd)|(refine jY ?_ ?_<;>intro _)|fail)
     refine clV_Y (vspec_func (args:=[.int .i64 ref]) (cap:=[.pointer (some ⟨b5,0,none⟩)]) href) ?_
     intro _ _
     repeat'(first|(refine gY ?_;intros)|(refine hY ?_ ?_<;>intro hgd)|(refine jY ?_ ?_<;>intro _)|fail)
     (refine rt_Y (y:=0) (hrs:=Tryz.results161) (hv:=?_) (hφ:=?_))
     ·rfl
     ·intro d h;cases h
    |true=>
    rw[r1]at href
    cases r2:decide (ref=(km:Int))with
    |true=>
     have hN:T=none:=by rw[← hT];exact tS_d h3 (.inr (.inl (of_decide_eq_true r2)))
     rw[hN]
     repeat'(first|(refine gY ?_;intros)|(refine hY ?_ ?_<;>intro hgd)|(refine jY ?_ ?_<;>intro _)|fail)
     refine cl_Y (hns) ?_
     intro _ _
     repeat'(first|(refine gY ?_;intros)|(refine hY ?_ ?_<;>intro hgd)|(refine jY ?_ ?_<;>intro _)|fail)
     refine clV_Y (vspec_func (args:=[.int .i64 km]) (cap:=[.pointer (some ⟨b5,0,none⟩)]) hkey) ?_
     intro _ _
     repeat'(first|(refine gY ?_;intros)|(refine hY ?_ ?_<;>intro hgd)|(refine jY ?_ ?_<;>intro _)|fail)
     refine clV_Y (vspec_func (args:=[.int .i64 ref]) (cap:=[.pointer (some ⟨b5,0,none⟩)]) href) ?_
     intro _ _
     repeat'(first|(refine gY ?_;intros)|(refine hY ?_ ?_<;>intro hgd)|(refine jY ?_ ?_<;>intro _)|fail)
     (refine rt_Y (y:=0) (hrs:=Tryz.results161) (hv:=?_) (hφ:=?_))
     ·rfl
     ·intro d h;cases h
    |false=>
    cases r3:decide (par<0)with
    |true=>
     have hN:T=none:=by rw[← hT];exact tS_d h3 (.inr (.inr (.inl (of_decide_eq_true r3))))
     rw[hN]
     repeat'(first|(refine gY ?_;intros)|(refine hY ?_ ?_<;>intro hgd)|(refine jY ?_ ?_<;>intro _)|fail)
     refine cl_Y (hns) ?_
     intro _ _
     repeat'(first|(refine gY ?_;intros)|(refine hY ?_ ?_<;>intro hgd)|(refine jY ?_ ?_<;>intro _)|fail)
     refine clV_Y (vspec_func (args:=[.int .i64 km]) (cap:=[.pointer (some ⟨b5,0,none⟩)]) hkey) ?_
     intro _ _
     repeat'(first|(refine gY ?_;intros)|(refine hY ?_ ?_<;>intro hgd)|(refine jY ?_ ?_<;>intro _)|fail)
     refine clV_Y (vspec_func (args:=[.int .i64 ref]) (cap:=[.pointer (some ⟨b5,0,none⟩)]) href) ?_
     intro _ _
     repeat'(first|(refine gY ?_;intros)|(refine hY ?_ ?_<;>intro hgd)|(refine jY ?_ ?_<;>intro _)|fail)
     (refine rt_Y (y:=0) (hrs:=Tryz.results161) (hv:=?_) (hφ:=?_))
     ·rfl
     ·intro d h;cases h
    |false=>
    cases r4:decide (((ahead.map tbV).length:Int)≤par)with
    |true=>
     have hN:T=none:=by rw[← hT];exact tS_d h3 (.inr (.inr (.inr (by have:=of_decide_eq_true r4;show((ahead.map Tb.c).length:Int)≤par;omega))))
     rw[hN]
     repeat'(first|(refine gY ?_;intros)|(refine hY ?_ ?_<;>intro hgd)|(refine jY ?_ ?_<;>intro _)|fail)
     refine cl_Y (hns) ?_
     intro _ _
     repeat'(first|(refine gY ?_;intros)|(refine hY ?_ ?_<;>intro hgd)|(refine jY ?_ ?_<;>intro _)|fail)
     refine clV_Y (vspec_func (args:=[.int .i64 km]) (cap:=[.pointer (some ⟨b5,0,none⟩)]) hkey) ?_
     intro _ _
     repeat'(first|(refine gY ?_;intros)|(refine hY ?_ ?_<;>intro hgd)|(refine jY ?_ ?_<;>intro _)|fail)
     refine clV_Y (vspec_func (args:=[.int .i64 ref]) (cap:=[.pointer (some ⟨b5,0,none⟩)]) href) ?_
     intro _ _
     repeat'(first|(refine gY ?_;intros)|(refine hY ?_ ?_<;>intro hgd)|(refine jY ?_ ?_<;>intro _)|fail)
     (refine rt_Y (y:=0) (hrs:=Tryz.results161) (hv:=?_) (hφ:=?_))
     ·rfl
     ·intro d h;cases h
    |false=>
    have hpr:=of_decide_eq_false r3
    have hpl:=of_decide_eq_false r4
    obtain⟨pm,rfl⟩:∃ pm:Nat,par=pm:=⟨par.toNat,by omega⟩
    obtain⟨rm,rfl,hrm⟩:=hasC_nat r1
    have hpm:pm<ahead.length:=by omega
    have hpa:pm<(ahead.map tbV).length:=by omega
    have hap:ahead[pm]? =some ahead[pm]:=List.getElem?_eq_getElem hpm
    have hxp:(ahead.map tbV)[pm]? =some (tbV ahead[pm]):=by rw[List.getElem?_map,hap];rfl
    have hcp:(ahead.map Tb.c)[pm]? =some ahead[pm].c:=by rw[List.getElem?_map,hap];rfl
    have htp:=tabAt_nat hcp
    have hpok:=hok.tab _ (List.mem_of_getElem? hcp)
    have hptb:=hat _ (List.getElem_mem hpm)
    have hdl:pm<ds.length:=by rw[hok.len];omega
    have hdp:pm<(ds.map dpV).length:=by rw[List.length_map];omega
    have hdi:ds[pm]? =some ds[pm]:=List.getElem?_eq_getElem hdl
    have hxd:(ds.map dpV)[pm]? =some (dpV ds[pm]):=by rw[List.getElem?_map,hdi];rfl
    have hdd:=hok.dep _ (List.getElem_mem hdl)
    have hgd2:(ds[(pm:Int).toNat]?).getD 0=ds[pm]:=by rw[Int.toNat_natCast,hdi];rfl
    have hcr:cols[rm]? =some cols[rm]:=List.getElem?_eq_getElem hrm
    have hxr:(cols.map coV)[rm]? =some (coV cols[rm]):=by rw[List.getElem?_map,hcr];rfl
    have hnr:rm<(cols.map coV).length:=by omega
    have har:=colAt_nat hrm
    have hE:=tS_e (ahead:=ahead.map Tb.c) (ds:=ds) (t:=⟨tn,cols,(km:Int),(rm:Int),(pm:Int)⟩) hall hno2 h3 (by
     show ¬ (hasC cols (rm:Int)=false∨(rm:Int)=(km:Int)∨(pm:Int)<0∨((ahead.map Tb.c).length:Int)≤(pm:Int))
     rw[r1];have:=of_decide_eq_false r2;simp;omega)
    have hE1:=fun h=>hE.trans (if_pos h)
    have hE0:=fun h=>hE.trans (if_neg h)
    clear hE
    dsimp only at hE1 hE0
    rw[htp,har,hgd2]at hE1 hE0
    refine ok_learn (VwIn.base (VwIn.there (VwIn.there (VwIn.there (VwIn.here ha)))) (by intro e;rw[e]at hpa;simp at hpa)) ?_
    rintro⟨ba,oa,rfl⟩
    refine ok_learn (VwIn.base (VwIn.there (VwIn.there (VwIn.here hd))) (by intro e;rw[e]at hdp;simp at hdp)) ?_
    rintro⟨bd,od,rfl⟩
    clear hcp hap hdi hcr
    generalize ahead[pm]=p at hxp hE1 hE0 hpok hptb
    generalize ds[pm]=dv at hxd hdd hE1 hE0
    generalize cols[rm]=rc at hxr hE1 hE0
    obtain⟨pn,pcols,⟨pcv,hpcv⟩,pkey,pref,ppar⟩:=p
    obtain⟨rn,rk,rb⟩:=rc
    obtain⟨hpv,hplen,_,_⟩:=hptb
    have pk0:=hpok.key0
    have pkL:=hpok.keyL
    dsimp only[tbV,Tb.c,coV,dpV]at hxp hxr hxd hE1 hE0 hpv hplen pk0 pkL
    obtain⟨pk,rfl⟩:∃ pk:Nat,pkey=pk:=⟨pkey.toNat,by omega⟩
    have hpk:pk<pcols.length:=by omega
    have hpl2:(pcols.map coV).length=pcols.length:=by simp
    have hnp:pk<(pcols.map coV).length:=by omega
    have hxq:(pcols.map coV)[pk]? =some (coV pcols[pk]):=by rw[List.getElem?_map,List.getElem?_eq_getElem hpk];rfl
    have haq:=colAt_nat hpk
    rw[haq]at hE1 hE0
    refine ok_learn (VwIn.slice (VwIn.there (VwIn.there (VwIn.there (VwIn.here hpv))))) ?_
    rintro⟨pq,cq,rfl⟩
    refine ok_learn (VwIn.base (VwIn.there (VwIn.there (VwIn.there (VwIn.here hpv)))) (by intro e;rw[e]at hnp;simp at hnp)) ?_
    rintro⟨bq,oq,rfl⟩
    generalize pcols[pk]=qc at hxq hE1 hE0
    obtain⟨qn,qk,qb⟩:=qc
    dsimp only[coV]at hxq hE1 hE0
    obtain⟨hd1,hd8⟩:=hdd
    rw[hT]at hE1 hE0
    cases q1:decide (qk=rk)with
    |false=>
     rw[hE0 (fun h=>by have:=of_decide_eq_false q1;exact this h.1)]
     repeat'(first|(refine gY ?_;intros)|(refine hY ?_ ?_<;>intro hgd)|(refine jY ?_ ?_<;>intro _)|fail)
     refine cl_Y (hns) ?_
     intro _ _
     repeat'(first|(refine gY ?_;intros)|(refine hY ?_ ?_<;>intro hgd)|(refine jY ?_ ?_<;>intro _)|fail)
     refine clV_Y (vspec_func (args:=[.int .i64 km]) (cap:=[.pointer (some ⟨b5,0,none⟩)]) hkey) ?_
     intro _ _
     repeat'(first|(refine gY ?_;intros)|(refine hY ?_ ?_<;>intro hgd)|(refine jY ?_ ?_<;>intro _)|fail)
     refine clV_Y (vspec_func (args:=[.int .i64 rm]) (cap:=[.pointer (some ⟨b5,0,none⟩)]) href) ?_
     intro _ _
     repeat'(first|(refine gY ?_;intros)|(refine hY ?_ ?_<;>intro hgd)|(refine jY ?_ ?_<;>intro _)|fail)
     (refine rt_Y (y:=dv+1) (hrs:=Tryz.results161) (hv:=?_) (hφ:=?_))
     ·rfl
     ·intro d h;cases h
    |true=>
     cases q2:decide (dv+1≤8)with
     |false=>
      rw[hE0 (fun h=>by have:=of_decide_eq_false q2;exact this h.2)]
      repeat'(first|(refine gY ?_;intros)|(refine hY ?_ ?_<;>intro hgd)|(refine jY ?_ ?_<;>intro _)|fail)
      refine cl_Y (hns) ?_
      intro _ _
      repeat'(first|(refine gY ?_;intros)|(refine hY ?_ ?_<;>intro hgd)|(refine jY ?_ ?_<;>intro _)|fail)
      refine clV_Y (vspec_func (args:=[.int .i64 km]) (cap:=[.pointer (some ⟨b5,0,none⟩)]) hkey) ?_
      intro _ _
      repeat'(first|(refine gY ?_;intros)|(refine hY ?_ ?_<;>intro hgd)|(refine jY ?_ ?_<;>intro _)|fail)
      refine clV_Y (vspec_func (args:=[.int .i64 rm]) (cap:=[.pointer (some ⟨b5,0,none⟩)]) href) ?_
      intro _ _
      repeat'(first|(refine gY ?_;intros)|(refine hY ?_ ?_<;>intro hgd)|(refine jY ?_ ?_<;>intro _)|fail)
      (refine rt_Y (y:=dv+1) (hrs:=Tryz.results161) (hv:=?_) (hφ:=?_))
      ·rw[q2];rfl
      ·intro d h;cases h
     |true=>
      rw[hE1 ⟨of_decide_eq_true q1,of_decide_eq_true q2⟩]
      repeat'(first|(refine gY ?_;intros)|(refine hY ?_ ?_<;>intro hgd)|(refine jY ?_ ?_<;>intro _)|fail)
      refine cl_Y (hns) ?_
      intro _ _
      repeat'(first|(refine gY ?_;intros)|(refine hY ?_ ?_<;>intro hgd)|(refine jY ?_ ?_<;>intro _)|fail)
      refine clV_Y (vspec_func (args:=[.int .i64 km]) (cap:=[.pointer (some ⟨b5,0,none⟩)]) hkey) ?_
      intro _ _
      repeat'(first|(refine gY ?_;intros)|(refine hY ?_ ?_<;>intro hgd)|(refine jY ?_ ?_<;>intro _)|fail)
      refine clV_Y (vspec_func (args:=[.int .i64 rm]) (cap:=[.pointer (some ⟨b5,0,none⟩)]) href) ?_
      intro _ _
      repeat'(first|(refine gY ?_;intros)|(refine hY ?_ ?_<;>intro hgd)|(refine jY ?_ ?_<;>intro _)|fail)
      (refine rt_Y (y:=dv+1) (hrs:=Tryz.results161) (hv:=?_) (hφ:=?_))
      ·rw[q2];rfl
      ·intro d h;cases h;rfl
end Go.Proofs.YtmnafjonbeihiaaGreatDoor
namespace Go.Proofs.YtmnafjonbeihiaaGreatDoor
open Go Go.Fx Go.Proofs Go.Pl
theorem goD_step{ahead:Sc}{ds:List Int}{t:Tc}{rest:Sc}{d:Int}(h:tableS ahead ds t=some d):goD ahead ds (t::rest)=goD (ahead++[t]) (ds++[d]) rest:=by
 rw[goD,h]
theorem goD_none{ahead:Sc}{ds:List Int}{t:Tc}{rest:Sc}(h:tableS ahead ds t=none):goD ahead ds (t::rest)=none:=by
 rw[goD,h]
theorem checkS_none{s:Sc}(h:goD [] [] s=none):checkS s=false:=by
 unfold checkS depthsS
 split
 ·rfl
 ·rw[h];rfl
theorem checkS_some{s:Sc}{ds:List Int}(h:goD [] [] s=some ds)(h1:1≤s.length)(h2:s.length≤12):checkS s=namedS (s.map (·.name)):=by
 unfold checkS depthsS
 rw[if_neg (by omega),h]
 dsimp only
 split<;>simp_all
set_option maxHeartbeats 4000000 in
theorem depths_spec(vs:Value)(ts:List Tb)(A:HProp)(h:SV A vs ts):
  FSpec Tryz.prog 109 [.agg #[vs]] [A] {v:Value // v.oneCell'=true} (fun _=>True) (fun y=>.tuple #[y.1,.bool (checkS (ts.map Tb.c))]) (fun _=>[A]):=by
 obtain⟨hv,htab,hlen,hcapo⟩:=h
 have hlm:(ts.map tbV).length=ts.length:=by simp
 have hlc:(ts.map Tb.c).length=ts.length:=by simp
 refine spec_intro [] _ Tryz.func109 rfl Tryz.ntmps109 (by rfl) (fun w0 R=>?_)
 refine ok_learn (VwIn.slice (VwIn.here hv)) ?_
 rintro⟨pv,cv,rfl⟩
 obtain⟨_,_,_,hce,hcap⟩:=hcapo
 simp only[Value.slice.injEq]at hce
 obtain⟨_,rfl,rfl⟩:=hce
 cases n1:decide (((ts.map tbV).length:Int)<1)with
 |true=>
  have hN:checkS (ts.map Tb.c)=false:=by
   unfold checkS depthsS
   rw[if_pos (.inl (by have:=of_decide_eq_true n1;omega))];rfl
  rw[hN]
  repeat'(first|(refine gY ?_;intros)|(refine hY ?_ ?_<;>intro hgd)|(refine jY ?_ ?_<;>intro _)|fail)
  (refine rt_Y (y:=⟨.slice none 0 0,rfl⟩) (hrs:=Tryz.results109) (hv:=?_) (hφ:=?_))
  ·rfl
  ·trivial
 |false=>
 cases n2:decide ((12:Int)<((ts.map tbV).length:Int))with
 |true=>
  have hN:checkS (ts.map Tb.c)=false:=by
   unfold checkS depthsS
   rw[if_pos (.inr (by have:=of_decide_eq_true n2;omega))];rfl
  rw[hN]
  repeat'(first|(refine gY ?_;intros)|(refine hY ?_ ?_<;>intro hgd)|(refine jY ?_ ?_<;>intro _)|fail)
  (refine rt_Y (y:=⟨.slice none 0 0,rfl⟩) (hrs:=Tryz.results109) (hv:=?_) (hφ:=?_))
  ·rfl
  ·trivial
 |false=>
  have l1:1≤ts.length:=by have:=of_decide_eq_false n1;omega
  have l2:ts.length≤12:=by have:=of_decide_eq_false n2;omega
  repeat'(first|(refine gY ?_;intros)|(refine hY ?_ ?_<;>intro hgd)|(refine jY ?_ ?_<;>intro _)|fail)
  rename_i b1
  refine ok_map (fun _ h=>nilRow (e:=9) (n:=1) h) ?_
  refine ok_map (fun _ h=>nilRow (e:=3) (n:=1) h) ?_
  refine ok_map (L':=[row 3 1 (.slice none 0 0) [],row 9 1 (.slice none 0 0) [],pts b1 (.cells [.slice pv (ts.map tbV).length cv].toArray 29),A]++R) entD ?_
  refine ok_loop' (γ:=Nat×{v:Value // v.oneCell'=true}×{v:Value // v.oneCell'=true}×List Int) (fun g ρ L=>g.1≤ts.length∧goD ((ts.take g.1).map Tb.c) g.2.2.2 ((ts.drop g.1).map Tb.c)=goD [] [] (ts.map Tb.c)∧AheadOk ((ts.take g.1).map Tb.c) g.2.2.2∧
    Knows ρ [(1,.pointer (some ⟨b1,0,none⟩)),(2,g.2.1.1),(3,.bool (decide (0<g.1))),(4,g.2.2.1.1),(20,.slice pv (ts.map tbV).length cv),(21,.int .i64 ((ts.map tbV).length:Int)),(22,.int .i64 g.1)]∧
    L=[row 3 1 g.2.1.1 (g.2.2.2.map dpV),row 9 1 g.2.2.1.1 (((ts.take g.1).map (·.name)).map fun s=>[Value.string s]),pts b1 (.cells [.slice pv (ts.map tbV).length cv].toArray 29),A]++R) (fun g=>ts.length-g.1)
   (0,⟨.slice none 0 0,rfl⟩,⟨.slice none 0 0,rfl⟩,[]) ⟨by omega,rfl,⟨rfl,fun _ h=>by simp at h,fun _ h=>by simp at h⟩,⟨rfl,rfl,rfl,rfl,rfl,rfl,rfl,trivial⟩,rfl⟩ ?_
  rintro⟨i,⟨vd,hvd⟩,⟨vn,hvn⟩,ds⟩ ρ L ⟨hi,hgo,hok,hk,rfl⟩
  dsimp only at hi hgo hok hk ⊢
  refine ok_regs hk ?_
  cases t1:decide ((i:Int)<((ts.map tbV).length:Int))with
  |true=>
   have h:i<ts.length:=by have:=of_decide_eq_true t1;omega
   have hti:ts[i]? =some ts[i]:=List.getElem?_eq_getElem h
   have hx:(ts.map tbV)[i]? =some (tbV ts[i]):=by rw[List.getElem?_map,hti];rfl
   have hn1:i<(ts.map tbV).length:=by omega
   have hic:i≤cv:=by omega
   have htk:ts.take (i+1)=ts.take i++[ts[i]]:=List.take_succ_eq_append_getElem h
   have hdr:ts.drop i=ts[i]::ts.drop (i+1):=List.drop_eq_getElem_cons h
   have htl:(ts.take i).length=i:=by rw[List.length_take];omega
   have hdl:ds.length=i:=by rw[hok.len,List.length_map,htl]
   have htb:=htab _ (List.getElem_mem h)
   refine ok_learn (VwIn.good (VwIn.there (VwIn.there (VwIn.there (VwIn.here hv))))) ?_
   intro hgood
   refine ok_learn (VwIn.base (VwIn.there (VwIn.there (VwIn.there (VwIn.here hv)))) (by intro e;rw[e]at hn1;simp at hn1)) ?_
   rintro⟨bu,ou,rfl⟩
   generalize ts[i]=t at hx htk hdr htb
   have hah:Vw A 5 (.slice (some ⟨bu,ou,none⟩) i cv) ((ts.take i).map tbV):=by
    have:=Vw.take hv (k:=i) (by omega)
    rwa [← List.map_take]at this
   have htS:=table_spec (ts.take i) ds t (.slice (some ⟨bu,ou,none⟩) i cv) vd A (row 3 1 vd (ds.map dpV)) hah (fun x hx=>htab x (List.mem_of_mem_take hx)) Vw.row htb hok (by omega)
   clear hah
   have hnmz:=htb.nm
   rw[hdr,List.map_cons]at hgo
   have hok2:=fun d (e:tableS ((ts.take i).map Tb.c) ds t.c=some d)=>hok.snoc e
   have hg0:=fun(e:tableS ((ts.take i).map Tb.c) ds t.c=none)=>checkS_none (s:=ts.map Tb.c) (by rw[← hgo];exact goD_none e)
   have hg1:=fun d (e:tableS ((ts.take i).map Tb.c) ds t.c=some d)=>(goD_step (rest:=(ts.drop (i+1)).map Tb.c) e).symm.trans hgo
   generalize hT:tableS ((ts.take i).map Tb.c) ds t.c=T at htS hg0 hg1 hok2
   obtain⟨tn,cols,⟨cv',hcv'⟩,key,ref,par⟩:=t
   dsimp only[tbV,Tb.c]at hx htS hnmz
   cases T with
   |none=>
    rw[hg0 rfl]
    simp only[Option.isSome_none]at htS
    repeat'(first|(refine gY ?_;intros)|(refine hY ?_ ?_<;>intro hgd)|(refine jY ?_ ?_<;>intro _)|fail)
    refine cl_Y (htS) ?_
    intro y hy
    repeat'(first|(refine gY ?_;intros)|(refine hY ?_ ?_<;>intro hgd)|(refine jY ?_ ?_<;>intro _)|fail)
    (refine rt_Y (y:=⟨vd,hvd⟩) (hrs:=Tryz.results109) (hv:=?_) (hφ:=?_))
    ·rfl
    ·trivial
   |some d=>
    simp only[Option.isSome_some]at htS
    repeat'(first|(refine gY ?_;intros)|(refine hY ?_ ?_<;>intro hgd)|(refine jY ?_ ?_<;>intro _)|fail)
    refine cl_Y (htS) ?_
    intro y hy
    have hyd:=hy d rfl
    subst hyd
    repeat'(first|(refine gY ?_;intros)|(refine hY ?_ ?_<;>intro hgd)|(refine jY ?_ ?_<;>intro _)|fail)
    rename_i vd1 _ vd2 hvd2 vn1 _ vn2 hvn2
    have e1:ds.map dpV++[(Value.int .i64 y).cells.toList]=(ds++[y]).map dpV:=by rw[List.map_append];rfl
    have e2:(((ts.take i).map (·.name)).map fun s=>[Value.string s])++[(Value.string tn).cells.toList]=(((ts.take (i+1)).map (·.name)).map fun s=>[Value.string s]):=by rw[htk,List.map_append,List.map_append];rfl
    have e3:(ts.take (i+1)).map Tb.c=(ts.take i).map Tb.c++[Tb.c ⟨tn,cols,⟨cv',hcv'⟩,key,ref,par⟩]:=by rw[htk,List.map_append];rfl
    rw[e1,e2]
    refine cont_map (L':=[row 3 1 vd2 ((ds++[y]).map dpV),row 9 1 vn2 (((ts.take (i+1)).map (·.name)).map fun s=>[Value.string s]),pts b1 (.cells [.slice (some ⟨bu,ou,none⟩) (ts.map tbV).length cv].toArray 29),A]++R) entD ?_
    refine cont_back (i+1,⟨vd2,hvd2⟩,⟨vn2,hvn2⟩,ds++[y]) ⟨h,by dsimp only;rw[e3];exact hg1 y rfl,by dsimp only;rw[e3];exact hok2 y rfl,⟨rfl,rfl,by rw[decide_eq_true (Nat.succ_pos i)];rfl,rfl,rfl,rfl,rfl,trivial⟩,rfl⟩ (by show ts.length-(i+1)<ts.length-i;omega)
  |false=>
   have hie:i=ts.length:=by have:=of_decide_eq_false t1;omega
   subst hie
   rw[List.take_length,List.drop_length]at hgo
   rw[List.take_length]
   have hS:checkS (ts.map Tb.c)=namedS ((ts.map Tb.c).map (·.name)):=checkS_some (ds:=ds) hgo.symm (by omega) (by omega)
   have hnm:(ts.map Tb.c).map (·.name)=ts.map (·.name):=by rw[List.map_map];rfl
   rw[hS,hnm]
   have h0:decide (0<ts.length)=true:=by simp;omega
   rw[h0]
   have hns:=named_spec vn (row 9 1 vn ((ts.map (·.name)).map fun s=>[Value.string s])) (ts.map (·.name)) Vw.row (fun s hs=>by
    obtain⟨c,hc,rfl⟩:=List.mem_map.1 hs
    have:=(htab c hc).nm;omega) (by rw[List.length_map];omega)
   generalize namedS (ts.map (·.name))=nb at hns
   repeat'(first|(refine gY ?_;intros)|(refine hY ?_ ?_<;>intro hgd)|(refine jY ?_ ?_<;>intro _)|fail)
   refine cl_Y (hns) ?_
   intro _ _
   repeat'(first|(refine gY ?_;intros)|(refine hY ?_ ?_<;>intro hgd)|(refine jY ?_ ?_<;>intro _)|fail)
   (refine rt_Y (y:=⟨vd,hvd⟩) (hrs:=Tryz.results109) (hv:=?_) (hφ:=?_))
   ·rfl
   ·trivial
theorem sCheck_spec(vs:Value)(ts:List Tb)(A:HProp)(h:SV A vs ts):
  FSpec Tryz.prog 63 [.agg #[vs]] [A] Unit (fun _=>True) (fun _=>.int .i64 (if checkS (ts.map Tb.c)then 0 else 2)) (fun _=>[A]):=by
 have hd:=depths_spec vs ts A h
 cases hc:checkS (ts.map Tb.c)with
 |true=>
  rw[hc]at hd
  rw[if_pos rfl]
  refine spec_intro [] _ Tryz.func63 rfl Tryz.ntmps63 (by rfl) (fun w0 R=>?_)
  repeat'(first|(refine gY ?_;intros)|(refine hY ?_ ?_<;>intro hgd)|(refine jY ?_ ?_<;>intro _)|fail)
  refine cl_Y (hd) ?_
  rintro⟨y,hy⟩ _
  repeat'(first|(refine gY ?_;intros)|(refine hY ?_ ?_<;>intro hgd)|(refine jY ?_ ?_<;>intro _)|fail)
  (refine rt_Y (y:=()) (hrs:=Tryz.results63) (hv:=?_) (hφ:=?_))
  ·rfl
  ·trivial
 |false=>
  rw[hc]at hd
  rw[if_neg (by decide)]
  refine spec_intro [] _ Tryz.func63 rfl Tryz.ntmps63 (by rfl) (fun w0 R=>?_)
  repeat'(first|(refine gY ?_;intros)|(refine hY ?_ ?_<;>intro hgd)|(refine jY ?_ ?_<;>intro _)|fail)
  refine cl_Y (hd) ?_
  rintro⟨y,hy⟩ _
  repeat'(first|(refine gY ?_;intros)|(refine hY ?_ ?_<;>intro hgd)|(refine jY ?_ ?_<;>intro _)|fail)
  (refine rt_Y (y:=()) (hrs:=Tryz.results63) (hv:=?_) (hφ:=?_))
  ·rfl
  ·trivial
theorem sdHas_spec(k:Int)(vs:Value)(ts:List Tb)(A:HProp)(h:SV A vs ts):
  FSpec Tryz.prog 163 [.agg #[vs],.int .i64 k] [A] Unit (fun _=>True) (fun _=>.bool (hasS (ts.map Tb.c) k)) (fun _=>[A]):=by
 have hs:=sCheck_spec vs ts A h
 have hv:=h.vw
 have hlm:((ts.map Tb.c).length:Int)=((ts.map tbV).length:Int):=by simp
 unfold hasS
 rw[hlm]
 cases hc:checkS (ts.map Tb.c)with
 |false=>
  rw[hc,if_neg (by decide)]at hs
  rw[Bool.false_and]
  refine spec_intro [] _ Tryz.func163 rfl Tryz.ntmps163 (by rfl) (fun w0 R=>?_)
  repeat'(first|(refine gY ?_;intros)|(refine hY ?_ ?_<;>intro hgd)|(refine jY ?_ ?_<;>intro _)|fail)
  refine cl_Y (hs) ?_
  intro _ _
  repeat'(first|(refine gY ?_;intros)|(refine hY ?_ ?_<;>intro hgd)|(refine jY ?_ ?_<;>intro _)|fail)
  (refine rt_Y (y:=()) (hrs:=Tryz.results163) (hv:=?_) (hφ:=?_))
  ·rfl
  ·trivial
 |true=>
  rw[hc,if_pos rfl]at hs
  rw[Bool.true_and]
  cases t1:decide ((0:Int)≤k)with
  |false=>
   rw[Bool.false_and]
   refine spec_intro [] _ Tryz.func163 rfl Tryz.ntmps163 (by rfl) (fun w0 R=>?_)
   repeat'(first|(refine gY ?_;intros)|(refine hY ?_ ?_<;>intro hgd)|(refine jY ?_ ?_<;>intro _)|fail)
   refine cl_Y (hs) ?_
   intro _ _
   repeat'(first|(refine gY ?_;intros)|(refine hY ?_ ?_<;>intro hgd)|(refine jY ?_ ?_<;>intro _)|fail)
   (refine rt_Y (y:=()) (hrs:=Tryz.results163) (hv:=?_) (hφ:=?_))
   ·rfl
   ·trivial
  |true=>
   rw[Bool.true_and]
   refine spec_intro [] _ Tryz.func163 rfl Tryz.ntmps163 (by rfl) (fun w0 R=>?_)
   repeat'(first|(refine gY ?_;intros)|(refine hY ?_ ?_<;>intro hgd)|(refine jY ?_ ?_<;>intro _)|fail)
   refine cl_Y (hs) ?_
   intro _ _
   repeat'(first|(refine gY ?_;intros)|(refine hY ?_ ?_<;>intro hgd)|(refine jY ?_ ?_<;>intro _)|fail)
   (refine rt_Y (y:=()) (hrs:=Tryz.results163) (hv:=?_) (hφ:=?_))
   ·rfl
   ·trivial
theorem hasS_tb{ts:List Tb}{k:Int}(h:hasS (ts.map Tb.c) k=true):∃ (m:Nat) (t:Tb),k=m∧ts[m]? =some t∧(ts.map tbV)[m]? =some (tbV t)∧m<(ts.map tbV).length∧tabAt (ts.map Tb.c) k=t.c∧TabOk t.c∧t∈ts:=by
 obtain⟨h0,h1,h2,h3,_⟩:=hasS_tab h
 rw[List.length_map]at h1
 have hm:k.toNat<ts.length:=by omega
 have e1:ts[k.toNat]? =some ts[k.toNat]:=List.getElem?_eq_getElem hm
 have e2:tabAt (ts.map Tb.c) k=(ts[k.toNat]).c:=by
  rw[List.getElem?_map,e1]at h2
  simpa using h2.symm
 refine⟨k.toNat,ts[k.toNat],by omega,e1,by rw[List.getElem?_map,e1];rfl,by rw[List.length_map];exact hm,e2,by rw[← e2];exact h3,List.getElem_mem hm⟩
set_option maxHeartbeats 1000000 in
theorem sRow_spec(k:Int)(l:List Vl)(vs w:Value)(ts:List Tb)(A:HProp)(h:SV A vs ts)(hA:UT A)(hw:Vw A 4 w (l.map valV))(hwf:∀ v∈l,v.wf):
  FSpec Tryz.prog 116 [.agg #[vs],.int .i64 k,w] [A] Unit (fun _=>True) (fun _=>.int .i64 (bif rowS (ts.map Tb.c) k l then 0 else 2)) (fun _=>[A]):=by
 have hs:=sdHas_spec k vs ts A h
 have hv:=h.vw
 unfold rowS
 cases hc:hasS (ts.map Tb.c) k with
 |false=>
  rw[hc]at hs
  rw[Bool.false_and,cond_false]
  refine spec_intro [] _ Tryz.func116 rfl Tryz.ntmps116 (by rfl) (fun w0 R=>?_)
  repeat'(first|(refine gY ?_;intros)|(refine hY ?_ ?_<;>intro hgd)|(refine jY ?_ ?_<;>intro _)|fail)
  refine cl_Y (hs) ?_
  intro _ _
  repeat'(first|(refine gY ?_;intros)|(refine hY ?_ ?_<;>intro hgd)|(refine jY ?_ ?_<;>intro _)|fail)
  (refine rt_Y (y:=()) (hrs:=Tryz.results116) (hv:=?_) (hφ:=?_))
  ·rfl
  ·trivial
 |true=>
  rw[hc]at hs
  rw[Bool.true_and]
  obtain⟨m,t,rfl,ht,hx,hm,hta,hok,hmem⟩:=hasS_tb hc
  have htb:=h.tab t hmem
  rw[hta]
  obtain⟨tn,cols,⟨cv,hcv⟩,key,ref,par⟩:=t
  have heq:=eqF_spec A hA cols l cv w htb.vw hw hwf (by have:=hok.len;dsimp only[Tb.c]at this;omega)
  dsimp only[tbV,Tb.c]at hx ⊢
  cases hb:fitsL cols l with
  |true=>
   rw[hb]at heq
   rw[cond_true]
   refine spec_intro [] _ Tryz.func116 rfl Tryz.ntmps116 (by rfl) (fun w0 R=>?_)
   refine ok_learn (VwIn.slice (VwIn.here hv)) ?_
   rintro⟨pv,cv',rfl⟩
   refine ok_learn (VwIn.base (VwIn.here hv) (by intro e;rw[e]at hm;simp at hm)) ?_
   rintro⟨bu,ou,rfl⟩
   repeat'(first|(refine gY ?_;intros)|(refine hY ?_ ?_<;>intro hgd)|(refine jY ?_ ?_<;>intro _)|fail)
   refine cl_Y (hs) ?_
   intro _ _
   repeat'(first|(refine gY ?_;intros)|(refine hY ?_ ?_<;>intro hgd)|(refine jY ?_ ?_<;>intro _)|fail)
   refine cl_Y (heq) ?_
   intro _ _
   repeat'(first|(refine gY ?_;intros)|(refine hY ?_ ?_<;>intro hgd)|(refine jY ?_ ?_<;>intro _)|fail)
   (refine rt_Y (y:=()) (hrs:=Tryz.results116) (hv:=?_) (hφ:=?_))
   ·rfl
   ·trivial
  |false=>
   rw[hb]at heq
   rw[cond_false]
   refine spec_intro [] _ Tryz.func116 rfl Tryz.ntmps116 (by rfl) (fun w0 R=>?_)
   refine ok_learn (VwIn.slice (VwIn.here hv)) ?_
   rintro⟨pv,cv',rfl⟩
   refine ok_learn (VwIn.base (VwIn.here hv) (by intro e;rw[e]at hm;simp at hm)) ?_
   rintro⟨bu,ou,rfl⟩
   repeat'(first|(refine gY ?_;intros)|(refine hY ?_ ?_<;>intro hgd)|(refine jY ?_ ?_<;>intro _)|fail)
   refine cl_Y (hs) ?_
   intro _ _
   repeat'(first|(refine gY ?_;intros)|(refine hY ?_ ?_<;>intro hgd)|(refine jY ?_ ?_<;>intro _)|fail)
   refine cl_Y (heq) ?_
   intro _ _
   repeat'(first|(refine gY ?_;intros)|(refine hY ?_ ?_<;>intro hgd)|(refine jY ?_ ?_<;>intro _)|fail)
   (refine rt_Y (y:=()) (hrs:=Tryz.results116) (hv:=?_) (hφ:=?_))
   ·rfl
   ·trivial
set_option maxHeartbeats 1000000 in
theorem sKey_spec(k:Int)(v:Vl)(vs:Value)(ts:List Tb)(A:HProp)(h:SV A vs ts)(hA:UT A)(hwf:v.wf):
  FSpec Tryz.prog 115 [.agg #[vs],.int .i64 k,.agg (valV v).toArray] [A] Unit (fun _=>True) (fun _=>.int .i64 (bif keyS (ts.map Tb.c) k v then 0 else 2)) (fun _=>[A]):=by
 have hs:=sdHas_spec k vs ts A h
 have hv:=h.vw
 unfold keyS
 cases hc:hasS (ts.map Tb.c) k with
 |false=>
  rw[hc]at hs
  rw[Bool.false_and,cond_false]
  refine spec_intro [] _ Tryz.func115 rfl Tryz.ntmps115 (by rfl) (fun w0 R=>?_)
  repeat'(first|(refine gY ?_;intros)|(refine hY ?_ ?_<;>intro hgd)|(refine jY ?_ ?_<;>intro _)|fail)
  refine cl_Y (hs) ?_
  intro _ _
  repeat'(first|(refine gY ?_;intros)|(refine hY ?_ ?_<;>intro hgd)|(refine jY ?_ ?_<;>intro _)|fail)
  (refine rt_Y (y:=()) (hrs:=Tryz.results115) (hv:=?_) (hφ:=?_))
  ·rfl
  ·trivial
 |true=>
  rw[hc]at hs
  rw[Bool.true_and]
  obtain⟨m,t,rfl,ht,hx,hm,hta,hok,hmem⟩:=hasS_tb hc
  have htb:=(h.tab t hmem).vw
  have k0:=hok.key0
  have kL:=hok.keyL
  rw[hta]
  obtain⟨tn,cols,⟨cv,hcv⟩,key,ref,par⟩:=t
  dsimp only[tbV,Tb.c]at hx htb k0 kL ⊢
  obtain⟨km,rfl⟩:∃ km:Nat,key=km:=⟨key.toNat,by omega⟩
  have hkm:km<cols.length:=by omega
  have hnk:km<(cols.map coV).length:=by rw[List.length_map];exact hkm
  have hxk:(cols.map coV)[km]? =some (coV cols[km]):=by rw[List.getElem?_map,List.getElem?_eq_getElem hkm];rfl
  rw[colAt_nat hkm]
  generalize cols[km]=c at hxk
  have hf:=sdFits_spec c v A hA hwf
  generalize fitsC c v=fb at hf
  obtain⟨cn,ck,cb⟩:=c
  dsimp only[coV,valV]at hxk hf ⊢
  cases fb with
  |true=>
   rw[cond_true]
   refine spec_intro [] _ Tryz.func115 rfl Tryz.ntmps115 (by rfl) (fun w0 R=>?_)
   refine ok_learn (VwIn.slice (VwIn.here hv)) ?_
   rintro⟨pv,cv',rfl⟩
   refine ok_learn (VwIn.base (VwIn.here hv) (by intro e;rw[e]at hm;simp at hm)) ?_
   rintro⟨bu,ou,rfl⟩
   refine ok_learn (VwIn.slice (VwIn.here htb)) ?_
   rintro⟨pt,ct,rfl⟩
   refine ok_learn (VwIn.base (VwIn.here htb) (by intro e;rw[e]at hnk;simp at hnk)) ?_
   rintro⟨bt,ot,rfl⟩
   repeat'(first|(refine gY ?_;intros)|(refine hY ?_ ?_<;>intro hgd)|(refine jY ?_ ?_<;>intro _)|fail)
   refine cl_Y (hs) ?_
   intro _ _
   repeat'(first|(refine gY ?_;intros)|(refine hY ?_ ?_<;>intro hgd)|(refine jY ?_ ?_<;>intro _)|fail)
   refine cl_Y (hf) ?_
   intro _ _
   repeat'(first|(refine gY ?_;intros)|(refine hY ?_ ?_<;>intro hgd)|(refine jY ?_ ?_<;>intro _)|fail)
   (refine rt_Y (y:=()) (hrs:=Tryz.results115) (hv:=?_) (hφ:=?_))
   ·rfl
   ·trivial
  |false=>
   rw[cond_false]
   refine spec_intro [] _ Tryz.func115 rfl Tryz.ntmps115 (by rfl) (fun w0 R=>?_)
   refine ok_learn (VwIn.slice (VwIn.here hv)) ?_
   rintro⟨pv,cv',rfl⟩
   refine ok_learn (VwIn.base (VwIn.here hv) (by intro e;rw[e]at hm;simp at hm)) ?_
   rintro⟨bu,ou,rfl⟩
   refine ok_learn (VwIn.slice (VwIn.here htb)) ?_
   rintro⟨pt,ct,rfl⟩
   refine ok_learn (VwIn.base (VwIn.here htb) (by intro e;rw[e]at hnk;simp at hnk)) ?_
   rintro⟨bt,ot,rfl⟩
   repeat'(first|(refine gY ?_;intros)|(refine hY ?_ ?_<;>intro hgd)|(refine jY ?_ ?_<;>intro _)|fail)
   refine cl_Y (hs) ?_
   intro _ _
   repeat'(first|(refine gY ?_;intros)|(refine hY ?_ ?_<;>intro hgd)|(refine jY ?_ ?_<;>intro _)|fail)
   refine cl_Y (hf) ?_
   intro _ _
   repeat'(first|(refine gY ?_;intros)|(refine hY ?_ ?_<;>intro hgd)|(refine jY ?_ ?_<;>intro _)|fail)
   (refine rt_Y (y:=()) (hrs:=Tryz.results115) (hv:=?_) (hφ:=?_))
   ·rfl
   ·trivial
end Go.Proofs.YtmnafjonbeihiaaGreatDoor
