/- Texts merged: KvT KvU KvX KvV. -/
import Derived.Test.YtgbmjoenbocfcaaGreatG21
import Derived.Test.YtgbmjoenbocfcaaGreatG9
import Derived.Test.YtgbmjoenbocfcaaGreatG20
set_option linter.unusedSimpArgs false
set_option linter.unusedVariables false
set_option maxRecDepth 100000
namespace Go.Proofs.YtgbmjoenbocfcaaGreat
open Go Go.Fx Go.Proofs Go.Pl
def wrK(d:Dk)(f:BA)(l:List Pr):Dk×Int:=
 bif !decide ((d.remove f).2=0)&& !decide ((d.remove f).2=3)then d.remove f else writeR (d.remove f).1 f l
set_option maxHeartbeats 1600000 in
theorem kwrite_spec(kb b:Nat)(nm:BA)(m:Mn)(mv wp:Value)(mb:Nat)(rv:Value)(ft:Int)(d:Dk)(n:Nat)(u:Value)(A:HProp)(l:List Pr)(hA:Vw A 3 u (l.map prV))(hz:l.length≤1000000)(h12:n<281474976710656)(hn:nm.size≤1000000)(hd:d.Ok)(hl:d.loose.length≤1000000):
  FSpec Tryz.prog 55 [.pointer (some ⟨kb,0,none⟩),.int .u64 (n:Int),u] [kvP kb b nm m mv wp mb rv ft,diskP b d,A] Unit (fun _=>True) (fun _=>.int .i64 (wrK d (fileK nm runK n) l).2) (fun _=>[kvP kb b nm m mv wp mb rv ft,diskP b (wrK d (fileK nm runK n) l).1,A]):=by
 have h16:n<16 ^ 12:=by
  have:(16:Nat) ^ 12=281474976710656:=by decide
  omega
 have hF:=kfile_spec kb b nm m mv wp mb rv ft runK n h16 (by omega) (by decide)
 have hfz:(fileK nm runK n).size≤4611686018427387904:=by rw[fileK_size];have hk:runK.size=3:=rfl;omega
 have hR:=remove_spec b d (fileK nm runK n) hd (by omega) hfz
 have hW:=Write_spec b (d.remove (fileK nm runK n)).1 (fileK nm runK n) u A l hd.remove (by have:=remove_loose d (fileK nm runK n);omega) hfz hA (by omega)
 unfold wrK
 generalize fileK nm runK n=f at hF hR hW ⊢
 generalize writeR (d.remove f).1 f l=wr at hW ⊢
 generalize d.remove f=rm at hR hW ⊢
 obtain⟨d1,e⟩:=rm
 dsimp only at hR hW ⊢
 unfold kvP kvC at hF ⊢
 cases q1:(!decide (e=0))with
 |false=>
  rw[Bool.false_and,cond_false]
  refine spec_intro [] _ Tryz.func55 rfl Tryz.ntmps55 (by rfl) (fun w0 R=>?_)
  repeat'(first|(refine gY ?_;intros)|(refine hY ?_ ?_<;>intro hgd)|(refine jY ?_ ?_<;>intro _)|fail)
  refine cl_Y (hF) ?_
  intro _ _
  repeat'(first|(refine gY ?_;intros)|(refine hY ?_ ?_<;>intro hgd)|(refine jY ?_ ?_<;>intro _)|fail)
  refine cl_Y (hR) ?_
  intro _ _
  repeat'(first|(refine gY ?_;intros)|(refine hY ?_ ?_<;>intro hgd)|(refine jY ?_ ?_<;>intro _)|fail)
  refine cl_Y (hW) ?_
  intro _ _
  repeat'(first|(refine gY ?_;intros)|(refine hY ?_ ?_<;>intro hgd)|(refine jY ?_ ?_<;>intro _)|fail)
  (refine rt_Y (y:=()) (hrs:=Tryz.results55) (hv:=?_) (hφ:=?_))
  ·rfl
  ·trivial
 |true=>
  rw[Bool.true_and]
  cases q2:(!decide (e=3))with
  |true=>
   rw[cond_true]
   refine spec_intro [] _ Tryz.func55 rfl Tryz.ntmps55 (by rfl) (fun w0 R=>?_)
   repeat'(first|(refine gY ?_;intros)|(refine hY ?_ ?_<;>intro hgd)|(refine jY ?_ ?_<;>intro _)|fail)
   refine cl_Y (hF) ?_
   intro _ _
   repeat'(first|(refine gY ?_;intros)|(refine hY ?_ ?_<;>intro hgd)|(refine jY ?_ ?_<;>intro _)|fail)
   refine cl_Y (hR) ?_
   intro _ _
   repeat'(first|(refine gY ?_;intros)|(refine hY ?_ ?_<;>intro hgd)|(refine jY ?_ ?_<;>intro _)|fail)
   (refine rt_Y (y:=()) (hrs:=Tryz.results55) (hv:=?_) (hφ:=?_))
   ·rfl
   ·trivial
  |false=>
   rw[cond_false]
   refine spec_intro [] _ Tryz.func55 rfl Tryz.ntmps55 (by rfl) (fun w0 R=>?_)
   repeat'(first|(refine gY ?_;intros)|(refine hY ?_ ?_<;>intro hgd)|(refine jY ?_ ?_<;>intro _)|fail)
   refine cl_Y (hF) ?_
   intro _ _
   repeat'(first|(refine gY ?_;intros)|(refine hY ?_ ?_<;>intro hgd)|(refine jY ?_ ?_<;>intro _)|fail)
   refine cl_Y (hR) ?_
   intro _ _
   repeat'(first|(refine gY ?_;intros)|(refine hY ?_ ?_<;>intro hgd)|(refine jY ?_ ?_<;>intro _)|fail)
   refine cl_Y (hW) ?_
   intro _ _
   repeat'(first|(refine gY ?_;intros)|(refine hY ?_ ?_<;>intro hgd)|(refine jY ?_ ?_<;>intro _)|fail)
   (refine rt_Y (y:=()) (hrs:=Tryz.results55) (hv:=?_) (hφ:=?_))
   ·rfl
   ·trivial
def dropL(nm:BA):List Int→Dk→Dk×Int
 | [],d=>d.sync
 |n::l,d=>bif !decide ((d.remove (fileK nm runK n.toNat)).2=0)then d.remove (fileK nm runK n.toNat)else dropL nm l (d.remove (fileK nm runK n.toNat)).1
set_option maxHeartbeats 4000000 in
theorem kdrop_spec(kb b:Nat)(nm:BA)(m:Mn)(mv wp:Value)(mb:Nat)(rv:Value)(ft:Int)(d:Dk)(u:Value)(A:HProp)(l:List Int)(hA:Vw A 1 u (l.map uV))(hr:∀ n∈l,0≤n∧n<281474976710656)(hz:l.length≤1000)(hn:nm.size≤1000000)(hd:d.Ok)(hl:d.loose.length≤1000000):
  FSpec Tryz.prog 69 [.pointer (some ⟨kb,0,none⟩),u] [kvP kb b nm m mv wp mb rv ft,diskP b d,A] Unit (fun _=>True) (fun _=>.int .i64 (dropL nm l d).2) (fun _=>[kvP kb b nm m mv wp mb rv ft,diskP b (dropL nm l d).1,A]):=by
 have lm:(l.map uV).length=l.length:=by simp
 generalize hW:dropL nm l d=W
 refine spec_intro [] _ Tryz.func69 rfl Tryz.ntmps69 (by rfl) (fun w0 R=>?_)
 refine ok_learn (VwIn.slice (VwIn.there (VwIn.there (VwIn.here hA)))) ?_
 rintro⟨pa,ca,rfl⟩
 repeat'(first|(refine gY ?_;intros)|(refine hY ?_ ?_<;>intro hgd)|(refine jY ?_ ?_<;>intro _)|fail)
 refine ok_map (L':=[kvP kb b nm m mv wp mb rv ft,diskP b d,A]++R) entD ?_
 refine ok_loop' (γ:=Nat×Dk) (fun g ρ L=>g.1≤l.length∧g.2.Ok∧g.2.loose.length≤d.loose.length+g.1∧dropL nm (l.drop g.1) g.2=W∧
   Knows ρ [(0,.pointer (some ⟨kb,0,none⟩)),(8,.slice pa (l.map uV).length ca),(9,.int .i64 ((l.map uV).length:Int)),(10,.int .i64 (g.1:Int))]∧L=[kvP kb b nm m mv wp mb rv ft,diskP b g.2,A]++R)
  (fun g=>l.length-g.1) (0,d) ⟨Nat.zero_le _,hd,by simp,hW,⟨rfl,rfl,rfl,rfl,trivial⟩,rfl⟩ ?_
 rintro⟨i,d1⟩ ρ L ⟨hi,hd1,hl1,hE,hk,rfl⟩
 dsimp only at hi hd1 hl1 hE hk ⊢
 refine ok_regs hk ?_
 clear hW
 cases t1:decide ((i:Int)<((l.map uV).length:Int))with
 |false=>
  have hie:i=l.length:=by have:=of_decide_eq_false t1;omega
  rw[show l.drop i=[]by rw[hie,List.drop_length]]at hE
  have hE2:d1.sync=W:=hE
  have hsy:=sync_spec b d1 hd1
  rw[hE2]at hsy
  unfold kvP kvC
  repeat'(first|(refine gY ?_;intros)|(refine hY ?_ ?_<;>intro hgd)|(refine jY ?_ ?_<;>intro _)|fail)
  refine cl_Y (hsy) ?_
  intro _ _
  repeat'(first|(refine gY ?_;intros)|(refine hY ?_ ?_<;>intro hgd)|(refine jY ?_ ?_<;>intro _)|fail)
  (refine rt_Y (y:=()) (hrs:=Tryz.results69) (hv:=?_) (hφ:=?_))
  ·rfl
  ·trivial
 |true=>
  have h0:i<l.length:=by have:=of_decide_eq_true t1;omega
  have hx:(l.map uV)[i]? =some (uV l[i]):=by rw[List.getElem?_map,List.getElem?_eq_getElem h0];rfl
  have hn1:i<(l.map uV).length:=by omega
  obtain⟨n0,n1⟩:=hr _ (List.getElem_mem h0)
  rw[List.drop_eq_getElem_cons h0]at hE
  generalize l[i]=n at hx n0 n1 hE
  obtain⟨n,rfl⟩:=Int.eq_ofNat_of_zero_le n0
  have h16:n<16 ^ 12:=by
   have:(16:Nat) ^ 12=281474976710656:=by decide
   omega
  dsimp only[uV]at hx
  have hE2:(bif !decide ((d1.remove (fileK nm runK n)).2=0)then d1.remove (fileK nm runK n)else dropL nm (l.drop (i+1)) (d1.remove (fileK nm runK n)).1)=W:=hE
  clear hE
  have hF:=kfile_spec kb b nm m mv wp mb rv ft runK n h16 (by omega) (by decide)
  have hfz:(fileK nm runK n).size≤4611686018427387904:=by rw[fileK_size];have hk:runK.size=3:=rfl;omega
  have hR:=remove_spec b d1 (fileK nm runK n) hd1 (by omega) hfz
  have hRo:(d1.remove (fileK nm runK n)).1.Ok:=hd1.remove
  have hRl:=remove_loose d1 (fileK nm runK n)
  generalize fileK nm runK n=f at hF hR hRo hRl hE2
  generalize d1.remove f=rm at hR hRo hRl hE2
  obtain⟨d2,e⟩:=rm
  dsimp only at hR hRo hRl hE2
  refine ok_learn (VwIn.base (n:=1) (xs:=l.map uV) (VwIn.there (VwIn.there (VwIn.here hA))) (by intro e;rw[e]at hn1;simp at hn1)) ?_
  rintro⟨bu,ou,rfl⟩
  cases q:(!decide (e=0))with
  |true=>
   rw[q,cond_true]at hE2
   subst hE2
   unfold kvP kvC at hF ⊢
   repeat'(first|(refine gY ?_;intros)|(refine hY ?_ ?_<;>intro hgd)|(refine jY ?_ ?_<;>intro _)|fail)
   refine ok_drawL (cv:=[]) [6] ([kvP kb b nm m mv wp mb rv ft]) (takeD) (by kernel_rfl) rfl (by decide +kernel) ?_
   repeat'(first|(refine gY ?_;intros)|(refine hY ?_ ?_<;>intro hgd)|(refine jY ?_ ?_<;>intro _)|fail)
   refine clN_Y (hF) ?_
   intro _ _
   repeat'(first|(refine gY ?_;intros)|(refine hY ?_ ?_<;>intro hgd)|(refine jY ?_ ?_<;>intro _)|fail)
   refine cl_Y (hR) ?_
   intro _ _
   repeat'(first|(refine gY ?_;intros)|(refine hY ?_ ?_<;>intro hgd)|(refine jY ?_ ?_<;>intro _)|fail)
   (refine rt_Y (y:=()) (hrs:=Tryz.results69) (hv:=?_) (hφ:=?_))
   ·rfl
   ·trivial
  |false=>
   rw[q,cond_false]at hE2
   unfold kvP kvC at hF ⊢
   repeat'(first|(refine gY ?_;intros)|(refine hY ?_ ?_<;>intro hgd)|(refine jY ?_ ?_<;>intro _)|fail)
   refine ok_drawL (cv:=[]) [6] ([kvP kb b nm m mv wp mb rv ft]) (takeD) (by kernel_rfl) rfl (by decide +kernel) ?_
   repeat'(first|(refine gY ?_;intros)|(refine hY ?_ ?_<;>intro hgd)|(refine jY ?_ ?_<;>intro _)|fail)
   refine clN_Y (hF) ?_
   intro _ _
   repeat'(first|(refine gY ?_;intros)|(refine hY ?_ ?_<;>intro hgd)|(refine jY ?_ ?_<;>intro _)|fail)
   refine cl_Y (hR) ?_
   intro _ _
   repeat'(first|(refine gY ?_;intros)|(refine hY ?_ ?_<;>intro hgd)|(refine jY ?_ ?_<;>intro _)|fail)
   refine cont_map (L':=[kvP kb b nm m mv wp mb rv ft,diskP b d2,A]++R) entD ?_
   exact cont_back (i+1,d2) ⟨h0,hRo,by dsimp only;omega,hE2,⟨rfl,rfl,rfl,rfl,trivial⟩,rfl⟩ (by dsimp only;omega)
structure Cu where
 cb:Nat
 iv:Value
 to:BA
 v:V1s
 yg:Int
 xs:List Pr
 A:HProp
def cuC(c:Cu):List Value:=[c.iv,.string c.to,c.v.1,.int .i64 c.yg]
def cuP(c:Cu):HProp:=fun h=>SatL [pts c.cb (.cells (cuC c).toArray 148),c.A] h
def cusP(cs:List Cu):HProp:=fun h=>SatL (cs.map cuP) h
theorem satL_mem:∀ {L:List HProp} {A:HProp} {h:Frag},A∈L→SatL L h→∃ h',h'.le h∧A h'
 |B::L,A,h,hm,⟨h1,h2,_,l1,l2,hB,hL⟩=>by
  rcases List.mem_cons.1 hm with rfl|hm
  ·exact⟨h1,l1,hB⟩
  ·obtain⟨h',l',hA⟩:=satL_mem hm hL
   exact⟨h',l'.trans l2,hA⟩
theorem cus_mem{cs:List Cu}{c:Cu}(hc:c∈cs){h:Frag}(s:cusP cs h):∃ h',h'.le h∧SatL [pts c.cb (.cells (cuC c).toArray 148),c.A] h':=satL_mem (List.mem_map_of_mem (f:=cuP) hc) s
theorem cus_rd{cs:List Cu}{c:Cu}(hc:c∈cs):Rd (cusP cs) c.cb (.cells (cuC c).toArray 148):=fun h s=>by
 obtain⟨h',l',k⟩:=cus_mem hc s
 obtain⟨h1,h2,_,l1,_,hp,_⟩:=k
 exact l' _ _ (l1 _ _ hp)
theorem cus_vw{cs:List Cu}{c:Cu}(hc:c∈cs){xs:List (List Value)}(hv:Vw c.A 3 c.v.1 xs):Vw (cusP cs) 3 c.v.1 xs:=fun h s=>by
 obtain⟨h',l',k⟩:=cus_mem hc s
 obtain⟨h1,h2,_,_,l2,_,hA⟩:=k
 obtain⟨h3,h4,_,l3,_,hA2,_⟩:=hA
 exact(hv h3 hA2).mono ((l3.trans l2).trans l')
def pickC(best:Option Cu)(c:Cu):Option Cu:=
 match c.xs with
 | []=>best
 |p::_=>match best with
  |none=>some c
  |some b=>match b.xs with
   | []=>some c
   |q::_=>bif ltS p.k q.k||((p.k.toList==q.k.toList)&&decide (c.yg>b.yg))then some c else best
def leastC(cs:List Cu):Option Cu:=cs.foldl pickC none
def cuPtr(b:Option Cu):Value:=.pointer (b.map fun c=>⟨c.cb,0,none⟩)
theorem leastC_succ{cs:List Cu}{i:Nat}(h:i<cs.length):leastC (cs.take (i+1))=pickC (leastC (cs.take i)) cs[i]:=by
 unfold leastC
 rw[List.take_succ_eq_append_getElem h,List.foldl_append];rfl
theorem pickC_mem{best:Option Cu}{c:Cu}{cs:List Cu}(hb:∀ b,best=some b→b∈cs∧b.xs≠[])(hc:c∈cs):∀ b,pickC best c=some b→b∈cs∧b.xs≠[]:=by
 intro b h
 unfold pickC at h
 cases hx:c.xs with
 |nil=>rw[hx]at h;exact hb b h
 |cons p l=>
  rw[hx]at h
  dsimp only at h
  cases best with
  |none=>obtain rfl:=Option.some.inj h;exact⟨hc,by rw[hx];simp⟩
  |some b0=>
   dsimp only at h
   cases hx0:b0.xs with
   |nil=>rw[hx0]at h;obtain rfl:=Option.some.inj h;exact⟨hc,by rw[hx];simp⟩
   |cons q l0=>
    rw[hx0]at h
    dsimp only at h
    cases hq:(ltS p.k q.k||((p.k.toList==q.k.toList)&&decide (c.yg>b0.yg)))with
    |true=>rw[hq,cond_true]at h;obtain rfl:=Option.some.inj h;exact⟨hc,by rw[hx];simp⟩
    |false=>rw[hq,cond_false]at h;exact hb b h
end Go.Proofs.YtgbmjoenbocfcaaGreat
namespace Go.Proofs.YtgbmjoenbocfcaaGreat
open Go Go.Fx Go.Pl
theorem keq_false{a b:BA}(h:a≠b):(a.toList==b.toList)=false:=by
 cases e:(a.toList==b.toList)with
 |false=>rfl
 |true=>exact absurd (eqS_iff.1 e) h
theorem look_cons(k:BA)(q:Pr)(l:List Pr):Pl.look k (q::l)=if k.toList==q.k.toList then some q else Pl.look k l:=by
 unfold Pl.look;rw[List.find?_cons];cases (k.toList==q.k.toList)<;>rfl
theorem look_none{k:BA}{l:List Pr}(h:∀ x∈l,x.k≠k):Pl.look k l=none:=by
 unfold Pl.look
 rw[List.find?_eq_none]
 intro x hx he
 exact h x hx (eqS_iff.1 he).symm
theorem look_some{k:BA}{l:List Pr}{p:Pr}(h:Pl.look k l=some p):p∈l∧p.k=k:=by
 unfold Pl.look at h
 have h2:(k.toList==p.k.toList)=true:=List.find?_some (p:=fun q:Pr=>k.toList==q.k.toList) h
 exact⟨List.mem_of_find?_eq_some h,(eqS_iff.1 h2).symm⟩
theorem look_ins(p:Pr)(k:BA):∀ (l:List Pr),Pl.look k (ins p l)=if k.toList==p.k.toList then some p else Pl.look k l
 | []=>look_cons k p []
 |q::l=>by
  unfold ins
  split
  ·rw[look_cons]
  ·split
   ·rename_i _ h
    have e:=eqS_iff.1 h
    rw[look_cons,look_cons,e]
    cases (k.toList==q.k.toList)<;>rfl
   ·rename_i _ h
    rw[look_cons,look_cons,look_ins p k l]
    cases h1:(k.toList==q.k.toList)with
    |false=>rfl
    |true=>
     have e:=eqS_iff.1 h1
     cases h2:(k.toList==p.k.toList)with
     |false=>rfl
     |true=>exact absurd (by rw[← eqS_iff.1 h2,e];exact eqS_iff.2 rfl) h
theorem sorted_gt{p:Pr}{l:List Pr}(h:Sorted (p::l)):∀ x∈l,x.k≠p.k:=fun x hx e=>by
 have:=(List.pairwise_cons.1 h).1 x hx
 rw[e,ltS_irrefl]at this;cases this
theorem look_head{p:Pr}{l:List Pr}:Pl.look p.k (p::l)=some p:=by
 rw[look_cons,eqS_iff.2 rfl];rfl
theorem sorted_ext:∀ {l m:List Pr},Sorted l→Sorted m→(∀ k,Pl.look k l=Pl.look k m)→l=m
 | [],[],_,_,_=>rfl
 | [],q::m,_,_,h=>by have:=h q.k;rw[look_head]at this;cases this
 |p::l,[],_,_,h=>by have:=h p.k;rw[look_head]at this;cases this
 |p::l,q::m,hl,hm,h=>by
  have hp:=h p.k
  have hq:=h q.k
  rw[look_head]at hp hq
  have hk:p.k=q.k:=by
   rcases ltS_tri p.k q.k with t|t|t
   ·obtain⟨h1,h2⟩:=look_some hp.symm
    rcases List.mem_cons.1 h1 with e|e
    ·exact absurd (by rw[e]) (ltS_ne t)
    ·have:=ltS_trans t ((List.pairwise_cons.1 hm).1 p e);rw[ltS_irrefl]at this;cases this
   ·exact t
   ·obtain⟨h1,h2⟩:=look_some hq
    rcases List.mem_cons.1 h1 with e|e
    ·exact absurd (by rw[e]) (ltS_ne t)
    ·have:=ltS_trans t ((List.pairwise_cons.1 hl).1 q e);rw[ltS_irrefl]at this;cases this
  rw[hk,look_head]at hp
  obtain rfl:=Option.some.inj hp
  congr 1
  refine sorted_ext (List.pairwise_cons.1 hl).2 (List.pairwise_cons.1 hm).2 fun k=>?_
  have:=h k
  rw[look_cons,look_cons]at this
  cases e:(k.toList==p.k.toList)with
  |false=>rw[e]at this;exact this
  |true=>
   obtain rfl:=eqS_iff.1 e
   rw[look_none (sorted_gt hl),look_none (sorted_gt hm)]
theorem putAll_sorted:∀ (l:List Pr) {m:List Pr},Sorted m→Sorted (putAll l m)
 | [],_,h=>h
 |p::l,m,h=>putAll_sorted l (m:=ins p m) (ins_sorted h)
theorem look_putAll(k:BA):∀ {l:List Pr} (m:List Pr),Sorted l→Pl.look k (putAll l m)=(Pl.look k l).or (Pl.look k m)
 | [],m,_=>by show Pl.look k m=_;rw[look_none (l:=[]) (fun x hx=>by cases hx)];rfl
 |p::l,m,h=>by
  show Pl.look k (putAll l (ins p m))=_
  rw[look_putAll k (ins p m) (List.pairwise_cons.1 h).2,look_ins,look_cons]
  cases e:(k.toList==p.k.toList)with
  |false=>rfl
  |true=>
   obtain rfl:=eqS_iff.1 e
   rw[look_none (sorted_gt h)];rfl
theorem mem_putAll{x:Pr}:∀ {l m:List Pr},x∈putAll l m→x∈l∨x∈m
 | [],m,h=>.inr h
 |p::l,m,h=>by
  rcases mem_putAll (l:=l) (m:=ins p m) h with h|h
  ·exact .inl (List.mem_cons_of_mem _ h)
  ·rcases mem_ins h with rfl|h
   ·exact .inl (List.mem_cons_self ..)
   ·exact .inr h
theorem putAllB_sorted:∀ (Ss:List (List Pr)) {m:List Pr},Sorted m→Sorted (putAllB Ss m)
 | [],_,h=>h
 |l::Ss,m,h=>putAllB_sorted Ss (m:=putAll l m) (putAll_sorted l h)
theorem mem_putAllB{x:Pr}:∀ {Ss:List (List Pr)} {m:List Pr},x∈putAllB Ss m→(∃ l∈Ss,x∈l)∨x∈m
 | [],m,h=>.inr h
 |l::Ss,m,h=>by
  rcases mem_putAllB (Ss:=Ss) (m:=putAll l m) h with⟨l',hl',h⟩|h
  ·exact .inl ⟨l',List.mem_cons_of_mem _ hl',h⟩
  ·rcases mem_putAll h with h|h
   ·exact .inl ⟨l,List.mem_cons_self ..,h⟩
   ·exact .inr h
def lookB(k:BA)(Ss:List (List Pr))(o:Option Pr):Option Pr:=Ss.foldl (fun o l=>(Pl.look k l).or o) o
theorem look_putAllB(k:BA):∀ {Ss:List (List Pr)} (m:List Pr),(∀ l∈Ss,Sorted l)→Pl.look k (putAllB Ss m)=lookB k Ss (Pl.look k m)
 | [],m,_=>rfl
 |l::Ss,m,h=>by
  show Pl.look k (putAllB Ss (putAll l m))=lookB k Ss ((Pl.look k l).or (Pl.look k m))
  rw[look_putAllB k (putAll l m) (fun l' hl'=>h l' (List.mem_cons_of_mem _ hl')),look_putAll k m (h l (List.mem_cons_self ..))]
theorem lookB_snoc(k:BA)(Ss:List (List Pr))(l:List Pr)(o:Option Pr):lookB k (Ss++[l]) o=(Pl.look k l).or (lookB k Ss o):=by
 unfold lookB;rw[List.foldl_append];rfl
theorem lookB_map{k:BA}{f:List Pr→List Pr}:∀ (Ss:List (List Pr)) (o:Option Pr),(∀ l∈Ss,Pl.look k (f l)=Pl.look k l)→lookB k (Ss.map f) o=lookB k Ss o
 | [],_,_=>rfl
 |l::Ss,o,h=>by
  show lookB k (Ss.map f) ((Pl.look k (f l)).or o)=lookB k Ss ((Pl.look k l).or o)
  rw[h l (List.mem_cons_self ..),lookB_map Ss _ (fun l' hl'=>h l' (List.mem_cons_of_mem _ hl'))]
def pickH(best:Option Pr)(o:Option Pr):Option Pr:=
 match o with
 |none=>best
 |some p=>match best with
  |none=>some p
  |some q=>bif ltS p.k q.k||(p.k.toList==q.k.toList)then some p else best
def leastH(l:List (Option Pr)):Option Pr:=l.foldl pickH none
def LstP(best:Option Pr)(pre:List (List Pr)):Prop:=
 match best with
 |none=>∀ l∈pre,l=[]
 |some p=>(∀ l∈pre,∀ q∈l.head?,ltS q.k p.k=false)∧lookB p.k pre none=some p
theorem lstP_step{best:Option Pr}{pre:List (List Pr)}(h:LstP best pre){xs:List Pr}(hs:Sorted xs):LstP (pickH best xs.head?) (pre++[xs]):=by
 cases xs with
 |nil=>
  show LstP best _
  cases best with
  |none=>
   intro l hl
   rcases List.mem_append.1 hl with hl|hl
   ·exact h l hl
   ·exact List.mem_singleton.1 hl
  |some p=>
   refine⟨fun l hl q hq=>?_,?_⟩
   ·rcases List.mem_append.1 hl with hl|hl
    ·exact h.1 l hl q hq
    ·rw[List.mem_singleton.1 hl]at hq;cases hq
   ·rw[lookB_snoc,h.2];rfl
 |cons p xs=>
  cases best with
  |none=>
   refine⟨fun l hl q hq=>?_,?_⟩
   ·rcases List.mem_append.1 hl with hl|hl
    ·rw[h l hl]at hq;cases hq
    ·rw[List.mem_singleton.1 hl]at hq
     obtain rfl:=Option.some.inj hq
     exact ltS_irrefl _
   ·rw[lookB_snoc,look_head];rfl
  |some q=>
   show LstP (bif ltS p.k q.k||(p.k.toList==q.k.toList)then some p else some q) _
   cases e:(ltS p.k q.k||(p.k.toList==q.k.toList))with
   |true=>
    refine⟨fun l hl r hr=>?_,?_⟩
    ·rcases List.mem_append.1 hl with hl|hl
     ·have h1:=h.1 l hl r hr
      cases h2:ltS r.k p.k with
      |false=>rfl
      |true=>
       rcases Bool.or_eq_true_iff.1 e with e|e
       ·rw[ltS_trans h2 e]at h1;cases h1
       ·rw[← eqS_iff.1 e,h2]at h1;cases h1
     ·rw[List.mem_singleton.1 hl]at hr
      obtain rfl:=Option.some.inj hr
      exact ltS_irrefl _
    ·rw[lookB_snoc,look_head];rfl
   |false=>
    obtain⟨e1,e2⟩:=Bool.or_eq_false_iff.1 e
    have hlt:ltS q.k p.k=true:=by
     rcases ltS_tri q.k p.k with t|t|t
     ·exact t
     ·rw[t,eqS_iff.2 rfl]at e2;cases e2
     ·rw[t]at e1;cases e1
    refine⟨fun l hl r hr=>?_,?_⟩
    ·rcases List.mem_append.1 hl with hl|hl
     ·exact h.1 l hl r hr
     ·rw[List.mem_singleton.1 hl]at hr
      obtain rfl:=Option.some.inj hr
      exact e1
    ·rw[lookB_snoc,look_none (l:=p::xs) (k:=q.k),h.2];rfl
     intro x hx e3
     rcases List.mem_cons.1 hx with rfl|hx
     ·rw[e3,ltS_irrefl]at hlt;cases hlt
     ·have:=ltS_trans hlt ((List.pairwise_cons.1 hs).1 x hx);rw[e3,ltS_irrefl]at this;cases this
theorem lstP_fold:∀ (rest pre:List (List Pr)) (best:Option Pr),LstP best pre→(∀ l∈rest,Sorted l)→LstP ((rest.map (·.head?)).foldl pickH best) (pre++rest)
 | [],pre,best,h,_=>by rw[List.append_nil];exact h
 |xs::rest,pre,best,h,hs=>by
  have:=lstP_fold rest (pre++[xs]) _ (lstP_step h (hs xs (List.mem_cons_self ..))) (fun l hl=>hs l (List.mem_cons_of_mem _ hl))
  rw[List.append_assoc]at this
  exact this
theorem leastH_P{Rs:List (List Pr)}(hs:∀ l∈Rs,Sorted l):LstP (leastH (Rs.map (·.head?))) Rs:=lstP_fold Rs [] none (fun l hl=>by cases hl) hs
def dropK(k:BA)(l:List Pr):List Pr:=
 match l with
 | []=>[]
 |p::l=>bif p.k.toList==k.toList then l else p::l
theorem dropK_sorted{k:BA}{l:List Pr}(h:Sorted l):Sorted (dropK k l):=by
 cases l with
 |nil=>exact h
 |cons p l=>
  show Sorted (bif p.k.toList==k.toList then l else p::l)
  cases (p.k.toList==k.toList)with
  |true=>exact(List.pairwise_cons.1 h).2
  |false=>exact h
theorem dropK_look{k j:BA}{l:List Pr}(h:j≠k):Pl.look j (dropK k l)=Pl.look j l:=by
 cases l with
 |nil=>rfl
 |cons p l=>
  show Pl.look j (bif p.k.toList==k.toList then l else p::l)=_
  cases e:(p.k.toList==k.toList)with
  |false=>rfl
  |true=>rw[look_cons,eqS_iff.1 e,keq_false h];rfl
theorem dropK_gt{k:BA}{l:List Pr}(hs:Sorted l)(h:∀ q∈l.head?,ltS q.k k=false):∀ x∈dropK k l,ltS k x.k=true:=by
 cases l with
 |nil=>intro x hx;cases hx
 |cons p l=>
  have hp:=h p rfl
  have hl:=(List.pairwise_cons.1 hs).1
  intro x hx
  change x∈(bif p.k.toList==k.toList then l else p::l)at hx
  cases e:(p.k.toList==k.toList)with
  |true=>rw[e]at hx;rw[← eqS_iff.1 e];exact hl x hx
  |false=>
   rw[e]at hx
   have hlt:ltS k p.k=true:=by
    rcases ltS_tri k p.k with t|t|t
    ·exact t
    ·rw[t,eqS_iff.2 rfl]at e;cases e
    ·rw[t]at hp;cases hp
   rcases List.mem_cons.1 hx with rfl|hx
   ·exact hlt
   ·exact ltS_trans hlt (hl x hx)
theorem mrg_step{Rs:List (List Pr)}{p:Pr}(hs:∀ l∈Rs,Sorted l)(h:leastH (Rs.map (·.head?))=some p):putAllB Rs []=p::putAllB (Rs.map (dropK p.k)) []:=by
 have hP:=leastH_P hs
 rw[h]at hP
 obtain⟨h1,h2⟩:=hP
 have hs2:∀ l∈Rs.map (dropK p.k),Sorted l:=fun l hl=>by
  obtain⟨l',hl',rfl⟩:=List.mem_map.1 hl
  exact dropK_sorted (hs l' hl')
 have hgt:∀ x∈putAllB (Rs.map (dropK p.k)) [],ltS p.k x.k=true:=fun x hx=>by
  rcases mem_putAllB hx with⟨l,hl,hx⟩|hx
  ·obtain⟨l',hl',rfl⟩:=List.mem_map.1 hl
   exact dropK_gt (hs l' hl') (h1 l' hl') x hx
  ·cases hx
 refine sorted_ext (putAllB_sorted Rs List.Pairwise.nil) (List.pairwise_cons.2 ⟨hgt,putAllB_sorted _ List.Pairwise.nil⟩) fun k=>?_
 rw[look_putAllB k [] hs,look_cons]
 cases e:(k.toList==p.k.toList)with
 |true=>rw[eqS_iff.1 e];exact h2
 |false=>
  have hne:k≠p.k:=fun e'=>by rw[e',eqS_iff.2 rfl]at e;cases e
  rw[if_neg (by simp),look_putAllB k [] hs2,lookB_map Rs _ (fun l _=>dropK_look hne)]
theorem mrg_end{Rs:List (List Pr)}(hs:∀ l∈Rs,Sorted l)(h:leastH (Rs.map (·.head?))=none):putAllB Rs []=[]:=by
 have hP:=leastH_P hs
 rw[h]at hP
 cases e:putAllB Rs []with
 |nil=>rfl
 |cons x l=>
  have hx:x∈putAllB Rs []:=by rw[e];exact List.mem_cons_self ..
  rcases mem_putAllB hx with⟨l',hl',hx⟩|hx
  ·rw[hP l' hl']at hx;cases hx
  ·cases hx
def tB(to:BA)(p:Pr):Bool:=(to.toList==(⟨#[]⟩:BA).toList)||ltS p.k to
theorem less_snoc0:∀ k q:List UInt8,Op.bytesLess q (k++[0])= !Op.bytesLess k q
 | [],[]=>rfl
 | [],x::q=>by
  simp[Op.bytesLess]
 |y::k,[]=>rfl
 |y::k,x::q=>by
  simp only[List.cons_append,Op.bytesLess,less_snoc0 k q]
  by_cases h:x=y
  ·subst h;simp
  ·have h':y≠x:=fun e=>h e.symm
   have e1:(x==y)=false:=by simpa using h
   have e2:(y==x)=false:=by simpa using h'
   rw[e1,e2]
   rcases UInt8.lt_or_lt_of_ne h with t|t
   ·have t':¬ y<x:=fun u=>UInt8.lt_irrefl _ (UInt8.lt_trans t u)
    simp[t,t']
   ·have t':¬ x<y:=fun u=>UInt8.lt_irrefl _ (UInt8.lt_trans t u)
    simp[t,t']
theorem ltS_snoc0(k q:BA):ltS q (k++⟨#[0]⟩)= !ltS k q:=by
 unfold ltS
 rw[show(k++(⟨#[0]⟩:BA)).toList=k.toList++[0]by simp[ByteArray.toList_eq,ByteArray.data_append],less_snoc0]
structure FitX(to:BA)(S xs R:List Pr):Prop where
 srt:Sorted S
 suf:∃ a,S.filter (tB to)=a++R
 pre:∃ b,R=xs++b
 nil:xs=[]→R=[]
theorem withB_eq(fr to:BA)(S:List Pr):S.filter (withB fr to)=(S.filter (tB to)).filter fun p=> !ltS p.k fr:=by
 rw[List.filter_filter];rfl
theorem sorted_filter{S:List Pr}(f:Pr→Bool)(h:Sorted S):Sorted (S.filter f):=List.Pairwise.filter f h
theorem FitX.R_sorted{to:BA}{S xs R:List Pr}(h:FitX to S xs R):Sorted R:=by
 obtain⟨a,ha⟩:=h.suf
 have:=sorted_filter (tB to) h.srt
 rw[ha]at this
 exact(List.pairwise_append.1 this).2.1
theorem FitX.head{to:BA}{S xs R:List Pr}(h:FitX to S xs R):xs.head? =R.head? :=by
 obtain⟨b,hb⟩:=h.pre
 cases xs with
 |nil=>rw[h.nil rfl]
 |cons p l=>rw[hb];rfl
theorem fit_start{fr to:BA}{S:List Pr}(h:Sorted S):FitX to S (scanR S fr to 4) (S.filter (withB fr to)):=by
 refine⟨h,?_,⟨(S.filter (withB fr to)).drop 4,(List.take_append_drop _ _).symm⟩,fun e=>?_⟩
 ·rw[withB_eq]
  have hs:=sorted_filter (tB to) h
  generalize S.filter (tB to)=T at hs ⊢
  refine⟨T.takeWhile fun p=>ltS p.k fr,?_⟩
  have:(T.filter fun p=> !ltS p.k fr)=T.dropWhile fun p=>ltS p.k fr:=by
   clear h
   induction T with
   |nil=>rfl
   |cons p l ih=>
    have hp:=List.pairwise_cons.1 hs
    rw[List.filter_cons,List.dropWhile_cons]
    cases e:ltS p.k fr with
    |true=>simpa using ih hp.2
    |false=>
     simp only[Bool.not_false,if_true,Bool.false_eq_true,if_false]
     congr 1
     rw[List.filter_eq_self]
     intro q hq
     cases e2:ltS q.k fr with
     |false=>rfl
     |true=>rw[ltS_trans (hp.1 q hq) e2]at e;cases e
  rw[this,List.takeWhile_append_dropWhile]
 ·unfold scanR at e
  rcases List.take_eq_nil_iff.1 e with e|e
  ·cases e
  ·exact e
theorem FitX.more{to:BA}{S R:List Pr}{p q:Pr}{l:List Pr}(h:FitX to S (p::q::l) R):FitX to S (q::l) (dropK p.k R):=by
 obtain⟨a,ha⟩:=h.suf
 obtain⟨b,rfl⟩:=h.pre
 have e:dropK p.k (p::q::l++b)=q::l++b:=by
  show(bif p.k.toList==p.k.toList then _ else _)=_
  rw[eqS_iff.2 rfl];rfl
 rw[e]
 exact⟨h.srt,⟨a++[p],by rw[ha];simp⟩,⟨b,rfl⟩,fun e=>by cases e⟩
theorem FitX.stay{to:BA}{S R:List Pr}{p:Pr}{l:List Pr}{k:BA}(h:FitX to S (p::l) R)(hk:(p.k.toList==k.toList)=false):FitX to S (p::l) (dropK k R):=by
 obtain⟨b,rfl⟩:=h.pre
 have e:dropK k (p::l++b)=p::l++b:=by
  show(bif p.k.toList==k.toList then _ else _)=_
  rw[hk];rfl
 rw[e];exact h
theorem FitX.none{to:BA}{S R:List Pr}{k:BA}(h:FitX to S [] R):FitX to S [] (dropK k R):=by
 rw[h.nil rfl]
 have:=h
 rw[h.nil rfl]at this
 exact this
theorem FitX.fill{to:BA}{S R:List Pr}{p:Pr}(h:FitX to S [p] R):FitX to S (scanR S (p.k++⟨#[0]⟩) to 4) (dropK p.k R):=by
 obtain⟨a,ha⟩:=h.suf
 obtain⟨b,rfl⟩:=h.pre
 have e:dropK p.k ([p]++b)=b:=by
  show(bif p.k.toList==p.k.toList then _ else _)=_
  rw[eqS_iff.2 rfl];rfl
 have hb:S.filter (withB (p.k++⟨#[0]⟩) to)=b:=by
  rw[withB_eq,ha]
  have hs:=sorted_filter (tB to) h.srt
  rw[ha]at hs
  obtain⟨_,h2,h3⟩:=List.pairwise_append.1 hs
  have hp:=List.pairwise_cons.1 h2
  simp only[ltS_snoc0,Bool.not_not,List.filter_append,List.filter_cons]
  have e1:(a.filter fun x=>ltS p.k x.k)=[]:=by
   rw[List.filter_eq_nil_iff]
   intro x hx
   rw[ltS_asymm (h3 x hx p (List.mem_cons_self ..))];simp
  have e2:(b.filter fun x=>ltS p.k x.k)=b:=by
   rw[List.filter_eq_self]
   exact fun x hx=>hp.1 x hx
  rw[e1,e2,ltS_irrefl];simp
 rw[e]
 have:=fit_start (fr:=p.k++⟨#[0]⟩) (to:=to) h.srt
 rw[hb]at this
 exact this
theorem leastC_H:∀ {cs:List Cu},(∀ i (h:i<cs.length),cs[i].yg=(i:Int))→∀ i,i≤cs.length→((leastC (cs.take i)).bind fun c=>c.xs.head?)=leastH ((cs.take i).map fun c=>c.xs.head?)∧(∀ b,leastC (cs.take i)=some b→b.xs≠[]∧b.yg<(i:Int))
 |cs,hy,0,_=>⟨rfl,fun b h=>by cases h⟩
 |cs,hy,i+1,hi=>by
  obtain⟨ih,ih2⟩:=leastC_H hy i (by omega)
  have h0:i<cs.length:=hi
  have e2:leastH ((cs.take (i+1)).map fun c=>c.xs.head?)=pickH (leastH ((cs.take i).map fun c=>c.xs.head?)) cs[i].xs.head? :=by
   unfold leastH
   rw[List.take_succ_eq_append_getElem h0,List.map_append,List.foldl_append];rfl
  have hyi:=hy i h0
  rw[e2,leastC_succ h0,← ih]
  generalize leastC (cs.take i)=best at ih ih2
  generalize cs[i]=c at hyi
  unfold pickC
  cases hx:c.xs with
  |nil=>
   refine⟨rfl,fun b h=>?_⟩
   obtain⟨h1,h2⟩:=ih2 b h
   exact⟨h1,by omega⟩
  |cons p l=>
   dsimp only
   cases best with
   |none=>
    refine⟨by simp[hx,pickH],fun b h=>?_⟩
    obtain rfl:=Option.some.inj h
    exact⟨by rw[hx];simp,by omega⟩
   |some b0=>
    obtain⟨h1,h2⟩:=ih2 b0 rfl
    dsimp only
    cases hx0:b0.xs with
    |nil=>exact absurd hx0 h1
    |cons q l0=>
     dsimp only
     have hd:decide (c.yg>b0.yg)=true:=decide_eq_true (by omega)
     rw[hd,Bool.and_true]
     have e3:(some b0).bind (fun c:Cu=>c.xs.head?)=some q:=by simp[hx0]
     rw[e3]
     show _=(bif ltS p.k q.k||(p.k.toList==q.k.toList)then some p else some q)∧_
     cases (ltS p.k q.k||(p.k.toList==q.k.toList))with
     |true=>
      refine⟨by simp[hx],fun b h=>?_⟩
      obtain rfl:=Option.some.inj h
      exact⟨by rw[hx];simp,by omega⟩
     |false=>
      refine⟨by simp[hx0],fun b h=>?_⟩
      obtain rfl:=Option.some.inj h
      exact⟨h1,by omega⟩
end Go.Proofs.YtgbmjoenbocfcaaGreat
namespace Go.Proofs.YtgbmjoenbocfcaaGreat
open Go Go.Fx Go.Proofs Go.Pl
set_option maxHeartbeats 8000000 in
theorem least_spec(m0:Nat)(lv:Value)(B:HProp)(cs:List Cu)(hB:Vw B 1 lv (cs.map fun c=>[.pointer (some ⟨c.cb,0,none⟩)]))(hz:cs.length≤1000)(hcs:∀ c∈cs,Vw c.A 3 c.v.1 (c.xs.map prV)):
  FSpec Tryz.prog 90 [.pointer (some ⟨m0,0,none⟩)] [pts m0 (.cells [lv].toArray 143),B,cusP cs] Unit (fun _=>True) (fun _=>cuPtr (leastC cs)) (fun _=>[pts m0 (.cells [lv].toArray 143),B,cusP cs]):=by
 have lm:(cs.map fun c=>[Value.pointer (some ⟨c.cb,0,none⟩)]).length=cs.length:=by simp
 refine spec_intro [] _ Tryz.func90 rfl Tryz.ntmps90 (by rfl) (fun w0 R=>?_)
 refine ok_learn (VwIn.slice (VwIn.there (VwIn.here hB))) ?_
 rintro⟨pa,ca,rfl⟩
 repeat'(first|(refine gY ?_;intros)|(refine hY ?_ ?_<;>intro hgd)|(refine jY ?_ ?_<;>intro _)|fail)
 refine ok_map (L':=[pts m0 (.cells [.slice pa (cs.map fun c=>[Value.pointer (some ⟨c.cb,0,none⟩)]).length ca].toArray 143),B,cusP cs]++R) entD ?_
 refine ok_loop' (γ:=Nat) (fun i ρ L=>i≤cs.length∧(∀ b,leastC (cs.take i)=some b→b∈cs∧b.xs≠[])∧Knows ρ [(2,cuPtr (leastC (cs.take i))),(8,.slice pa (cs.map fun c=>[Value.pointer (some ⟨c.cb,0,none⟩)]).length ca),(9,.int .i64 ((cs.map fun c=>[Value.pointer (some ⟨c.cb,0,none⟩)]).length:Int)),(10,.int .i64 (i:Int))]∧
   L=[pts m0 (.cells [.slice pa (cs.map fun c=>[Value.pointer (some ⟨c.cb,0,none⟩)]).length ca].toArray 143),B,cusP cs]++R) (fun i=>cs.length-i) 0 ⟨Nat.zero_le _,(fun b h=>(by cases h)),⟨rfl,rfl,rfl,rfl,trivial⟩,rfl⟩ ?_
 rintro i ρ L ⟨hi,hbm,hk,rfl⟩
 refine ok_regs hk ?_
 clear hk
 cases t1:decide ((i:Int)<((cs.map fun c=>[Value.pointer (some ⟨c.cb,0,none⟩)]).length:Int))with
 |false=>
  have hie:i=cs.length:=by have:=of_decide_eq_false t1;omega
  rw[show cs.take i=cs by rw[hie,List.take_length]]
  repeat'(first|(refine gY ?_;intros)|(refine hY ?_ ?_<;>intro hgd)|(refine jY ?_ ?_<;>intro _)|fail)
  (refine rt_Y (y:=()) (hrs:=Tryz.results90) (hv:=?_) (hφ:=?_))
  ·rfl
  ·trivial
 |true=>
  have h0:i<cs.length:=by have:=of_decide_eq_true t1;omega
  have hx:(cs.map fun c=>[Value.pointer (some ⟨c.cb,0,none⟩)])[i]? =some [.pointer (some ⟨cs[i].cb,0,none⟩)]:=by rw[List.getElem?_map,List.getElem?_eq_getElem h0];rfl
  have hn1:i<(cs.map fun c=>[Value.pointer (some ⟨c.cb,0,none⟩)]).length:=by omega
  have hcm:=List.getElem_mem h0
  have hst:=leastC_succ h0
  have hbm2:=pickC_mem hbm hcm
  rw[← hst]at hbm2
  generalize hci:cs[i]=c at hx hcm hst
  have hrd:=cus_rd hcm
  have hvw:=cus_vw hcm (hcs c hcm)
  refine ok_learn (VwIn.base (n:=1) (xs:=cs.map fun c=>[Value.pointer (some ⟨c.cb,0,none⟩)]) (VwIn.there (VwIn.here hB)) (by intro e;rw[e]at hn1;simp at hn1)) ?_
  rintro⟨bu,ou,rfl⟩
  generalize leastC (cs.take i)=best at hbm hst ⊢
  obtain⟨cb,iv,to,⟨v,hv⟩,yg,xs,Ac⟩:=c
  dsimp only[cuC]at hrd hvw hx
  refine ok_learn (VwIn.slice (VwIn.there (VwIn.there (VwIn.here hvw)))) ?_
  rintro⟨pc,cc,rfl⟩
  cases xs with
  |nil=>
   have hst2:leastC (cs.take (i+1))=best:=hst
   have f0:decide (((List.map prV ([]:List Pr)).length:Int)=0)=true:=rfl
   repeat'(first|(refine gY ?_;intros)|(refine hY ?_ ?_<;>intro hgd)|(refine jY ?_ ?_<;>intro _)|fail)
   refine cont_map (L':=[pts m0 (.cells [.slice (some ⟨bu,ou,none⟩) (cs.map fun c=>[Value.pointer (some ⟨c.cb,0,none⟩)]).length ca].toArray 143),B,cusP cs]++R) entD ?_
   exact cont_back (i+1) ⟨h0,hbm2,⟨by rw[hst2];rfl,rfl,rfl,rfl,trivial⟩,rfl⟩ (by omega)
  |cons p l=>
   obtain⟨pk,pv,pg⟩:=p
   have hl2:(((⟨pk,pv,pg⟩:Pr)::l).map prV).length=l.length+1:=by simp
   have hx1:(((⟨pk,pv,pg⟩:Pr)::l).map prV)[0]? =some [.string pk,.string pv,.bool pg]:=rfl
   generalize ((⟨pk,pv,pg⟩:Pr)::l).map prV=XS at hrd hvw hl2 hx1
   have f0:decide ((XS.length:Int)=0)=false:=decide_eq_false (by omega)
   have hn0:0<XS.length:=by omega
   refine ok_learn (VwIn.base (n:=3) (xs:=XS) (VwIn.there (VwIn.there (VwIn.here hvw))) (by intro e;rw[e]at hl2;simp at hl2)) ?_
   rintro⟨bd,od,rfl⟩
   cases best with
   |none=>
    have hst2:leastC (cs.take (i+1))=some ⟨cb,iv,to,⟨_,hv⟩,yg,⟨pk,pv,pg⟩::l,Ac⟩:=hst
    dsimp only[cuPtr,Option.map_none]
    repeat'(first|(refine gY ?_;intros)|(refine hY ?_ ?_<;>intro hgd)|(refine jY ?_ ?_<;>intro _)|fail)
    refine cont_map (L':=[pts m0 (.cells [.slice (some ⟨bu,ou,none⟩) (cs.map fun c=>[Value.pointer (some ⟨c.cb,0,none⟩)]).length ca].toArray 143),B,cusP cs]++R) entD ?_
    exact cont_back (i+1) ⟨h0,hbm2,⟨by rw[hst2];rfl,rfl,rfl,rfl,trivial⟩,rfl⟩ (by omega)
   |some c2=>
    obtain⟨hm2,hx2⟩:=hbm c2 rfl
    have hrd2:=cus_rd hm2
    have hvw2:=cus_vw hm2 (hcs c2 hm2)
    obtain⟨cb2,iv2,to2,⟨v2,hv2⟩,yg2,xs2,Ac2⟩:=c2
    dsimp only[cuC]at hrd2 hvw2 hx2
    cases xs2 with
    |nil=>exact absurd rfl hx2
    |cons q l2=>
     obtain⟨qk,qv,qg⟩:=q
     refine ok_learn (VwIn.slice (VwIn.there (VwIn.there (VwIn.here hvw2)))) ?_
     rintro⟨pc2,cc2,rfl⟩
     have hl3:(((⟨qk,qv,qg⟩:Pr)::l2).map prV).length=l2.length+1:=by simp
     have hx3:(((⟨qk,qv,qg⟩:Pr)::l2).map prV)[0]? =some [.string qk,.string qv,.bool qg]:=rfl
     generalize ((⟨qk,qv,qg⟩:Pr)::l2).map prV=XT at hrd2 hvw2 hl3 hx3 hv2 hst hm2 hbm
     have hn3:0<XT.length:=by omega
     refine ok_learn (VwIn.base (n:=3) (xs:=XT) (VwIn.there (VwIn.there (VwIn.here hvw2))) (by intro e;rw[e]at hl3;simp at hl3)) ?_
     rintro⟨be,oe,rfl⟩
     dsimp only[cuPtr,Option.map_some]
     cases u1:Op.bytesLess pk.toList qk.toList with
     |true=>
      have hst2:=hst.trans (show pickC _ _=some ⟨cb,iv,to,⟨_,hv⟩,yg,⟨pk,pv,pg⟩::l,Ac⟩by unfold pickC;dsimp only;rw[show ltS pk qk=true from u1,Bool.true_or,cond_true])
      repeat'(first|(refine gY ?_;intros)|(refine hY ?_ ?_<;>intro hgd)|(refine jY ?_ ?_<;>intro _)|fail)
      refine cont_map (L':=[pts m0 (.cells [.slice (some ⟨bu,ou,none⟩) (cs.map fun c=>[Value.pointer (some ⟨c.cb,0,none⟩)]).length ca].toArray 143),B,cusP cs]++R) entD ?_
      exact cont_back (i+1) ⟨h0,hbm2,⟨by rw[hst2];rfl,rfl,rfl,rfl,trivial⟩,rfl⟩ (by omega)
     |false=>
      have e1:ltS pk qk=false:=u1
      generalize u2:BEq.beq pk.toList qk.toList=w2
      cases w2 with
      |false=>
       have hst2:=hst.trans (show pickC _ _=some ⟨cb2,iv2,to2,⟨_,hv2⟩,yg2,⟨qk,qv,qg⟩::l2,Ac2⟩by unfold pickC;dsimp only;rw[e1,u2,Bool.false_and,Bool.or_false,cond_false])
       repeat'(first|(refine gY ?_;intros)|(refine hY ?_ ?_<;>intro hgd)|(refine jY ?_ ?_<;>intro _)|fail)
       refine cont_map (L':=[pts m0 (.cells [.slice (some ⟨bu,ou,none⟩) (cs.map fun c=>[Value.pointer (some ⟨c.cb,0,none⟩)]).length ca].toArray 143),B,cusP cs]++R) entD ?_
       exact cont_back (i+1) ⟨h0,hbm2,⟨by rw[hst2];rfl,rfl,rfl,rfl,trivial⟩,rfl⟩ (by omega)
      |true=>
       cases u3:decide (yg2<yg)with
       |true=>
        have u4:decide (yg>yg2)=true:=u3
        have hst2:=hst.trans (show pickC _ _=some ⟨cb,iv,to,⟨_,hv⟩,yg,⟨pk,pv,pg⟩::l,Ac⟩by unfold pickC;dsimp only;rw[e1,u2,u4,Bool.and_self,Bool.or_true,cond_true])
        repeat'(first|(refine gY ?_;intros)|(refine hY ?_ ?_<;>intro hgd)|(refine jY ?_ ?_<;>intro _)|fail)
        refine cont_map (L':=[pts m0 (.cells [.slice (some ⟨bu,ou,none⟩) (cs.map fun c=>[Value.pointer (some ⟨c.cb,0,none⟩)]).length ca].toArray 143),B,cusP cs]++R) entD ?_
        exact cont_back (i+1) ⟨h0,hbm2,⟨by rw[hst2];rfl,rfl,rfl,rfl,trivial⟩,rfl⟩ (by omega)
       |false=>
        have u4:decide (yg>yg2)=false:=u3
        have hst2:=hst.trans (show pickC _ _=some ⟨cb2,iv2,to2,⟨_,hv2⟩,yg2,⟨qk,qv,qg⟩::l2,Ac2⟩by unfold pickC;dsimp only;rw[e1,u2,u4,Bool.and_false,Bool.or_false,cond_false])
        repeat'(first|(refine gY ?_;intros)|(refine hY ?_ ?_<;>intro hgd)|(refine jY ?_ ?_<;>intro _)|fail)
        refine cont_map (L':=[pts m0 (.cells [.slice (some ⟨bu,ou,none⟩) (cs.map fun c=>[Value.pointer (some ⟨c.cb,0,none⟩)]).length ca].toArray 143),B,cusP cs]++R) entD ?_
        exact cont_back (i+1) ⟨h0,hbm2,⟨by rw[hst2];rfl,rfl,rfl,rfl,trivial⟩,rfl⟩ (by omega)
end Go.Proofs.YtgbmjoenbocfcaaGreat
