/- Texts merged: DkP DkQ. -/
import Derived.Test.YtgbmjoenbocfcaaGreatStr
set_option linter.unusedVariables false
namespace Go.Pl
open Go
abbrev BA:=ByteArray
abbrev FS:=List (BA×BA)
def fget(k:BA):FS→Option BA
 | []=>none
 |(b,v)::l=>if k=b then some v else fget k l
def fput(k v:BA):FS→FS
 | []=>[(k,v)]
 |(b,u)::l=>if k=b then(k,v)::l else(b,u)::fput k v l
def fdel(k:BA):FS→FS
 | []=>[]
 |(b,u)::l=>if k=b then l else(b,u)::fdel k l
def ftext(k:BA)(l:FS):BA:=(fget k l).getD ⟨#[]⟩
def fused(l:FS):Nat:=(l.map (fun x=>x.2.size)).sum
inductive Cl
 |app (name s:BA)
 |trunc (name:BA) (n:Int)
 |ren (a b:BA)
 |rem (a:BA)
def Cl.run:Cl→FS→FS
 | .app n s,l=>fput n (ftext n l++s) l
 | .trunc n k,l=>fput n ((ftext n l).extract 0 k.toNat) l
 | .ren a b,l=>fdel a (fput b (ftext a l) l)
 | .rem a,l=>fdel a l
def Cl.ok:Cl→FS→Prop
 | .app n s,l=>(ftext n l).size+s.size≤1099511627776
 | .trunc n k,l=>0≤k∧k≤((ftext n l).size:Int)
 |_,_=>True
def Cl.bytes:Cl→Nat
 | .app _ s=>s.size
 |_=>0
def play(l:FS)(cs:List Cl):FS:=cs.foldl (fun l c=>c.run l) l
def OkSeq:FS→List Cl→Prop
 |_,[]=>True
 |l,c::cs=>c.ok l∧OkSeq (c.run l) cs
structure Dk where
 files:FS
 sure:FS
 loose:List Cl
 room:Int
 fuse:Int
 still:Bool
def mayC(c:UInt8):Bool:= !((decide ((c.toNat:Int)<97)||decide ((122:Int)<c.toNat))&&(decide ((c.toNat:Int)<48)||decide ((57:Int)<c.toNat))&& !decide ((c.toNat:Int)=46)&& !decide ((c.toNat:Int)=45))
def mayN(s:BA):Bool:=s.data.toList.all mayC&&decide (1≤s.size)&&decide (s.size≤64)
def Dk.live(d:Dk)(names:List BA):Int:=if d.still then 20 else if names.any (fun s=> !mayN s)then 2 else 0
def Dk.has(d:Dk)(name:BA):Bool:=(fget name d.files).isSome
def Dk.burn(d:Dk):Dk×Int:=if d.fuse=0 then({d with still:=true},20)else({d with fuse:=if(-1:Int)>d.fuse-1 then -1 else d.fuse-1},0)
def Dk.doC(d:Dk)(c:Cl):Dk×Int:=if d.fuse=0 then({d with still:=true},20)else({d with fuse:=if(-1:Int)>d.fuse-1 then -1 else d.fuse-1,files:=c.run d.files,loose:=d.loose++[c]},0)
def Dk.append(d:Dk)(name s:BA):Dk×Int:=
 if d.live [name]≠0 then(d,d.live [name])else if(!(s.toList==[]))&&decide (d.room<(fused d.files:Int)+s.size)then(d,4)else d.doC (.app name s)
def Dk.truncate(d:Dk)(name:BA)(n:Int):Dk×Int:=
 if d.live [name]≠0 then(d,d.live [name])else if n<0 then(d,2)else if !d.has name then(d,3)else if n>(ftext name d.files).size then(d,2)else d.doC (.trunc name n)
def Dk.rename(d:Dk)(a b:BA):Dk×Int:=
 if d.live [a,b]≠0 then(d,d.live [a,b])else if a.toList==b.toList then(d,2)else if !d.has a then(d,3)else d.doC (.ren a b)
def Dk.remove(d:Dk)(a:BA):Dk×Int:=
 if d.live [a]≠0 then(d,d.live [a])else if !d.has a then(d,3)else d.doC (.rem a)
def Dk.settle(d:Dk):Dk:={d with sure:=d.files,loose:=[]}
def Dk.sync(d:Dk):Dk×Int:=if d.live []≠0 then(d,d.live [])else if d.fuse=0 then({d with still:=true},20)else(({d with fuse:=if(-1:Int)>d.fuse-1 then -1 else d.fuse-1}:Dk).settle,0)
def cut(s:BA)(off n:Int):BA:=
 let t:=s.extract (if(s.size:Int)<off then(s.size:Int)else off).toNat s.size
 t.extract 0 (if(t.size:Int)<n then(t.size:Int)else n).toNat
def Dk.read(d:Dk)(name:BA)(off n:Int):BA×Int:=
 if d.live [name]≠0 then(⟨#[]⟩,d.live [name])else if off<0∨n<0 then(⟨#[]⟩,2)else if !d.has name then(⟨#[]⟩,3)else(cut (ftext name d.files) off n,0)
def Dk.fuseTo(d:Dk)(n:Int):Dk:={d with fuse:=if(-1:Int)>n then -1 else n,still:=d.still&&decide (0≤n)}
def newD(room:Int):Dk:=⟨[],[],[],room, -1,false⟩
structure Dk.Ok(d:Dk):Prop where
 room0:0≤d.room
 roomM:d.room≤16777216
 fuse0: -1≤d.fuse
 fuseM:d.fuse≤9223372036854775807
 used:fused d.files≤16777216
 play:play d.sure d.loose=d.files
 seq:OkSeq d.sure d.loose
 nd:(d.files.map (·.1)).Nodup
 nds:(d.sure.map (·.1)).Nodup
 few:∀ k,fused (Pl.play d.sure (d.loose.take k))≤16777216
theorem fget_none{k:BA}:∀ {l:FS},fget k l=none→k∉l.map (·.1)
 | [],_=>by simp
 |(b,v)::l,h=>by
  unfold fget at h
  split at h
  ·cases h
  ·rename_i hk
   simp only[List.map_cons,List.mem_cons,not_or]
   exact⟨hk,fget_none h⟩
theorem fused_put(k v:BA):∀ l:FS,fused (fput k v l)+(ftext k l).size=fused l+v.size
 | []=>by simp[fput,fused,ftext,fget];rfl
 |(b,u)::l=>by
  have ih:=fused_put k v l
  unfold fput
  by_cases h:k=b
  ·simp only[h,if_true,fused,List.map_cons,List.sum_cons,ftext,fget,Option.getD_some];omega
  ·simp only[h,if_false,fused,List.map_cons,List.sum_cons,ftext,fget]at ih ⊢;omega
theorem fused_del(k:BA):∀ l:FS,fused (fdel k l)+(ftext k l).size=fused l
 | []=>rfl
 |(b,u)::l=>by
  have ih:=fused_del k l
  unfold fdel
  by_cases h:k=b
  ·simp only[h,if_true,fused,List.map_cons,List.sum_cons,ftext,fget,Option.getD_some];omega
  ·simp only[h,if_false,fused,List.map_cons,List.sum_cons,ftext,fget]at ih ⊢;omega
theorem ftext_le(k:BA)(l:FS):(ftext k l).size≤fused l:=by have:=fused_del k l;omega
theorem fget_put(k v j:BA):∀ l:FS,fget j (fput k v l)=if j=k then some v else fget j l
 | []=>by
  simp only[fput,fget]
 |(b,u)::l=>by
  unfold fput
  by_cases h:k=b
  ·subst h
   simp only[if_true,fget]
   by_cases hj:j=k<;>simp[hj]
  ·simp only[h,if_false,fget]
   by_cases hj:j=b
   ·subst hj
    simp[Ne.symm h]
   ·simp[hj,fget_put k v j l]
theorem fput_keys(k v:BA):∀ l:FS,∀ x∈(fput k v l).map (·.1),x=k∨x∈l.map (·.1)
 | [],x,h=>by simp[fput]at h;exact .inl h
 |(b,u)::l,x,h=>by
  unfold fput at h
  split at h
  ·simp only[List.map_cons,List.mem_cons]at h ⊢
   rcases h with h|h
   ·exact .inl h
   ·exact .inr (.inr h)
  ·simp only[List.map_cons,List.mem_cons]at h ⊢
   rcases h with h|h
   ·exact .inr (.inl h)
   ·rcases fput_keys k v l x h with h|h
    ·exact .inl h
    ·exact .inr (.inr h)
theorem fput_nodup(k v:BA):∀ {l:FS},(l.map (·.1)).Nodup→((fput k v l).map (·.1)).Nodup
 | [],_=>by simp[fput]
 |(b,u)::l,h=>by
  simp only[List.map_cons,List.nodup_cons]at h
  unfold fput
  split
  ·rename_i hk;subst hk;simpa using h
  ·rename_i hk
   simp only[List.map_cons,List.nodup_cons]
   refine⟨fun hb=>?_,fput_nodup k v h.2⟩
   rcases fput_keys k v l b hb with e|e
   ·exact hk e.symm
   ·exact h.1 e
theorem fdel_sub(k:BA):∀ l:FS,∀ x∈(fdel k l).map (·.1),x∈l.map (·.1)
 | [],x,h=>h
 |(b,u)::l,x,h=>by
  unfold fdel at h
  split at h
  ·simp only[List.map_cons,List.mem_cons];exact .inr h
  ·simp only[List.map_cons,List.mem_cons]at h ⊢
   exact h.imp id (fdel_sub k l x)
theorem fdel_nodup(k:BA):∀ {l:FS},(l.map (·.1)).Nodup→((fdel k l).map (·.1)).Nodup
 | [],h=>h
 |(b,u)::l,h=>by
  simp only[List.map_cons,List.nodup_cons]at h
  unfold fdel
  split
  ·exact h.2
  ·simp only[List.map_cons,List.nodup_cons]
   exact⟨fun hb=>h.1 (fdel_sub k l b hb),fdel_nodup k h.2⟩
theorem Cl.nodup(c:Cl){l:FS}(h:(l.map (·.1)).Nodup):((c.run l).map (·.1)).Nodup:=by
 cases c with
 |app n s=>exact fput_nodup _ _ h
 |trunc n k=>exact fput_nodup _ _ h
 |ren a b=>exact fdel_nodup _ (fput_nodup _ _ h)
 |rem a=>exact fdel_nodup _ h
theorem play_snoc(l:FS)(cs:List Cl)(c:Cl):play l (cs++[c])=c.run (play l cs):=by simp[play]
theorem okSeq_snoc:∀ {cs:List Cl} {l:FS} {c:Cl},OkSeq l cs→c.ok (play l cs)→OkSeq l (cs++[c])
 | [],_,_,_,h=>⟨h,trivial⟩
 |d::cs,l,c,h,k=>⟨h.1,okSeq_snoc h.2 k⟩
theorem okSeq_at:∀ {cs:List Cl} {l:FS} (k:Nat) {c:Cl},OkSeq l cs→cs[k]? =some c→c.ok (play l (cs.take k))
 | [],_,k,_,_,h=>by simp at h
 |d::cs,l,0,c,h,e=>by simp at e;subst e;exact h.1
 |d::cs,l,k+1,c,h,e=>okSeq_at k h.2 (by simpa using e)
theorem Dk.Ok.new{room:Int}(h0:0≤room)(h1:room≤16777216):(newD room).Ok where
 room0:=h0
 roomM:=h1
 fuse0:=by simp[newD]
 fuseM:=by simp[newD]
 used:=by simp[newD,fused]
 play:=rfl
 seq:=trivial
 nd:=by simp[newD]
 nds:=by simp[newD]
 few k:=by simp[newD,Pl.play,fused]
theorem Dk.Ok.doC{d:Dk}(h:d.Ok){c:Cl}(hc:c.ok d.files)(hu:fused (c.run d.files)≤16777216):(d.doC c).1.Ok:=by
 unfold Dk.doC
 split
 ·exact {h with}
 ·refine {room0:=h.room0,roomM:=h.roomM,fuse0:=?_,fuseM:=?_,used:=hu,play:=?_,seq:=?_,nd:=c.nodup h.nd,nds:=h.nds,few:=?_}
  ·show -1≤(if(-1:Int)>d.fuse-1 then -1 else d.fuse-1)
   split<;>omega
  ·have:=h.fuseM
   show(if(-1:Int)>d.fuse-1 then -1 else d.fuse-1)≤9223372036854775807
   split<;>omega
  ·show Pl.play d.sure (d.loose++[c])=c.run d.files
   rw[play_snoc,h.play]
  ·exact okSeq_snoc h.seq (by rw[h.play];exact hc)
  ·intro k
   rcases Nat.lt_or_ge d.loose.length k with hk|hk
   ·show fused (Pl.play d.sure ((d.loose++[c]).take k))≤_
    rw[List.take_of_length_le (by simp;omega),play_snoc,h.play];exact hu
   ·show fused (Pl.play d.sure ((d.loose++[c]).take k))≤_
    rw[List.take_append_of_le_length hk];exact h.few k
theorem Dk.Ok.append{d:Dk}(h:d.Ok){name s:BA}(hs:s.size≤549755813888):(d.append name s).1.Ok:=by
 unfold Dk.append
 split
 ·exact h
 ·split
  ·exact h
  ·rename_i h1 h2
   have ht:=ftext_le name d.files
   have hp:=fused_put name (ftext name d.files++s) d.files
   have hz:(ftext name d.files++s).size=(ftext name d.files).size+s.size:=ByteArray.size_append
   have hu:=h.used
   refine h.doC (by show(ftext name d.files).size+s.size≤_;omega) ?_
   show fused (fput name (ftext name d.files++s) d.files)≤_
   rw[hz]at hp
   have hr:=h.roomM
   simp only[Bool.and_eq_true,decide_eq_true_eq,not_and,Bool.not_eq_true',beq_eq_false_iff_ne]at h2
   by_cases he:s.toList=[]
   ·have:s.size=0:=by
     have h3:=congrArg List.length he
     rw[ByteArray.toList_eq]at h3
     simpa using h3
    omega
   ·have:=h2 he
    omega
theorem size_cut(s:BA)(k:Nat)(h:k≤s.size):(s.extract 0 k).size=k:=by
 rw[ByteArray.size_extract];omega
theorem Dk.Ok.truncate{d:Dk}(h:d.Ok){name:BA}{n:Int}:(d.truncate name n).1.Ok:=by
 unfold Dk.truncate
 split
 ·exact h
 ·split
  ·exact h
  ·split
   ·exact h
   ·split
    ·exact h
    ·rename_i h1 h2 h3 h4
     have hp:=fused_put name ((ftext name d.files).extract 0 n.toNat) d.files
     have hz:=size_cut (ftext name d.files) n.toNat (by omega)
     have hu:=h.used
     refine h.doC ⟨by omega,by omega⟩ ?_
     show fused (fput name ((ftext name d.files).extract 0 n.toNat) d.files)≤_
     omega
theorem Dk.Ok.rename{d:Dk}(h:d.Ok){a b:BA}:(d.rename a b).1.Ok:=by
 unfold Dk.rename
 split
 ·exact h
 ·split
  ·exact h
  ·split
   ·exact h
   ·rename_i h1 h2 h3
    have hne:a≠b:=fun e=>h2 (eqS_iff.2 e)
    have hp:=fused_put b (ftext a d.files) d.files
    have hd:=fused_del a (fput b (ftext a d.files) d.files)
    have ht:ftext a (fput b (ftext a d.files) d.files)=ftext a d.files:=by
     show(fget a (fput b (ftext a d.files) d.files)).getD _=_
     rw[fget_put,if_neg hne];rfl
    rw[ht]at hd
    have hu:=h.used
    refine h.doC trivial ?_
    show fused (fdel a (fput b (ftext a d.files) d.files))≤_
    omega
theorem Dk.Ok.remove{d:Dk}(h:d.Ok){a:BA}:(d.remove a).1.Ok:=by
 unfold Dk.remove
 split
 ·exact h
 ·split
  ·exact h
  ·have hd:=fused_del a d.files
   have hu:=h.used
   refine h.doC trivial ?_
   show fused (fdel a d.files)≤_
   omega
theorem Dk.Ok.settle{d:Dk}(h:d.Ok):d.settle.Ok:=
 {room0:=h.room0,roomM:=h.roomM,fuse0:=h.fuse0,fuseM:=h.fuseM,used:=h.used,play:=rfl,seq:=trivial,nd:=h.nd,nds:=h.nd,few:=fun k=>by simpa [Dk.settle,Pl.play]using h.used}
theorem Dk.Ok.sync{d:Dk}(h:d.Ok):d.sync.1.Ok:=by
 unfold Dk.sync
 split
 ·exact h
 ·split
  ·exact {h with}
  ·refine Dk.Ok.settle {h with fuse0:=?_,fuseM:=?_}
   ·show -1≤(if(-1:Int)>d.fuse-1 then -1 else d.fuse-1)
    split<;>omega
   ·have:=h.fuseM
    show(if(-1:Int)>d.fuse-1 then -1 else d.fuse-1)≤9223372036854775807
    split<;>omega
theorem Dk.Ok.fuseTo{d:Dk}(h:d.Ok){n:Int}(hn:n≤9223372036854775807):(d.fuseTo n).Ok:=
 {
  h with
  fuse0:=by show -1≤(if(-1:Int)>n then -1 else n);split<;>omega
  fuseM:=by show(if(-1:Int)>n then -1 else n)≤9223372036854775807;split<;>omega}
end Go.Pl
namespace Go.Pl
open Go
def Dk.keptI(d:Dk)(keep:Int):Int:=if(d.loose.length:Int)<(if(0:Int)>keep then 0 else keep)then(d.loose.length:Int)else(if(0:Int)>keep then 0 else keep)
def Dk.kept(d:Dk)(keep:Int):Nat:=(d.keptI keep).toNat
def Cl.piece:Cl→Int→Option Cl
 | .app n s,torn=>if 0<torn then some (.app n (s.extract 0 (if(s.size:Int)<torn then(s.size:Int)else torn).toNat))else none
 |_,_=>none
def runO(c:Option Cl)(l:FS):FS:=match c with|some c=>c.run l|none=>l
def Dk.torn(d:Dk)(k:Nat)(torn:Int):FS:=runO (d.loose[k]?.bind (·.piece torn)) (play d.sure (d.loose.take k))
def Dk.crash(d:Dk)(keep torn:Int):Dk:={d with files:=d.torn (d.kept keep) torn,sure:=d.torn (d.kept keep) torn,loose:=[],fuse:= -1,still:=false}
theorem kept_le(d:Dk)(keep:Int):d.kept keep≤d.loose.length∧d.keptI keep=(d.kept keep:Int):=by
 unfold Dk.kept Dk.keptI
 split<;>split<;>omega
theorem play_take_succ{l:FS}{cs:List Cl}{k:Nat}{c:Cl}(h:cs[k]? =some c):play l (cs.take (k+1))=c.run (play l (cs.take k)):=by
 rw[List.take_add_one,h]
 show play l (cs.take k++[c])=_
 rw[play_snoc]
def keptV(n:Nat)(keep:Int):Int:=if(n:Int)<(if(0:Int)>keep then 0 else keep)then(n:Int)else(if(0:Int)>keep then 0 else keep)
theorem keptI_eq(d:Dk)(keep:Int):d.keptI keep=keptV d.loose.length keep:=rfl
theorem play_nodup:∀ (cs:List Cl) {l:FS},(l.map (·.1)).Nodup→((play l cs).map (·.1)).Nodup
 | [],_,h=>h
 |c::cs,_,h=>play_nodup cs (c.nodup h)
theorem runO_nodup(c:Option Cl){l:FS}(h:(l.map (·.1)).Nodup):((runO c l).map (·.1)).Nodup:=by
 cases c with
 |none=>exact h
 |some c=>exact c.nodup h
theorem torn_used{d:Dk}(h:d.Ok)(k:Nat)(t:Int):fused (d.torn k t)≤16777216:=by
 unfold Dk.torn
 cases hc:d.loose[k]? with
 |none=>exact h.few k
 |some c=>
  have hs:=play_take_succ (l:=d.sure) hc
  have hf:=h.few (k+1)
  rw[hs]at hf
  have h0:=h.few k
  cases c with
  |app n s=>
   by_cases ht:0<t
   ·have e:(some (Cl.app n s)).bind (·.piece t)=some (.app n (s.extract 0 (if(s.size:Int)<t then(s.size:Int)else t).toNat)):=by simp[Cl.piece,ht]
    rw[e]
    show fused (fput n _ _)≤_
    have h1:=fused_put n (ftext n (play d.sure (d.loose.take k))++s.extract 0 (if(s.size:Int)<t then(s.size:Int)else t).toNat) (play d.sure (d.loose.take k))
    have h2:=fused_put n (ftext n (play d.sure (d.loose.take k))++s) (play d.sure (d.loose.take k))
    have hf':fused (fput n (ftext n (play d.sure (d.loose.take k))++s) (play d.sure (d.loose.take k)))≤16777216:=hf
    rw[ByteArray.size_append]at h1 h2
    have h3:(s.extract 0 (if(s.size:Int)<t then(s.size:Int)else t).toNat).size≤s.size:=by rw[ByteArray.size_extract];omega
    omega
   ·have e:(some (Cl.app n s)).bind (·.piece t)=none:=by simp[Cl.piece,ht]
    rw[e];exact h0
  |trunc n s=>exact h0
  |ren n s=>exact h0
  |rem n=>exact h0
theorem Dk.Ok.crash{d:Dk}(h:d.Ok)(keep torn:Int):(d.crash keep torn).Ok:=
 {
  room0:=h.room0,roomM:=h.roomM,fuse0:=by simp[Dk.crash],fuseM:=by simp[Dk.crash],used:=torn_used h _ _,play:=rfl,seq:=trivial,
  nd:=runO_nodup _ (play_nodup _ h.nds),nds:=runO_nodup _ (play_nodup _ h.nds),few:=fun k=>by simpa [Dk.crash,Pl.play]using torn_used h (d.kept keep) torn}
def sA:BA:=⟨#[97]⟩
def sB:BA:=⟨#[98]⟩
def D0:Dk:=newD 100
def D1:Dk:=(D0.append ⟨#[97]⟩ ⟨#[120,121]⟩).1
def D2:Dk:=D1.sync.1
def D3:Dk:=(D2.append ⟨#[97]⟩ ⟨#[122,119]⟩).1
def D4:Dk:=(D3.rename ⟨#[97]⟩ ⟨#[98]⟩).1
def D5:Dk:=D4.crash 0 1
def D6:Dk:=D5.fuseTo 1
def D7:Dk:=(D6.append ⟨#[97]⟩ ⟨#[120]⟩).1
def D8:Dk:=D7.sync.1
structure St where
 op:Int
 name:ByteArray
 text:ByteArray
 n:Int
 m:Int
def stV(x:St):List Value:=[.int .i64 x.op,.string x.name,.string x.text,.int .i64 x.n,.int .i64 x.m]
def chg(x:St):Bool:=decide (1≤x.op)&&decide (x.op≤4)
end Go.Pl
