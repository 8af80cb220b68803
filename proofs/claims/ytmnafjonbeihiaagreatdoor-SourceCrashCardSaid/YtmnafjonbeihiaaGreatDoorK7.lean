/- Texts merged: G18 CmQ. -/
import Derived.Test.YtmnafjonbeihiaaGreatDoorK5
import Derived.Test.YtmnafjonbeihiaaGreatDoorK0
import Derived.Test.YtmnafjonbeihiaaGreatDoorG17
import Derived.Test.YtmnafjonbeihiaaGreatDoorK6
import Derived.Test.YtmnafjonbeihiaaGreatDoorG23
/- Texts merged: WlP WlQ WlA WlB. -/
set_option linter.unusedVariables false
namespace Go.Proofs.YtmnafjonbeihiaaGreatDoor
open Go Go.Fx Go.Pl
structure Wv where
 n:Int
 size:Int
 fault:Int
def openT(d:Dk)(nm:BA):Dk×Int:=if(scanOf (d.read nm 0 16777216).1).2.2=70 then d.truncate nm ((scanOf (d.read nm 0 16777216).1).2.1:Int)else(d,0)
def openS(d:Dk):Dk×Int:=if 0<d.loose.length then d.sync else(d,0)
def openW(d:Dk)(nm:BA):Dk×Int×List BA×Nat:=
 if(d.read nm 0 16777216).2≠0∧(d.read nm 0 16777216).2≠3 then(d,(d.read nm 0 16777216).2,[],0)else
 if(scanOf (d.read nm 0 16777216).1).2.2=71 then(d,71,[],0)else
 if(openT d nm).2≠0 then((openT d nm).1,(openT d nm).2,[],0)else
 if(openS (openT d nm).1).2≠0 then((openS (openT d nm).1).1,(openS (openT d nm).1).2,[],0)else
 ((openS (openT d nm).1).1,0,(scanOf (d.read nm 0 16777216).1).1,(scanOf (d.read nm 0 16777216).1).2.1)
def Wv.down(w:Wv)(e:Int):Wv:=if e≠0∧e≠4 then {w with fault:=e}else w
def appendW(w:Wv)(d:Dk)(nm:BA)(l:List BA):Wv×Dk×Int:=
 if w.fault≠0 then(w,d,w.fault)else
 if allOk l=false then(w,d,5)else
 if l.length=0 then(w,d,0)else
 if(d.append nm (framesOf l)).2≠0 then(w.down (d.append nm (framesOf l)).2,(d.append nm (framesOf l)).1,(d.append nm (framesOf l)).2)else
 if(d.append nm (framesOf l)).1.sync.2≠0 then(w.down (d.append nm (framesOf l)).1.sync.2,(d.append nm (framesOf l)).1.sync.1,(d.append nm (framesOf l)).1.sync.2)else
 (⟨w.n+l.length,w.size+lenT l,w.fault⟩,(d.append nm (framesOf l)).1.sync.1,0)
def rem3(d:Dk)(nm:BA):Int:=if(d.remove nm).2=3 then 0 else(d.remove nm).2
def remS(d:Dk)(nm:BA):Dk×Int:=if(d.remove nm).2=3 then((d.remove nm).1,0)else(d.remove nm).1.sync
def resetW(w:Wv)(d:Dk)(nm:BA):Wv×Dk×Int:=
 if w.fault≠0 then(w,d,w.fault)else
 if rem3 d nm≠0 then(w.down (rem3 d nm),(d.remove nm).1,rem3 d nm)else
 if(remS d nm).2≠0 then(w.down (remS d nm).2,(remS d nm).1,(remS d nm).2)else
 (⟨0,0,w.fault⟩,(remS d nm).1,0)
def nW:BA:=⟨#[119]⟩
theorem ext_ext(a:BA){k i j:Nat}(h:j≤k):(a.extract 0 k).extract i j=a.extract i j:=by
 apply bl_inj
 rw[bl_ext,bl_ext,bl_ext,List.drop_zero,Nat.sub_zero,List.drop_take,List.take_take]
 congr 1
 omega
theorem ext_app(a b:BA)(m:Nat):(a++b).extract 0 (a.size+m)=a++b.extract 0 m:=by
 apply bl_inj
 rw[bl_ext,bl_app,bl_app,bl_ext,List.drop_zero,List.drop_zero,Nat.sub_zero,Nat.sub_zero,← bl_len,List.take_append,List.take_of_length_le (by omega)]
 congr 2
 omega
theorem ext_zero(a:BA):a.extract 0 0=⟨#[]⟩:=by
 apply bl_inj
 rw[bl_ext]
 simp[bl]
theorem ext_all(a:BA):a.extract 0 a.size=a:=by
 apply bl_inj
 rw[bl_ext,List.drop_zero,Nat.sub_zero,List.take_of_length_le (by rw[bl_len];exact Nat.le_refl _)]
theorem ba_size0{b:BA}(h:b.size=0):b=⟨#[]⟩:=by
 apply bl_inj
 have:=bl_len b
 rw[h]at this
 rw[List.length_eq_zero_iff.1 this];rfl
theorem nextF_cut(s t:BA)(hs:s.size≤4194304){k:Nat}(hk:k<12+s.size):(nextF ((frameOf s++t).extract 0 k)).2=70:=by
 obtain⟨p1,p2,_,_,_⟩:=frameOf_parts s t
 have g1:=put4_get s.size (by omega)
 have g2:=put4_get (sumN (put4 s.size)) (sumN_eq _).2
 have hz:(frameOf s++t).size=12+s.size+t.size:=by rw[ByteArray.size_append,frameOf_size]
 have hc:((frameOf s++t).extract 0 k).size=k:=by rw[ByteArray.size_extract];omega
 unfold nextF
 by_cases h8:k<8
 ·rw[if_pos (by omega)]
 ·rw[if_neg (by omega),ext_ext _ (by omega),ext_ext _ (by omega),p1,p2,g1,g2,(sumN_eq (put4 s.size)).1,if_neg (by simp;omega),hc,if_pos (by omega)]
theorem scan_70{b:BA}(h0:b.size≠0)(h:(nextF b).2=70):scanOf b=([],0,70):=by
 unfold scanOf
 obtain⟨k,hk⟩:∃ k,b.size=k+1:=⟨b.size-1,by omega⟩
 rw[hk]
 unfold scanF
 rw[if_neg h0,if_pos (by rw[h];decide),h]
theorem scan_cut:∀ (l:List BA),allOk l=true→∀ k,∃ j,(scanOf ((framesOf l).extract 0 k)).1=l.take j∧(scanOf ((framesOf l).extract 0 k)).2.1=lenT (l.take j)∧
  ((scanOf ((framesOf l).extract 0 k)).2.2=0∧(framesOf l).extract 0 k=framesOf (l.take j)∨(scanOf ((framesOf l).extract 0 k)).2.2=70)∧((framesOf l).extract 0 k).extract 0 (lenT (l.take j))=framesOf (l.take j)
 | [],_,k=>by
  have e:(framesOf []).extract 0 k=⟨#[]⟩:=by
   apply ba_size0;rw[ByteArray.size_extract];show min k 0-0=0;omega
  rw[e,scanOf_nil]
  exact⟨0,rfl,rfl,.inl ⟨rfl,rfl⟩,rfl⟩
 |s::l,h,k=>by
  simp only[allOk,List.all_cons,Bool.and_eq_true,decide_eq_true_eq]at h
  have ef:framesOf (s::l)=frameOf s++framesOf l:=rfl
  have hz:(frameOf s++framesOf l).size=12+s.size+(framesOf l).size:=by rw[ByteArray.size_append,frameOf_size]
  rw[ef]
  rcases Nat.lt_or_ge k (12+s.size)with hk|hk
  ·by_cases h0:k=0
   ·subst h0
    rw[ext_zero,scanOf_nil]
    exact⟨0,rfl,rfl,.inl ⟨rfl,rfl⟩,rfl⟩
   ·have hn:=nextF_cut s (framesOf l) h.1 hk
    rw[scan_70 (by rw[ByteArray.size_extract];omega) hn]
    exact⟨0,rfl,rfl,.inr rfl,ext_zero _⟩
  ·obtain⟨m,rfl⟩:∃ m,k=(frameOf s).size+m:=⟨k-(12+s.size),by rw[frameOf_size];omega⟩
   rw[ext_app,scanOf_frame _ _ h.1]
   obtain⟨j,h1,h2,h3,h4⟩:=scan_cut l h.2 m
   refine⟨j+1,by rw[h1];rfl,?_,?_,?_⟩
   ·rw[h2];simp[lenT]
   ·rcases h3 with⟨h3,h5⟩|h3
    ·exact .inl ⟨h3,by rw[h5];rfl⟩
    ·exact .inr h3
   ·have e:lenT ((s::l).take (j+1))=(frameOf s).size+lenT (l.take j):=by rw[frameOf_size];simp[lenT]
    rw[e,ext_app,h4];rfl
theorem allOk_app{a b:List BA}:allOk (a++b)=(allOk a&&allOk b):=by simp[allOk]
theorem allOk_take{a:List BA}(h:allOk a=true)(k:Nat):allOk (a.take k)=true:=by
 simp only[allOk,List.all_eq_true]at h ⊢
 exact fun x hx=>h x (List.mem_of_mem_take hx)
theorem lenT_app(a b:List BA):lenT (a++b)=lenT a+lenT b:=by simp[lenT]
theorem scan_text(h l:List BA)(hh:allOk h=true)(hl:allOk l=true)(k:Nat):∃ j e,scanOf (framesOf h++(framesOf l).extract 0 k)=(h++l.take j,lenT (h++l.take j),e)∧
  (e=0∧framesOf h++(framesOf l).extract 0 k=framesOf (h++l.take j)∨e=70)∧(framesOf h++(framesOf l).extract 0 k).extract 0 (lenT (h++l.take j))=framesOf (h++l.take j)∧lenT (h++l.take j)≤(framesOf h++(framesOf l).extract 0 k).size:=by
 obtain⟨j,h1,h2,h3,h4⟩:=scan_cut l hl k
 refine⟨j,(scanOf ((framesOf l).extract 0 k)).2.2,?_,?_,?_,?_⟩
 ·rw[scanOf_frames _ h hh,h1,h2,lenT_app]
 ·rcases h3 with⟨h3,h5⟩|h3
  ·exact .inl ⟨h3,by rw[h5,framesOf_append]⟩
  ·exact .inr h3
 ·rw[lenT_app,← framesOf_size h,ext_app,h4,framesOf_append]
 ·have hs:=scanF_len (framesOf h++(framesOf l).extract 0 k).size (framesOf h++(framesOf l).extract 0 k)
  have e:scanF (framesOf h++(framesOf l).extract 0 k).size (framesOf h++(framesOf l).extract 0 k)=scanOf (framesOf h++(framesOf l).extract 0 k):=rfl
  rw[e,scanOf_frames _ h hh,h1,h2]at hs
  rw[lenT_app];exact hs.2
theorem ftext_put(k v j:BA)(l:FS):ftext j (fput k v l)=if j=k then v else ftext j l:=by
 unfold ftext;rw[fget_put];split<;>rfl
theorem has_false{d:Dk}{n:BA}(h:d.has n=false):ftext n d.files=⟨#[]⟩:=by
 unfold Dk.has at h;unfold ftext
 cases hg:fget n d.files with
 |none=>rfl
 |some _=>rw[hg]at h;cases h
structure WGood(d:Dk)(w:Wv)(h:List BA):Prop where
 ok:d.Ok
 okh:allOk h=true
 loose:d.loose=[]
 txt:ftext nW d.files=framesOf h
 wv:w=⟨h.length,lenT h,0⟩
structure WInv(d:Dk)(h m:List BA)(rs:Bool):Prop where
 ok:d.Ok
 okh:allOk h=true
 okm:allOk m=true
 few:d.loose.length≤1
 cr:∀ keep torn,(∃ k,ftext nW (d.crash keep torn).files=framesOf h++(framesOf m).extract 0 k)∨(rs=true∧ftext nW (d.crash keep torn).files=⟨#[]⟩)
theorem torn_none{d:Dk}(hl:d.loose=[])(k:Nat)(t:Int):d.torn k t=d.sure:=by
 unfold Dk.torn
 rw[hl]
 simp[runO,play]
theorem ext_left0(h m:List BA):framesOf h=framesOf h++(framesOf m).extract 0 0:=by rw[ext_zero,ba_nil]
theorem WGood.inv{d:Dk}{w:Wv}{h:List BA}(g:WGood d w h)(m:List BA)(hm:allOk m=true)(rs:Bool):WInv d h m rs where
 ok:=g.ok
 okh:=g.okh
 okm:=hm
 few:=by rw[g.loose];simp
 cr keep torn:=by
  left
  refine⟨0,?_⟩
  show ftext nW (d.torn (d.kept keep) torn)=_
  have hs:d.sure=d.files:=by have:=g.ok.play;rw[g.loose]at this;exact this
  rw[torn_none g.loose,hs,g.txt]
  exact ext_left0 h m
theorem WInv.still{d:Dk}{h m:List BA}{rs:Bool}(g:WInv d h m rs):WInv {d with still:=true} h m rs:=
 ⟨{g.ok with},g.okh,g.okm,g.few,g.cr⟩
theorem doC_eq(d:Dk)(c:Cl)(h:d.fuse≠0):d.doC c=({d with fuse:=if(-1:Int)>d.fuse-1 then -1 else d.fuse-1,files:=c.run d.files,loose:=d.loose++[c]},0):=by
 unfold Dk.doC;rw[if_neg h]
theorem doC_0(d:Dk)(c:Cl)(h:d.fuse=0):d.doC c=({d with still:=true},20):=by
 unfold Dk.doC;rw[if_pos h]
theorem sync_cases(d:Dk):(d.sync.2=20∧(d.sync.1=d∨d.sync.1={d with still:=true}))∨(d.sync.2=0∧d.sync.1.loose=[]∧d.sync.1.files=d.files∧d.sync.1.still=d.still):=by
 unfold Dk.sync
 rw[live0 d]
 cases hst:d.still with
 |true=>simp only[if_true];rw[if_pos (by decide)];exact .inl ⟨rfl,.inl rfl⟩
 |false=>
  simp only[Bool.false_eq_true,if_false,ne_eq,not_true_eq_false]
  split
  ·exact .inl ⟨rfl,.inr rfl⟩
  ·exact .inr ⟨rfl,rfl,rfl,rfl⟩
theorem WInv.synced{d:Dk}{h m:List BA}{rs:Bool}(g:WInv d h m rs)(h20:d.sync.2=20):WInv d.sync.1 h m rs:=by
 rcases sync_cases d with⟨_,e|e⟩|⟨e,_⟩
 ·rw[e];exact g
 ·rw[e];exact g.still
 ·rw[e]at h20;cases h20
end Go.Proofs.YtmnafjonbeihiaaGreatDoor
set_option linter.unusedSimpArgs false
set_option maxRecDepth 100000
namespace Go.Proofs.YtmnafjonbeihiaaGreatDoor
open Go Go.Fx Go.Proofs Go.Pl
def walV(b:Nat)(nm:BA)(w:Wv):List Value:=[.pointer (some ⟨b,0,none⟩),.string nm,.int .i64 w.n,.int .i64 w.size,.int .i64 w.fault]
def walP(wb b:Nat)(nm:BA)(w:Wv):HProp:=pts wb (.cells (walV b nm w).toArray 171)
theorem Fault_spec(wb b:Nat)(nm:BA)(w:Wv):FSpec Tryz.prog 54 [.pointer (some ⟨wb,0,none⟩)] [walP wb b nm w] Unit (fun _=>True) (fun _=>.int .i64 w.fault) (fun _=>[walP wb b nm w]):=by
 unfold walP
 refine spec_intro [] _ Tryz.func54 rfl Tryz.ntmps54 (by rfl) (fun w0 R=>?_)
 repeat'(first|(refine gY ?_;intros)|(refine hY ?_ ?_<;>intro hgd)|(refine jY ?_ ?_<;>intro _)|fail)
 (refine rt_Y (y:=()) (hrs:=Tryz.results54) (hv:=?_) (hφ:=?_))
 ·rfl
 ·trivial
theorem read_size(d:Dk)(nm:BA)(n:Int)(h0:0≤n):((d.read nm 0 n).1.size:Int)≤n:=by
 unfold Dk.read
 split
 ·exact h0
 ·split
  ·exact h0
  ·split
   ·exact h0
   ·unfold cut
    simp only[ByteArray.size_extract]
    split<;>omega
theorem scan_e(b:BA):(scanOf b).2.2=0∨(scanOf b).2.2=70∨(scanOf b).2.2=71:=by
 have key:∀ (k:Nat) (b:BA),(scanF k b).2.2=0∨(scanF k b).2.2=70∨(scanF k b).2.2=71:=by
  intro k
  induction k with
  |zero=>exact fun b=>.inl rfl
  |succ k ih=>
   intro b
   unfold scanF
   by_cases h0:b.size=0
   ·rw[if_pos h0];exact .inl rfl
   ·rw[if_neg h0]
    by_cases h1:(nextF b).2≠0
    ·rw[if_pos h1]
     dsimp only
     unfold nextF
     repeat' split
     all_goals simp
    ·rw[if_neg h1]
     exact ih _
 exact key _ _
set_option maxHeartbeats 1000000 in
theorem Open_good(b:Nat)(d:Dk)(nm:BA)(hd:d.Ok)(hl:d.loose.length≤1000000000)(hn:nm.size≤4611686018427387904)(he:(openW d nm).2.1=0):
  FSpec Tryz.prog 60 [.pointer (some ⟨b,0,none⟩),.string nm] [diskP b d] (Nat×{v:Value // v.oneCell'=true}) (fun _=>True) (fun y=>.tuple #[.pointer (some ⟨y.1,0,none⟩),y.2.1,.int .i64 0])
   (fun y=>[diskP b (openW d nm).1,walP y.1 b nm ⟨(openW d nm).2.2.1.length,(openW d nm).2.2.2,0⟩,row 9 1 y.2.1 ((openW d nm).2.2.1.map strV)]):=by
 have hr:=read_spec b d nm 0 16777216 hn
 have hz:=read_size d nm 16777216 (by decide)
 have hse:=scan_e (d.read nm 0 16777216).1
 have hS:=Scan_spec (d.read nm 0 16777216).1 (by omega)
 have hT:=truncate_spec b d nm ((scanOf (d.read nm 0 16777216).1).2.1:Int) hd (by omega) hn
 have hTo:(d.truncate nm ((scanOf (d.read nm 0 16777216).1).2.1:Int)).1.Ok:=hd.truncate
 have hsl:=scanF_len (d.read nm 0 16777216).1.size (d.read nm 0 16777216).1
 rw[show scanF (d.read nm 0 16777216).1.size (d.read nm 0 16777216).1=scanOf (d.read nm 0 16777216).1 from rfl]at hsl
 unfold openW openT at he ⊢
 generalize d.read nm 0 16777216=rd at hr hz he hse hS hT hTo hsl
 obtain⟨s,e⟩:=rd
 dsimp only at hr hz he hse hS hT hTo hsl ⊢
 generalize scanOf s=sc at he hse hS hT hTo hsl
 obtain⟨l,good,es⟩:=sc
 dsimp only at he hse hS hT hTo hsl ⊢
 generalize d.truncate nm (good:Int)=tr at he hT hTo
 obtain⟨d1,et⟩:=tr
 dsimp only at he hT hTo ⊢
 have hln:((l.map strV).length:Int)=(l.length:Int):=by simp
 by_cases h1:e≠0∧e≠3
 ·rw[if_pos h1]at he
  exact absurd he h1.1
 ·rw[if_neg h1]at he ⊢
  have hgo:∀ (G:Prop),((!decide (e=0))=false→G)→((!decide (e=0))=true→(!decide (e=3))=false→G)→G:=by
   intro G g1 g2
   cases u1:(!decide (e=0))with
   |false=>exact g1 u1
   |true=>exact g2 u1 (by simp at u1 h1 ⊢;exact h1 u1)
  rcases hse with rfl|rfl|rfl
  ·simp only[Int.reduceEq,if_false,if_true,ne_eq,not_true_eq_false]at he ⊢
   unfold openS at he ⊢
   cases t1:decide (0<(d.loose.length:Int))with
   |false=>
    have h0:¬ 0<d.loose.length:=by have:=of_decide_eq_false t1;omega
    simp only[h0,if_false,not_true_eq_false]at he ⊢
    refine hgo _ (fun u1=>?_) (fun u1 u2=>?_)
    all_goals
     refine spec_intro [] _ Tryz.func60 rfl Tryz.ntmps60 (by rfl) (fun w0 R=>?_)
     repeat'(first|(refine gY ?_;intros)|(refine hY ?_ ?_<;>intro hgd)|(refine jY ?_ ?_<;>intro _)|fail)
     refine cl_Y (hr) ?_
     intro _ _
     repeat'(first|(refine gY ?_;intros)|(refine hY ?_ ?_<;>intro hgd)|(refine jY ?_ ?_<;>intro _)|fail)
     refine cl_Y (hS) ?_
     rintro⟨v,hv⟩ _
     repeat'(first|(refine gY ?_;intros)|(refine hY ?_ ?_<;>intro hgd)|(refine jY ?_ ?_<;>intro _)|fail)
     refine cl_Y (Loose_spec b d) ?_
     intro _ _
     repeat'(first|(refine gY ?_;intros)|(refine hY ?_ ?_<;>intro hgd)|(refine jY ?_ ?_<;>intro _)|fail)
     rename_i wb
     rw[hln]
     (refine rt_Y (y:=(wb,⟨v,hv⟩)) (hrs:=Tryz.results60) (hv:=?_) (hφ:=?_))
     ·rfl
     ·trivial
   |true=>
    have h0:0<d.loose.length:=by have:=of_decide_eq_true t1;omega
    simp only[h0,if_true]at he ⊢
    have hy:=sync_spec b d hd
    generalize d.sync=sy at he hy
    obtain⟨d2,ey⟩:=sy
    dsimp only at he hy ⊢
    have hey:ey=0:=by
     by_cases h:ey=0
     ·exact h
     ·rw[if_pos h]at he;exact absurd he h
    subst hey
    simp only[not_true_eq_false,if_false]
    refine hgo _ (fun u1=>?_) (fun u1 u2=>?_)
    all_goals
     refine spec_intro [] _ Tryz.func60 rfl Tryz.ntmps60 (by rfl) (fun w0 R=>?_)
     repeat'(first|(refine gY ?_;intros)|(refine hY ?_ ?_<;>intro hgd)|(refine jY ?_ ?_<;>intro _)|fail)
     refine cl_Y (hr) ?_
     intro _ _
     repeat'(first|(refine gY ?_;intros)|(refine hY ?_ ?_<;>intro hgd)|(refine jY ?_ ?_<;>intro _)|fail)
     refine cl_Y (hS) ?_
     rintro⟨v,hv⟩ _
     repeat'(first|(refine gY ?_;intros)|(refine hY ?_ ?_<;>intro hgd)|(refine jY ?_ ?_<;>intro _)|fail)
     refine cl_Y (Loose_spec b d) ?_
     intro _ _
     repeat'(first|(refine gY ?_;intros)|(refine hY ?_ ?_<;>intro hgd)|(refine jY ?_ ?_<;>intro _)|fail)
     refine cl_Y (hy) ?_
     intro _ _
     repeat'(first|(refine gY ?_;intros)|(refine hY ?_ ?_<;>intro hgd)|(refine jY ?_ ?_<;>intro _)|fail)
     rename_i wb
     rw[hln]
     (refine rt_Y (y:=(wb,⟨v,hv⟩)) (hrs:=Tryz.results60) (hv:=?_) (hφ:=?_))
     ·rfl
     ·trivial
  ·simp only[Int.reduceEq,if_false,if_true,ne_eq,not_true_eq_false]at he ⊢
   have het:et=0:=by
    by_cases h:et=0
    ·exact h
    ·rw[if_pos h]at he;exact absurd he h
   subst het
   simp only[not_true_eq_false,if_false]at he ⊢
   unfold openS at he ⊢
   cases t1:decide (0<(d1.loose.length:Int))with
   |false=>
    have h0:¬ 0<d1.loose.length:=by have:=of_decide_eq_false t1;omega
    simp only[h0,if_false,not_true_eq_false]at he ⊢
    refine hgo _ (fun u1=>?_) (fun u1 u2=>?_)
    all_goals
     refine spec_intro [] _ Tryz.func60 rfl Tryz.ntmps60 (by rfl) (fun w0 R=>?_)
     repeat'(first|(refine gY ?_;intros)|(refine hY ?_ ?_<;>intro hgd)|(refine jY ?_ ?_<;>intro _)|fail)
     refine cl_Y (hr) ?_
     intro _ _
     repeat'(first|(refine gY ?_;intros)|(refine hY ?_ ?_<;>intro hgd)|(refine jY ?_ ?_<;>intro _)|fail)
     refine cl_Y (hS) ?_
     rintro⟨v,hv⟩ _
     repeat'(first|(refine gY ?_;intros)|(refine hY ?_ ?_<;>intro hgd)|(refine jY ?_ ?_<;>intro _)|fail)
     refine cl_Y (hT) ?_
     intro _ _
     repeat'(first|(refine gY ?_;intros)|(refine hY ?_ ?_<;>intro hgd)|(refine jY ?_ ?_<;>intro _)|fail)
     refine cl_Y (Loose_spec b d1) ?_
     intro _ _
     repeat'(first|(refine gY ?_;intros)|(refine hY ?_ ?_<;>intro hgd)|(refine jY ?_ ?_<;>intro _)|fail)
     rename_i wb
     rw[hln]
     (refine rt_Y (y:=(wb,⟨v,hv⟩)) (hrs:=Tryz.results60) (hv:=?_) (hφ:=?_))
     ·rfl
     ·trivial
   |true=>
    have h0:0<d1.loose.length:=by have:=of_decide_eq_true t1;omega
    simp only[h0,if_true]at he ⊢
    have hy:=sync_spec b d1 hTo
    generalize d1.sync=sy at he hy
    obtain⟨d2,ey⟩:=sy
    dsimp only at he hy ⊢
    have hey:ey=0:=by
     by_cases h:ey=0
     ·exact h
     ·rw[if_pos h]at he;exact absurd he h
    subst hey
    simp only[not_true_eq_false,if_false]
    refine hgo _ (fun u1=>?_) (fun u1 u2=>?_)
    all_goals
     refine spec_intro [] _ Tryz.func60 rfl Tryz.ntmps60 (by rfl) (fun w0 R=>?_)
     repeat'(first|(refine gY ?_;intros)|(refine hY ?_ ?_<;>intro hgd)|(refine jY ?_ ?_<;>intro _)|fail)
     refine cl_Y (hr) ?_
     intro _ _
     repeat'(first|(refine gY ?_;intros)|(refine hY ?_ ?_<;>intro hgd)|(refine jY ?_ ?_<;>intro _)|fail)
     refine cl_Y (hS) ?_
     rintro⟨v,hv⟩ _
     repeat'(first|(refine gY ?_;intros)|(refine hY ?_ ?_<;>intro hgd)|(refine jY ?_ ?_<;>intro _)|fail)
     refine cl_Y (hT) ?_
     intro _ _
     repeat'(first|(refine gY ?_;intros)|(refine hY ?_ ?_<;>intro hgd)|(refine jY ?_ ?_<;>intro _)|fail)
     refine cl_Y (Loose_spec b d1) ?_
     intro _ _
     repeat'(first|(refine gY ?_;intros)|(refine hY ?_ ?_<;>intro hgd)|(refine jY ?_ ?_<;>intro _)|fail)
     refine cl_Y (hy) ?_
     intro _ _
     repeat'(first|(refine gY ?_;intros)|(refine hY ?_ ?_<;>intro hgd)|(refine jY ?_ ?_<;>intro _)|fail)
     rename_i wb
     rw[hln]
     (refine rt_Y (y:=(wb,⟨v,hv⟩)) (hrs:=Tryz.results60) (hv:=?_) (hφ:=?_))
     ·rfl
     ·trivial
  ·rw[if_pos rfl]at he
   cases he
end Go.Proofs.YtmnafjonbeihiaaGreatDoor
namespace Go.Proofs.YtmnafjonbeihiaaGreatDoor
open Go Go.Fx Go.Pl
def nC:BA:=⟨#[99,111,109,109,105,116,115]⟩
theorem may_nC:mayN nC=true:=by decide +kernel
structure WGoodC(d:Dk)(w:Wv)(h:List BA):Prop where
 ok:d.Ok
 okh:allOk h=true
 loose:d.loose=[]
 txt:ftext nC d.files=framesOf h
 wv:w=⟨h.length,lenT h,0⟩
structure WInvC(d:Dk)(h m:List BA)(rs:Bool):Prop where
 ok:d.Ok
 okh:allOk h=true
 okm:allOk m=true
 few:d.loose.length≤1
 cr:∀ keep torn,(∃ k,ftext nC (d.crash keep torn).files=framesOf h++(framesOf m).extract 0 k)∨(rs=true∧ftext nC (d.crash keep torn).files=⟨#[]⟩)
theorem WGoodC.inv{d:Dk}{w:Wv}{h:List BA}(g:WGoodC d w h)(m:List BA)(hm:allOk m=true)(rs:Bool):WInvC d h m rs where
 ok:=g.ok
 okh:=g.okh
 okm:=hm
 few:=by rw[g.loose];simp
 cr keep torn:=by
  left
  refine⟨0,?_⟩
  show ftext nC (d.torn (d.kept keep) torn)=_
  have hs:d.sure=d.files:=by have:=g.ok.play;rw[g.loose]at this;exact this
  rw[torn_none g.loose,hs,g.txt]
  exact ext_left0 h m
theorem WInvC.still{d:Dk}{h m:List BA}{rs:Bool}(g:WInvC d h m rs):WInvC {d with still:=true} h m rs:=
 ⟨{g.ok with},g.okh,g.okm,g.few,g.cr⟩
theorem WInvC.synced{d:Dk}{h m:List BA}{rs:Bool}(g:WInvC d h m rs)(h20:d.sync.2=20):WInvC d.sync.1 h m rs:=by
 rcases sync_cases d with⟨_,e|e⟩|⟨e,_⟩
 ·rw[e];exact g
 ·rw[e];exact g.still
 ·rw[e]at h20;cases h20
theorem append_goodC{d:Dk}{w:Wv}{h:List BA}(g:WGoodC d w h)(l:List BA)(hl:allOk l=true)(hz:lenT l≤549755813888):
  ((appendW w d nC l).2.2=0∧WGoodC (appendW w d nC l).2.1 (appendW w d nC l).1 (h++l))∨((appendW w d nC l).2.2=4∧WGoodC (appendW w d nC l).2.1 (appendW w d nC l).1 h)∨
  ((appendW w d nC l).2.2=20∧(appendW w d nC l).1.fault=20∧WInvC (appendW w d nC l).2.1 h l false∧l≠[]):=by
 have hw:=g.wv
 have hfault:w.fault=0:=by rw[hw]
 unfold appendW
 rw[if_neg (by rw[hfault];simp),if_neg (by rw[hl];simp)]
 by_cases h0:l.length=0
 ·have e:l=[]:=List.length_eq_zero_iff.1 h0
  rw[if_pos h0,e,List.append_nil]
  exact .inl ⟨rfl,g⟩
 rw[if_neg h0]
 have hne:l≠[]:=fun e=>h0 (by rw[e];rfl)
 have hdown:(w.down 20).fault=20:=rfl
 have hsz:(framesOf l).size≤549755813888:=by rw[framesOf_size];exact hz
 have hok1:=g.ok.append (name:=nC) (s:=framesOf l) hsz
 have key:(d.append nC (framesOf l)).2=20∧WInvC (d.append nC (framesOf l)).1 h l false∨(d.append nC (framesOf l)=(d,4))∨
   ((d.append nC (framesOf l)).2=0∧WInvC (d.append nC (framesOf l)).1 h l false∧ftext nC (d.append nC (framesOf l)).1.files=framesOf (h++l)):=by
  unfold Dk.append at hok1 ⊢
  rw[live1 d may_nC]at hok1 ⊢
  cases hst:d.still with
  |true=>left;simp only[if_true];rw[if_pos (by decide)];exact⟨rfl,g.inv l hl false⟩
  |false=>
   rw[hst]at hok1
   simp only[Bool.false_eq_true,if_false,ne_eq,not_true_eq_false]at hok1 ⊢
   split
   ·exact .inr (.inl rfl)
   ·rename_i hroom
    rw[if_neg hroom]at hok1
    by_cases hf:d.fuse=0
    ·rw[doC_0 _ _ hf];exact .inl ⟨rfl,(g.inv l hl false).still⟩
    ·rw[doC_eq _ _ hf]at hok1 ⊢
     have hs:d.sure=d.files:=by have:=g.ok.play;rw[g.loose]at this;exact this
     refine .inr (.inr ⟨rfl,⟨hok1,g.okh,hl,by show(d.loose++[_]).length≤1;rw[g.loose];simp,fun keep torn=>?_⟩,?_⟩)
     ·left
      show ∃ k,ftext nC (Dk.torn _ _ torn)=_
      generalize Dk.kept _ keep=q
      unfold Dk.torn
      dsimp only
      rw[g.loose,List.nil_append,hs]
      cases q with
      |zero=>
       by_cases ht:0<torn
       ·refine⟨(if((framesOf l).size:Int)<torn then((framesOf l).size:Int)else torn).toNat,?_⟩
        have e:([Cl.app nC (framesOf l)][0]?.bind (·.piece torn))=some (.app nC ((framesOf l).extract 0 (if((framesOf l).size:Int)<torn then((framesOf l).size:Int)else torn).toNat)):=by simp[Cl.piece,ht]
        rw[e]
        show ftext nC (fput nC _ d.files)=_
        rw[ftext_put,if_pos rfl]
        show ftext nC d.files++_=_
        rw[g.txt]
       ·refine⟨0,?_⟩
        have e:([Cl.app nC (framesOf l)][0]?.bind (·.piece torn))=none:=by simp[Cl.piece,ht]
        rw[e]
        show ftext nC d.files=_
        rw[g.txt];exact ext_left0 h l
      |succ q=>
       refine⟨(framesOf l).size,?_⟩
       have e:([Cl.app nC (framesOf l)][q+1]?.bind (·.piece torn))=none:=by simp
       rw[e]
       show ftext nC (play d.files ([Cl.app nC (framesOf l)].take (q+1)))=_
       rw[List.take_of_length_le (by simp)]
       show ftext nC (fput nC (ftext nC d.files++framesOf l) d.files)=_
       rw[ftext_put,if_pos rfl,g.txt,ext_all]
     ·show ftext nC (fput nC (ftext nC d.files++framesOf l) d.files)=_
      rw[ftext_put,if_pos rfl,g.txt,framesOf_append]
 rcases key with⟨e,hi⟩|e|⟨e,hi,htx⟩
 ·rw[e,if_pos (by decide)]
  exact .inr (.inr ⟨rfl,hdown,hi,hne⟩)
 ·rw[e,if_pos (by simp)]
  exact .inr (.inl ⟨rfl,g⟩)
 ·rw[e,if_neg (by simp)]
  have hok2:=hok1.sync
  rcases sync_cases (d.append nC (framesOf l)).1 with⟨e2,_⟩|⟨e2,hl2,hf2,_⟩
  ·have hi2:=hi.synced e2
   rw[e2,if_pos (by decide)]
   exact .inr (.inr ⟨rfl,hdown,hi2,hne⟩)
  ·rw[e2,if_neg (by simp)]
   refine .inl ⟨rfl,hok2,by rw[allOk_app,g.okh,hl];rfl,hl2,by show ftext nC (d.append nC (framesOf l)).1.sync.1.files=_;rw[hf2];exact htx,?_⟩
   rw[hw]
   simp[lenT_app]
theorem read_nC{d:Dk}(hd:d.Ok)(hs:d.still=false):(d.read nC 0 16777216).1=ftext nC d.files∧((d.read nC 0 16777216).2=0∧d.has nC=true∨(d.read nC 0 16777216).2=3∧d.has nC=false):=by
 rw[read_eq d may_nC 16777216 (by decide),hs]
 simp only[Bool.false_eq_true,if_false]
 cases hh:d.has nC with
 |false=>simp only[Bool.not_false,if_true];exact⟨(has_false hh).symm,.inr ⟨trivial,trivial⟩⟩
 |true=>
  simp only[Bool.not_true,Bool.false_eq_true,if_false]
  have hz:=ftext_le nC d.files
  have hu:=hd.used
  exact⟨cut_all _ _ (by omega),.inl ⟨trivial,trivial⟩⟩
theorem wal_textC{d:Dk}(hd:d.Ok)(hl:d.loose=[])(hf:d.fuse= -1)(hs:d.still=false){h l:List BA}(hh:allOk h=true)(hll:allOk l=true){k:Nat}(ht:ftext nC d.files=framesOf h++(framesOf l).extract 0 k):
  ∃ j,(openW d nC).2=(0,h++l.take j,lenT (h++l.take j))∧WGoodC (openW d nC).1 ⟨(h++l.take j).length,lenT (h++l.take j),0⟩ (h++l.take j):=by
 obtain⟨j,e,h1,h2,h3,h4⟩:=scan_text h l hh hll k
 rw[← ht]at h1 h2 h3 h4
 obtain⟨r1,r2⟩:=read_nC hd hs
 have hok:allOk (h++l.take j)=true:=by rw[allOk_app,hh,allOk_take hll j];rfl
 refine⟨j,?_⟩
 generalize h++l.take j=m at h1 h2 h3 h4 hok
 have hrd:¬ ((d.read nC 0 16777216).2≠0∧(d.read nC 0 16777216).2≠3):=by
  rintro⟨a,b⟩
  rcases r2 with⟨r2,_⟩|⟨r2,_⟩
  ·exact a r2
  ·exact b r2
 unfold openW openT
 rw[if_neg hrd,r1,h1]
 dsimp only
 rcases h2 with⟨rfl,h5⟩|rfl
 ·have hos:openS d=(d,0):=by unfold openS;rw[hl];rfl
  simp only[Int.reduceEq,if_false,ne_eq,not_true_eq_false,hos]
  exact⟨trivial,hd,hok,hl,h5,rfl⟩
 ·have hhas:d.has nC=true:=by
   rcases r2 with⟨_,r⟩|⟨_,r⟩
   ·exact r
   ·have:=has_false r
    rw[this,scanOf_nil]at h1
    simp at h1
  have htr:d.truncate nC (lenT m:Int)=d.doC (.trunc nC (lenT m:Int)):=by
   unfold Dk.truncate
   rw[live1 d may_nC,hs]
   simp only[Bool.false_eq_true,if_false,ne_eq,not_true_eq_false,hhas,Bool.not_true]
   rw[if_neg (by omega),if_neg (by omega)]
  have hok1:=hd.truncate (name:=nC) (n:=(lenT m:Int))
  rw[htr,doC_eq _ _ (by rw[hf];decide)]at hok1
  simp only[Int.reduceEq,if_false,if_true,ne_eq,not_true_eq_false]
  rw[htr,doC_eq _ _ (by rw[hf];decide)]
  dsimp only at hok1 ⊢
  generalize hd1:({d with fuse:=if(-1:Int)>d.fuse-1 then -1 else d.fuse-1,files:=(Cl.trunc nC (lenT m:Int)).run d.files,loose:=d.loose++[Cl.trunc nC (lenT m:Int)]}:Dk)=d1 at hok1 ⊢
  have f1:d1.fuse= -1:=by rw[← hd1];dsimp only;rw[hf];rfl
  have f2:d1.still=false:=by rw[← hd1];exact hs
  have f3:d1.files=(Cl.trunc nC (lenT m:Int)).run d.files:=by rw[← hd1]
  have f4:0<d1.loose.length:=by rw[← hd1];simp
  have hsy:d1.sync=(({d1 with fuse:=if(-1:Int)>d1.fuse-1 then -1 else d1.fuse-1}:Dk).settle,0):=by
   unfold Dk.sync
   rw[live0 d1,f2]
   simp only[Bool.false_eq_true,if_false,ne_eq,not_true_eq_false]
   rw[if_neg (by rw[f1];decide)]
  have hos:openS d1=d1.sync:=by unfold openS;rw[if_pos f4]
  rw[hos,hsy]
  simp only[not_true_eq_false,if_false]
  have hok2:=hok1.sync
  rw[hsy]at hok2
  refine⟨trivial,hok2,hok,rfl,?_,rfl⟩
  show ftext nC d1.files=_
  rw[f3]
  show ftext nC (fput nC ((ftext nC d.files).extract 0 ((lenT m:Nat):Int).toNat) d.files)=_
  rw[ftext_put,if_pos rfl,Int.toNat_natCast,h3]
theorem open_invC{d:Dk}{h m:List BA}{rs:Bool}(g:WInvC d h m rs)(keep torn:Int):
  ∃ r,(openW (d.crash keep torn) nC).2=(0,r,lenT r)∧WGoodC (openW (d.crash keep torn) nC).1 ⟨r.length,lenT r,0⟩ r∧((∃ j,r=h++m.take j)∨(rs=true∧r=[])):=by
 have hok:=g.ok.crash keep torn
 rcases g.cr keep torn with⟨k,hk⟩|⟨hr,hk⟩
 ·obtain⟨j,h1,h2⟩:=wal_textC hok rfl rfl rfl g.okh g.okm hk
  exact⟨_,h1,h2,.inl ⟨j,rfl⟩⟩
 ·obtain⟨j,h1,h2⟩:=wal_textC (h:=[]) (l:=[]) (k:=0) hok rfl rfl rfl rfl rfl (by rw[hk,ext_zero];rfl)
  refine⟨_,h1,h2,.inr ⟨hr,by simp⟩⟩
end Go.Proofs.YtmnafjonbeihiaaGreatDoor
