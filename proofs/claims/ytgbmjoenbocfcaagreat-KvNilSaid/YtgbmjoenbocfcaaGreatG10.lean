/- Texts merged: WlP WlQ WlA WlB. -/
import Derived.Test.YtgbmjoenbocfcaaGreatFrP
import Derived.Test.YtgbmjoenbocfcaaGreatG0
import Derived.Test.YtgbmjoenbocfcaaGreatG3
import Derived.Test.YtgbmjoenbocfcaaGreatG8
import Derived.Test.YtgbmjoenbocfcaaGreatG7
set_option linter.unusedVariables false
namespace Go.Proofs.YtgbmjoenbocfcaaGreat
open Go Go.Fx Go.Pl
structure Wv where
 n:Int
 size:Int
 fault:Int
def openT(d:Dk)(nm:BA):Dk×Int:=if(scanOf (d.read nm 0 16777216).1).2.2=70 then d.truncate nm ((scanOf (d.read nm 0 16777216).1).2.1:Int)else(d,0)
def openS(d:Dk):Dk×Int:=if 0<d.loose.length then d.sync else(d,0)
def openW(d:Dk)(nm:BA):Dk×Int×List BA×Nat:=
 if(d.read nm 0 16777216).2≠0∧(d.read nm 0 16777216).2≠3 then(d,(d.read nm 0 16777216).2,[],0)else
 if(scanOf (d.read nm 0 16777216).1).2.2=71 then(d,71,[],0)else
 if(openT d nm).2≠0 then((openT d nm).1,(openT d nm).2,[],0)else
 if(openS (openT d nm).1).2≠0 then((openS (openT d nm).1).1,(openS (openT d nm).1).2,[],0)else
 ((openS (openT d nm).1).1,0,(scanOf (d.read nm 0 16777216).1).1,(scanOf (d.read nm 0 16777216).1).2.1)
def Wv.down(w:Wv)(e:Int):Wv:=if e≠0∧e≠4 then {w with fault:=e}else w
def appendW(w:Wv)(d:Dk)(nm:BA)(l:List BA):Wv×Dk×Int:=
 if w.fault≠0 then(w,d,w.fault)else
 if allOk l=false then(w,d,5)else
 if l.length=0 then(w,d,0)else
 if(d.append nm (framesOf l)).2≠0 then(w.down (d.append nm (framesOf l)).2,(d.append nm (framesOf l)).1,(d.append nm (framesOf l)).2)else
 if(d.append nm (framesOf l)).1.sync.2≠0 then(w.down (d.append nm (framesOf l)).1.sync.2,(d.append nm (framesOf l)).1.sync.1,(d.append nm (framesOf l)).1.sync.2)else
 (⟨w.n+l.length,w.size+lenT l,w.fault⟩,(d.append nm (framesOf l)).1.sync.1,0)
def rem3(d:Dk)(nm:BA):Int:=if(d.remove nm).2=3 then 0 else(d.remove nm).2
def remS(d:Dk)(nm:BA):Dk×Int:=if(d.remove nm).2=3 then((d.remove nm).1,0)else(d.remove nm).1.sync
def resetW(w:Wv)(d:Dk)(nm:BA):Wv×Dk×Int:=
 if w.fault≠0 then(w,d,w.fault)else
 if rem3 d nm≠0 then(w.down (rem3 d nm),(d.remove nm).1,rem3 d nm)else
 if(remS d nm).2≠0 then(w.down (remS d nm).2,(remS d nm).1,(remS d nm).2)else
 (⟨0,0,w.fault⟩,(remS d nm).1,0)
def nW:BA:=⟨#[119]⟩
theorem ext_ext(a:BA){k i j:Nat}(h:j≤k):(a.extract 0 k).extract i j=a.extract i j:=by
 apply bl_inj
 rw[bl_ext,bl_ext,bl_ext,List.drop_zero,Nat.sub_zero,List.drop_take,List.take_take]
 congr 1
 omega
theorem ext_app(a b:BA)(m:Nat):(a++b).extract 0 (a.size+m)=a++b.extract 0 m:=by
 apply bl_inj
 rw[bl_ext,bl_app,bl_app,bl_ext,List.drop_zero,List.drop_zero,Nat.sub_zero,Nat.sub_zero,← bl_len,List.take_append,List.take_of_length_le (by omega)]
 congr 2
 omega
theorem ext_zero(a:BA):a.extract 0 0=⟨#[]⟩:=by
 apply bl_inj
 rw[bl_ext]
 simp[bl]
theorem ext_all(a:BA):a.extract 0 a.size=a:=by
 apply bl_inj
 rw[bl_ext,List.drop_zero,Nat.sub_zero,List.take_of_length_le (by rw[bl_len];exact Nat.le_refl _)]
theorem ba_nil0(b:BA):(⟨#[]⟩:BA)++b=b:=ByteArray.empty_append
theorem ba_size0{b:BA}(h:b.size=0):b=⟨#[]⟩:=by
 apply bl_inj
 have:=bl_len b
 rw[h]at this
 rw[List.length_eq_zero_iff.1 this];rfl
theorem nextF_cut(s t:BA)(hs:s.size≤4194304){k:Nat}(hk:k<12+s.size):(nextF ((frameOf s++t).extract 0 k)).2=70:=by
 obtain⟨p1,p2,_,_,_⟩:=frameOf_parts s t
 have g1:=put4_get s.size (by omega)
 have g2:=put4_get (sumN (put4 s.size)) (sumN_eq _).2
 have hz:(frameOf s++t).size=12+s.size+t.size:=by rw[ByteArray.size_append,frameOf_size]
 have hc:((frameOf s++t).extract 0 k).size=k:=by rw[ByteArray.size_extract];omega
 unfold nextF
 by_cases h8:k<8
 ·rw[if_pos (by omega)]
 ·rw[if_neg (by omega),ext_ext _ (by omega),ext_ext _ (by omega),p1,p2,g1,g2,(sumN_eq (put4 s.size)).1,if_neg (by simp;omega),hc,if_pos (by omega)]
theorem scan_70{b:BA}(h0:b.size≠0)(h:(nextF b).2=70):scanOf b=([],0,70):=by
 unfold scanOf
 obtain⟨k,hk⟩:∃ k,b.size=k+1:=⟨b.size-1,by omega⟩
 rw[hk]
 unfold scanF
 rw[if_neg h0,if_pos (by rw[h];decide),h]
theorem scan_cut:∀ (l:List BA),allOk l=true→∀ k,∃ j,(scanOf ((framesOf l).extract 0 k)).1=l.take j∧(scanOf ((framesOf l).extract 0 k)).2.1=lenT (l.take j)∧
  ((scanOf ((framesOf l).extract 0 k)).2.2=0∧(framesOf l).extract 0 k=framesOf (l.take j)∨(scanOf ((framesOf l).extract 0 k)).2.2=70)∧((framesOf l).extract 0 k).extract 0 (lenT (l.take j))=framesOf (l.take j)
 | [],_,k=>by
  have e:(framesOf []).extract 0 k=⟨#[]⟩:=by
   apply ba_size0;rw[ByteArray.size_extract];show min k 0-0=0;omega
  rw[e,scanOf_nil]
  exact⟨0,rfl,rfl,.inl ⟨rfl,rfl⟩,rfl⟩
 |s::l,h,k=>by
  simp only[allOk,List.all_cons,Bool.and_eq_true,decide_eq_true_eq]at h
  have ef:framesOf (s::l)=frameOf s++framesOf l:=rfl
  have hz:(frameOf s++framesOf l).size=12+s.size+(framesOf l).size:=by rw[ByteArray.size_append,frameOf_size]
  rw[ef]
  rcases Nat.lt_or_ge k (12+s.size)with hk|hk
  ·by_cases h0:k=0
   ·subst h0
    rw[ext_zero,scanOf_nil]
    exact⟨0,rfl,rfl,.inl ⟨rfl,rfl⟩,rfl⟩
   ·have hn:=nextF_cut s (framesOf l) h.1 hk
    rw[scan_70 (by rw[ByteArray.size_extract];omega) hn]
    exact⟨0,rfl,rfl,.inr rfl,ext_zero _⟩
  ·obtain⟨m,rfl⟩:∃ m,k=(frameOf s).size+m:=⟨k-(12+s.size),by rw[frameOf_size];omega⟩
   rw[ext_app,scanOf_frame _ _ h.1]
   obtain⟨j,h1,h2,h3,h4⟩:=scan_cut l h.2 m
   refine⟨j+1,by rw[h1];rfl,?_,?_,?_⟩
   ·rw[h2];simp[lenT]
   ·rcases h3 with⟨h3,h5⟩|h3
    ·exact .inl ⟨h3,by rw[h5];rfl⟩
    ·exact .inr h3
   ·have e:lenT ((s::l).take (j+1))=(frameOf s).size+lenT (l.take j):=by rw[frameOf_size];simp[lenT]
    rw[e,ext_app,h4];rfl
theorem allOk_app{a b:List BA}:allOk (a++b)=(allOk a&&allOk b):=by simp[allOk]
theorem lenT_app(a b:List BA):lenT (a++b)=lenT a+lenT b:=by simp[lenT]
theorem scan_text(h l:List BA)(hh:allOk h=true)(hl:allOk l=true)(k:Nat):∃ j e,scanOf (framesOf h++(framesOf l).extract 0 k)=(h++l.take j,lenT (h++l.take j),e)∧
  (e=0∧framesOf h++(framesOf l).extract 0 k=framesOf (h++l.take j)∨e=70)∧(framesOf h++(framesOf l).extract 0 k).extract 0 (lenT (h++l.take j))=framesOf (h++l.take j)∧lenT (h++l.take j)≤(framesOf h++(framesOf l).extract 0 k).size:=by
 obtain⟨j,h1,h2,h3,h4⟩:=scan_cut l hl k
 refine⟨j,(scanOf ((framesOf l).extract 0 k)).2.2,?_,?_,?_,?_⟩
 ·rw[scanOf_frames _ h hh,h1,h2,lenT_app]
 ·rcases h3 with⟨h3,h5⟩|h3
  ·exact .inl ⟨h3,by rw[h5,framesOf_append]⟩
  ·exact .inr h3
 ·rw[lenT_app,← framesOf_size h,ext_app,h4,framesOf_append]
 ·have hs:=scanF_len (framesOf h++(framesOf l).extract 0 k).size (framesOf h++(framesOf l).extract 0 k)
  have e:scanF (framesOf h++(framesOf l).extract 0 k).size (framesOf h++(framesOf l).extract 0 k)=scanOf (framesOf h++(framesOf l).extract 0 k):=rfl
  rw[e,scanOf_frames _ h hh,h1,h2]at hs
  rw[lenT_app];exact hs.2
theorem ftext_put(k v j:BA)(l:FS):ftext j (fput k v l)=if j=k then v else ftext j l:=by
 unfold ftext;rw[fget_put];split<;>rfl
theorem has_false{d:Dk}{n:BA}(h:d.has n=false):ftext n d.files=⟨#[]⟩:=by
 unfold Dk.has at h;unfold ftext
 cases hg:fget n d.files with
 |none=>rfl
 |some _=>rw[hg]at h;cases h
structure WGood(d:Dk)(w:Wv)(h:List BA):Prop where
 ok:d.Ok
 okh:allOk h=true
 loose:d.loose=[]
 txt:ftext nW d.files=framesOf h
 wv:w=⟨h.length,lenT h,0⟩
structure WInv(d:Dk)(h m:List BA)(rs:Bool):Prop where
 ok:d.Ok
 okh:allOk h=true
 okm:allOk m=true
 few:d.loose.length≤1
 cr:∀ keep torn,(∃ k,ftext nW (d.crash keep torn).files=framesOf h++(framesOf m).extract 0 k)∨(rs=true∧ftext nW (d.crash keep torn).files=⟨#[]⟩)
theorem torn_none{d:Dk}(hl:d.loose=[])(k:Nat)(t:Int):d.torn k t=d.sure:=by
 unfold Dk.torn
 rw[hl]
 simp[runO,play]
theorem WInv.still{d:Dk}{h m:List BA}{rs:Bool}(g:WInv d h m rs):WInv {d with still:=true} h m rs:=
 ⟨{g.ok with},g.okh,g.okm,g.few,g.cr⟩
end Go.Proofs.YtgbmjoenbocfcaaGreat
set_option linter.unusedSimpArgs false
set_option maxRecDepth 100000
namespace Go.Proofs.YtgbmjoenbocfcaaGreat
open Go Go.Fx Go.Proofs Go.Pl
def walV(b:Nat)(nm:BA)(w:Wv):List Value:=[.pointer (some ⟨b,0,none⟩),.string nm,.int .i64 w.n,.int .i64 w.size,.int .i64 w.fault]
def walP(wb b:Nat)(nm:BA)(w:Wv):HProp:=pts wb (.cells (walV b nm w).toArray 174)
theorem Fault_spec(wb b:Nat)(nm:BA)(w:Wv):FSpec Tryz.prog 105 [.pointer (some ⟨wb,0,none⟩)] [walP wb b nm w] Unit (fun _=>True) (fun _=>.int .i64 w.fault) (fun _=>[walP wb b nm w]):=by
 unfold walP
 refine spec_intro [] _ Tryz.func105 rfl Tryz.ntmps105 (by rfl) (fun w0 R=>?_)
 repeat'(first|(refine gY ?_;intros)|(refine hY ?_ ?_<;>intro hgd)|(refine jY ?_ ?_<;>intro _)|fail)
 (refine rt_Y (y:=()) (hrs:=Tryz.results105) (hv:=?_) (hφ:=?_))
 ·rfl
 ·trivial
theorem read_size(d:Dk)(nm:BA)(n:Int)(h0:0≤n):((d.read nm 0 n).1.size:Int)≤n:=by
 unfold Dk.read
 split
 ·exact h0
 ·split
  ·exact h0
  ·split
   ·exact h0
   ·unfold cut
    simp only[ByteArray.size_extract]
    split<;>omega
theorem scan_e(b:BA):(scanOf b).2.2=0∨(scanOf b).2.2=70∨(scanOf b).2.2=71:=by
 have key:∀ (k:Nat) (b:BA),(scanF k b).2.2=0∨(scanF k b).2.2=70∨(scanF k b).2.2=71:=by
  intro k
  induction k with
  |zero=>exact fun b=>.inl rfl
  |succ k ih=>
   intro b
   unfold scanF
   by_cases h0:b.size=0
   ·rw[if_pos h0];exact .inl rfl
   ·rw[if_neg h0]
    by_cases h1:(nextF b).2≠0
    ·rw[if_pos h1]
     dsimp only
     unfold nextF
     repeat' split
     all_goals simp
    ·rw[if_neg h1]
     exact ih _
 exact key _ _
set_option maxHeartbeats 1000000 in
theorem Open_bad(b:Nat)(d:Dk)(nm:BA)(hd:d.Ok)(hl:d.loose.length≤1000000000)(hn:nm.size≤4611686018427387904)(he:(openW d nm).2.1≠0):
  FSpec Tryz.prog 98 [.pointer (some ⟨b,0,none⟩),.string nm] [diskP b d] Unit (fun _=>True) (fun _=>.tuple #[.pointer none,.slice none 0 0,.int .i64 (openW d nm).2.1]) (fun _=>[diskP b (openW d nm).1]):=by
 have hr:=read_spec b d nm 0 16777216 hn
 have hz:=read_size d nm 16777216 (by decide)
 have hse:=scan_e (d.read nm 0 16777216).1
 have hS:=Scan_spec (d.read nm 0 16777216).1 (by omega)
 have hT:=truncate_spec b d nm ((scanOf (d.read nm 0 16777216).1).2.1:Int) hd (by omega) hn
 have hTo:(d.truncate nm ((scanOf (d.read nm 0 16777216).1).2.1:Int)).1.Ok:=hd.truncate
 have hsl:=scanF_len (d.read nm 0 16777216).1.size (d.read nm 0 16777216).1
 rw[show scanF (d.read nm 0 16777216).1.size (d.read nm 0 16777216).1=scanOf (d.read nm 0 16777216).1 from rfl]at hsl
 unfold openW openT at he ⊢
 generalize d.read nm 0 16777216=rd at hr hz he hse hS hT hTo hsl
 obtain⟨s,e⟩:=rd
 dsimp only at hr hz he hse hS hT hTo hsl ⊢
 generalize scanOf s=sc at he hse hS hT hTo hsl
 obtain⟨l,good,es⟩:=sc
 dsimp only at he hse hS hT hTo hsl ⊢
 generalize d.truncate nm (good:Int)=tr at he hT hTo
 obtain⟨d1,et⟩:=tr
 dsimp only at he hT hTo ⊢
 by_cases h1:e≠0∧e≠3
 ·have u1:(!decide (e=0))=true:=by simpa using h1.1
  have u2:(!decide (e=3))=true:=by simpa using h1.2
  rw[if_pos h1]
  refine spec_intro [] _ Tryz.func98 rfl Tryz.ntmps98 (by rfl) (fun w0 R=>?_)
  repeat'(first|(refine gY ?_;intros)|(refine hY ?_ ?_<;>intro hgd)|(refine jY ?_ ?_<;>intro _)|fail)
  refine cl_Y (hr) ?_
  intro _ _
  repeat'(first|(refine gY ?_;intros)|(refine hY ?_ ?_<;>intro hgd)|(refine jY ?_ ?_<;>intro _)|fail)
  (refine rt_Y (y:=()) (hrs:=Tryz.results98) (hv:=?_) (hφ:=?_))
  ·rfl
  ·trivial
 ·rw[if_neg h1]at he ⊢
  have hgo:∀ (G:Prop),((!decide (e=0))=false→G)→((!decide (e=0))=true→(!decide (e=3))=false→G)→G:=by
   intro G g1 g2
   cases u1:(!decide (e=0))with
   |false=>exact g1 u1
   |true=>exact g2 u1 (by simp at u1 h1 ⊢;exact h1 u1)
  rcases hse with rfl|rfl|rfl
  ·simp only[Int.reduceEq,if_false,if_true,ne_eq,not_true_eq_false]at he ⊢
   unfold openS at he ⊢
   cases t1:decide (0<(d.loose.length:Int))with
   |false=>
    have h0:¬ 0<d.loose.length:=by first|(have:=of_decide_eq_false t1;omega)|(have:=of_decide_eq_true t1;omega)
    rw[if_neg h0]at he
    exact absurd rfl he
   |true=>
    have h0:0<d.loose.length:=by first|(have:=of_decide_eq_false t1;omega)|(have:=of_decide_eq_true t1;omega)
    rw[if_pos h0]at he ⊢
    have hy:=sync_spec b d hd
    generalize d.sync=sy at he hy
    obtain⟨d2,ey⟩:=sy
    dsimp only at he hy ⊢
    have hey:ey≠0:=by
     intro h;rw[if_neg (by simpa using h)]at he;exact he rfl
    have hey:¬ ey=0:=hey
    have u5:(!decide (ey=0))=true:=by simpa using hey
    rw[if_pos hey]
    refine hgo _ (fun u1=>?_) (fun u1 u2=>?_)
    ·refine spec_intro [] _ Tryz.func98 rfl Tryz.ntmps98 (by rfl) (fun w0 R=>?_)
     repeat'(first|(refine gY ?_;intros)|(refine hY ?_ ?_<;>intro hgd)|(refine jY ?_ ?_<;>intro _)|fail)
     refine cl_Y (hr) ?_
     intro _ _
     repeat'(first|(refine gY ?_;intros)|(refine hY ?_ ?_<;>intro hgd)|(refine jY ?_ ?_<;>intro _)|fail)
     refine cl_Y (hS) ?_
     rintro⟨v,hv⟩ _
     repeat'(first|(refine gY ?_;intros)|(refine hY ?_ ?_<;>intro hgd)|(refine jY ?_ ?_<;>intro _)|fail)
     refine cl_Y (Loose_spec b d) ?_
     intro _ _
     repeat'(first|(refine gY ?_;intros)|(refine hY ?_ ?_<;>intro hgd)|(refine jY ?_ ?_<;>intro _)|fail)
     refine cl_Y (hy) ?_
     intro _ _
     repeat'(first|(refine gY ?_;intros)|(refine hY ?_ ?_<;>intro hgd)|(refine jY ?_ ?_<;>intro _)|fail)
     (refine rt_Y (y:=()) (hrs:=Tryz.results98) (hv:=?_) (hφ:=?_))
     ·rfl
     ·trivial
    ·refine spec_intro [] _ Tryz.func98 rfl Tryz.ntmps98 (by rfl) (fun w0 R=>?_)
     repeat'(first|(refine gY ?_;intros)|(refine hY ?_ ?_<;>intro hgd)|(refine jY ?_ ?_<;>intro _)|fail)
     refine cl_Y (hr) ?_
     intro _ _
     repeat'(first|(refine gY ?_;intros)|(refine hY ?_ ?_<;>intro hgd)|(refine jY ?_ ?_<;>intro _)|fail)
     refine cl_Y (hS) ?_
     rintro⟨v,hv⟩ _
     repeat'(first|(refine gY ?_;intros)|(refine hY ?_ ?_<;>intro hgd)|(refine jY ?_ ?_<;>intro _)|fail)
     refine cl_Y (Loose_spec b d) ?_
     intro _ _
     repeat'(first|(refine gY ?_;intros)|(refine hY ?_ ?_<;>intro hgd)|(refine jY ?_ ?_<;>intro _)|fail)
     refine cl_Y (hy) ?_
     intro _ _
     repeat'(first|(refine gY ?_;intros)|(refine hY ?_ ?_<;>intro hgd)|(refine jY ?_ ?_<;>intro _)|fail)
     (refine rt_Y (y:=()) (hrs:=Tryz.results98) (hv:=?_) (hφ:=?_))
     ·rfl
     ·trivial
  ·simp only[Int.reduceEq,if_false,if_true,ne_eq,not_true_eq_false]at he ⊢
   by_cases het:¬ et=0
   ·rw[if_pos het]
    have u4:(!decide (et=0))=true:=by simpa using het
    refine hgo _ (fun u1=>?_) (fun u1 u2=>?_)
    ·refine spec_intro [] _ Tryz.func98 rfl Tryz.ntmps98 (by rfl) (fun w0 R=>?_)
     repeat'(first|(refine gY ?_;intros)|(refine hY ?_ ?_<;>intro hgd)|(refine jY ?_ ?_<;>intro _)|fail)
     refine cl_Y (hr) ?_
     intro _ _
     repeat'(first|(refine gY ?_;intros)|(refine hY ?_ ?_<;>intro hgd)|(refine jY ?_ ?_<;>intro _)|fail)
     refine cl_Y (hS) ?_
     rintro⟨v,hv⟩ _
     repeat'(first|(refine gY ?_;intros)|(refine hY ?_ ?_<;>intro hgd)|(refine jY ?_ ?_<;>intro _)|fail)
     refine cl_Y (hT) ?_
     intro _ _
     repeat'(first|(refine gY ?_;intros)|(refine hY ?_ ?_<;>intro hgd)|(refine jY ?_ ?_<;>intro _)|fail)
     (refine rt_Y (y:=()) (hrs:=Tryz.results98) (hv:=?_) (hφ:=?_))
     ·rfl
     ·trivial
    ·refine spec_intro [] _ Tryz.func98 rfl Tryz.ntmps98 (by rfl) (fun w0 R=>?_)
     repeat'(first|(refine gY ?_;intros)|(refine hY ?_ ?_<;>intro hgd)|(refine jY ?_ ?_<;>intro _)|fail)
     refine cl_Y (hr) ?_
     intro _ _
     repeat'(first|(refine gY ?_;intros)|(refine hY ?_ ?_<;>intro hgd)|(refine jY ?_ ?_<;>intro _)|fail)
     refine cl_Y (hS) ?_
     rintro⟨v,hv⟩ _
     repeat'(first|(refine gY ?_;intros)|(refine hY ?_ ?_<;>intro hgd)|(refine jY ?_ ?_<;>intro _)|fail)
     refine cl_Y (hT) ?_
     intro _ _
     repeat'(first|(refine gY ?_;intros)|(refine hY ?_ ?_<;>intro hgd)|(refine jY ?_ ?_<;>intro _)|fail)
     (refine rt_Y (y:=()) (hrs:=Tryz.results98) (hv:=?_) (hφ:=?_))
     ·rfl
     ·trivial
   ·rw[if_neg het]at he ⊢
    have u4:(!decide (et=0))=false:=by simpa using het
    unfold openS at he ⊢
    cases t1:decide (0<(d1.loose.length:Int))with
    |false=>
     have h0:¬ 0<d1.loose.length:=by first|(have:=of_decide_eq_false t1;omega)|(have:=of_decide_eq_true t1;omega)
     rw[if_neg h0]at he
     exact absurd rfl he
    |true=>
     have h0:0<d1.loose.length:=by first|(have:=of_decide_eq_false t1;omega)|(have:=of_decide_eq_true t1;omega)
     rw[if_pos h0]at he ⊢
     have hy:=sync_spec b d1 hTo
     generalize d1.sync=sy at he hy
     obtain⟨d2,ey⟩:=sy
     dsimp only at he hy ⊢
     have hey:ey≠0:=by
      intro h;rw[if_neg (by simpa using h)]at he;exact he rfl
     have hey:¬ ey=0:=hey
     have u5:(!decide (ey=0))=true:=by simpa using hey
     rw[if_pos hey]
     refine hgo _ (fun u1=>?_) (fun u1 u2=>?_)
     ·refine spec_intro [] _ Tryz.func98 rfl Tryz.ntmps98 (by rfl) (fun w0 R=>?_)
      repeat'(first|(refine gY ?_;intros)|(refine hY ?_ ?_<;>intro hgd)|(refine jY ?_ ?_<;>intro _)|fail)
      refine cl_Y (hr) ?_
      intro _ _
      repeat'(first|(refine gY ?_;intros)|(refine hY ?_ ?_<;>intro hgd)|(refine jY ?_ ?_<;>intro _)|fail)
      refine cl_Y (hS) ?_
      rintro⟨v,hv⟩ _
      repeat'(first|(refine gY ?_;intros)|(refine hY ?_ ?_<;>intro hgd)|(refine jY ?_ ?_<;>intro _)|fail)
      refine cl_Y (hT) ?_
      intro _ _
      repeat'(first|(refine gY ?_;intros)|(refine hY ?_ ?_<;>intro hgd)|(refine jY ?_ ?_<;>intro _)|fail)
      refine cl_Y (Loose_spec b d1) ?_
      intro _ _
      repeat'(first|(refine gY ?_;intros)|(refine hY ?_ ?_<;>intro hgd)|(refine jY ?_ ?_<;>intro _)|fail)
      refine cl_Y (hy) ?_
      intro _ _
      repeat'(first|(refine gY ?_;intros)|(refine hY ?_ ?_<;>intro hgd)|(refine jY ?_ ?_<;>intro _)|fail)
      (refine rt_Y (y:=()) (hrs:=Tryz.results98) (hv:=?_) (hφ:=?_))
      ·rfl
      ·trivial
     ·refine spec_intro [] _ Tryz.func98 rfl Tryz.ntmps98 (by rfl) (fun w0 R=>?_)
      repeat'(first|(refine gY ?_;intros)|(refine hY ?_ ?_<;>intro hgd)|(refine jY ?_ ?_<;>intro _)|fail)
      refine cl_Y (hr) ?_
      intro _ _
      repeat'(first|(refine gY ?_;intros)|(refine hY ?_ ?_<;>intro hgd)|(refine jY ?_ ?_<;>intro _)|fail)
      refine cl_Y (hS) ?_
      rintro⟨v,hv⟩ _
      repeat'(first|(refine gY ?_;intros)|(refine hY ?_ ?_<;>intro hgd)|(refine jY ?_ ?_<;>intro _)|fail)
      refine cl_Y (hT) ?_
      intro _ _
      repeat'(first|(refine gY ?_;intros)|(refine hY ?_ ?_<;>intro hgd)|(refine jY ?_ ?_<;>intro _)|fail)
      refine cl_Y (Loose_spec b d1) ?_
      intro _ _
      repeat'(first|(refine gY ?_;intros)|(refine hY ?_ ?_<;>intro hgd)|(refine jY ?_ ?_<;>intro _)|fail)
      refine cl_Y (hy) ?_
      intro _ _
      repeat'(first|(refine gY ?_;intros)|(refine hY ?_ ?_<;>intro hgd)|(refine jY ?_ ?_<;>intro _)|fail)
      (refine rt_Y (y:=()) (hrs:=Tryz.results98) (hv:=?_) (hφ:=?_))
      ·rfl
      ·trivial
  ·rw[if_pos rfl]
   refine hgo _ (fun u1=>?_) (fun u1 u2=>?_)
   ·refine spec_intro [] _ Tryz.func98 rfl Tryz.ntmps98 (by rfl) (fun w0 R=>?_)
    repeat'(first|(refine gY ?_;intros)|(refine hY ?_ ?_<;>intro hgd)|(refine jY ?_ ?_<;>intro _)|fail)
    refine cl_Y (hr) ?_
    intro _ _
    repeat'(first|(refine gY ?_;intros)|(refine hY ?_ ?_<;>intro hgd)|(refine jY ?_ ?_<;>intro _)|fail)
    refine cl_Y (hS) ?_
    rintro⟨v,hv⟩ _
    repeat'(first|(refine gY ?_;intros)|(refine hY ?_ ?_<;>intro hgd)|(refine jY ?_ ?_<;>intro _)|fail)
    (refine rt_Y (y:=()) (hrs:=Tryz.results98) (hv:=?_) (hφ:=?_))
    ·rfl
    ·trivial
   ·refine spec_intro [] _ Tryz.func98 rfl Tryz.ntmps98 (by rfl) (fun w0 R=>?_)
    repeat'(first|(refine gY ?_;intros)|(refine hY ?_ ?_<;>intro hgd)|(refine jY ?_ ?_<;>intro _)|fail)
    refine cl_Y (hr) ?_
    intro _ _
    repeat'(first|(refine gY ?_;intros)|(refine hY ?_ ?_<;>intro hgd)|(refine jY ?_ ?_<;>intro _)|fail)
    refine cl_Y (hS) ?_
    rintro⟨v,hv⟩ _
    repeat'(first|(refine gY ?_;intros)|(refine hY ?_ ?_<;>intro hgd)|(refine jY ?_ ?_<;>intro _)|fail)
    (refine rt_Y (y:=()) (hrs:=Tryz.results98) (hv:=?_) (hφ:=?_))
    ·rfl
    ·trivial
set_option maxHeartbeats 1000000 in
theorem Open_good(b:Nat)(d:Dk)(nm:BA)(hd:d.Ok)(hl:d.loose.length≤1000000000)(hn:nm.size≤4611686018427387904)(he:(openW d nm).2.1=0):
  FSpec Tryz.prog 98 [.pointer (some ⟨b,0,none⟩),.string nm] [diskP b d] (Nat×{v:Value // v.oneCell'=true}) (fun _=>True) (fun y=>.tuple #[.pointer (some ⟨y.1,0,none⟩),y.2.1,.int .i64 0])
   (fun y=>[diskP b (openW d nm).1,walP y.1 b nm ⟨(openW d nm).2.2.1.length,(openW d nm).2.2.2,0⟩,row 9 1 y.2.1 ((openW d nm).2.2.1.map strV)]):=by
 have hr:=read_spec b d nm 0 16777216 hn
 have hz:=read_size d nm 16777216 (by decide)
 have hse:=scan_e (d.read nm 0 16777216).1
 have hS:=Scan_spec (d.read nm 0 16777216).1 (by omega)
 have hT:=truncate_spec b d nm ((scanOf (d.read nm 0 16777216).1).2.1:Int) hd (by omega) hn
 have hTo:(d.truncate nm ((scanOf (d.read nm 0 16777216).1).2.1:Int)).1.Ok:=hd.truncate
 have hsl:=scanF_len (d.read nm 0 16777216).1.size (d.read nm 0 16777216).1
 rw[show scanF (d.read nm 0 16777216).1.size (d.read nm 0 16777216).1=scanOf (d.read nm 0 16777216).1 from rfl]at hsl
 unfold openW openT at he ⊢
 generalize d.read nm 0 16777216=rd at hr hz he hse hS hT hTo hsl
 obtain⟨s,e⟩:=rd
 dsimp only at hr hz he hse hS hT hTo hsl ⊢
 generalize scanOf s=sc at he hse hS hT hTo hsl
 obtain⟨l,good,es⟩:=sc
 dsimp only at he hse hS hT hTo hsl ⊢
 generalize d.truncate nm (good:Int)=tr at he hT hTo
 obtain⟨d1,et⟩:=tr
 dsimp only at he hT hTo ⊢
 have hln:((l.map strV).length:Int)=(l.length:Int):=by simp
 by_cases h1:e≠0∧e≠3
 ·rw[if_pos h1]at he
  exact absurd he h1.1
 ·rw[if_neg h1]at he ⊢
  have hgo:∀ (G:Prop),((!decide (e=0))=false→G)→((!decide (e=0))=true→(!decide (e=3))=false→G)→G:=by
   intro G g1 g2
   cases u1:(!decide (e=0))with
   |false=>exact g1 u1
   |true=>exact g2 u1 (by simp at u1 h1 ⊢;exact h1 u1)
  rcases hse with rfl|rfl|rfl
  ·simp only[Int.reduceEq,if_false,if_true,ne_eq,not_true_eq_false]at he ⊢
   unfold openS at he ⊢
   cases t1:decide (0<(d.loose.length:Int))with
   |false=>
    have h0:¬ 0<d.loose.length:=by have:=of_decide_eq_false t1;omega
    simp only[h0,if_false,not_true_eq_false]at he ⊢
    refine hgo _ (fun u1=>?_) (fun u1 u2=>?_)
    all_goals
     refine spec_intro [] _ Tryz.func98 rfl Tryz.ntmps98 (by rfl) (fun w0 R=>?_)
     repeat'(first|(refine gY ?_;intros)|(refine hY ?_ ?_<;>intro hgd)|(refine jY ?_ ?_<;>intro _)|fail)
     refine cl_Y (hr) ?_
     intro _ _
     repeat'(first|(refine gY ?_;intros)|(refine hY ?_ ?_<;>intro hgd)|(refine jY ?_ ?_<;>intro _)|fail)
     refine cl_Y (hS) ?_
     rintro⟨v,hv⟩ _
     repeat'(first|(refine gY ?_;intros)|(refine hY ?_ ?_<;>intro hgd)|(refine jY ?_ ?_<;>intro _)|fail)
     refine cl_Y (Loose_spec b d) ?_
     intro _ _
     repeat'(first|(refine gY ?_;intros)|(refine hY ?_ ?_<;>intro hgd)|(refine jY ?_ ?_<;>intro _)|fail)
     rename_i wb
     rw[hln]
     (refine rt_Y (y:=(wb,⟨v,hv⟩)) (hrs:=Tryz.results98) (hv:=?_) (hφ:=?_))
     ·rfl
     ·trivial
   |true=>
    have h0:0<d.loose.length:=by have:=of_decide_eq_true t1;omega
    simp only[h0,if_true]at he ⊢
    have hy:=sync_spec b d hd
    generalize d.sync=sy at he hy
    obtain⟨d2,ey⟩:=sy
    dsimp only at he hy ⊢
    have hey:ey=0:=by
     by_cases h:ey=0
     ·exact h
     ·rw[if_pos h]at he;exact absurd he h
    subst hey
    simp only[not_true_eq_false,if_false]
    refine hgo _ (fun u1=>?_) (fun u1 u2=>?_)
    all_goals
     refine spec_intro [] _ Tryz.func98 rfl Tryz.ntmps98 (by rfl) (fun w0 R=>?_)
     repeat'(first|(refine gY ?_;intros)|(refine hY ?_ ?_<;>intro hgd)|(refine jY ?_ ?_<;>intro _)|fail)
     refine cl_Y (hr) ?_
     intro _ _
     repeat'(first|(refine gY ?_;intros)|(refine hY ?_ ?_<;>intro hgd)|(refine jY ?_ ?_<;>intro _)|fail)
     refine cl_Y (hS) ?_
     rintro⟨v,hv⟩ _
     repeat'(first|(refine gY ?_;intros)|(refine hY ?_ ?_<;>intro hgd)|(refine jY ?_ ?_<;>intro _)|fail)
     refine cl_Y (Loose_spec b d) ?_
     intro _ _
     repeat'(first|(refine gY ?_;intros)|(refine hY ?_ ?_<;>intro hgd)|(refine jY ?_ ?_<;>intro _)|fail)
     refine cl_Y (hy) ?_
     intro _ _
     repeat'(first|(refine gY ?_;intros)|(refine hY ?_ ?_<;>intro hgd)|(refine jY ?_ ?_<;>intro _)|fail)
     rename_i wb
     rw[hln]
     (refine rt_Y (y:=(wb,⟨v,hv⟩)) (hrs:=Tryz.results98) (hv:=?_) (hφ:=?_))
     ·rfl
     ·trivial
  ·simp only[Int.reduceEq,if_false,if_true,ne_eq,not_true_eq_false]at he ⊢
   have het:et=0:=by
    by_cases h:et=0
    ·exact h
    ·rw[if_pos h]at he;exact absurd he h
   subst het
   simp only[not_true_eq_false,if_false]at he ⊢
   unfold openS at he ⊢
   cases t1:decide (0<(d1.loose.length:Int))with
   |false=>
    have h0:¬ 0<d1.loose.length:=by have:=of_decide_eq_false t1;omega
    simp only[h0,if_false,not_true_eq_false]at he ⊢
    refine hgo _ (fun u1=>?_) (fun u1 u2=>?_)
    all_goals
     refine spec_intro [] _ Tryz.func98 rfl Tryz.ntmps98 (by rfl) (fun w0 R=>?_)
     repeat'(first|(refine gY ?_;intros)|(refine hY ?_ ?_<;>intro hgd)|(refine jY ?_ ?_<;>intro _)|fail)
     refine cl_Y (hr) ?_
     intro _ _
     repeat'(first|(refine gY ?_;intros)|(refine hY ?_ ?_<;>intro hgd)|(refine jY ?_ ?_<;>intro _)|fail)
     refine cl_Y (hS) ?_
     rintro⟨v,hv⟩ _
     repeat'(first|(refine gY ?_;intros)|(refine hY ?_ ?_<;>intro hgd)|(refine jY ?_ ?_<;>intro _)|fail)
     refine cl_Y (hT) ?_
     intro _ _
     repeat'(first|(refine gY ?_;intros)|(refine hY ?_ ?_<;>intro hgd)|(refine jY ?_ ?_<;>intro _)|fail)
     refine cl_Y (Loose_spec b d1) ?_
     intro _ _
     repeat'(first|(refine gY ?_;intros)|(refine hY ?_ ?_<;>intro hgd)|(refine jY ?_ ?_<;>intro _)|fail)
     rename_i wb
     rw[hln]
     (refine rt_Y (y:=(wb,⟨v,hv⟩)) (hrs:=Tryz.results98) (hv:=?_) (hφ:=?_))
     ·rfl
     ·trivial
   |true=>
    have h0:0<d1.loose.length:=by have:=of_decide_eq_true t1;omega
    simp only[h0,if_true]at he ⊢
    have hy:=sync_spec b d1 hTo
    generalize d1.sync=sy at he hy
    obtain⟨d2,ey⟩:=sy
    dsimp only at he hy ⊢
    have hey:ey=0:=by
     by_cases h:ey=0
     ·exact h
     ·rw[if_pos h]at he;exact absurd he h
    subst hey
    simp only[not_true_eq_false,if_false]
    refine hgo _ (fun u1=>?_) (fun u1 u2=>?_)
    all_goals
     refine spec_intro [] _ Tryz.func98 rfl Tryz.ntmps98 (by rfl) (fun w0 R=>?_)
     repeat'(first|(refine gY ?_;intros)|(refine hY ?_ ?_<;>intro hgd)|(refine jY ?_ ?_<;>intro _)|fail)
     refine cl_Y (hr) ?_
     intro _ _
     repeat'(first|(refine gY ?_;intros)|(refine hY ?_ ?_<;>intro hgd)|(refine jY ?_ ?_<;>intro _)|fail)
     refine cl_Y (hS) ?_
     rintro⟨v,hv⟩ _
     repeat'(first|(refine gY ?_;intros)|(refine hY ?_ ?_<;>intro hgd)|(refine jY ?_ ?_<;>intro _)|fail)
     refine cl_Y (hT) ?_
     intro _ _
     repeat'(first|(refine gY ?_;intros)|(refine hY ?_ ?_<;>intro hgd)|(refine jY ?_ ?_<;>intro _)|fail)
     refine cl_Y (Loose_spec b d1) ?_
     intro _ _
     repeat'(first|(refine gY ?_;intros)|(refine hY ?_ ?_<;>intro hgd)|(refine jY ?_ ?_<;>intro _)|fail)
     refine cl_Y (hy) ?_
     intro _ _
     repeat'(first|(refine gY ?_;intros)|(refine hY ?_ ?_<;>intro hgd)|(refine jY ?_ ?_<;>intro _)|fail)
     rename_i wb
     rw[hln]
     (refine rt_Y (y:=(wb,⟨v,hv⟩)) (hrs:=Tryz.results98) (hv:=?_) (hφ:=?_))
     ·rfl
     ·trivial
  ·rw[if_pos rfl]at he
   cases he
end Go.Proofs.YtgbmjoenbocfcaaGreat
