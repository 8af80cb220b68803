/- Texts merged: MnR MnS. -/
import Derived.Test.YtgbmjoenbocfcaaGreatG4
import Derived.Test.YtgbmjoenbocfcaaGreatH32
import Derived.Test.YtgbmjoenbocfcaaGreatG1
set_option linter.unusedVariables false
set_option maxRecDepth 20000
namespace Go.Proofs.YtgbmjoenbocfcaaGreat
open Go Go.Fx Go.Pl
def mA:Mn:=⟨1,[],2⟩
def mB:Mn:=⟨2,[],3⟩
def nM:BA:=⟨#[109]⟩
def nX:BA:=⟨#[120]⟩
def M0:Dk:=newD 1000
def M1:Dk:=(saveD nM (mBytes mA) M0).1
def M2:Dk:=M1.fuseTo 2
def M3:Dk:=(saveD nM (mBytes mB) M2).1
def M4:Dk:=M3.crash 0 0
end Go.Proofs.YtgbmjoenbocfcaaGreat
namespace Go.Proofs.YtgbmjoenbocfcaaGreat
open Go Go.Fx Go.Pl
def nMn:BA:=nM++dotNew
theorem fget_del(k j:BA)(h:k≠j):∀ l:FS,fget k (fdel j l)=fget k l
 | []=>rfl
 |(b,u)::l=>by
  unfold fdel
  by_cases hj:j=b
  ·subst hj
   rw[if_pos rfl]
   simp only[fget,if_neg h]
  ·rw[if_neg hj]
   simp only[fget]
   by_cases hk:k=b
   ·simp[hk]
   ·simp[hk,fget_del k j h l]
theorem fget_notin{k:BA}:∀ {l:FS},k∉l.map (·.1)→fget k l=none
 | [],_=>rfl
 |(b,u)::l,h=>by
  simp only[List.map_cons,List.mem_cons,not_or]at h
  simp only[fget,if_neg h.1]
  exact fget_notin h.2
theorem fget_del_self(k:BA):∀ {l:FS},(l.map (·.1)).Nodup→fget k (fdel k l)=none
 | [],_=>rfl
 |(b,u)::l,h=>by
  simp only[List.map_cons,List.nodup_cons]at h
  unfold fdel
  by_cases hj:k=b
  ·subst hj
   rw[if_pos rfl]
   exact fget_notin h.1
  ·rw[if_neg hj]
   simp only[fget,if_neg hj]
   exact fget_del_self k h.2
structure KInv(C:Option BA→Prop)(d:Dk):Prop where
 pre:∀ k,C (fget nM (play d.sure (d.loose.take k)))
 app:∀ c∈d.loose,∀ n s,c= .app n s→n≠nM
variable{C C':Option BA→Prop}{d:Dk}
theorem KInv.mono(h:KInv C d)(k:∀ o,C o→C' o):KInv C' d:=⟨fun i=>k _ (h.pre i),h.app⟩
theorem KInv.files(h:KInv C d)(hd:d.Ok):C (fget nM d.files):=by
 have:=h.pre d.loose.length
 rw[List.take_length,hd.play]at this
 exact this
theorem KInv.same(h:KInv C d){d':Dk}(e1:d'.sure=d.sure)(e2:d'.loose=d.loose):KInv C d':=⟨by rw[e1,e2];exact h.pre,by rw[e2];exact h.app⟩
theorem KInv.fuse(h:KInv C d)(n:Int):KInv C (d.fuseTo n):=h.same rfl rfl
theorem KInv.settled{l:FS}(h:C (fget nM l)){d:Dk}(e1:d.sure=l)(e2:d.loose=[]):KInv C d:=by
 refine⟨fun k=>?_,?_⟩
 ·rw[e2,e1];simpa [play]using h
 ·rw[e2];simp
theorem KInv.crash(h:KInv C d)(keep torn:Int):KInv C (d.crash keep torn):=by
 refine KInv.settled (l:=d.torn (d.kept keep) torn) ?_ rfl rfl
 unfold Dk.torn
 generalize d.kept keep=k
 have hk:=h.pre k
 cases hc:d.loose[k]? with
 |none=>exact hk
 |some c=>
  have hm:c∈d.loose:=List.mem_of_getElem? hc
  cases c with
  |app n s=>
   have hn:=h.app _ hm n s rfl
   by_cases ht:0<torn
   ·have e:(some (Cl.app n s)).bind (·.piece torn)=some (.app n (s.extract 0 (if(s.size:Int)<torn then(s.size:Int)else torn).toNat)):=by simp[Cl.piece,ht]
    rw[e]
    show C (fget nM (fput n _ _))
    rw[fget_put,if_neg (Ne.symm hn)]
    exact hk
   ·have e:(some (Cl.app n s)).bind (·.piece torn)=none:=by simp[Cl.piece,ht]
    rw[e];exact hk
  |trunc n s=>exact hk
  |ren n s=>exact hk
  |rem n=>exact hk
theorem KInv.doC(h:KInv C d)(hd:d.Ok)(c:Cl)(hC:C (fget nM (c.run d.files)))(ha:∀ n s,c= .app n s→n≠nM):KInv C (d.doC c).1:=by
 unfold Dk.doC
 split
 ·exact h.same rfl rfl
 ·refine⟨fun k=>?_,?_⟩
  ·show C (fget nM (play d.sure ((d.loose++[c]).take k)))
   rcases Nat.lt_or_ge d.loose.length k with hk|hk
   ·rw[List.take_of_length_le (by simp;omega),play_snoc,hd.play];exact hC
   ·rw[List.take_append_of_le_length hk];exact h.pre k
  ·intro x hx n s e
   rcases List.mem_append.1 hx with hx|hx
   ·exact h.app x hx n s e
   ·rw[List.mem_singleton]at hx
    subst hx;exact ha n s e
theorem live1(d:Dk){n:BA}(h:mayN n=true):d.live [n]=if d.still then 20 else 0:=by
 unfold Dk.live
 simp[h]
theorem live0(d:Dk):d.live []=if d.still then 20 else 0:=by
 unfold Dk.live
 simp
theorem cut_all(t:BA)(n:Int)(h:(t.size:Int)≤n):cut t 0 n=t:=by
 apply bl_inj
 unfold cut
 dsimp only
 have e0:(if(t.size:Int)<0 then(t.size:Int)else 0).toNat=0:=by split<;>omega
 have e1:(if((t.extract 0 t.size).size:Int)<n then((t.extract 0 t.size).size:Int)else n).toNat=t.size∨t.size≤(if((t.extract 0 t.size).size:Int)<n then((t.extract 0 t.size).size:Int)else n).toNat:=by
  rw[ByteArray.size_extract,Nat.min_self,Nat.sub_zero]
  split
  ·left;omega
  ·right;omega
 rw[e0,bl_ext,bl_ext,List.drop_zero,List.drop_zero,Nat.sub_zero,Nat.sub_zero]
 rw[List.take_of_length_le (i:=t.size) (by rw[bl_len];omega)]
 exact List.take_of_length_le (by rw[bl_len];rcases e1 with e1|e1<;>omega)
end Go.Proofs.YtgbmjoenbocfcaaGreat
