import Derived.Test.YtmnafjonbeihiaaGreatDoorH35
import Derived.Lib.Bytealg
set_option linter.unusedSimpArgs false
set_option linter.unusedVariables false
namespace Go.Pl
open Go
structure TC{α:Type}(c:α→α→Int):Prop where
 anti:∀ x y,c x y<0↔0<c y x
 tr:∀ x y z,c x y≤0→c y z≤0→c x z≤0
section
variable{α:Type}{c:α→α→Int}
theorem TC.self(h:TC c)(x:α):c x x=0:=by
 have:=h.anti x x
 omega
theorem TC.zero(h:TC c){x y:α}(e:c x y=0):c y x=0:=by
 have h1:=h.anti x y
 have h2:=h.anti y x
 omega
theorem TC.lt_le(h:TC c){x y z:α}(a:c x y<0)(b:c y z≤0):c x z<0:=by
 have h1:=h.tr x y z (by omega) b
 by_cases e:c x z=0
 ·have e':=h.zero e
  have h2:=h.tr y z x b (by omega)
  have h3:=(h.anti x y).1 a
  omega
 ·omega
theorem TC.le_lt(h:TC c){x y z:α}(a:c x y≤0)(b:c y z<0):c x z<0:=by
 have h1:=h.tr x y z a (by omega)
 by_cases e:c x z=0
 ·have e':=h.zero e
  have h2:=h.tr z x y (by omega) a
  have h3:=(h.anti y z).1 b
  omega
 ·omega
def lexC(c d:α→α→Int)(x y:α):Int:=if c x y=0 then d x y else c x y
theorem TC.lex{d:α→α→Int}(h:TC c)(k:TC d):TC (lexC c d):=by
 refine⟨fun x y=>?_,fun x y z a b=>?_⟩
 ·unfold lexC
  have h1:=h.anti x y
  have h2:=h.anti y x
  have k1:=k.anti x y
  by_cases e:c x y=0
  ·rw[if_pos e,if_pos (h.zero e)];exact k1
  ·have e':c y x≠0:=fun e'=>e (h.zero e')
   rw[if_neg e,if_neg e'];exact h1
 ·unfold lexC at a b ⊢
  by_cases e1:c x y=0
  ·rw[if_pos e1]at a
   by_cases e2:c y z=0
   ·rw[if_pos e2]at b
    have e3:c x z=0:=by
     have h1:=h.tr x y z (by omega) (by omega)
     have h2:=h.tr z y x (by rw[h.zero e2];omega) (by rw[h.zero e1];omega)
     have h3:=h.anti x z
     omega
    rw[if_pos e3];exact k.tr x y z a b
   ·rw[if_neg e2]at b
    have h1:=h.le_lt (x:=x) (y:=y) (z:=z) (by omega) (by omega)
    rw[if_neg (by omega)];omega
  ·rw[if_neg e1]at a
   have hb:c y z≤0:=by
    by_cases e2:c y z=0
    ·omega
    ·rw[if_neg e2]at b;exact b
   have h1:=h.lt_le (x:=x) (y:=y) (z:=z) (by omega) hb
   rw[if_neg (by omega)];omega
theorem TC.map{β:Type}(h:TC c)(f:β→α):TC (fun x y=>c (f x) (f y)):=⟨fun x y=>h.anti _ _,fun x y z=>h.tr _ _ _⟩
end
def cmpI(a b:Int):Int:=if a<b then -1 else if b<a then 1 else 0
theorem cmpI_tc:TC cmpI:=by
 refine⟨fun x y=>?_,fun x y z=>?_⟩<;>unfold cmpI
 ·split<;>split<;>(try split)<;>omega
 ·intro a b
  split at a<;>(try split at a)<;>split at b<;>(try split at b)<;>(try omega)<;>split<;>(try split)<;>omega
theorem cmpI_zero{a b:Int}(h:cmpI a b=0):a=b:=by
 unfold cmpI at h
 split at h
 ·omega
 ·split at h<;>omega
theorem u8_tri(a b:UInt8):a<b∨a=b∨b<a:=by
 rcases Nat.lt_trichotomy a.toNat b.toNat with h|h|h
 ·exact .inl h
 ·exact .inr (.inl (UInt8.toNat_inj.1 h))
 ·exact .inr (.inr h)
theorem cmpB_anti:∀ x y:List UInt8,Lib.compareBytes x y<0↔0<Lib.compareBytes y x
 | [],[]=>by simp[Lib.compareBytes]
 | [],_::_=>by simp[Lib.compareBytes]
 |_::_,[]=>by simp[Lib.compareBytes]
 |a::as,b::bs=>by
  unfold Lib.compareBytes
  rcases u8_tri a b with h|h|h
  ·have h':¬ b<a:=fun k=>by simp only[UInt8.lt_iff_toNat_lt]at h k;omega
   simp[h,h']
  ·subst h
   have h':¬ a<a:=UInt8.lt_irrefl a
   simp only[h',if_false]
   exact cmpB_anti as bs
  ·have h':¬ a<b:=fun k=>by simp only[UInt8.lt_iff_toNat_lt]at h k;omega
   simp[h,h']
theorem cmpB_zero:∀ {x y:List UInt8},Lib.compareBytes x y=0→x=y
 | [],[],_=>rfl
 | [],_::_,h=>by simp[Lib.compareBytes]at h
 |_::_,[],h=>by simp[Lib.compareBytes]at h
 |a::as,b::bs,h=>by
  unfold Lib.compareBytes at h
  rcases u8_tri a b with k|k|k
  ·rw[if_pos k]at h;cases h
  ·subst k
   have h':¬ a<a:=UInt8.lt_irrefl a
   rw[if_neg h',if_neg h']at h
   rw[cmpB_zero h]
  ·have h':¬ a<b:=fun j=>by simp only[UInt8.lt_iff_toNat_lt]at j k;omega
   rw[if_neg h',if_pos k]at h;cases h
theorem cmpB_tr:∀ x y z:List UInt8,Lib.compareBytes x y≤0→Lib.compareBytes y z≤0→Lib.compareBytes x z≤0
 | [],_,[],_,_=>by simp[Lib.compareBytes]
 | [],_,_::_,_,_=>by simp[Lib.compareBytes]
 |_::_,[],_,h,_=>by simp[Lib.compareBytes]at h
 |_::_,_::_,[],_,h=>by simp[Lib.compareBytes]at h
 |a::as,b::bs,c::cs,h,k=>by
  unfold Lib.compareBytes at h k ⊢
  rcases u8_tri a b with h1|h1|h1
  ·rcases u8_tri b c with k1|k1|k1
   ·have:a<c:=by simp only[UInt8.lt_iff_toNat_lt]at h1 k1 ⊢;omega
    simp[this]
   ·subst k1;simp[h1]
   ·have h':¬ b<c:=fun j=>by simp only[UInt8.lt_iff_toNat_lt]at j k1;omega
    simp[h',k1]at k
  ·subst h1
   have h':¬ a<a:=UInt8.lt_irrefl a
   simp only[h',if_false]at h
   rcases u8_tri a c with k1|k1|k1
   ·simp[k1]
   ·subst k1
    simp only[h',if_false]at k ⊢
    exact cmpB_tr as bs cs h k
   ·have h2:¬ a<c:=fun j=>by simp only[UInt8.lt_iff_toNat_lt]at j k1;omega
    simp[h2,k1]at k
  ·have h':¬ a<b:=fun j=>by simp only[UInt8.lt_iff_toNat_lt]at j h1;omega
   simp[h',h1]at h
theorem cmpB_tc:TC Lib.compareBytes:=⟨cmpB_anti,cmpB_tr⟩
def compareV(k:Int→Int):Vl→Vl→Int:=
 lexC (fun a b=>cmpI a.kind b.kind) (lexC (fun a b=>cmpI a.int b.int) (lexC (fun a b=>cmpI (k a.real) (k b.real)) (fun a b=>Lib.compareBytes a.text.data.toList b.text.data.toList)))
theorem compareV_tc(k:Int→Int):TC (compareV k):=
 .lex (cmpI_tc.map (fun a:Vl=>a.kind)) (.lex (cmpI_tc.map (fun a:Vl=>a.int)) (.lex (cmpI_tc.map (fun a:Vl=>k a.real)) (cmpB_tc.map (fun a:Vl=>a.text.data.toList))))
theorem lexC_zero{α:Type}{c d:α→α→Int}{x y:α}(h:lexC c d x y=0):c x y=0∧d x y=0:=by
 unfold lexC at h
 split at h
 ·exact⟨by assumption,h⟩
 ·exact absurd h (by assumption)
theorem compareV_zero{k:Int→Int}{a b:Vl}(h:compareV k a b=0)(hk:k a.real=k b.real→a.real=b.real):a=b:=by
 obtain⟨h1,h2⟩:=lexC_zero h
 obtain⟨h2,h3⟩:=lexC_zero h2
 obtain⟨h3,h4⟩:=lexC_zero h3
 have e1:=cmpI_zero h1
 have e2:=cmpI_zero h2
 have e3:=hk (cmpI_zero h3)
 have e4:a.text=b.text:=ByteArray.ext (Array.ext' (cmpB_zero h4))
 exact Vl.ext_iff'.2 ⟨e1,e2,e3,e4⟩
theorem perm_sorted{α:Type}{lt:α→α→Prop}(ir:∀ x y,lt x y→¬ lt y x):∀ {l m:List α},l.Perm m→l.Pairwise lt→m.Pairwise lt→l=m
 | [],m,p,_,_=>(List.nil_perm.1 p).symm
 |x::l,[],p,_,_=>absurd p.length_eq (by simp)
 |x::l,y::m,p,hl,hm=>by
  have hx:x∈y::m:=p.subset (List.mem_cons_self ..)
  have hy:y∈x::l:=p.symm.subset (List.mem_cons_self ..)
  rw[List.pairwise_cons]at hl hm
  have e:x=y:=by
   rcases List.mem_cons.1 hx with e|hx
   ·exact e
   ·rcases List.mem_cons.1 hy with e|hy
    ·exact e.symm
    ·exact absurd (hm.1 x hx) (ir _ _ (hl.1 y hy))
  subst e
  rw[perm_sorted ir (List.perm_cons x|>.1 p) hl.2 hm.2]
end Go.Pl
