import Derived.Test.YtmnafjonbeihiaaGreatDoorH41
import Derived.Shelf.Unicode.DecodeSlow
import Derived.Lib.MapLaws
set_option linter.unusedSimpArgs false
set_option linter.unusedVariables false
namespace Go.Pl
open Go Go.Fx
theorem validGoD_nil:∀ n,Lib.validGoD n []=true
 |0=>rfl
 |n+1=>by simp[Lib.validGoD]
theorem validGoD_fuel:∀ (n m:Nat) (l:List UInt8),l.length≤n→l.length≤m→Lib.validGoD n l=Lib.validGoD m l
 |0,m,l,hn,_=>by
  have:l=[]:=List.eq_nil_of_length_eq_zero (by omega)
  subst this
  rw[validGoD_nil,validGoD_nil]
 |n+1,0,l,_,hm=>by
  have:l=[]:=List.eq_nil_of_length_eq_zero (by omega)
  subst this
  rw[validGoD_nil,validGoD_nil]
 |n+1,m+1,l,hn,hm=>by
  by_cases hne:l=[]
  ·subst hne
   rw[validGoD_nil,validGoD_nil]
  ·have hw:=Lib.decodeL_width l
   have hl:0<l.length:=List.length_pos_iff.2 hne
   simp only[Lib.validGoD,if_neg hne]
   rw[validGoD_fuel n m _ (by rw[List.length_drop];omega) (by rw[List.length_drop];omega)]
theorem validD_step{l:List UInt8}(hne:l≠[])(h:Lib.validD l=true):¬ ((Lib.decodeL l).1=65533∧(Lib.decodeL l).2=1)∧Lib.validD (l.drop (Lib.decodeL l).2)=true:=by
 have hl:0<l.length:=List.length_pos_iff.2 hne
 have hw:=Lib.decodeL_width l
 obtain⟨n,hn⟩:∃ n,l.length=n+1:=⟨l.length-1,by omega⟩
 unfold Lib.validD at h
 rw[hn,Lib.validGoD,if_neg hne]at h
 split at h
 ·cases h
 ·rename_i hc
  refine⟨hc,?_⟩
  unfold Lib.validD
  rw[← h]
  exact validGoD_fuel _ _ _ (Nat.le_refl _) (by rw[List.length_drop];omega)
theorem decodeGo_at(s:BA)(i:Nat)(h:i<s.size):Lib.decodeGo (s.extract i s.size)=Lib.decodeL ((tl s).drop i):=by
 have e:s.extract i s.size=⟨((tl s).drop i).toArray⟩:=tl_inj (by
  rw[tl_ext,List.take_of_length_le (by rw[List.length_drop,tl_len];omega)])
 have hz:(s.extract i s.size).size≠0:=by rw[ByteArray.size_extract];omega
 unfold Lib.decodeGo Lib.decodeL
 rw[if_neg hz,e]
theorem valid_at{s:BA}{i:Nat}(h:i<s.size)(hv:Lib.validD ((tl s).drop i)=true):
  ∃ c z:Nat,Lib.decodeGo (s.extract i s.size)=(c,z)∧¬ (c=65533∧z=1)∧1≤z∧i+z≤s.size∧Lib.validD ((tl s).drop (i+z))=true:=by
 have hne:(tl s).drop i≠[]:=by
  intro e
  have:=congrArg List.length e
  rw[List.length_drop,tl_len,List.length_nil]at this
  omega
 obtain⟨h1,h2⟩:=validD_step hne hv
 have hle:=Lib.decodeL_le _ hne
 rw[List.length_drop,tl_len]at hle
 have hw:=Lib.decodeL_width ((tl s).drop i)
 have hg:=decodeGo_at s i h
 rw[List.drop_drop]at h2
 generalize Lib.decodeL ((tl s).drop i)=q at h1 h2 hle hw hg
 obtain⟨c,z⟩:=q
 dsimp only at h1 h2 hle hw
 exact⟨c,z,hg,h1,hw,by omega,h2⟩
def At(s:BA)(i:Nat)(t:BA):Prop:=∃ a b:List UInt8,tl s=a++(tl t++b)∧a.length=i
theorem At.le{s:BA}{i:Nat}{t:BA}(h:At s i t):i+t.size≤s.size:=by
 obtain⟨a,b,e,rfl⟩:=h
 have:=congrArg List.length e
 rw[List.length_append,List.length_append]at this
 have h1:=tl_len s
 have h2:=tl_len t
 omega
theorem At.ext{s:BA}{i:Nat}{t:BA}(h:At s i t):s.extract i (i+t.size)=t:=by
 obtain⟨a,b,e,rfl⟩:=h
 exact tl_inj (by rw[tl_ext,e,List.drop_append_of_le_length (Nat.le_refl _),List.drop_of_length_le (Nat.le_refl _),List.nil_append,show a.length+t.size-a.length=(tl t).length by rw[tl_len];omega,List.take_append_of_le_length (Nat.le_refl _),List.take_of_length_le (Nat.le_refl _)])
theorem At.left{s:BA}{i:Nat}{t u:BA}(h:At s i (t++u)):At s i t:=by
 obtain⟨a,b,e,rfl⟩:=h
 exact⟨a,tl u++b,by rw[e,tl_app,List.append_assoc],rfl⟩
theorem At.right{s:BA}{i:Nat}{t u:BA}(h:At s i (t++u)):At s (i+t.size) u:=by
 obtain⟨a,b,e,rfl⟩:=h
 exact⟨a++tl t,b,by rw[e,tl_app,List.append_assoc,List.append_assoc],by rw[List.length_append,tl_len]⟩
theorem At.all(t u:BA):At (t++u) 0 (t++u):=⟨[],[],by simp,rfl⟩
theorem At.self(t:BA):At t 0 t:=⟨[],[],by simp,rfl⟩
theorem At.rest{s:BA}{i j:Nat}{t:BA}(h:At s (i+j) t):At (s.extract i s.size) j t:=by
 obtain⟨a,b,e,ha⟩:=h
 refine⟨a.drop i,b,?_,by rw[List.length_drop];omega⟩
 have hl:(tl s).length=s.size:=tl_len s
 rw[tl_ext,List.take_of_length_le (by rw[List.length_drop,hl];omega),e,List.drop_append_of_le_length (by omega)]
theorem oneB_at{s:BA}{i:Nat}{k:Int}(h:At s i (oneB k)):s.extract i (i+1)=oneB k:=h.ext
def catV(l:List Vl):BA:=putLB l ⟨#[]⟩
def rowsB(ls:List (List Vl)):BA:=ls.foldl (fun s l=>s++putRB l) ⟨#[]⟩
theorem ba_nil(s:BA):(⟨#[]⟩:BA)++s=s:=tl_inj (by rw[tl_app];rfl)
theorem ba_nil'(s:BA):s++(⟨#[]⟩:BA)=s:=tl_inj (by rw[tl_app];exact List.append_nil _)
theorem ba_assoc(a b c:BA):a++b++c=a++(b++c):=tl_inj (by rw[tl_app,tl_app,tl_app,tl_app,List.append_assoc])
theorem putLB_pre(l:List Vl):∀ s:BA,putLB l s=s++catV l:=by
 induction l with
 |nil=>intro s;exact(ba_nil' s).symm
 |cons v l ih=>
  intro s
  unfold catV
  rw[putLB,putLB,ih,ih (⟨#[]⟩++putVB v),ba_nil,ba_assoc]
theorem catV_cons(v:Vl)(l:List Vl):catV (v::l)=putVB v++catV l:=by
 show putLB (v::l) ⟨#[]⟩=_
 rw[putLB,putLB_pre,ba_nil]
theorem putRB_eq(l:List Vl):putRB l=oneB l.length++catV l:=putLB_pre _ _
theorem rowsB_pre(ls:List (List Vl)):∀ s:BA,ls.foldl (fun s l=>s++putRB l) s=s++rowsB ls:=by
 induction ls with
 |nil=>intro s;exact(ba_nil' s).symm
 |cons v l ih=>
  intro s
  unfold rowsB
  rw[List.foldl_cons,List.foldl_cons,ih,ih (⟨#[]⟩++putRB v),ba_nil,ba_assoc]
theorem rowsB_cons(l:List Vl)(ls:List (List Vl)):rowsB (l::ls)=putRB l++rowsB ls:=by
 show List.foldl _ _ _=_
 rw[List.foldl_cons,rowsB_pre,ba_nil]
theorem rowsB_nil:rowsB []=⟨#[]⟩:=rfl
theorem putRB_pos(l:List Vl):1≤(putRB l).size:=by rw[putRB_eq,ByteArray.size_append,oneB_size];omega
def offV(l:List Vl)(j:Nat):Nat:=(catV (l.take j)).size
theorem catV_take{l:List Vl}{j:Nat}(h:j<l.length):catV l=catV (l.take j)++(putVB l[j]++catV (l.drop (j+1))):=by
 induction l generalizing j with
 |nil=>simp at h
 |cons v l ih=>
  cases j with
  |zero=>rw[catV_cons];show _=catV []++_;rw[show catV []=⟨#[]⟩from rfl,ba_nil];rfl
  |succ j=>rw[catV_cons,ih (by simpa using h),List.take_succ_cons,catV_cons,ba_assoc];rfl
theorem offV_succ{l:List Vl}{j:Nat}(h:j<l.length):offV l (j+1)=offV l j+(putVB l[j]).size:=by
 have e:catV (l.take (j+1))=catV (l.take j)++putVB l[j]:=by
  rw[List.take_succ_eq_append_getElem h]
  show putLB (_++[_]) _=_
  rw[putLB_snoc];rfl
 unfold offV
 rw[e,ByteArray.size_append]
theorem row_at{s:BA}{i:Nat}{l:List Vl}(h:At s i (putRB l)):At s i (oneB l.length)∧∀ (j:Nat) (hj:j<l.length),At s (i+1+offV l j) (putVB l[j]):=by
 rw[putRB_eq]at h
 refine⟨h.left,fun j hj=>?_⟩
 have h1:=h.right
 rw[oneB_size,catV_take hj]at h1
 exact h1.right.left
theorem row_size(l:List Vl):(putRB l).size=1+offV l l.length:=by
 rw[putRB_eq,ByteArray.size_append,oneB_size];unfold offV;rw[List.take_length]
end Go.Pl
