import GoSem.Op.String
import Derived.Laws.Strings
namespace Go.Pl
open Go
theorem less_irrefl:∀ a:List UInt8,Op.bytesLess a a=false
 | []=>rfl
 |a::l=>by simp[Op.bytesLess,less_irrefl l]
theorem less_trans:∀ {a b c:List UInt8},Op.bytesLess a b=true→Op.bytesLess b c=true→Op.bytesLess a c=true
 |_,[],_,h,_=>by cases ‹List UInt8› <;>simp[Op.bytesLess]at h
 |_,_::_,[],_,h=>by simp[Op.bytesLess]at h
 | [],_::_,_::_,_,_=>rfl
 |x::a,y::b,z::c,h,k=>by
  simp only[Op.bytesLess,Bool.or_eq_true,Bool.and_eq_true,decide_eq_true_eq,beq_iff_eq]at h k ⊢
  rcases h with h|⟨rfl,h⟩
  ·rcases k with k|⟨rfl,k⟩
   ·exact .inl (UInt8.lt_trans h k)
   ·exact .inl h
  ·rcases k with k|⟨rfl,k⟩
   ·exact .inl k
   ·exact .inr ⟨rfl,less_trans h k⟩
theorem less_tri:∀ a b:List UInt8,Op.bytesLess a b=true∨a=b∨Op.bytesLess b a=true
 | [],[]=>.inr (.inl rfl)
 | [],_::_=>.inl rfl
 |_::_,[]=>.inr (.inr rfl)
 |x::a,y::b=>by
  simp only[Op.bytesLess,Bool.or_eq_true,Bool.and_eq_true,decide_eq_true_eq,beq_iff_eq]
  by_cases hxy:x=y
  ·subst hxy
   rcases less_tri a b with h|h|h
   ·exact .inl (.inr ⟨rfl,h⟩)
   ·exact .inr (.inl (by rw[h]))
   ·exact .inr (.inr (.inr ⟨rfl,h⟩))
  ·rcases UInt8.lt_or_lt_of_ne hxy with h|h
   ·exact .inl (.inl h)
   ·exact .inr (.inr (.inl h))
theorem nil_toList:({data:= #[]}:ByteArray).toList=[]:=by rw[ByteArray.toList_eq]
def ltS(a b:ByteArray):Bool:=Op.bytesLess a.toList b.toList
theorem toList_inj{a b:ByteArray}(h:a.toList=b.toList):a=b:=by
 rw[ByteArray.toList_eq,ByteArray.toList_eq]at h
 cases a;cases b
 simp only[ByteArray.mk.injEq]
 exact Array.ext' h
theorem eqS_iff{a b:ByteArray}:(a.toList==b.toList)=true↔a=b:=by
 rw[beq_iff_eq]
 exact⟨toList_inj,fun h=>by rw[h]⟩
theorem ltS_irrefl(a:ByteArray):ltS a a=false:=less_irrefl _
theorem ltS_trans{a b c:ByteArray}(h:ltS a b=true)(k:ltS b c=true):ltS a c=true:=less_trans h k
theorem ltS_tri(a b:ByteArray):ltS a b=true∨a=b∨ltS b a=true:=by
 rcases less_tri a.toList b.toList with h|h|h
 ·exact .inl h
 ·exact .inr (.inl (toList_inj h))
 ·exact .inr (.inr h)
theorem ltS_asymm{a b:ByteArray}(h:ltS a b=true):ltS b a=false:=by
 cases hb:ltS b a with
 |false=>rfl
 |true=>have:=ltS_trans h hb;rw[ltS_irrefl]at this;cases this
theorem ltS_ne{a b:ByteArray}(h:ltS a b=true):a≠b:=fun e=>by subst e;rw[ltS_irrefl]at h;cases h
structure Pr where
 k:ByteArray
 v:ByteArray
 g:Bool
def Sorted(l:List Pr):Prop:=l.Pairwise fun a b=>ltS a.k b.k=true
def ins(p:Pr):List Pr→List Pr
 | []=>[p]
 |q::l=>if ltS p.k q.k then p::q::l else if p.k.toList==q.k.toList then p::l else q::ins p l
def sizeL(l:List Pr):Nat:=(l.map fun p=>p.k.size+p.v.size).sum
def look(k:ByteArray)(l:List Pr):Option Pr:=l.find? fun q=>k.toList==q.k.toList
theorem sizeL_append(a b:List Pr):sizeL (a++b)=sizeL a+sizeL b:=by simp[sizeL]
theorem sizeL_cons(p:Pr)(b:List Pr):sizeL (p::b)=p.k.size+p.v.size+sizeL b:=by simp[sizeL]
theorem mem_ins{p q:Pr}:∀ {l:List Pr},q∈ins p l→q=p∨q∈l
 | [],h=>by simp[ins]at h;exact .inl h
 |r::l,h=>by
  unfold ins at h
  split at h
  ·rcases List.mem_cons.1 h with h|h
   ·exact .inl h
   ·exact .inr h
  ·split at h
   ·rcases List.mem_cons.1 h with h|h
    ·exact .inl h
    ·exact .inr (List.mem_cons_of_mem _ h)
   ·rcases List.mem_cons.1 h with h|h
    ·exact .inr (h▸List.mem_cons_self ..)
    ·exact(mem_ins h).imp id (List.mem_cons_of_mem _)
theorem ins_sorted{p:Pr}:∀ {l:List Pr},Sorted l→Sorted (ins p l)
 | [],_=>by simp[ins,Sorted]
 |q::l,h=>by
  have hq:=List.pairwise_cons.1 h
  unfold ins
  split
  ·rename_i h1
   refine List.pairwise_cons.2 ⟨fun r hr=>?_,h⟩
   rcases List.mem_cons.1 hr with rfl|hr
   ·exact h1
   ·exact ltS_trans h1 (hq.1 r hr)
  ·split
   ·rename_i h1 h2
    have e:=eqS_iff.1 h2
    refine List.pairwise_cons.2 ⟨fun r hr=>by rw[e];exact hq.1 r hr,hq.2⟩
   ·rename_i h1 h2
    refine List.pairwise_cons.2 ⟨fun r hr=>?_,ins_sorted hq.2⟩
    rcases mem_ins hr with rfl|hr
    ·rcases ltS_tri r.k q.k with h|h|h
     ·exact absurd h h1
     ·exact absurd (eqS_iff.2 h) h2
     ·exact h
    ·exact hq.1 r hr
theorem ins_left{p q:Pr}(h:ltS p.k q.k=true):∀ (l r:List Pr),ins p (l++q::r)=ins p l++q::r
 | [],r=>by simp[ins,h]
 |x::l,r=>by
  simp only[List.cons_append,ins]
  split
  ·rfl
  ·split
   ·rfl
   ·rw[ins_left h l r];rfl
theorem ins_right{p q:Pr}(h:ltS q.k p.k=true):∀ (l r:List Pr),(∀ x∈l,ltS x.k q.k=true)→ins p (l++q::r)=l++q::ins p r
 | [],r,_=>by
  have h1:¬ ltS p.k q.k=true:=by rw[ltS_asymm h];simp
  have h2:¬ (p.k.toList==q.k.toList)=true:=fun e=>by have:=eqS_iff.1 e;exact ltS_ne h this.symm
  simp only[List.nil_append]
  rw[ins,if_neg h1,if_neg h2]
 |x::l,r,hl=>by
  have hx:=ltS_trans (hl x (List.mem_cons_self ..)) h
  have h1:¬ ltS p.k x.k=true:=by rw[ltS_asymm hx];simp
  have h2:¬ (p.k.toList==x.k.toList)=true:=fun e=>by have:=eqS_iff.1 e;exact ltS_ne hx this.symm
  simp only[List.cons_append]
  rw[ins,if_neg h1,if_neg h2,ins_right h l r (fun y hy=>hl y (List.mem_cons_of_mem _ hy))]
theorem ins_here{p q:Pr}(h:p.k=q.k):∀ (l r:List Pr),(∀ x∈l,ltS x.k q.k=true)→ins p (l++q::r)=l++p::r
 | [],r,_=>by
  have h1:¬ ltS p.k q.k=true:=by rw[h,ltS_irrefl];simp
  have h2:(p.k.toList==q.k.toList)=true:=eqS_iff.2 h
  simp only[List.nil_append]
  rw[ins,if_neg h1,if_pos h2]
 |x::l,r,hl=>by
  have hx:ltS x.k p.k=true:=by rw[h];exact hl x (List.mem_cons_self ..)
  have h1:¬ ltS p.k x.k=true:=by rw[ltS_asymm hx];simp
  have h2:¬ (p.k.toList==x.k.toList)=true:=fun e=>by have:=eqS_iff.1 e;exact ltS_ne hx this.symm
  simp only[List.cons_append]
  rw[ins,if_neg h1,if_neg h2,ins_here h l r (fun y hy=>hl y (List.mem_cons_of_mem _ hy))]
def has(k:ByteArray)(l:List Pr):Bool:=l.any fun q=>k.toList==q.k.toList
theorem has_append(k:ByteArray)(a b:List Pr):has k (a++b)=(has k a||has k b):=by simp[has]
theorem has_cons(k:ByteArray)(q:Pr)(b:List Pr):has k (q::b)=((k.toList==q.k.toList)||has k b):=rfl
theorem has_none{k:ByteArray}{l:List Pr}(h:∀ x∈l,x.k≠k):has k l=false:=by
 simp only[has,List.any_eq_false]
 intro x hx he
 exact h x hx (eqS_iff.1 he).symm
theorem sorted_mid{l r:List Pr}{q:Pr}(h:Sorted (l++q::r)):Sorted l∧Sorted r∧(∀ x∈l,ltS x.k q.k=true)∧(∀ x∈r,ltS q.k x.k=true):=by
 obtain⟨h1,h2,h3⟩:=List.pairwise_append.1 h
 obtain⟨h4,h5⟩:=List.pairwise_cons.1 h2
 exact⟨h1,h5,fun x hx=>h3 x hx q (List.mem_cons_self ..),h4⟩
theorem ins_length(p:Pr):∀ l:List Pr,Sorted l→(ins p l).length=l.length+(if has p.k l then 0 else 1)
 | [],_=>rfl
 |q::l,hs=>by
  have hq:=List.pairwise_cons.1 hs
  unfold ins
  rw[has_cons]
  split
  ·rename_i h
   have h1:(p.k.toList==q.k.toList)=false:=by
    cases e:(p.k.toList==q.k.toList)with
    |false=>rfl
    |true=>exact absurd (eqS_iff.1 e) (ltS_ne h)
   have h2:has p.k l=false:=has_none fun x hx e=>by
    have:=ltS_trans h (hq.1 x hx);rw[e,ltS_irrefl]at this;cases this
   rw[h1,h2];rfl
  ·split
   ·rename_i h1 h2;rw[h2];rfl
   ·rename_i h1 h2
    have h3:(p.k.toList==q.k.toList)=false:=by simpa using h2
    rw[h3,Bool.false_or,List.length_cons,ins_length p l hq.2,List.length_cons];omega
end Go.Pl
