import Derived.Test.YtmnafjonbeihiaaGreatDoorK1
import Derived.Test.YtmnafjonbeihiaaGreatDoorH35
set_option linter.unusedSimpArgs false
set_option linter.unusedVariables false
namespace Go.Pl
open Go Go.Fx
def b8(n:Int):UInt8:=UInt8.ofNat (IntKind.u8.wrap n).toNat
def u64N(n:Int):Nat:=(IntKind.u64.wrap n).toNat
def numB(v n:Nat):BA:=⟨(putL v n).toArray⟩
def oneB(n:Int):BA:=⟨#[b8 n]⟩
def putVB(v:Vl):BA:=
 if v.kind=1 then oneB v.kind++oneB v.int
 else if v.kind=2 then oneB v.kind++numB (u64N v.int) 8
 else if v.kind=3 then oneB v.kind++numB (u64N v.real) 8
 else if v.kind=4∨v.kind=5 then oneB v.kind++(oneB v.text.size++v.text)
 else oneB v.kind
def putLB:List Vl→BA→BA
 | [],s=>s
 |v::l,s=>putLB l (s++putVB v)
def putRB(l:List Vl):BA:=putLB l (oneB l.length)
def rowB(l:List Vl):Bool:=decide (1≤l.length)&&(decide (l.length≤8)&&l.all checkV)
theorem numB_size(v n:Nat):(numB v n).size=n:=by show(putL v n).toArray.size=n;simp[putL]
theorem oneB_size(n:Int):(oneB n).size=1:=rfl
theorem putVB_size{v:Vl}(h:checkV v=true):1≤(putVB v).size∧(putVB v).size≤102:=by
 have ht:v.text.size≤100:=by
  unfold checkV at h
  split at h
  ·cases h
  ·simp only[Bool.and_eq_true,decide_eq_true_eq]at h;exact h.2
 unfold putVB
 split
 ·rw[ByteArray.size_append,oneB_size,oneB_size];omega
 split
 ·rw[ByteArray.size_append,oneB_size,numB_size];omega
 split
 ·rw[ByteArray.size_append,oneB_size,numB_size];omega
 split
 ·rw[ByteArray.size_append,ByteArray.size_append,oneB_size,oneB_size];omega
 ·rw[oneB_size];omega
theorem putLB_snoc(l:List Vl)(v:Vl)(s:BA):putLB (l++[v]) s=putLB l s++putVB v:=by
 induction l generalizing s with
 |nil=>rfl
 |cons a l ih=>simp only[List.cons_append,putLB,ih]
theorem putLB_size{l:List Vl}(h:∀ v∈l,checkV v=true)(s:BA):(putLB l s).size≤s.size+102*l.length:=by
 induction l generalizing s with
 |nil=>simp[putLB]
 |cons a l ih=>
  have h1:=ih (fun v hv=>h v (List.mem_cons_of_mem _ hv)) (s++putVB a)
  have h2:=putVB_size (h a (List.mem_cons_self ..))
  simp only[putLB,List.length_cons]
  rw[ByteArray.size_append]at h1
  omega
end Go.Pl
