import Derived.Test.YtgbmjoenbocfcaaGreatWdP
import Derived.Test.YtgbmjoenbocfcaaGreatG0
set_option linter.unusedVariables false
namespace Go.Pl
open Go Go.Fx
theorem u32_range(n:Int):0≤IntKind.u32.wrap n∧IntKind.u32.wrap n<4294967296:=by
 have e4:(2:Int) ^ IntKind.u32.bits=4294967296:=rfl
 unfold IntKind.wrap
 simp only[e4]
 rw[if_neg (by simp[IntKind.signed])]
 omega
def getU(s:BA):Int:=IntKind.u32.wrap (getL s.data.toList s.size)
theorem getU_range(s:BA):0≤getU s∧getU s<4294967296:=u32_range _
def nextF(b:BA):BA×Int:=
 if b.size<8 then(⟨#[]⟩,70)else
 if sumS (b.extract 0 4)≠getU (b.extract 4 8)∨4194304<getU (b.extract 0 4)then(⟨#[]⟩,71)else
 if(b.size:Int)<12+getU (b.extract 0 4)then(⟨#[]⟩,70)else
 if sumS (b.extract 12 (12+getU (b.extract 0 4)).toNat)≠getU (b.extract 8 12)then(⟨#[]⟩,71)else
 (b.extract 12 (12+getU (b.extract 0 4)).toNat,0)
theorem nextF_size{b:BA}(h:(nextF b).2=0):12+(nextF b).1.size≤b.size:=by
 unfold nextF at h ⊢
 have hr:=getU_range (b.extract 0 4)
 split at h
 ·cases h
 ·split at h
  ·cases h
  ·split at h
   ·cases h
   ·split at h
    ·cases h
    ·rename_i h1 h2 h3 h4
     simp only[h1,h2,h3,h4,if_false]
     rw[ByteArray.size_extract]
     omega
def yieldsF:Nat→BA→List (BA×Int)
 |0,_=>[]
 |k+1,b=>if b.size=0 then []else if(nextF b).2≠0 then [nextF b]else nextF b::yieldsF k (b.extract (12+(nextF b).1.size) b.size)
def scanF:Nat→BA→List BA×Nat×Int
 |0,_=>([],0,0)
 |k+1,b=>if b.size=0 then([],0,0)else if(nextF b).2≠0 then([],0,(nextF b).2)else
  let r:=scanF k (b.extract (12+(nextF b).1.size) b.size)
  ((nextF b).1::r.1,12+(nextF b).1.size+r.2.1,r.2.2)
def yieldsOf(b:BA):List (BA×Int):=yieldsF b.size b
def scanOf(b:BA):List BA×Nat×Int:=scanF b.size b
def goF(q:List (BA×Int)):Bool:=match q.getLast? with|some y=>decide (y.2=0)|none=>true
theorem goF_snoc(pre:List (BA×Int))(y:BA×Int):goF (pre++[y])=decide (y.2=0):=by unfold goF;rw[List.getLast?_concat]
def okT(q:List (BA×Int)):List BA:=(q.filter (fun y=>decide (y.2=0))).map (·.1)
def errT(q:List (BA×Int)):Int:=match q.getLast? with|some y=>y.2|none=>0
def lenT(l:List BA):Nat:=(l.map fun s=>12+s.size).sum
def strV(s:BA):List Value:=[.string s]
theorem okT_ok(pre:List (BA×Int))(s:BA):okT (pre++[(s,0)])=okT pre++[s]:=by simp[okT,List.filter_append]
theorem okT_bad(pre:List (BA×Int))(y:BA×Int)(h:y.2≠0):okT (pre++[y])=okT pre:=by simp[okT,List.filter_append,h]
theorem lenT_snoc(l:List BA)(s:BA):lenT (l++[s])=lenT l+(12+s.size):=by simp[lenT]
theorem okT_pre{p q:List (BA×Int)}(h:p <+:q):(okT p) <+:okT q:=by
 obtain⟨r,rfl⟩:=h
 exact⟨okT r,by simp[okT,List.filter_append]⟩
theorem lenT_pre{p q:List BA}(h:p <+:q):lenT p≤lenT q:=by
 obtain⟨r,rfl⟩:=h
 simp[lenT]
theorem yields_okT:∀ (k:Nat) (b:BA),okT (yieldsF k b)=(scanF k b).1
 |0,b=>rfl
 |k+1,b=>by
  unfold yieldsF scanF
  by_cases h0:b.size=0
  ·simp only[h0,if_true];rfl
  ·simp only[h0,if_false]
   by_cases h1:(nextF b).2=0
   ·simp only[h1,ne_eq,not_true_eq_false,if_false]
    rw[← yields_okT k]
    simp[okT,h1]
   ·simp only[h1,ne_eq,not_false_eq_true,if_true]
    simp[okT,h1]
theorem scanF_len:∀ (k:Nat) (b:BA),lenT (scanF k b).1=(scanF k b).2.1∧(scanF k b).2.1≤b.size
 |0,b=>by simp[scanF,lenT]
 |k+1,b=>by
  unfold scanF
  by_cases h0:b.size=0
  ·simp[h0,lenT]
  ·simp only[h0,if_false]
   by_cases h1:(nextF b).2=0
   ·simp only[h1,ne_eq,not_true_eq_false,if_false]
    have ih:=scanF_len k (b.extract (12+(nextF b).1.size) b.size)
    have hs:=nextF_size h1
    rw[ByteArray.size_extract]at ih
    have e:lenT ((nextF b).1::(scanF k (b.extract (12+(nextF b).1.size) b.size)).1)=12+(nextF b).1.size+lenT (scanF k (b.extract (12+(nextF b).1.size) b.size)).1:=by simp[lenT]
    rw[e]
    omega
   ·simp only[h1,ne_eq,not_false_eq_true,if_true]
    simp[lenT]
theorem scanF_cnt:∀ (k:Nat) (b:BA),(scanF k b).1.length≤k
 |0,b=>by simp[scanF]
 |k+1,b=>by
  unfold scanF
  split
  ·simp
  ·split
   ·simp
   ·have:=scanF_cnt k (b.extract (12+(nextF b).1.size) b.size)
    simp only[List.length_cons];omega
theorem yields_eat:∀ (k:Nat) (b:BA) (pre:List (BA×Int)),eat goF pre (yieldsF k b)=(pre++yieldsF k b,decide ((scanF k b).2.2=0))
 |0,b,pre=>by simp[yieldsF,eat,scanF]
 |k+1,b,pre=>by
  unfold yieldsF scanF
  by_cases h0:b.size=0
  ·simp[h0,eat]
  ·simp only[h0,if_false]
   by_cases h1:(nextF b).2=0
   ·simp only[h1,ne_eq,not_true_eq_false,if_false]
    rw[eat_cons,goF_snoc,h1]
    simp only[decide_true,if_true]
    rw[yields_eat k,List.append_assoc];rfl
   ·simp only[h1,ne_eq,not_false_eq_true,if_true]
    rw[eat_cons,goF_snoc]
    simp[h1]
def errA(q:List (BA×Int)):Int:=q.foldl (fun a y=>if y.2=0 then a else y.2) 0
theorem errA_ok(pre:List (BA×Int))(s:BA):errA (pre++[(s,0)])=errA pre:=by simp[errA]
theorem errA_bad(pre:List (BA×Int))(y:BA×Int)(h:y.2≠0):errA (pre++[y])=y.2:=by simp[errA,h]
theorem yields_errA:∀ (k:Nat) (b:BA) (pre:List (BA×Int)),(scanF k b).2.2≠0→errA (pre++yieldsF k b)=(scanF k b).2.2
 |0,b,pre,h=>by simp[scanF]at h
 |k+1,b,pre,h=>by
  unfold scanF at h ⊢
  unfold yieldsF
  by_cases h0:b.size=0
  ·simp[h0]at h
  ·simp only[h0,if_false]at h ⊢
   by_cases h1:(nextF b).2=0
   ·simp only[h1,ne_eq,not_true_eq_false,if_false]at h ⊢
    have:=yields_errA k _ (pre++[nextF b]) h
    rw[List.append_assoc]at this
    exact this
   ·simp only[h1,ne_eq,not_false_eq_true,if_true]
    exact errA_bad _ _ h1
end Go.Pl
