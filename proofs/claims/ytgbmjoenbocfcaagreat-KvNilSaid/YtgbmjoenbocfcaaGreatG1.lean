/- Texts merged: MnP MnQ. -/
import Derived.Test.YtgbmjoenbocfcaaGreatFrP
import Derived.Test.YtgbmjoenbocfcaaGreatG0
set_option linter.unusedVariables false
namespace Go.Pl
open Go Go.Fx
structure Mn where
 wal:Int
 runs:List Int
 next:Int
def uV(n:Int):List Value:=[.int .u64 n]
def manV(m:Mn)(v:Value):List Value:=[.int .u64 m.wal,v,.int .u64 m.next]
def Mn.bad(m:Mn)(n:Int):Bool:=decide (n<1)||decide (m.next≤n)
def Mn.okAt(m:Mn)(k:Nat):Bool:=match m.runs[k]? with|some n=> !(m.bad n||(m.runs.take k).contains n||decide (n=m.wal))|none=>true
def Mn.head(m:Mn):Bool:=decide (256<m.runs.length)||decide (1099511627776<m.next)||m.bad m.wal
def Mn.chk(m:Mn):Bool:= !m.head&&(List.range m.runs.length).all m.okAt
def Mn.wf(m:Mn):Prop:=(0≤m.wal∧m.wal≤18446744073709551615)∧(0≤m.next∧m.next≤18446744073709551615)∧∀ n∈m.runs,0≤n∧n≤18446744073709551615
theorem Mn.chk_head{m:Mn}(h:m.chk=true):m.head=false:=by
 simp only[Mn.chk,Bool.and_eq_true]at h
 simpa using h.1
def nxM(st:BA×Bool):Int×(BA×Bool):=if st.1.size<8 then(0,(st.1,true))else(getL (st.1.extract 0 8).data.toList 8,(st.1.extract 8 st.1.size,st.2))
def runsM:Nat→BA×Bool→List Int×Bool
 |0,st=>([],st.2)
 |k+1,st=>if st.1.size≠0∧st.2=false then((nxM st).1::(runsM k (nxM st).2).1,(runsM k (nxM st).2).2)else([],st.2)
def parseM(s:BA):Mn×Int×Bool:=
 let r1:=nxM (s,false)
 let r2:=nxM r1.2
 let r3:=nxM r2.2
 (⟨r1.1,(runsM (s.size+1) r3.2).1,r2.1⟩,r3.1,(runsM (s.size+1) r3.2).2)
def mn0:Mn:=⟨0,[],0⟩
def takeM(t:BA):Bool:=decide ((parseM t).2.1=((parseM t).1.runs.length:Int))&& !(parseM t).2.2&&(parseM t).1.chk
def getM1:List BA→Mn×Int
 | [t]=>if takeM t then((parseM t).1,0)else(mn0,7)
 |_=>(mn0,7)
theorem getM1_ne{l:List BA}(h:l.length≠1):getM1 l=(mn0,7):=by
 match l,h with
 | [],_=>rfl
 |_::_::_,_=>rfl
def getM(s:BA):Mn×Int:=if(scanOf s).2.2≠0 then(mn0,(scanOf s).2.2)else getM1 (scanOf s).1
theorem nxM_size(st:BA×Bool):(nxM st).2.1.size≤st.1.size∧((nxM st).2.2=false→(nxM st).2.1.size<st.1.size):=by
 unfold nxM
 split
 ·exact⟨Nat.le_refl _,fun h=>by cases h⟩
 ·rw[ByteArray.size_extract];omega
end Go.Pl
namespace Go.Pl
open Go Go.Fx
def dotNew:BA:=⟨#[46,110,101,119]⟩
def stepD(nm s:BA):Nat→Dk→Dk×Int
 |0,d=>((d.remove (nm++dotNew)).1,if(d.remove (nm++dotNew)).2=3 then 0 else(d.remove (nm++dotNew)).2)
 |1,d=>d.append (nm++dotNew) s
 |2,d=>d.sync
 |3,d=>d.rename (nm++dotNew) nm
 |_,d=>d.sync
def runD(nm s:BA):Nat→Dk→Dk×Int
 |0,d=>(d,0)
 |k+1,d=>if(stepD nm s (4-k) d).2≠0 then stepD nm s (4-k) d else runD nm s k (stepD nm s (4-k) d).1
def saveD(nm s:BA)(d:Dk):Dk×Int:=runD nm s 5 d
theorem save_run(nm s:BA)(d:Dk):runD nm s (5-0) d=saveD nm s d:=by unfold saveD;rfl
theorem run_zero(nm s:BA)(d:Dk):runD nm s 0 d=(d,0):=rfl
theorem run_bad{nm s:BA}{k:Nat}{d:Dk}(h:(stepD nm s (4-k) d).2≠0):runD nm s (k+1) d=stepD nm s (4-k) d:=by rw[runD,if_pos h]
theorem run_good{nm s:BA}{k:Nat}{d:Dk}(h:(stepD nm s (4-k) d).2=0):runD nm s (k+1) d=runD nm s k (stepD nm s (4-k) d).1:=by rw[runD,if_neg (by simpa using h)]
theorem step0(nm s:BA)(d:Dk):stepD nm s 0 d=((d.remove (nm++dotNew)).1,if(d.remove (nm++dotNew)).2=3 then 0 else(d.remove (nm++dotNew)).2):=rfl
theorem step1(nm s:BA)(d:Dk):stepD nm s 1 d=d.append (nm++dotNew) s:=rfl
theorem step2(nm s:BA)(d:Dk):stepD nm s 2 d=d.sync:=rfl
theorem step3(nm s:BA)(d:Dk):stepD nm s 3 d=d.rename (nm++dotNew) nm:=rfl
theorem step4(nm s:BA)(d:Dk):stepD nm s 4 d=d.sync:=rfl
theorem doC_loose(d:Dk)(c:Cl):(d.doC c).1.loose.length≤d.loose.length+1:=by unfold Dk.doC;split<;>simp
theorem append_loose(d:Dk)(n s:BA):(d.append n s).1.loose.length≤d.loose.length+1:=by
 unfold Dk.append;split
 ·simp
 ·split
  ·simp
  ·exact doC_loose _ _
theorem rename_loose(d:Dk)(n s:BA):(d.rename n s).1.loose.length≤d.loose.length+1:=by
 unfold Dk.rename;split
 ·simp
 ·split
  ·simp
  ·split
   ·simp
   ·exact doC_loose _ _
theorem remove_loose(d:Dk)(n:BA):(d.remove n).1.loose.length≤d.loose.length+1:=by
 unfold Dk.remove;split
 ·simp
 ·split
  ·simp
  ·exact doC_loose _ _
theorem sync_loose(d:Dk):d.sync.1.loose.length≤d.loose.length+1:=by
 unfold Dk.sync;split
 ·simp
 ·split
  ·simp
  ·simp[Dk.settle]
theorem step_loose(nm s:BA)(i:Nat)(d:Dk):(stepD nm s i d).1.loose.length≤d.loose.length+1:=by
 unfold stepD
 split
 ·exact remove_loose _ _
 ·exact append_loose _ _ _
 ·exact sync_loose _
 ·exact rename_loose _ _ _
 ·exact sync_loose _
theorem step_ok{nm s:BA}{i:Nat}{d:Dk}(h:d.Ok)(hs:s.size≤549755813888):(stepD nm s i d).1.Ok:=by
 unfold stepD
 split
 ·exact h.remove
 ·exact h.append hs
 ·exact h.sync
 ·exact h.rename
 ·exact h.sync
theorem run_ok{nm s:BA}(hs:s.size≤549755813888):∀ (k:Nat) {d:Dk},d.Ok→(runD nm s k d).1.Ok∧(runD nm s k d).1.loose.length≤d.loose.length+k
 |0,d,h=>⟨h,by simp[runD]⟩
 |k+1,d,h=>by
  unfold runD
  have h1:=step_loose nm s (4-k) d
  split
  ·exact⟨step_ok h hs,by omega⟩
  ·have:=run_ok (nm:=nm) hs k (step_ok (nm:=nm) (i:=4-k) h hs)
   exact⟨this.1,by omega⟩
theorem save_ok{nm s:BA}{d:Dk}(h:d.Ok)(hs:s.size≤549755813888):(saveD nm s d).1.Ok∧(saveD nm s d).1.loose.length≤d.loose.length+5:=run_ok hs 5 h
attribute [irreducible] runD saveD stepD
def loadD(nm:BA)(d:Dk):Mn×Int:=if(d.read nm 0 16777216).2≠0 then(mn0,(d.read nm 0 16777216).2)else getM (d.read nm 0 16777216).1
end Go.Pl
