/- Texts merged: MnA MnB MnC MnD. -/
import Derived.Test.YtgbmjoenbocfcaaGreatG1
import Derived.Test.YtgbmjoenbocfcaaGreatG3
import Derived.Test.YtgbmjoenbocfcaaGreatG7
import Derived.Test.YtgbmjoenbocfcaaGreatG0
set_option linter.unusedSimpArgs false
set_option linter.unusedVariables false
set_option maxRecDepth 100000
namespace Go.Proofs.YtgbmjoenbocfcaaGreat
open Go Go.Fx Go.Proofs Go.Pl
theorem view_take{n:Nat}{p:Option Addr}{len cap k:Nat}{xs:List (List Value)}{h:Frag}(v:view n (.slice p len cap) xs h)(hk:k≤xs.length):view n (.slice p k cap) (xs.take k) h:=by
 obtain⟨g,p',cap',e,h2,h3,h4⟩:=v
 simp only[Value.slice.injEq]at e
 obtain⟨rfl,rfl,rfl⟩:=e
 have hlen:(xs.take k).length=k:=by rw[List.length_take];omega
 refine⟨fun x hx=>g x (List.mem_of_mem_take hx),p,cap,by rw[hlen],?_,fun e=>by rw[h3 e];simp,fun b o hp hne=>?_⟩
 ·rcases h2 with h2|h2
  ·left;rw[h2];simp
  ·exact .inr h2
 ·obtain⟨cs,T,fr,hb,hc⟩:=h4 b o hp (by rintro rfl;simp at hne)
  refine⟨cs,T,fr,hb,fun j u hj=>hc j u ?_⟩
  have e:xs.flatten=(xs.take k).flatten++(xs.drop k).flatten:=by rw[← List.flatten_append,List.take_append_drop]
  rw[e,List.getElem?_append_left (List.getElem?_eq_some_iff.1 hj).1]
  exact hj
theorem Vw.take{A:HProp}{n:Nat}{p:Option Addr}{len cap k:Nat}{xs:List (List Value)}(v:Vw A n (.slice p len cap) xs)(hk:k≤xs.length):Vw A n (.slice p k cap) (xs.take k):=fun h hh=>view_take (v h hh) hk
theorem Index_spec(u:Value)(A:HProp)(ys:List Int)(n:Int)(hA:Vw A 1 u (ys.map uV))(hz:ys.length≤1099511627776):
  FSpec Tryz.prog 177 [u,.int .u64 n] [A] Int (fun y=>decide (0≤y)=ys.contains n) (fun y=>.int .i64 y) (fun _=>[A]):=by
 refine spec_intro [] _ Tryz.func177 rfl Tryz.ntmps177 (by rfl) (fun w0 R=>?_)
 refine ok_learn (VwIn.slice (VwIn.here hA)) ?_
 rintro⟨pu,cu,rfl⟩
 repeat'(first|(refine gY ?_;intros)|(refine hY ?_ ?_<;>intro hgd)|(refine jY ?_ ?_<;>intro _)|fail)
 have hlen:(ys.map uV).length=ys.length:=by simp
 refine ok_loop' (γ:=Nat) (fun i ρ L=>i≤ys.length∧n∉ys.take i∧Knows ρ [(0,.slice pu (ys.map uV).length cu),(1,.int .u64 n),(7,.int .i64 (ys.map uV).length),(8,.int .i64 i)]∧L=[A]++R) (fun i=>ys.length-i) 0 ⟨by simp,by simp,⟨rfl,rfl,rfl,rfl,trivial⟩,rfl⟩ ?_
 rintro i ρ L ⟨hi,hno,hk,rfl⟩
 refine ok_regs hk ?_
 cases t1:decide ((i:Int)<((ys.map uV).length:Int))with
 |true=>
  have h:i<ys.length:=by simp at t1;omega
  have hn1:i<(ys.map uV).length:=by omega
  have hx:(ys.map uV)[i]? =some (uV ys[i]):=by rw[List.getElem?_map,List.getElem?_eq_getElem h];rfl
  have htk:ys.take (i+1)=ys.take i++[ys[i]]:=by rw[List.take_add_one,List.getElem?_eq_getElem h];rfl
  have hmem:ys[i]∈ys:=List.getElem_mem h
  refine ok_learn (VwIn.base (VwIn.here hA) (by intro e;rw[e]at hn1;simp at hn1)) ?_
  rintro⟨bu,ou,rfl⟩
  generalize ys[i]=x at hx htk hmem
  cases u1:decide (n=x)with
  |true=>
   have hc:ys.contains n=true:=by simpa [of_decide_eq_true u1]using hmem
   repeat'(first|(refine gY ?_;intros)|(refine hY ?_ ?_<;>intro hgd)|(refine jY ?_ ?_<;>intro _)|fail)
   (refine rt_Y (y:=(i:Int)) (hrs:=Tryz.results177) (hv:=?_) (hφ:=?_))
   ·rfl
   ·rw[hc];simp
  |false=>
   repeat'(first|(refine gY ?_;intros)|(refine hY ?_ ?_<;>intro hgd)|(refine jY ?_ ?_<;>intro _)|fail)
   refine cont_back (i+1) ⟨h,by rw[htk];simp[hno];simpa using u1,⟨rfl,rfl,rfl,rfl,trivial⟩,rfl⟩ (by omega)
 |false=>
  have hie:i=ys.length:=by simp at t1;omega
  subst hie
  rw[List.take_length]at hno
  repeat'(first|(refine gY ?_;intros)|(refine hY ?_ ?_<;>intro hgd)|(refine jY ?_ ?_<;>intro _)|fail)
  (refine rt_Y (y:=(-1:Int)) (hrs:=Tryz.results177) (hv:=?_) (hφ:=?_))
  ·rfl
  ·simpa using hno
theorem Contains_spec(u:Value)(A:HProp)(ys:List Int)(n:Int)(hA:Vw A 1 u (ys.map uV))(hz:ys.length≤1099511627776):
  FSpec Tryz.prog 140 [u,.int .u64 n] [A] Unit (fun _=>True) (fun _=>.bool (ys.contains n)) (fun _=>[A]):=by
 refine spec_intro [] _ Tryz.func140 rfl Tryz.ntmps140 (by rfl) (fun w0 R=>?_)
 repeat'(first|(refine gY ?_;intros)|(refine hY ?_ ?_<;>intro hgd)|(refine jY ?_ ?_<;>intro _)|fail)
 refine cl_Y (Index_spec u A ys n hA hz) ?_
 intro y hy
 rw[← hy]
 repeat'(first|(refine gY ?_;intros)|(refine hY ?_ ?_<;>intro hgd)|(refine jY ?_ ?_<;>intro _)|fail)
 (refine rt_Y (y:=()) (hrs:=Tryz.results140) (hv:=?_) (hφ:=?_))
 ·rfl
 ·trivial
theorem bad_spec(b:Nat)(m:Mn)(v:Value)(n:Int):FSpec Tryz.prog 184 [.int .u64 n,.pointer (some ⟨b,0,none⟩)] [pts b (.cells (manV m v).toArray 73)] Unit (fun _=>True) (fun _=>.bool (m.bad n)) (fun _=>[pts b (.cells (manV m v).toArray 73)]):=by
 unfold Mn.bad manV
 cases t1:decide (n<1)with
 |true=>
  refine spec_intro [] _ Tryz.func184 rfl Tryz.ntmps184 (by rfl) (fun w0 R=>?_)
  repeat'(first|(refine gY ?_;intros)|(refine hY ?_ ?_<;>intro hgd)|(refine jY ?_ ?_<;>intro _)|fail)
  (refine rt_Y (y:=()) (hrs:=Tryz.results184) (hv:=?_) (hφ:=?_))
  ·rfl
  ·trivial
 |false=>
  refine spec_intro [] _ Tryz.func184 rfl Tryz.ntmps184 (by rfl) (fun w0 R=>?_)
  repeat'(first|(refine gY ?_;intros)|(refine hY ?_ ?_<;>intro hgd)|(refine jY ?_ ?_<;>intro _)|fail)
  (refine rt_Y (y:=()) (hrs:=Tryz.results184) (hv:=?_) (hφ:=?_))
  ·rfl
  ·trivial
theorem bad_v(b:Nat)(m:Mn)(v:Value)(n:Int):VSpec Tryz.prog (.func (.func 184) #[] [.pointer (some ⟨b,0,none⟩)].toArray) [.int .u64 n] [pts b (.cells (manV m v).toArray 73)] Unit (fun _=>True) (fun _=>.bool (m.bad n)) (fun _=>[pts b (.cells (manV m v).toArray 73)]):=
 vspec_func (args:=[.int .u64 n]) (cap:=[.pointer (some ⟨b,0,none⟩)]) (bad_spec b m v n)
theorem Check_spec(m:Mn)(v:Value)(A:HProp)(hA:Vw A 1 v (m.runs.map uV))(hcap:capOk v)(hz:m.runs.length≤1099511627776):
  FSpec Tryz.prog 161 [.agg (manV m v).toArray] [A] Unit (fun _=>True) (fun _=>.int .i64 (bif m.chk then 0 else 2)) (fun _=>[A]):=by
 have hlen:(m.runs.map uV).length=m.runs.length:=by simp
 cases hh:m.head with
 |true=>
  have hc:m.chk=false:=by simp[Mn.chk,hh]
  rw[hc]
  unfold Mn.head at hh
  refine spec_intro [] _ Tryz.func161 rfl Tryz.ntmps161 (by rfl) (fun w0 R=>?_)
  refine ok_learn (VwIn.slice (VwIn.here hA)) ?_
  rintro⟨pu,cu,rfl⟩
  cases c1:decide ((256:Int)<((m.runs.map uV).length:Int))with
  |true=>
   repeat'(first|(refine gY ?_;intros)|(refine hY ?_ ?_<;>intro hgd)|(refine jY ?_ ?_<;>intro _)|fail)
   (refine rt_Y (y:=()) (hrs:=Tryz.results161) (hv:=?_) (hφ:=?_))
   ·rfl
   ·trivial
  |false=>
   cases c2:decide (1099511627776<m.next)with
   |true=>
    repeat'(first|(refine gY ?_;intros)|(refine hY ?_ ?_<;>intro hgd)|(refine jY ?_ ?_<;>intro _)|fail)
    (refine rt_Y (y:=()) (hrs:=Tryz.results161) (hv:=?_) (hφ:=?_))
    ·rfl
    ·trivial
   |false=>
    have c3:m.bad m.wal=true:=by
     have c1':decide (256<m.runs.length)=false:=by simp at c1 ⊢;omega
     rw[c1',c2]at hh;simpa using hh
    repeat'(first|(refine gY ?_;intros)|(refine hY ?_ ?_<;>intro hgd)|(refine jY ?_ ?_<;>intro _)|fail)
    rename_i b
    have hv:=bad_v b m (.slice pu (m.runs.map uV).length cu) m.wal
    rw[c3]at hv
    refine clV_Y (hv) ?_
    intro _ _
    repeat'(first|(refine gY ?_;intros)|(refine hY ?_ ?_<;>intro hgd)|(refine jY ?_ ?_<;>intro _)|fail)
    (refine rt_Y (y:=()) (hrs:=Tryz.results161) (hv:=?_) (hφ:=?_))
    ·rfl
    ·trivial
 |false=>
  have hh':=hh
  simp only[Mn.head,Bool.or_eq_false_iff]at hh'
  obtain⟨⟨h1,c2⟩,c3⟩:=hh'
  refine spec_intro [] _ Tryz.func161 rfl Tryz.ntmps161 (by rfl) (fun w0 R=>?_)
  refine ok_learn (VwIn.slice (VwIn.here hA)) ?_
  rintro⟨pu,cu,rfl⟩
  have hcu:(m.runs.map uV).length≤cu:=by
   obtain⟨_,_,_,e,h⟩:=hcap
   cases e;exact h
  have c1:decide ((256:Int)<((m.runs.map uV).length:Int))=false:=by simp at h1 ⊢;omega
  repeat'(first|(refine gY ?_;intros)|(refine hY ?_ ?_<;>intro hgd)|(refine jY ?_ ?_<;>intro _)|fail)
  rename_i b
  have hv:=bad_v b m (.slice pu (m.runs.map uV).length cu) m.wal
  rw[c3]at hv
  refine clV_Y (hv) ?_
  intro _ _
  repeat'(first|(refine gY ?_;intros)|(refine hY ?_ ?_<;>intro hgd)|(refine jY ?_ ?_<;>intro _)|fail)
  refine ok_loop' (γ:=Nat) (fun i ρ L=>i≤m.runs.length∧(List.range i).all m.okAt=true∧Knows ρ [(1,.pointer (some ⟨b,0,none⟩)),(3,.func (.func 184) #[] [.pointer (some ⟨b,0,none⟩)].toArray),(23,.slice pu (m.runs.map uV).length cu),(24,.int .i64 (m.runs.map uV).length),(25,.int .i64 i)]∧L=[pts b (.cells (manV m (.slice pu (m.runs.map uV).length cu)).toArray 73),A]++R) (fun i=>m.runs.length-i) 0 ⟨by simp,by simp,⟨rfl,rfl,rfl,rfl,rfl,trivial⟩,rfl⟩ ?_
  rintro i ρ L ⟨hi,hok,hk,rfl⟩
  refine ok_regs hk ?_
  cases t1:decide ((i:Int)<((m.runs.map uV).length:Int))with
  |true=>
   have h:i<m.runs.length:=by simp at t1;omega
   have hn1:i<(m.runs.map uV).length:=by omega
   have hx:(m.runs.map uV)[i]? =some (uV m.runs[i]):=by rw[List.getElem?_map,List.getElem?_eq_getElem h];rfl
   have hx2:m.runs[i]? =some m.runs[i]:=List.getElem?_eq_getElem h
   have hr:(List.range (i+1)).all m.okAt=m.okAt i:=by rw[List.range_succ];simp[List.all_append,hok]
   have hat:m.okAt i= !(m.bad m.runs[i]||(m.runs.take i).contains m.runs[i]||decide (m.runs[i]=m.wal)):=by simp only[Mn.okAt,hx2]
   have hno:m.okAt i=false→m.chk=false:=by
    intro e
    simp only[Mn.chk,Bool.and_eq_false_iff,List.all_eq_false,List.mem_range]
    exact .inr ⟨i,h,by simp[e]⟩
   refine ok_learn (VwIn.base (VwIn.there (VwIn.here hA)) (by intro e;rw[e]at hn1;simp at hn1)) ?_
   rintro⟨bu,ou,rfl⟩
   generalize m.runs[i]=x at hx hat
   have hicu:i≤cu:=by omega
   have hv:=bad_v b m (.slice (some ⟨bu,ou,none⟩) (m.runs.map uV).length cu) x
   have hcs:=Contains_spec (.slice (some ⟨bu,ou,none⟩) i cu) A (m.runs.take i) x (by rw[List.map_take];exact hA.take (by omega)) (by rw[List.length_take];omega)
   cases u1:m.bad x with
   |true=>
    rw[hno (by rw[hat,u1];rfl)]
    rw[u1]at hv
    repeat'(first|(refine gY ?_;intros)|(refine hY ?_ ?_<;>intro hgd)|(refine jY ?_ ?_<;>intro _)|fail)
    refine clV_Y (hv) ?_
    intro _ _
    repeat'(first|(refine gY ?_;intros)|(refine hY ?_ ?_<;>intro hgd)|(refine jY ?_ ?_<;>intro _)|fail)
    (refine rt_Y (y:=()) (hrs:=Tryz.results161) (hv:=?_) (hφ:=?_))
    ·rfl
    ·trivial
   |false=>
    rw[u1]at hv
    cases u2:(m.runs.take i).contains x with
    |true=>
     rw[hno (by rw[hat,u1,u2];rfl)]
     rw[u2]at hcs
     repeat'(first|(refine gY ?_;intros)|(refine hY ?_ ?_<;>intro hgd)|(refine jY ?_ ?_<;>intro _)|fail)
     refine clV_Y (hv) ?_
     intro _ _
     repeat'(first|(refine gY ?_;intros)|(refine hY ?_ ?_<;>intro hgd)|(refine jY ?_ ?_<;>intro _)|fail)
     refine cl_Y (hcs) ?_
     intro _ _
     repeat'(first|(refine gY ?_;intros)|(refine hY ?_ ?_<;>intro hgd)|(refine jY ?_ ?_<;>intro _)|fail)
     (refine rt_Y (y:=()) (hrs:=Tryz.results161) (hv:=?_) (hφ:=?_))
     ·rfl
     ·trivial
    |false=>
     rw[u2]at hcs
     cases u3:decide (x=m.wal)with
     |true=>
      rw[hno (by rw[hat,u1,u2,u3];rfl)]
      repeat'(first|(refine gY ?_;intros)|(refine hY ?_ ?_<;>intro hgd)|(refine jY ?_ ?_<;>intro _)|fail)
      refine clV_Y (hv) ?_
      intro _ _
      repeat'(first|(refine gY ?_;intros)|(refine hY ?_ ?_<;>intro hgd)|(refine jY ?_ ?_<;>intro _)|fail)
      refine cl_Y (hcs) ?_
      intro _ _
      repeat'(first|(refine gY ?_;intros)|(refine hY ?_ ?_<;>intro hgd)|(refine jY ?_ ?_<;>intro _)|fail)
      (refine rt_Y (y:=()) (hrs:=Tryz.results161) (hv:=?_) (hφ:=?_))
      ·rfl
      ·trivial
     |false=>
      repeat'(first|(refine gY ?_;intros)|(refine hY ?_ ?_<;>intro hgd)|(refine jY ?_ ?_<;>intro _)|fail)
      refine clV_Y (hv) ?_
      intro _ _
      repeat'(first|(refine gY ?_;intros)|(refine hY ?_ ?_<;>intro hgd)|(refine jY ?_ ?_<;>intro _)|fail)
      refine cl_Y (hcs) ?_
      intro _ _
      repeat'(first|(refine gY ?_;intros)|(refine hY ?_ ?_<;>intro hgd)|(refine jY ?_ ?_<;>intro _)|fail)
      refine cont_map (L':=[pts b (.cells (manV m (.slice (some ⟨bu,ou,none⟩) (m.runs.map uV).length cu)).toArray 73),A]++R) entD ?_
      refine cont_back (i+1) ⟨h,by rw[hr,hat,u1,u2,u3];rfl,⟨rfl,rfl,rfl,rfl,rfl,trivial⟩,rfl⟩ (by omega)
  |false=>
   have hie:i=m.runs.length:=by simp at t1;omega
   subst hie
   have hc:m.chk=true:=by simp only[Mn.chk,hh,hok];rfl
   rw[hc]
   repeat'(first|(refine gY ?_;intros)|(refine hY ?_ ?_<;>intro hgd)|(refine jY ?_ ?_<;>intro _)|fail)
   (refine rt_Y (y:=()) (hrs:=Tryz.results161) (hv:=?_) (hφ:=?_))
   ·rfl
   ·trivial
theorem Grow_spec(m:Nat)(h1:1≤m)(h2:m≤1099511627776):FSpec Tryz.prog 185 [.slice none 0 0,.int .i64 m] [] (Nat×Nat) (fun y=>m≤y.2) (fun y=>.slice (some ⟨y.1,0,none⟩) 0 y.2) (fun y=>[row 70 1 (.slice (some ⟨y.1,0,none⟩) 0 y.2) []]):=by
 have t1:decide ((m:Int)<0)=false:=by simp
 have t2:decide (0<(m:Int)-(((0:Nat):Int)-((0:Nat):Int)))=true:=by simp;omega
 refine spec_intro [] _ Tryz.func185 rfl Tryz.ntmps185 (by rfl) (fun w0 R=>?_)
 repeat'(first|(refine gY ?_;intros)|(refine hY ?_ ?_<;>intro hgd)|(refine jY ?_ ?_<;>intro _)|fail)
 apply ops_run
 apply s_append_make
 ·exact rfl
 ·exact rfl
 ·exact rfl
 ·show _=((m:Nat):Int)
  simp
 ·omega
 ·exact rfl
 ·omega
 ·omega
 ·exact rfl
 ·exact rfl
 intro b cap hcap
 have z0:0≤cap:=by omega
 repeat'(first|(refine gY ?_;intros)|(refine hY ?_ ?_<;>intro hgd)|(refine jY ?_ ?_<;>intro _)|fail)
 (refine rt_Y (y:=(b,cap)) (hrs:=Tryz.results185) (hv:=?_) (hφ:=?_))
 ·rfl
 ·assumption
theorem Concat_spec(u v1 v2:Value)(O A B:HProp)(xs ys:List Int)(hO:Vw O 1 u [[v1],[v2]])(hA:Vw A 1 v1 (xs.map uV))(hB:Vw B 1 v2 (ys.map uV))(h1:1≤xs.length)(h2:xs.length+ys.length≤1099511627776):
  FSpec Tryz.prog 162 [u] [O,A,B] {v:Value // v.oneCell'=true} (fun _=>True) (fun v=>v.1) (fun v=>[row 70 1 v.1 ((xs++ys).map uV),O,A,B]):=by
 refine spec_intro [] _ Tryz.func162 rfl Tryz.ntmps162 (by rfl) (fun w0 R=>?_)
 refine ok_learn (VwIn.slice (VwIn.here hO)) ?_
 rintro⟨pu,cu,rfl⟩
 refine ok_learn (VwIn.base (VwIn.here hO) (by simp)) ?_
 rintro⟨bu,ou,rfl⟩
 refine ok_learn (VwIn.slice (VwIn.there (VwIn.here hA))) ?_
 rintro⟨p1,c1,rfl⟩
 refine ok_learn (VwIn.slice (VwIn.there (VwIn.there (VwIn.here hB)))) ?_
 rintro⟨p2,c2,rfl⟩
 have l1:(xs.map uV).length=xs.length:=by simp
 have l2:(ys.map uV).length=ys.length:=by simp
 have hx0:([[Value.slice p1 (xs.map uV).length c1],[Value.slice p2 (ys.map uV).length c2]]:List (List Value))[0]? =some [Value.slice p1 (xs.map uV).length c1]:=rfl
 have hx1:([[Value.slice p1 (xs.map uV).length c1],[Value.slice p2 (ys.map uV).length c2]]:List (List Value))[1]? =some [Value.slice p2 (ys.map uV).length c2]:=rfl
 repeat'(first|(refine gY ?_;intros)|(refine hY ?_ ?_<;>intro hgd)|(refine jY ?_ ?_<;>intro _)|fail)
 refine ok_loop' (γ:=Nat×Nat) (fun g ρ L=>(g=(0,0)∨g=(1,xs.length)∨g=(2,xs.length+ys.length))∧Knows ρ [(0,.slice (some ⟨bu,ou,none⟩) 2 cu),(3,.int .i64 g.2),(9,.slice (some ⟨bu,ou,none⟩) 2 cu),(10,.int .i64 2),(11,.int .i64 g.1)]∧L=[O,A,B]++R) (fun g=>2-g.1) (0,0) ⟨.inl rfl,⟨rfl,rfl,rfl,rfl,rfl,trivial⟩,rfl⟩ ?_
 rintro⟨i,n⟩ ρ L ⟨hi,hk,rfl⟩
 dsimp only at hk ⊢
 refine ok_regs hk ?_
 rcases hi with e|e|e
 ·cases e
  have t0:decide (((0:Nat):Int)<2)=true:=by decide
  have t1:decide (((0:Nat):Int)+((xs.map uV).length:Int)<0)=false:=by simp<;>omega
  repeat'(first|(refine gY ?_;intros)|(refine hY ?_ ?_<;>intro hgd)|(refine jY ?_ ?_<;>intro _)|fail)
  refine cont_back (1,xs.length) ⟨.inr (.inl rfl),⟨rfl,by show Value.int IntKind.i64 (((0:Nat):Int)+((xs.map uV).length:Int))=_;rw[l1];simp,rfl,rfl,rfl,trivial⟩,rfl⟩ (by simp)
 ·cases e
  have t0:decide (((1:Nat):Int)<2)=true:=by decide
  have t1:decide ((xs.length:Int)+((ys.map uV).length:Int)<0)=false:=by simp;omega
  repeat'(first|(refine gY ?_;intros)|(refine hY ?_ ?_<;>intro hgd)|(refine jY ?_ ?_<;>intro _)|fail)
  refine cont_back (2,xs.length+ys.length) ⟨.inr (.inr rfl),⟨rfl,by show Value.int IntKind.i64 ((xs.length:Int)+((ys.map uV).length:Int))=_;rw[l2];simp,rfl,rfl,rfl,trivial⟩,rfl⟩ (by simp)
 ·cases e
  have t0:decide (((2:Nat):Int)<2)=false:=by decide
  repeat'(first|(refine gY ?_;intros)|(refine hY ?_ ?_<;>intro hgd)|(refine jY ?_ ?_<;>intro _)|fail)
  refine cl_Y (Grow_spec (xs.length+ys.length) (by omega) (by omega)) ?_
  rintro⟨g,cap⟩ _
  repeat'(first|(refine gY ?_;intros)|(refine hY ?_ ?_<;>intro hgd)|(refine jY ?_ ?_<;>intro _)|fail)
  refine ok_loop' (γ:=Nat×{v:Value // v.oneCell'=true}×List (List Value)) (fun g ρ L=>(g.1=0∧g.2.2=[]∨g.1=1∧g.2.2=xs.map uV∨g.1=2∧g.2.2=(xs++ys).map uV)∧Knows ρ [(6,g.2.1.1),(25,.slice (some ⟨bu,ou,none⟩) 2 cu),(26,.int .i64 2),(27,.int .i64 g.1)]∧L=[row 70 1 g.2.1.1 g.2.2,O,A,B]++R) (fun g=>2-g.1) (0,⟨.slice (some ⟨g,0,none⟩) 0 cap,rfl⟩,[]) ⟨.inl ⟨rfl,rfl⟩,⟨rfl,rfl,rfl,rfl,trivial⟩,rfl⟩ ?_
  rintro⟨i,⟨v,hv⟩,zs⟩ ρ L ⟨hi,hk,rfl⟩
  dsimp only at hi hk ⊢
  refine ok_regs hk ?_
  rcases hi with⟨rfl,rfl⟩|⟨rfl,rfl⟩|⟨rfl,rfl⟩
  ·have t0:decide (((0:Nat):Int)<2)=true:=by decide
   repeat'(first|(refine gY ?_;intros)|(refine hY ?_ ?_<;>intro hgd)|(refine jY ?_ ?_<;>intro _)|fail)
   rename_i v' hv'
   refine cont_map (L':=[row 70 1 v' (xs.map uV),O,A,B]++R) entD ?_
   refine cont_back (1,⟨v',hv'⟩,xs.map uV) ⟨.inr (.inl ⟨rfl,rfl⟩),⟨rfl,rfl,rfl,rfl,trivial⟩,rfl⟩ (by simp)
  ·have t0:decide (((1:Nat):Int)<2)=true:=by decide
   repeat'(first|(refine gY ?_;intros)|(refine hY ?_ ?_<;>intro hgd)|(refine jY ?_ ?_<;>intro _)|fail)
   rename_i v' hv'
   rw[← List.map_append]
   refine cont_map (L':=[row 70 1 v' ((xs++ys).map uV),O,A,B]++R) entD ?_
   refine cont_back (2,⟨v',hv'⟩,(xs++ys).map uV) ⟨.inr (.inr ⟨rfl,rfl⟩),⟨rfl,rfl,rfl,rfl,trivial⟩,rfl⟩ (by simp)
  ·have t0:decide (((2:Nat):Int)<2)=false:=by decide
   repeat'(first|(refine gY ?_;intros)|(refine hY ?_ ?_<;>intro hgd)|(refine jY ?_ ?_<;>intro _)|fail)
   (refine rt_Y (y:=⟨v,hv⟩) (hrs:=Tryz.results162) (hv:=?_) (hφ:=?_))
   ·rfl
   ·trivial
def put8(n:Int):BA:=⟨(putL n.toNat 8).toArray⟩
def put8s:List Int→BA
 | []=>⟨#[]⟩
 |n::l=>put8 n++put8s l
theorem put8_size(n:Int):(put8 n).size=8:=by show(putL n.toNat 8).toArray.size=8;simp[putL]
theorem put8s_size:∀ l:List Int,(put8s l).size=8*l.length
 | []=>rfl
 |n::l=>by
  show(put8 n++put8s l).size=_
  rw[ByteArray.size_append,put8_size,put8s_size l,List.length_cons];omega
theorem put8s_append:∀ (l m:List Int),put8s (l++m)=put8s l++put8s m
 | [],m=>(ByteArray.empty_append).symm
 |n::l,m=>by
  show put8 n++put8s (l++m)=put8 n++put8s l++put8s m
  rw[put8s_append l m,ByteArray.append_assoc]
theorem put8s_snoc(l:List Int)(n:Int):put8s (l++[n])=put8s l++put8 n:=by
 rw[put8s_append]
 show put8s l++(put8 n++⟨#[]⟩)=_
 congr 1
def mNums(m:Mn):List Int:=m.wal::m.next::(m.runs.length:Int)::m.runs
def mBody(m:Mn):BA:=put8s (mNums m)
def mBytes(m:Mn):BA:=frameOf (mBody m)
theorem wput8_spec(n:Int)(h0:0≤n)(h1:n≤18446744073709551615):FSpec Tryz.prog 102 [.int .u64 n,.int .i64 8] [] Unit (fun _=>True) (fun _=>.tuple #[.string (put8 n),.int .i64 0]) (fun _=>[]):=by
 obtain⟨k,rfl⟩:∃ k:Nat,n=k:=⟨n.toNat,by omega⟩
 exact put_spec k 8 (by omega) (by omega) (by omega) (by unfold fitsB;simp)
theorem mPut_spec(m:Mn)(v:Value)(A:HProp)(hA:Vw A 1 v (m.runs.map uV))(hcap:capOk v)(hz:m.runs.length≤1099511627776)(hc:m.chk=true)(hw:m.wf):
  FSpec Tryz.prog 113 [.agg (manV m v).toArray] [A] Unit (fun _=>True) (fun _=>.tuple #[.string (mBytes m),.int .i64 0]) (fun _=>[A]):=by
 have hs:=Check_spec m v A hA hcap hz
 rw[hc]at hs
 dsimp only[cond_true,cond_false]at hs
 have hhd:=Mn.chk_head hc
 simp only[Mn.head,Bool.or_eq_false_iff,decide_eq_false_iff_not]at hhd
 have hlen:(m.runs.map uV).length=m.runs.length:=by simp
 have hwr:IntKind.u64.wrap ((m.runs.map uV).length:Int)=((m.runs.map uV).length:Int):=wrap_u64 _ (by omega)
 refine spec_intro [] _ Tryz.func113 rfl Tryz.ntmps113 (by rfl) (fun w0 R=>?_)
 refine ok_learn (VwIn.slice (VwIn.here hA)) ?_
 rintro⟨pu,cu,rfl⟩
 repeat'(first|(refine gY ?_;intros)|(refine hY ?_ ?_<;>intro hgd)|(refine jY ?_ ?_<;>intro _)|fail)
 refine cl_Y (hs) ?_
 intro _ _
 repeat'(first|(refine gY ?_;intros)|(refine hY ?_ ?_<;>intro hgd)|(refine jY ?_ ?_<;>intro _)|fail)
 refine ops_learn (row_cases takeD) ?_
 rintro(⟨rfl,hn⟩|⟨g,c,rfl,hgc⟩)
 ·cases hn
 rename_i bm _ _ bb _
 repeat'(first|(refine gY ?_;intros)|(refine hY ?_ ?_<;>intro hgd)|(refine jY ?_ ?_<;>intro _)|fail)
 rename_i v' hv'
 refine cl_Y (Concat_spec v' (.slice (some ⟨g,0,none⟩) 3 c) (.slice pu (m.runs.map uV).length cu) (row 71 1 v' [[.slice (some ⟨g,0,none⟩) 3 c],[.slice pu (m.runs.map uV).length cu]]) (row 70 1 (.slice (some ⟨g,0,none⟩) 3 c) ([m.wal,m.next,((m.runs.map uV).length:Int)].map uV)) A [m.wal,m.next,((m.runs.map uV).length:Int)] m.runs Vw.row Vw.row hA (by simp) (by simp;omega)) ?_
 rintro⟨vc,hvc⟩ _
 have hnum:([m.wal,m.next,((m.runs.map uV).length:Int)]++m.runs)=mNums m:=by rw[hlen];rfl
 rw[hnum]
 have hns:∀ n∈mNums m,0≤n∧n≤18446744073709551615:=by
  intro n hn
  simp only[mNums,List.mem_cons]at hn
  rcases hn with rfl|rfl|rfl|hn
  ·exact hw.1
  ·exact hw.2.1
  ·omega
  ·exact hw.2.2 n hn
 have hnl:(mNums m).length=3+m.runs.length:=by simp[mNums];omega
 have hbl:(mBody m).size=8*(mNums m).length:=put8s_size _
 have hby:mBytes m=frameOf (put8s (mNums m)):=rfl
 have hbd:mBody m=put8s (mNums m):=rfl
 rw[hby]
 rw[hbd]at hbl
 generalize mNums m=ns at hns hnl hbl
 refine opsL_map (fun _ h=>bld_new (b:=bb) (Take.out1 takeD h)) ?_
 repeat'(first|(refine gY ?_;intros)|(refine hY ?_ ?_<;>intro hgd)|(refine jY ?_ ?_<;>intro _)|fail)
 refine ok_map (L':=[bldP bb ⟨#[]⟩,row 70 1 vc (ns.map uV),A]++R) entD ?_
 refine ok_learn (row_cases takeD) ?_
 rintro(⟨rfl,hn⟩|⟨gc,cc,rfl,hcc⟩)
 ·have:=congrArg List.length hn
  rw[List.length_map,List.length_nil]at this;omega
 have hln:(ns.map uV).length=ns.length:=by simp
 refine ok_loop' (γ:=Nat) (fun i ρ L=>i≤ns.length∧Knows ρ [(5,.pointer (some ⟨bb,0,none⟩)),(27,.slice (some ⟨gc,0,none⟩) (ns.map uV).length cc),(28,.int .i64 (ns.map uV).length),(29,.int .i64 i)]∧L=[bldP bb (put8s (ns.take i)),row 70 1 (.slice (some ⟨gc,0,none⟩) (ns.map uV).length cc) (ns.map uV),A]++R) (fun i=>ns.length-i) 0 ⟨by simp,⟨rfl,rfl,rfl,rfl,trivial⟩,rfl⟩ ?_
 rintro i ρ L ⟨hi,hk,rfl⟩
 refine ok_regs hk ?_
 cases t1:decide ((i:Int)<((ns.map uV).length:Int))with
 |true=>
  have h:i<ns.length:=by simp at t1;omega
  have hn1:i<(ns.map uV).length:=by omega
  have hx:(ns.map uV)[i]? =some (uV ns[i]):=by rw[List.getElem?_map,List.getElem?_eq_getElem h];rfl
  have htk:ns.take (i+1)=ns.take i++[ns[i]]:=by rw[List.take_add_one,List.getElem?_eq_getElem h];rfl
  have hmem:=hns _ (List.getElem_mem h)
  generalize ns[i]=x at hx htk hmem
  have hsz:(put8s (ns.take i)).size≤8*ns.length:=by rw[put8s_size,List.length_take];omega
  repeat'(first|(refine gY ?_;intros)|(refine hY ?_ ?_<;>intro hgd)|(refine jY ?_ ?_<;>intro _)|fail)
  refine cl_Y (wput8_spec x hmem.1 hmem.2) ?_
  intro _ _
  repeat'(first|(refine gY ?_;intros)|(refine hY ?_ ?_<;>intro hgd)|(refine jY ?_ ?_<;>intro _)|fail)
  refine cl_Y (writeString_spec bb (put8s (ns.take i)) (put8 x) (by rw[put8_size];omega)) ?_
  intro _ _
  repeat'(first|(refine gY ?_;intros)|(refine hY ?_ ?_<;>intro hgd)|(refine jY ?_ ?_<;>intro _)|fail)
  rw[← put8s_snoc,← htk]
  refine cont_map (L':=[bldP bb (put8s (ns.take (i+1))),row 70 1 (.slice (some ⟨gc,0,none⟩) (ns.map uV).length cc) (ns.map uV),A]++R) entD ?_
  refine cont_back (i+1) ⟨h,⟨rfl,rfl,rfl,rfl,trivial⟩,rfl⟩ (by omega)
 |false=>
  have hie:i=ns.length:=by simp at t1;omega
  subst hie
  rw[List.take_length]
  repeat'(first|(refine gY ?_;intros)|(refine hY ?_ ?_<;>intro hgd)|(refine jY ?_ ?_<;>intro _)|fail)
  refine cl_Y (string_spec bb (put8s ns) (by omega)) ?_
  intro _ _
  repeat'(first|(refine gY ?_;intros)|(refine hY ?_ ?_<;>intro hgd)|(refine jY ?_ ?_<;>intro _)|fail)
  refine cl_Y (fPut_spec (put8s ns) (by omega)) ?_
  intro _ _
  repeat'(first|(refine gY ?_;intros)|(refine hY ?_ ?_<;>intro hgd)|(refine jY ?_ ?_<;>intro _)|fail)
  (refine rt_Y (y:=()) (hrs:=Tryz.results113) (hv:=?_) (hφ:=?_))
  ·rfl
  ·trivial
abbrev nxP(a b:Nat)(st:BA×Bool):List HProp:=[pts a (.cells [.string st.1].toArray 9),pts b (.cells [.bool st.2].toArray 4)]
theorem next_m(a b:Nat)(st:BA×Bool)(hz:st.1.size≤4611686018427387904):FSpec Tryz.prog 174 [.pointer (some ⟨a,0,none⟩),.pointer (some ⟨b,0,none⟩)] (nxP a b st) Unit (fun _=>True) (fun _=>.int .u64 (nxM st).1) (fun _=>nxP a b (nxM st).2):=by
 obtain⟨s,f⟩:=st
 unfold nxM nxP
 dsimp only at hz ⊢
 by_cases h:s.size<8
 ·have t1:decide ((s.size:Int)<8)=true:=by simp;omega
  simp only[h,if_true]
  refine spec_intro [] _ Tryz.func174 rfl Tryz.ntmps174 (by rfl) (fun w0 R=>?_)
  repeat'(first|(refine gY ?_;intros)|(refine hY ?_ ?_<;>intro hgd)|(refine jY ?_ ?_<;>intro _)|fail)
  (refine rt_Y (y:=()) (hrs:=Tryz.results174) (hv:=?_) (hφ:=?_))
  ·rfl
  ·trivial
 ·have t1:decide ((s.size:Int)<8)=false:=by simp;omega
  have z8:(s.extract 0 8).size=8:=by rw[ByteArray.size_extract];omega
  have hg:=get_spec (s.extract 0 8) (by omega) (by omega)
  rw[z8]at hg
  simp only[h,if_false]
  refine spec_intro [] _ Tryz.func174 rfl Tryz.ntmps174 (by rfl) (fun w0 R=>?_)
  repeat'(first|(refine gY ?_;intros)|(refine hY ?_ ?_<;>intro hgd)|(refine jY ?_ ?_<;>intro _)|fail)
  refine cl_Y (hg) ?_
  intro _ _
  repeat'(first|(refine gY ?_;intros)|(refine hY ?_ ?_<;>intro hgd)|(refine jY ?_ ?_<;>intro _)|fail)
  (refine rt_Y (y:=()) (hrs:=Tryz.results174) (hv:=?_) (hφ:=?_))
  ·rfl
  ·trivial
theorem next_v(a b:Nat)(st:BA×Bool)(hz:st.1.size≤4611686018427387904):VSpec Tryz.prog (.func (.func 174) #[] [.pointer (some ⟨a,0,none⟩),.pointer (some ⟨b,0,none⟩)].toArray) [] (nxP a b st) Unit (fun _=>True) (fun _=>.int .u64 (nxM st).1) (fun _=>nxP a b (nxM st).2):=
 vspec_func (args:=[]) (cap:=[.pointer (some ⟨a,0,none⟩),.pointer (some ⟨b,0,none⟩)]) (next_m a b st hz)
theorem mGet_spec(s:BA)(hz:s.size≤1099511627000):FSpec Tryz.prog 136 [.string s] [] {v:Value // v.oneCell'=true} (fun _=>True) (fun v=>.tuple #[.agg (manV (getM s).1 v.1).toArray,.int .i64 (getM s).2]) (fun v=>[row 70 1 v.1 ((getM s).1.runs.map uV)]):=by
 unfold getM
 have hsl:=scanF_len s.size s
 have hS:=Scan_spec s (by omega)
 rw[show scanF s.size s=scanOf s from rfl]at hsl
 generalize scanOf s=sc at hsl hS
 obtain⟨l,n,e⟩:=sc
 dsimp only at hsl hS ⊢
 cases u1:(!decide (e=0))with
 |true=>
  rw[if_pos (by simpa using u1)]
  refine spec_intro [] _ Tryz.func136 rfl Tryz.ntmps136 (by rfl) (fun w0 R=>?_)
  repeat'(first|(refine gY ?_;intros)|(refine hY ?_ ?_<;>intro hgd)|(refine jY ?_ ?_<;>intro _)|fail)
  refine cl_Y (hS) ?_
  rintro⟨v,hv⟩ _
  repeat'(first|(refine gY ?_;intros)|(refine hY ?_ ?_<;>intro hgd)|(refine jY ?_ ?_<;>intro _)|fail)
  refine cont_map (fun _ h=>rowNil (e:=70) (n:=1) h) ?_
  (refine rt_Y (y:=⟨.slice none 0 0,rfl⟩) (hrs:=Tryz.results136) (hv:=?_) (hφ:=?_))
  ·rfl
  ·trivial
 |false=>
  rw[if_neg (by simpa using u1)]
  cases u2:(!decide (((l.map strV).length:Int)=1))with
  |true=>
   have hl1:l.length≠1:=by simp at u2;omega
   rw[getM1_ne hl1]
   refine spec_intro [] _ Tryz.func136 rfl Tryz.ntmps136 (by rfl) (fun w0 R=>?_)
   repeat'(first|(refine gY ?_;intros)|(refine hY ?_ ?_<;>intro hgd)|(refine jY ?_ ?_<;>intro _)|fail)
   refine cl_Y (hS) ?_
   rintro⟨v,hv⟩ _
   repeat'(first|(refine gY ?_;intros)|(refine hY ?_ ?_<;>intro hgd)|(refine jY ?_ ?_<;>intro _)|fail)
   refine cont_map (fun _ h=>rowNil (e:=70) (n:=1) h) ?_
   (refine rt_Y (y:=⟨.slice none 0 0,rfl⟩) (hrs:=Tryz.results136) (hv:=?_) (hφ:=?_))
   ·rfl
   ·trivial
  |false=>
   have hl1:l.length=1:=by simp at u2;omega
   obtain⟨t,rfl⟩:∃ t,l=[t]:=by
    match l,hl1 with
    | [t],_=>exact⟨t,rfl⟩
   have htz:t.size≤s.size:=by simp[lenT]at hsl;omega
   rw[show getM1 [t]=(if takeM t then((parseM t).1,0)else(mn0,7))from rfl]
   refine spec_intro [] _ Tryz.func136 rfl Tryz.ntmps136 (by rfl) (fun w0 R=>?_)
   repeat'(first|(refine gY ?_;intros)|(refine hY ?_ ?_<;>intro hgd)|(refine jY ?_ ?_<;>intro _)|fail)
   rename_i bm
   refine cl_Y (hS) ?_
   rintro⟨v,hv⟩ _
   dsimp only
   have hx:([t].map strV)[0]? =some (strV t):=rfl
   have hx0:0<([t].map strV).length:=by simp
   refine ops_learn (row_cases takeD) ?_
   rintro(⟨rfl,hn⟩|⟨g,c,rfl,hgc⟩)
   ·cases hn
   repeat'(first|(refine gY ?_;intros)|(refine hY ?_ ?_<;>intro hgd)|(refine jY ?_ ?_<;>intro _)|fail)
   rename_i ba bb
   have z1:=(nxM_size (t,false)).1
   have z2:=(nxM_size (nxM (t,false)).2).1
   have z3:=(nxM_size (nxM (nxM (t,false)).2).2).1
   dsimp only at z1
   refine opsL_map (L':=[pts ba (.cells [.string t].toArray 9),pts bb (.cells [.bool false].toArray 4),pts bm (.cells [.int .u64 0,.slice none 0 0,.int .u64 0].toArray 73)]++R) entD ?_
   repeat'(first|(refine gY ?_;intros)|(refine hY ?_ ?_<;>intro hgd)|(refine jY ?_ ?_<;>intro _)|fail)
   refine clV_Y (next_v ba bb (t,false) (by dsimp only;omega)) ?_
   intro _ _
   repeat'(first|(refine gY ?_;intros)|(refine hY ?_ ?_<;>intro hgd)|(refine jY ?_ ?_<;>intro _)|fail)
   refine clV_Y (next_v ba bb (nxM (t,false)).2 (by omega)) ?_
   intro _ _
   repeat'(first|(refine gY ?_;intros)|(refine hY ?_ ?_<;>intro hgd)|(refine jY ?_ ?_<;>intro _)|fail)
   rename_i bq
   refine clV_Y (next_v ba bb (nxM (nxM (t,false)).2).2 (by omega)) ?_
   intro _ _
   repeat'(first|(refine gY ?_;intros)|(refine hY ?_ ?_<;>intro hgd)|(refine jY ?_ ?_<;>intro _)|fail)
   have hp1:(parseM t).1.wal=(nxM (t,false)).1:=by simp only[parseM]
   have hp2:(parseM t).1.next=(nxM (nxM (t,false)).2).1:=by simp only[parseM]
   have hp3:(parseM t).2.1=(nxM (nxM (nxM (t,false)).2).2).1:=by simp only[parseM]
   have hp4:(parseM t).1.runs=(runsM (t.size+1) (nxM (nxM (nxM (t,false)).2).2).2).1:=by simp only[parseM]
   have hp5:(parseM t).2.2=(runsM (t.size+1) (nxM (nxM (nxM (t,false)).2).2).2).2:=by simp only[parseM]
   generalize (nxM (t,false)).1=wal at hp1
   generalize (nxM (nxM (t,false)).2).1=nxt at hp2
   generalize (nxM (nxM (nxM (t,false)).2).2).1=many at hp3
   generalize (nxM (nxM (nxM (t,false)).2).2).2=st3 at hp4 hp5 z3
   refine ok_map (L':=[pts bq (.cells [.int .u64 wal,.slice none 0 0,.int .u64 nxt].toArray 73),pts ba (.cells [.string st3.1].toArray 9),pts bb (.cells [.bool st3.2].toArray 4),pts bm (.cells [.int .u64 0,.slice none 0 0,.int .u64 0].toArray 73)]++R) entD ?_
   refine ok_map (fun _ h=>rowNil (e:=70) (n:=1) h) ?_
   have hK:st3.1.size<t.size+1:=by omega
   have hKt:t.size+1≤1099511627776:=by omega
   generalize t.size+1=K at hp4 hp5 hK hKt
   refine ok_loop' (γ:=Nat×(BA×Bool)×List Int×{v:Value // v.oneCell'=true}) (fun g ρ L=>g.2.2.1++(runsM g.1 g.2.1).1=(parseM t).1.runs∧(runsM g.1 g.2.1).2=(parseM t).2.2∧(g.2.1.2=true∨g.2.1.1.size<g.1)∧g.2.1.1.size≤1099511627776∧g.2.2.1.length+g.1≤K∧
    Knows ρ [(2,.pointer (some ⟨bm,0,none⟩)),(7,.pointer (some ⟨ba,0,none⟩)),(8,.pointer (some ⟨bb,0,none⟩)),(9,.func (.func 174) #[] [.pointer (some ⟨ba,0,none⟩),.pointer (some ⟨bb,0,none⟩)].toArray),(10,.pointer (some ⟨bq,0,none⟩)),(11,.int .u64 many)]∧
    L=[row 70 1 g.2.2.2.1 (g.2.2.1.map uV),pts bq (.cells [.int .u64 wal,g.2.2.2.1,.int .u64 nxt].toArray 73),pts ba (.cells [.string g.2.1.1].toArray 9),pts bb (.cells [.bool g.2.1.2].toArray 4),pts bm (.cells [.int .u64 0,.slice none 0 0,.int .u64 0].toArray 73)]++R)
    (fun g=>g.1) (K,st3,[],⟨.slice none 0 0,rfl⟩) ⟨by rw[hp4];rfl,hp5.symm,.inr hK,by dsimp only;omega,by simp,⟨rfl,rfl,rfl,rfl,rfl,rfl,trivial⟩,rfl⟩ ?_
   rintro⟨k,⟨r,f⟩,pre,⟨v,hv'⟩⟩ ρ L ⟨h1,h2,h3,h4,h5,hk,rfl⟩
   dsimp only at h1 h2 h3 h4 h5 hk ⊢
   refine ok_regs hk ?_
   have he:=empty_ne r
   by_cases h0:r.size≠0∧f=false
   ·obtain⟨h0,rfl⟩:=h0
    have t1:(!(r.toList==(⟨#[]⟩:BA).toList))=true:=by rw[he];simp[h0]
    obtain⟨k,rfl⟩:∃ j,k=j+1:=⟨k-1,by have h3':=h3.resolve_left (by simp);omega⟩
    have hr:runsM (k+1) (r,false)=((nxM (r,false)).1::(runsM k (nxM (r,false)).2).1,(runsM k (nxM (r,false)).2).2):=by simp only[runsM,ne_eq,h0,not_false_eq_true,and_self,if_true]
    rw[hr]at h1 h2
    dsimp only at h1 h2
    have hzs:=nxM_size (r,false)
    dsimp only at hzs
    have hnx:=next_v ba bb (r,false) (by dsimp only;omega)
    generalize hnv:nxM (r,false)=y at h1 h2 hzs hnx
    obtain⟨x,r',f'⟩:=y
    dsimp only at h1 h2 hzs hnx
    repeat'(first|(refine gY ?_;intros)|(refine hY ?_ ?_<;>intro hgd)|(refine jY ?_ ?_<;>intro _)|fail)
    refine ok_drawL (cv:=[]) [3,4] ([pts bq _]) (takeD) (by kernel_rfl) rfl (by decide +kernel) ?_
    repeat'(first|(refine gY ?_;intros)|(refine hY ?_ ?_<;>intro hgd)|(refine jY ?_ ?_<;>intro _)|fail)
    refine clVN_Y (hnx) ?_
    intro _ _
    repeat'(first|(refine gY ?_;intros)|(refine hY ?_ ?_<;>intro hgd)|(refine jY ?_ ?_<;>intro _)|fail)
    rename_i v1 hv1 v2 hv2
    refine cont_map (L':=[row 70 1 v2 ((pre++[x]).map uV),pts bq (.cells [.int .u64 wal,v2,.int .u64 nxt].toArray 73),pts ba (.cells [.string r'].toArray 9),pts bb (.cells [.bool f'].toArray 4),pts bm (.cells [.int .u64 0,.slice none 0 0,.int .u64 0].toArray 73)]++R) (by rw[List.map_append];exact entD) ?_
    refine cont_back (k,(r',f'),pre++[x],⟨v2,hv2⟩) ⟨by rw[← h1];simp,h2,?_,by dsimp only;omega,by simp;omega,⟨rfl,rfl,rfl,rfl,rfl,rfl,trivial⟩,rfl⟩ (by show k<k+1;omega)
    have h3':=h3.resolve_left (by simp)
    cases hf:f' with
    |true=>exact .inl rfl
    |false=>exact .inr (by have:=hzs.2 hf;show r'.size<k;omega)
   ·have hr:runsM k (r,f)=([],f):=by
     cases k with
     |zero=>rfl
     |succ k=>simp only[runsM];rw[if_neg h0]
    rw[hr]at h1 h2
    dsimp only at h1 h2
    rw[List.append_nil]at h1
    have hm:(parseM t).1=⟨wal,pre,nxt⟩:=by
     generalize (parseM t).1=q at hp1 hp2 h1
     obtain⟨a,b,c⟩:=q
     dsimp only at hp1 hp2 h1
     rw[hp1,hp2,h1]
    have htake:takeM t=(decide (many=(pre.length:Int))&& !f&&(⟨wal,pre,nxt⟩:Mn).chk):=by unfold takeM;rw[hm,hp3,← h2]
    have hpl:(pre.map uV).length=pre.length:=by simp
    have hple:pre.length≤1099511627776:=by omega
    have hwr:IntKind.u64.wrap ((pre.map uV).length:Int)=((pre.map uV).length:Int):=wrap_u64 _ (by omega)
    have hout:∀ (X:Cx) (c:Code) (ds:List Deferred) (ρ:Regs) (L:List HProp) (Q:Exit→Act→World→Prop),True:=fun _ _ _ _ _ _=>trivial
    refine ok_learn (row_cases takeD) ?_
    intro hrow
    have hcap:capOk v:=by
     rcases hrow with⟨rfl,_⟩|⟨g,c,rfl,hc⟩
     ·exact⟨none,0,0,rfl,Nat.le_refl _⟩
     ·exact⟨_,_,_,rfl,hc⟩
    clear hrow hout
    have hcs:=Check_spec ⟨wal,pre,nxt⟩ v (row 70 1 v (pre.map uV)) Vw.row hcap (by dsimp only;omega)
    cases d1:(!decide (many=((pre.map uV).length:Int)))with
    |true=>
     have hno:takeM t=false:=by
      rw[htake]
      rw[hpl]at d1
      simp only[Bool.not_eq_true',decide_eq_false_iff_not]at d1
      simp[d1]
     rw[hno,if_neg (by simp)]
     by_cases hr0:r.size=0
     ·have t1:(!(r.toList==(⟨#[]⟩:BA).toList))=false:=by rw[he];simp[hr0]
      repeat'(first|(refine gY ?_;intros)|(refine hY ?_ ?_<;>intro hgd)|(refine jY ?_ ?_<;>intro _)|fail)
      refine cont_map (fun _ h=>rowNil (e:=70) (n:=1) h) ?_
      (refine rt_Y (y:=⟨.slice none 0 0,rfl⟩) (hrs:=Tryz.results136) (hv:=?_) (hφ:=?_))
      ·rfl
      ·trivial
     ·have t1:(!(r.toList==(⟨#[]⟩:BA).toList))=true:=by rw[he];simp[hr0]
      have hft:f=true:=by
       cases f with
       |true=>rfl
       |false=>exact absurd ⟨hr0,rfl⟩ h0
      subst hft
      repeat'(first|(refine gY ?_;intros)|(refine hY ?_ ?_<;>intro hgd)|(refine jY ?_ ?_<;>intro _)|fail)
      refine cont_map (fun _ h=>rowNil (e:=70) (n:=1) h) ?_
      (refine rt_Y (y:=⟨.slice none 0 0,rfl⟩) (hrs:=Tryz.results136) (hv:=?_) (hφ:=?_))
      ·rfl
      ·trivial
    |false=>
     have hmany:decide (many=(pre.length:Int))=true:=by rw[hpl]at d1;simpa using d1
     rw[hmany]at htake
     cases f with
     |true=>
      rw[htake,if_neg (by simp)]
      by_cases hr0:r.size=0
      ·have t1:(!(r.toList==(⟨#[]⟩:BA).toList))=false:=by rw[he];simp[hr0]
       repeat'(first|(refine gY ?_;intros)|(refine hY ?_ ?_<;>intro hgd)|(refine jY ?_ ?_<;>intro _)|fail)
       refine cont_map (fun _ h=>rowNil (e:=70) (n:=1) h) ?_
       (refine rt_Y (y:=⟨.slice none 0 0,rfl⟩) (hrs:=Tryz.results136) (hv:=?_) (hφ:=?_))
       ·rfl
       ·trivial
      ·have t1:(!(r.toList==(⟨#[]⟩:BA).toList))=true:=by rw[he];simp[hr0]
       repeat'(first|(refine gY ?_;intros)|(refine hY ?_ ?_<;>intro hgd)|(refine jY ?_ ?_<;>intro _)|fail)
       refine cont_map (fun _ h=>rowNil (e:=70) (n:=1) h) ?_
       (refine rt_Y (y:=⟨.slice none 0 0,rfl⟩) (hrs:=Tryz.results136) (hv:=?_) (hφ:=?_))
       ·rfl
       ·trivial
     |false=>
      have hr0:r.size=0:=by
       by_cases h:r.size=0
       ·exact h
       ·exact absurd ⟨h,rfl⟩ h0
      have t1:(!(r.toList==(⟨#[]⟩:BA).toList))=false:=by rw[he];simp[hr0]
      cases hchk:(⟨wal,pre,nxt⟩:Mn).chk with
      |true=>
       rw[hchk]at htake hcs
       dsimp only[cond_true]at hcs
       rw[htake,if_pos (by simp),hm]
       repeat'(first|(refine gY ?_;intros)|(refine hY ?_ ?_<;>intro hgd)|(refine jY ?_ ?_<;>intro _)|fail)
       refine cl_Y (hcs) ?_
       intro _ _
       repeat'(first|(refine gY ?_;intros)|(refine hY ?_ ?_<;>intro hgd)|(refine jY ?_ ?_<;>intro _)|fail)
       (refine rt_Y (y:=⟨v,hv'⟩) (hrs:=Tryz.results136) (hv:=?_) (hφ:=?_))
       ·rfl
       ·trivial
      |false=>
       rw[hchk]at htake hcs
       dsimp only[cond_false]at hcs
       rw[htake,if_neg (by simp)]
       repeat'(first|(refine gY ?_;intros)|(refine hY ?_ ?_<;>intro hgd)|(refine jY ?_ ?_<;>intro _)|fail)
       refine cl_Y (hcs) ?_
       intro _ _
       repeat'(first|(refine gY ?_;intros)|(refine hY ?_ ?_<;>intro hgd)|(refine jY ?_ ?_<;>intro _)|fail)
       refine cont_map (fun _ h=>rowNil (e:=70) (n:=1) h) ?_
       (refine rt_Y (y:=⟨.slice none 0 0,rfl⟩) (hrs:=Tryz.results136) (hv:=?_) (hφ:=?_))
       ·rfl
       ·trivial
instance arrS:ArI Tryz.prog 182 5 181 1:=⟨Tryz.underlying182,by kernel_rfl⟩
theorem Save1_spec(b b3 b9:Nat)(d:Dk)(n:BA)(hd:d.Ok)(hl:d.loose.length≤1099511627776)(hn:n.size≤4611686018427387904):
  FSpec Tryz.prog 114 [.pointer (some ⟨b3,0,none⟩),.pointer (some ⟨b9,0,none⟩)] [pts b3 (.cells [.pointer (some ⟨b,0,none⟩)].toArray 36),pts b9 (.cells [.string n].toArray 9),diskP b d] Unit (fun _=>True)
   (fun _=>.int .i64 (if(d.remove n).2=3 then 0 else(d.remove n).2)) (fun _=>[pts b3 (.cells [.pointer (some ⟨b,0,none⟩)].toArray 36),pts b9 (.cells [.string n].toArray 9),diskP b (d.remove n).1]):=by
 have hs:=remove_spec b d n hd hl hn
 generalize d.remove n=r at hs
 obtain⟨d',e⟩:=r
 dsimp only at hs ⊢
 cases u1:(!decide (e=3))with
 |true=>
  rw[if_neg (by simpa using u1)]
  refine spec_intro [] _ Tryz.func114 rfl Tryz.ntmps114 (by rfl) (fun w0 R=>?_)
  repeat'(first|(refine gY ?_;intros)|(refine hY ?_ ?_<;>intro hgd)|(refine jY ?_ ?_<;>intro _)|fail)
  refine cl_Y (hs) ?_
  intro _ _
  repeat'(first|(refine gY ?_;intros)|(refine hY ?_ ?_<;>intro hgd)|(refine jY ?_ ?_<;>intro _)|fail)
  (refine rt_Y (y:=()) (hrs:=Tryz.results114) (hv:=?_) (hφ:=?_))
  ·rfl
  ·trivial
 |false=>
  rw[if_pos (by simpa using u1)]
  refine spec_intro [] _ Tryz.func114 rfl Tryz.ntmps114 (by rfl) (fun w0 R=>?_)
  repeat'(first|(refine gY ?_;intros)|(refine hY ?_ ?_<;>intro hgd)|(refine jY ?_ ?_<;>intro _)|fail)
  refine cl_Y (hs) ?_
  intro _ _
  repeat'(first|(refine gY ?_;intros)|(refine hY ?_ ?_<;>intro hgd)|(refine jY ?_ ?_<;>intro _)|fail)
  (refine rt_Y (y:=()) (hrs:=Tryz.results114) (hv:=?_) (hφ:=?_))
  ·rfl
  ·trivial
theorem Save2_spec(b b3 b9 b7:Nat)(d:Dk)(n s:BA)(hd:d.Ok)(hl:d.loose.length≤1099511627776)(hn:n.size≤4611686018427387904)(hz:s.size≤549755813888):
  FSpec Tryz.prog 115 [.pointer (some ⟨b3,0,none⟩),.pointer (some ⟨b9,0,none⟩),.pointer (some ⟨b7,0,none⟩)] [pts b3 (.cells [.pointer (some ⟨b,0,none⟩)].toArray 36),pts b9 (.cells [.string n].toArray 9),pts b7 (.cells [.string s].toArray 9),diskP b d] Unit (fun _=>True)
   (fun _=>.int .i64 (d.append n s).2) (fun _=>[pts b3 (.cells [.pointer (some ⟨b,0,none⟩)].toArray 36),pts b9 (.cells [.string n].toArray 9),pts b7 (.cells [.string s].toArray 9),diskP b (d.append n s).1]):=by
 refine spec_intro [] _ Tryz.func115 rfl Tryz.ntmps115 (by rfl) (fun w0 R=>?_)
 repeat'(first|(refine gY ?_;intros)|(refine hY ?_ ?_<;>intro hgd)|(refine jY ?_ ?_<;>intro _)|fail)
 refine cl_Y (append_spec b d n s hd hl hn hz) ?_
 intro _ _
 repeat'(first|(refine gY ?_;intros)|(refine hY ?_ ?_<;>intro hgd)|(refine jY ?_ ?_<;>intro _)|fail)
 (refine rt_Y (y:=()) (hrs:=Tryz.results115) (hv:=?_) (hφ:=?_))
 ·rfl
 ·trivial
theorem Save3_spec(b b3 b9 b4:Nat)(d:Dk)(n s:BA)(hd:d.Ok)(hl:d.loose.length≤1099511627776)(hn:n.size≤4611686018427387904)(hz:s.size≤4611686018427387904):
  FSpec Tryz.prog 116 [.pointer (some ⟨b3,0,none⟩),.pointer (some ⟨b9,0,none⟩),.pointer (some ⟨b4,0,none⟩)] [pts b3 (.cells [.pointer (some ⟨b,0,none⟩)].toArray 36),pts b9 (.cells [.string n].toArray 9),pts b4 (.cells [.string s].toArray 9),diskP b d] Unit (fun _=>True)
   (fun _=>.int .i64 (d.rename n s).2) (fun _=>[pts b3 (.cells [.pointer (some ⟨b,0,none⟩)].toArray 36),pts b9 (.cells [.string n].toArray 9),pts b4 (.cells [.string s].toArray 9),diskP b (d.rename n s).1]):=by
 refine spec_intro [] _ Tryz.func116 rfl Tryz.ntmps116 (by rfl) (fun w0 R=>?_)
 repeat'(first|(refine gY ?_;intros)|(refine hY ?_ ?_<;>intro hgd)|(refine jY ?_ ?_<;>intro _)|fail)
 refine cl_Y (rename_spec b d n s hd hl hn hz) ?_
 intro _ _
 repeat'(first|(refine gY ?_;intros)|(refine hY ?_ ?_<;>intro hgd)|(refine jY ?_ ?_<;>intro _)|fail)
 (refine rt_Y (y:=()) (hrs:=Tryz.results116) (hv:=?_) (hφ:=?_))
 ·rfl
 ·trivial
set_option maxHeartbeats 1000000 in
theorem Save_spec(b:Nat)(d:Dk)(nm:BA)(m:Mn)(v:Value)(A:HProp)(hd:d.Ok)(hl:d.loose.length≤1000000000)(hn:nm.size≤1099511627776)(hA:Vw A 1 v (m.runs.map uV))(hcap:capOk v)(hz:m.runs.length≤1099511627776)(hc:m.chk=true)(hw:m.wf):
  FSpec Tryz.prog 58 [.pointer (some ⟨b,0,none⟩),.string nm,.agg (manV m v).toArray] [diskP b d,A] Unit (fun _=>True) (fun _=>.int .i64 (saveD nm (mBytes m) d).2) (fun _=>[diskP b (saveD nm (mBytes m) d).1,A]):=by
 have hsz:(mBytes m).size≤549755813888:=by
  have hh:=Mn.chk_head hc
  simp only[Mn.head,Bool.or_eq_false_iff,decide_eq_false_iff_not]at hh
  unfold mBytes mBody
  rw[frameOf_size,put8s_size]
  simp[mNums];omega
 have hz9:(nm++dotNew).size≤1099511627780:=by rw[ByteArray.size_append];show nm.size+4≤_;omega
 have hd4:ByteArray.size ⟨#[46,110,101,119]⟩=4:=rfl
 refine spec_intro [] _ Tryz.func58 rfl Tryz.ntmps58 (by rfl) (fun w0 R=>?_)
 repeat'(first|(refine gY ?_;intros)|(refine hY ?_ ?_<;>intro hgd)|(refine jY ?_ ?_<;>intro _)|fail)
 rename_i b3 b4 b5
 refine cl_Y (mPut_spec m v A hA hcap hz hc hw) ?_
 intro _ _
 generalize mBytes m=s at hsz
 repeat'(first|(refine gY ?_;intros)|(refine hY ?_ ?_<;>intro hgd)|(refine jY ?_ ?_<;>intro _)|fail)
 rename_i b7 b9
 rw[show(nm++⟨#[46,110,101,119]⟩:BA)=nm++dotNew from rfl]
 have hfin:=save_ok (nm:=nm) hd hsz
 refine ok_map (L':=[diskP b d,pts b3 (.cells [.pointer (some ⟨b,0,none⟩)].toArray 36),pts b4 (.cells [.string nm].toArray 9),pts b7 (.cells [.string s].toArray 9),pts b9 (.cells [.string (nm++dotNew)].toArray 9),A]++R) entD ?_
 refine ok_loop' (γ:=Nat×Dk) (fun g ρ L=>g.1≤5∧runD nm s (5-g.1) g.2=saveD nm s d∧g.2.Ok∧g.2.loose.length≤d.loose.length+g.1∧
  Knows ρ [(39,.agg [.func (.func 114) #[] #[.pointer (some ⟨b3,0,none⟩),.pointer (some ⟨b9,0,none⟩)],.func (.func 115) #[] #[.pointer (some ⟨b3,0,none⟩),.pointer (some ⟨b9,0,none⟩),.pointer (some ⟨b7,0,none⟩)],.func (.func 95) #[.pointer (some ⟨b,0,none⟩)] #[],.func (.func 116) #[] #[.pointer (some ⟨b3,0,none⟩),.pointer (some ⟨b9,0,none⟩),.pointer (some ⟨b4,0,none⟩)],.func (.func 95) #[.pointer (some ⟨b,0,none⟩)] #[]].toArray),(40,.int .i64 g.1)]∧
  L=[diskP b g.2,pts b3 (.cells [.pointer (some ⟨b,0,none⟩)].toArray 36),pts b4 (.cells [.string nm].toArray 9),pts b7 (.cells [.string s].toArray 9),pts b9 (.cells [.string (nm++dotNew)].toArray 9),A]++R) (fun g=>5-g.1) (0,d) ⟨by simp,save_run nm s d,hd,by simp,⟨rfl,rfl,trivial⟩,rfl⟩ ?_
 rintro⟨i,x⟩ ρ L ⟨hi,hr,hx,hxl,hk,rfl⟩
 dsimp only at hi hr hx hxl hk ⊢
 refine ok_regs hk ?_
 rw[← hr]
 clear hk hr hfin
 have hi':i=0∨i=1∨i=2∨i=3∨i=4∨i=5:=by omega
 rcases hi' with rfl|rfl|rfl|rfl|rfl|rfl
 ·have t0:decide (((0:Nat):Int)<5)=true:=by decide
  have hv:=vspec_func (args:=[]) (cap:=[.pointer (some ⟨b3,0,none⟩),.pointer (some ⟨b9,0,none⟩)]) (Save1_spec b b3 b9 x (nm++dotNew) hx (by omega) (by omega))
  have hst:=step0 nm s x
  have hg:=@run_good nm s 4 x
  have hb:=@run_bad nm s 4 x
  have hok:=step_ok (nm:=nm) (i:=0) hx hsz
  have hlo:=step_loose nm s 0 x
  rw[show(4-4:Nat)=0 from rfl]at hg hb
  rw[hst]at hg hb hok hlo
  rw[show(5-0:Nat)=4+1 from rfl]
  dsimp only at hg hb hok hlo
  generalize hr1:(x.remove (nm++dotNew)).1=d1 at hv hg hb hok hlo
  generalize hr2:(if(x.remove (nm++dotNew)).2=3 then(0:Int)else(x.remove (nm++dotNew)).2)=e1 at hv hg hb hok hlo
  cases u1:(!decide (e1=0))with
  |true=>
   rw[hb (by simpa using u1)]
   repeat'(first|(refine gY ?_;intros)|(refine hY ?_ ?_<;>intro hgd)|(refine jY ?_ ?_<;>intro _)|fail)
   refine clV_Y (hv) ?_
   intro _ _
   repeat'(first|(refine gY ?_;intros)|(refine hY ?_ ?_<;>intro hgd)|(refine jY ?_ ?_<;>intro _)|fail)
   (refine rt_Y (y:=()) (hrs:=Tryz.results58) (hv:=?_) (hφ:=?_))
   ·rfl
   ·trivial
  |false=>
   rw[hg (by simpa using u1)]
   repeat'(first|(refine gY ?_;intros)|(refine hY ?_ ?_<;>intro hgd)|(refine jY ?_ ?_<;>intro _)|fail)
   refine clV_Y (hv) ?_
   intro _ _
   repeat'(first|(refine gY ?_;intros)|(refine hY ?_ ?_<;>intro hgd)|(refine jY ?_ ?_<;>intro _)|fail)
   refine cont_map (L':=[diskP b d1,pts b3 (.cells [.pointer (some ⟨b,0,none⟩)].toArray 36),pts b4 (.cells [.string nm].toArray 9),pts b7 (.cells [.string s].toArray 9),pts b9 (.cells [.string (nm++dotNew)].toArray 9),A]++R) entD ?_
   refine cont_back (1,d1) ⟨by simp,rfl,hok,by dsimp only;omega,⟨rfl,rfl,trivial⟩,rfl⟩ (by show 5-1<5-0;omega)
 ·have t0:decide (((1:Nat):Int)<5)=true:=by decide
  have hv:=vspec_func (args:=[]) (cap:=[.pointer (some ⟨b3,0,none⟩),.pointer (some ⟨b9,0,none⟩),.pointer (some ⟨b7,0,none⟩)]) (Save2_spec b b3 b9 b7 x (nm++dotNew) s hx (by omega) (by omega) hsz)
  have hst:=step1 nm s x
  have hg:=@run_good nm s 3 x
  have hb:=@run_bad nm s 3 x
  have hok:=step_ok (nm:=nm) (i:=1) hx hsz
  have hlo:=step_loose nm s 1 x
  rw[show(4-3:Nat)=1 from rfl]at hg hb
  rw[hst]at hg hb hok hlo
  rw[show(5-1:Nat)=3+1 from rfl]
  generalize x.append (nm++dotNew) s=rr at hv hg hb hok hlo
  obtain⟨d1,e1⟩:=rr
  dsimp only at hv hg hb hok hlo
  cases u1:(!decide (e1=0))with
  |true=>
   rw[hb (by simpa using u1)]
   repeat'(first|(refine gY ?_;intros)|(refine hY ?_ ?_<;>intro hgd)|(refine jY ?_ ?_<;>intro _)|fail)
   refine clV_Y (hv) ?_
   intro _ _
   repeat'(first|(refine gY ?_;intros)|(refine hY ?_ ?_<;>intro hgd)|(refine jY ?_ ?_<;>intro _)|fail)
   (refine rt_Y (y:=()) (hrs:=Tryz.results58) (hv:=?_) (hφ:=?_))
   ·rfl
   ·trivial
  |false=>
   rw[hg (by simpa using u1)]
   repeat'(first|(refine gY ?_;intros)|(refine hY ?_ ?_<;>intro hgd)|(refine jY ?_ ?_<;>intro _)|fail)
   refine clV_Y (hv) ?_
   intro _ _
   repeat'(first|(refine gY ?_;intros)|(refine hY ?_ ?_<;>intro hgd)|(refine jY ?_ ?_<;>intro _)|fail)
   refine cont_map (L':=[diskP b d1,pts b3 (.cells [.pointer (some ⟨b,0,none⟩)].toArray 36),pts b4 (.cells [.string nm].toArray 9),pts b7 (.cells [.string s].toArray 9),pts b9 (.cells [.string (nm++dotNew)].toArray 9),A]++R) entD ?_
   refine cont_back (2,d1) ⟨by simp,rfl,hok,by dsimp only;omega,⟨rfl,rfl,trivial⟩,rfl⟩ (by show 5-2<5-1;omega)
 ·have t0:decide (((2:Nat):Int)<5)=true:=by decide
  have hv:=vspec_bound (args:=[]) (sync_spec b x hx)
  have hst:=step2 nm s x
  have hg:=@run_good nm s 2 x
  have hb:=@run_bad nm s 2 x
  have hok:=step_ok (nm:=nm) (i:=2) hx hsz
  have hlo:=step_loose nm s 2 x
  rw[show(4-2:Nat)=2 from rfl]at hg hb
  rw[hst]at hg hb hok hlo
  rw[show(5-2:Nat)=2+1 from rfl]
  generalize x.sync=rr at hv hg hb hok hlo
  obtain⟨d1,e1⟩:=rr
  dsimp only at hv hg hb hok hlo
  cases u1:(!decide (e1=0))with
  |true=>
   rw[hb (by simpa using u1)]
   repeat'(first|(refine gY ?_;intros)|(refine hY ?_ ?_<;>intro hgd)|(refine jY ?_ ?_<;>intro _)|fail)
   refine clV_Y (hv) ?_
   intro _ _
   repeat'(first|(refine gY ?_;intros)|(refine hY ?_ ?_<;>intro hgd)|(refine jY ?_ ?_<;>intro _)|fail)
   (refine rt_Y (y:=()) (hrs:=Tryz.results58) (hv:=?_) (hφ:=?_))
   ·rfl
   ·trivial
  |false=>
   rw[hg (by simpa using u1)]
   repeat'(first|(refine gY ?_;intros)|(refine hY ?_ ?_<;>intro hgd)|(refine jY ?_ ?_<;>intro _)|fail)
   refine clV_Y (hv) ?_
   intro _ _
   repeat'(first|(refine gY ?_;intros)|(refine hY ?_ ?_<;>intro hgd)|(refine jY ?_ ?_<;>intro _)|fail)
   refine cont_map (L':=[diskP b d1,pts b3 (.cells [.pointer (some ⟨b,0,none⟩)].toArray 36),pts b4 (.cells [.string nm].toArray 9),pts b7 (.cells [.string s].toArray 9),pts b9 (.cells [.string (nm++dotNew)].toArray 9),A]++R) entD ?_
   refine cont_back (3,d1) ⟨by simp,rfl,hok,by dsimp only;omega,⟨rfl,rfl,trivial⟩,rfl⟩ (by show 5-3<5-2;omega)
 ·have t0:decide (((3:Nat):Int)<5)=true:=by decide
  have hv:=vspec_func (args:=[]) (cap:=[.pointer (some ⟨b3,0,none⟩),.pointer (some ⟨b9,0,none⟩),.pointer (some ⟨b4,0,none⟩)]) (Save3_spec b b3 b9 b4 x (nm++dotNew) nm hx (by omega) (by omega) (by omega))
  have hst:=step3 nm s x
  have hg:=@run_good nm s 1 x
  have hb:=@run_bad nm s 1 x
  have hok:=step_ok (nm:=nm) (i:=3) hx hsz
  have hlo:=step_loose nm s 3 x
  rw[show(4-1:Nat)=3 from rfl]at hg hb
  rw[hst]at hg hb hok hlo
  rw[show(5-3:Nat)=1+1 from rfl]
  generalize x.rename (nm++dotNew) nm=rr at hv hg hb hok hlo
  obtain⟨d1,e1⟩:=rr
  dsimp only at hv hg hb hok hlo
  cases u1:(!decide (e1=0))with
  |true=>
   rw[hb (by simpa using u1)]
   repeat'(first|(refine gY ?_;intros)|(refine hY ?_ ?_<;>intro hgd)|(refine jY ?_ ?_<;>intro _)|fail)
   refine clV_Y (hv) ?_
   intro _ _
   repeat'(first|(refine gY ?_;intros)|(refine hY ?_ ?_<;>intro hgd)|(refine jY ?_ ?_<;>intro _)|fail)
   (refine rt_Y (y:=()) (hrs:=Tryz.results58) (hv:=?_) (hφ:=?_))
   ·rfl
   ·trivial
  |false=>
   rw[hg (by simpa using u1)]
   repeat'(first|(refine gY ?_;intros)|(refine hY ?_ ?_<;>intro hgd)|(refine jY ?_ ?_<;>intro _)|fail)
   refine clV_Y (hv) ?_
   intro _ _
   repeat'(first|(refine gY ?_;intros)|(refine hY ?_ ?_<;>intro hgd)|(refine jY ?_ ?_<;>intro _)|fail)
   refine cont_map (L':=[diskP b d1,pts b3 (.cells [.pointer (some ⟨b,0,none⟩)].toArray 36),pts b4 (.cells [.string nm].toArray 9),pts b7 (.cells [.string s].toArray 9),pts b9 (.cells [.string (nm++dotNew)].toArray 9),A]++R) entD ?_
   refine cont_back (4,d1) ⟨by simp,rfl,hok,by dsimp only;omega,⟨rfl,rfl,trivial⟩,rfl⟩ (by show 5-4<5-3;omega)
 ·have t0:decide (((4:Nat):Int)<5)=true:=by decide
  have hv:=vspec_bound (args:=[]) (sync_spec b x hx)
  have hst:=step4 nm s x
  have hg:=@run_good nm s 0 x
  have hb:=@run_bad nm s 0 x
  have hok:=step_ok (nm:=nm) (i:=4) hx hsz
  have hlo:=step_loose nm s 4 x
  rw[show(4-0:Nat)=4 from rfl]at hg hb
  rw[hst]at hg hb hok hlo
  rw[show(5-4:Nat)=0+1 from rfl]
  generalize x.sync=rr at hv hg hb hok hlo
  obtain⟨d1,e1⟩:=rr
  dsimp only at hv hg hb hok hlo
  cases u1:(!decide (e1=0))with
  |true=>
   rw[hb (by simpa using u1)]
   repeat'(first|(refine gY ?_;intros)|(refine hY ?_ ?_<;>intro hgd)|(refine jY ?_ ?_<;>intro _)|fail)
   refine clV_Y (hv) ?_
   intro _ _
   repeat'(first|(refine gY ?_;intros)|(refine hY ?_ ?_<;>intro hgd)|(refine jY ?_ ?_<;>intro _)|fail)
   (refine rt_Y (y:=()) (hrs:=Tryz.results58) (hv:=?_) (hφ:=?_))
   ·rfl
   ·trivial
  |false=>
   rw[hg (by simpa using u1)]
   repeat'(first|(refine gY ?_;intros)|(refine hY ?_ ?_<;>intro hgd)|(refine jY ?_ ?_<;>intro _)|fail)
   refine clV_Y (hv) ?_
   intro _ _
   repeat'(first|(refine gY ?_;intros)|(refine hY ?_ ?_<;>intro hgd)|(refine jY ?_ ?_<;>intro _)|fail)
   refine cont_map (L':=[diskP b d1,pts b3 (.cells [.pointer (some ⟨b,0,none⟩)].toArray 36),pts b4 (.cells [.string nm].toArray 9),pts b7 (.cells [.string s].toArray 9),pts b9 (.cells [.string (nm++dotNew)].toArray 9),A]++R) entD ?_
   refine cont_back (5,d1) ⟨by simp,rfl,hok,by dsimp only;omega,⟨rfl,rfl,trivial⟩,rfl⟩ (by show 5-5<5-4;omega)
 ·have t0:decide (((5:Nat):Int)<5)=false:=by decide
  rw[show(5-5:Nat)=0 from rfl,run_zero]
  repeat'(first|(refine gY ?_;intros)|(refine hY ?_ ?_<;>intro hgd)|(refine jY ?_ ?_<;>intro _)|fail)
  (refine rt_Y (y:=()) (hrs:=Tryz.results58) (hv:=?_) (hφ:=?_))
  ·rfl
  ·trivial
theorem Load_spec(b:Nat)(d:Dk)(nm:BA)(hd:d.Ok)(hn:nm.size≤4611686018427387904):
  FSpec Tryz.prog 92 [.pointer (some ⟨b,0,none⟩),.string nm] [diskP b d] {v:Value // v.oneCell'=true} (fun _=>True) (fun v=>.tuple #[.agg (manV (loadD nm d).1 v.1).toArray,.int .i64 (loadD nm d).2]) (fun v=>[row 70 1 v.1 ((loadD nm d).1.runs.map uV),diskP b d]):=by
 have hr:=read_spec b d nm 0 16777216 hn
 have hz:(d.read nm 0 16777216).1.size≤16777216:=by
  unfold Dk.read
  split
  ·exact Nat.zero_le 16777216
  ·split
   ·exact Nat.zero_le 16777216
   ·split
    ·exact Nat.zero_le 16777216
    ·unfold cut
     simp only[ByteArray.size_extract]
     split<;>omega
 unfold loadD
 generalize d.read nm 0 16777216=rd at hr hz
 obtain⟨s,e⟩:=rd
 dsimp only at hr hz ⊢
 cases u1:(!decide (e=0))with
 |true=>
  rw[if_pos (by simpa using u1)]
  refine spec_intro [] _ Tryz.func92 rfl Tryz.ntmps92 (by rfl) (fun w0 R=>?_)
  repeat'(first|(refine gY ?_;intros)|(refine hY ?_ ?_<;>intro hgd)|(refine jY ?_ ?_<;>intro _)|fail)
  refine cl_Y (hr) ?_
  intro _ _
  repeat'(first|(refine gY ?_;intros)|(refine hY ?_ ?_<;>intro hgd)|(refine jY ?_ ?_<;>intro _)|fail)
  refine cont_map (fun _ h=>rowNil (e:=70) (n:=1) h) ?_
  (refine rt_Y (y:=⟨.slice none 0 0,rfl⟩) (hrs:=Tryz.results92) (hv:=?_) (hφ:=?_))
  ·rfl
  ·trivial
 |false=>
  rw[if_neg (by simpa using u1)]
  have hg:=mGet_spec s (by omega)
  generalize getM s=g at hg
  obtain⟨m,e2⟩:=g
  dsimp only at hg ⊢
  refine spec_intro [] _ Tryz.func92 rfl Tryz.ntmps92 (by rfl) (fun w0 R=>?_)
  repeat'(first|(refine gY ?_;intros)|(refine hY ?_ ?_<;>intro hgd)|(refine jY ?_ ?_<;>intro _)|fail)
  refine cl_Y (hr) ?_
  intro _ _
  repeat'(first|(refine gY ?_;intros)|(refine hY ?_ ?_<;>intro hgd)|(refine jY ?_ ?_<;>intro _)|fail)
  refine cl_Y (hg) ?_
  rintro⟨v,hv⟩ _
  repeat'(first|(refine gY ?_;intros)|(refine hY ?_ ?_<;>intro hgd)|(refine jY ?_ ?_<;>intro _)|fail)
  (refine rt_Y (y:=⟨v,hv⟩) (hrs:=Tryz.results92) (hv:=?_) (hφ:=?_))
  ·rfl
  ·trivial
end Go.Proofs.YtgbmjoenbocfcaaGreat
