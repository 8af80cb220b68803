/- Texts merged: KvA KvB KvC KvD. -/
import Derived.Test.YtgbmjoenbocfcaaGreatKvP
import Derived.Test.YtgbmjoenbocfcaaGreatTpA
import Derived.Test.YtgbmjoenbocfcaaGreatG4
import Derived.Lib.IndexLaws
import Derived.Test.YtgbmjoenbocfcaaGreatH33
import Derived.Test.YtgbmjoenbocfcaaGreatG9
import Derived.Test.YtgbmjoenbocfcaaGreatH31
import Derived.Test.YtgbmjoenbocfcaaGreatG12
set_option linter.unusedSimpArgs false
set_option linter.unusedVariables false
set_option maxRecDepth 100000
namespace Go.Fx
open Go
class IdxB(P:Program)(f:FuncId):Prop where
 call:∀ (a:ByteArray) (c:Int) w,(callFunc f #[.string a,.int .u8 c]).run P w= .ok (.value (.int .i64 (Lib.indexByte a.data.toList c.toNat.toUInt8))) w
theorem s_idxb{X:Cx}{ops:Array Oper}{nb:NB}{N:Act→World→Prop}{i:Nat}{os:List Oper}{Ls:List HProp}{ds:List Deferred}{ρ:Regs}{L:List HProp}{ty:TypeId}{d:Nat}[NoT nb]{f:FuncId}[K:IdxB X.P f]{x y:Operand}{at_:Array TypeId}{a:ByteArray}{c:Int}
  (hx:ev ρ x= .string a)(hy:ev ρ y= .int .u8 c)(hd:Nat.blt d X.nt=true)(hb:nb.contains i=false)
  (h:OpsL X ops nb N (i+1) os L ds (upd ρ d (.int .i64 (Lib.indexByte a.data.toList c.toNat.toUInt8))) L):Op1 X ops nb N i (some d) (.call {callee:=.value (.func f),args:= #[x,y],argTypes:=at_}) ty os Ls ds ρ L:=by
 refine op_eff (Y:=Unit) (φ:=fun _=>True) (v:=fun _=>.int .i64 (Lib.indexByte a.data.toList c.toNat.toUInt8)) (L':=fun _=>L) ⟨(fun _ e=>by cases e),fun pos after gd=>⟨rfl,fun w hs=>?_⟩⟩ (fun _ e=>by cases e;exact hd) hb fun _ _=>h
 unfold OpVal
 have e1:(#[x,y].map (ev ρ))=#[.string a,.int .u8 c]:=by simp[hx,hy]
 simp only[execOp,resolve,ev,Deferred.ofValue,invoke,Sem.run_bind,Sem.run_pure,Result.andThen_ok,Array.append_empty,Array.empty_append,e1,K.call]
 exact⟨(),trivial,trivial,hs⟩
end Go.Fx
namespace Go.Proofs.YtgbmjoenbocfcaaGreat
open Go Go.Fx Go.Proofs Go.Pl Go.RowKit
instance:IdxB Tryz.prog 215:=⟨fun a c w=>by
 have h:=run_callFunc_extern (P:=Tryz.prog) (f:=215) (fn:=Tryz.f215) (e:=Extern.BytealgIndexByte.indexByte) (by kernel_rfl) (by kernel_rfl) (by kernel_rfl) (by kernel_rfl) (by kernel_rfl) #[.string a,.int .u8 c] w
 rw[h,Lib.run_indexByteString];rfl⟩
theorem idxB_spec(s:BA)(c:Int):FSpec Tryz.prog 209 [.string s,.int .u8 c] [] Unit (fun _=>True) (fun _=>.int .i64 (Lib.indexByte s.data.toList c.toNat.toUInt8)) (fun _=>[]):=by
 refine spec_intro [] _ Tryz.func209 rfl Tryz.ntmps209 (by rfl) (fun w0 R=>?_)
 repeat'(first|(refine gY ?_;intros)|(refine hY ?_ ?_<;>intro hgd)|(refine jY ?_ ?_<;>intro _)|fail)
 refine ops_run (s_idxb (by rfl) (by rfl) (by rfl) (by rfl) ?_)
 repeat'(first|(refine gY ?_;intros)|(refine hY ?_ ?_<;>intro hgd)|(refine jY ?_ ?_<;>intro _)|fail)
 (refine rt_Y (y:=()) (hrs:=Tryz.results209) (hv:=?_) (hφ:=?_))
 ·rfl
 ·trivial
theorem idx1_spec(s:BA):FSpec Tryz.prog 201 [.string s,.string dotK] [] Unit (fun _=>True) (fun _=>.int .i64 (Lib.indexByte s.data.toList 46)) (fun _=>[]):=by
 have hb:=idxB_spec s 46
 rw[show((46:Int).toNat.toUInt8)=46 from rfl]at hb
 cases q:(dotK.toList==s.toList)with
 |true=>
  have e:s=dotK:=by
   have:=beq_iff_eq.1 q
   exact(toList_inj this).symm
  subst e
  have f0:decide (((dotK.size:Nat):Int)=0)=false:=rfl
  have f1:decide (((dotK.size:Nat):Int)=1)=true:=rfl
  have f2:dotK.data.toList[0]? =some 46:=rfl
  refine spec_intro [] _ Tryz.func201 rfl Tryz.ntmps201 (by rfl) (fun w0 R=>?_)
  repeat'(first|(refine gY ?_;intros)|(refine hY ?_ ?_<;>intro hgd)|(refine jY ?_ ?_<;>intro _)|fail)
  (refine rt_Y (y:=()) (hrs:=Tryz.results201) (hv:=?_) (hφ:=?_))
  ·rfl
  ·trivial
 |false=>
  have f0:decide (((dotK.size:Nat):Int)=0)=false:=rfl
  have f1:decide (((dotK.size:Nat):Int)=1)=true:=rfl
  have f2:dotK.data.toList[0]? =some 46:=rfl
  refine spec_intro [] _ Tryz.func201 rfl Tryz.ntmps201 (by rfl) (fun w0 R=>?_)
  repeat'(first|(refine gY ?_;intros)|(refine hY ?_ ?_<;>intro hgd)|(refine jY ?_ ?_<;>intro _)|fail)
  refine cl_Y (hb) ?_
  intro _ _
  repeat'(first|(refine gY ?_;intros)|(refine hY ?_ ?_<;>intro hgd)|(refine jY ?_ ?_<;>intro _)|fail)
  (refine rt_Y (y:=()) (hrs:=Tryz.results201) (hv:=?_) (hφ:=?_))
  ·rfl
  ·trivial
theorem cutD1_spec(s:BA)(hs:s.size≤4611686018427387904):FSpec Tryz.prog 176 [.string s,.string dotK] [] Unit (fun _=>True) (fun _=>.tuple #[.string (cutD s).1.1,.string (cutD s).1.2,.bool (cutD s).2]) (fun _=>[]):=by
 have hi:=idx1_spec s
 have hlt:Lib.indexByte s.data.toList 46<s.size∨Lib.indexByte s.data.toList 46= -1:=by
  have hge:=Lib.indexByte_ge s.data.toList 46
  by_cases h0:0≤Lib.indexByte s.data.toList 46
  ·obtain⟨o,ho⟩:=Int.eq_ofNat_of_zero_le h0
   obtain⟨h1,_⟩:=Lib.indexByte_some ho
   have h2:=(List.getElem?_eq_some_iff.1 h1).1
   have e:s.data.toList.length=s.size:=by simp
   left
   rw[ho]
   omega
  ·right;omega
 unfold cutD
 generalize Lib.indexByte s.data.toList 46=k at hi hlt ⊢
 cases q:decide (k≥0)with
 |true=>
  have h0:0≤k:=of_decide_eq_true q
  obtain⟨n,rfl⟩:=Int.eq_ofNat_of_zero_le h0
  rw[if_pos h0]
  have hn:n<s.size:=by omega
  have hz:dotK.size=1:=rfl
  refine spec_intro [] _ Tryz.func176 rfl Tryz.ntmps176 (by rfl) (fun w0 R=>?_)
  repeat'(first|(refine gY ?_;intros)|(refine hY ?_ ?_<;>intro hgd)|(refine jY ?_ ?_<;>intro _)|fail)
  refine cl_Y (hi) ?_
  intro _ _
  repeat'(first|(refine gY ?_;intros)|(refine hY ?_ ?_<;>intro hgd)|(refine jY ?_ ?_<;>intro _)|fail)
  rw[show(((n:Int)+((dotK.size:Nat):Int)).toNat)=((n:Int).toNat+1)by rw[hz];omega]
  (refine rt_Y (y:=()) (hrs:=Tryz.results176) (hv:=?_) (hφ:=?_))
  ·rfl
  ·trivial
 |false=>
  have h0:¬ 0≤k:=of_decide_eq_false q
  rw[if_neg h0]
  refine spec_intro [] _ Tryz.func176 rfl Tryz.ntmps176 (by rfl) (fun w0 R=>?_)
  repeat'(first|(refine gY ?_;intros)|(refine hY ?_ ?_<;>intro hgd)|(refine jY ?_ ?_<;>intro _)|fail)
  refine cl_Y (hi) ?_
  intro _ _
  repeat'(first|(refine gY ?_;intros)|(refine hY ?_ ?_<;>intro hgd)|(refine jY ?_ ?_<;>intro _)|fail)
  (refine rt_Y (y:=()) (hrs:=Tryz.results176) (hv:=?_) (hφ:=?_))
  ·rfl
  ·trivial
theorem cutD_spec(s:BA)(hs:s.size≤4611686018427387904):FSpec Tryz.prog 138 [.string s,.string dotK] [] Unit (fun _=>True) (fun _=>.tuple #[.string (cutD s).1.1,.string (cutD s).1.2,.bool (cutD s).2]) (fun _=>[]):=by
 have hh:=cutD1_spec s hs
 refine spec_intro [] _ Tryz.func138 rfl Tryz.ntmps138 (by rfl) (fun w0 R=>?_)
 repeat'(first|(refine gY ?_;intros)|(refine hY ?_ ?_<;>intro hgd)|(refine jY ?_ ?_<;>intro _)|fail)
 refine cl_Y (hh) ?_
 intro _ _
 repeat'(first|(refine gY ?_;intros)|(refine hY ?_ ?_<;>intro hgd)|(refine jY ?_ ?_<;>intro _)|fail)
 (refine rt_Y (y:=()) (hrs:=Tryz.results138) (hv:=?_) (hφ:=?_))
 ·rfl
 ·trivial
end Go.Proofs.YtgbmjoenbocfcaaGreat
namespace Go.Proofs.YtgbmjoenbocfcaaGreat
open Go Go.Fx Go.Proofs Go.Pl
abbrev kvC(b:Nat)(nm:BA)(m:Mn)(mv wp:Value)(mb:Nat)(rv:Value)(ft:Int):List Value:=[.pointer (some ⟨b,0,none⟩),.string nm,.int .u64 m.wal,mv,.int .u64 m.next,wp,.pointer (some ⟨mb,0,none⟩),rv,.int .i64 ft]
abbrev kvP(kb b:Nat)(nm:BA)(m:Mn)(mv wp:Value)(mb:Nat)(rv:Value)(ft:Int):HProp:=pts kb (.cells (kvC b nm m mv wp mb rv ft).toArray 78)
theorem kman_spec(kb b:Nat)(nm:BA)(m:Mn)(mv wp:Value)(mb:Nat)(rv:Value)(ft:Int)(hn:nm.size≤1099511627776):FSpec Tryz.prog 59 [.pointer (some ⟨kb,0,none⟩)] [kvP kb b nm m mv wp mb rv ft] Unit (fun _=>True) (fun _=>.string (manK nm)) (fun _=>[kvP kb b nm m mv wp mb rv ft]):=by
 unfold manK kvP kvC
 have z1:ByteArray.size (⟨#[46,109,97,110]⟩:ByteArray)=4:=rfl
 refine spec_intro [] _ Tryz.func59 rfl Tryz.ntmps59 (by rfl) (fun w0 R=>?_)
 repeat'(first|(refine gY ?_;intros)|(refine hY ?_ ?_<;>intro hgd)|(refine jY ?_ ?_<;>intro _)|fail)
 (refine rt_Y (y:=()) (hrs:=Tryz.results59) (hv:=?_) (hφ:=?_))
 ·rfl
 ·trivial
theorem kfile_spec(kb b:Nat)(nm:BA)(m:Mn)(mv wp:Value)(mb:Nat)(rv:Value)(ft:Int)(kd:BA)(n:Nat)(h12:n<16 ^ 12)(hn:nm.size≤1099511627776)(hk:kd.size≤1099511627776):
  FSpec Tryz.prog 97 [.pointer (some ⟨kb,0,none⟩),.string kd,.int .u64 (n:Int)] [kvP kb b nm m mv wp mb rv ft] Unit (fun _=>True) (fun _=>.string (fileK nm kd n)) (fun _=>[kvP kb b nm m mv wp mb rv ft]):=by
 have hh:FSpec Tryz.prog 146 [.int .u64 (n:Int),.int .i64 12] [] Unit (fun _=>True) (fun _=>.tuple #[.string (hexS n 12),.int .i64 0]) (fun _=>[]):=hex_spec n 12 h12 (by decide) (by decide)
 have hz:=hexS_size n 12
 generalize ehx:hexS n 12=hx at hh hz
 unfold fileK kvP kvC
 rw[ehx]
 have z1:ByteArray.size (⟨#[46]⟩:ByteArray)=1:=rfl
 have z2:(nm++(⟨#[46]⟩:ByteArray)).size=nm.size+1:=by rw[ByteArray.size_append];rfl
 have z3:(nm++(⟨#[46]⟩:ByteArray)++kd).size=nm.size+1+kd.size:=by rw[ByteArray.size_append,z2]
 have z4:(nm++(⟨#[46]⟩:ByteArray)++kd++(⟨#[46]⟩:ByteArray)).size=nm.size+1+kd.size+1:=by rw[ByteArray.size_append,z3];rfl
 refine spec_intro [] _ Tryz.func97 rfl Tryz.ntmps97 (by rfl) (fun w0 R=>?_)
 repeat'(first|(refine gY ?_;intros)|(refine hY ?_ ?_<;>intro hgd)|(refine jY ?_ ?_<;>intro _)|fail)
 refine cl_Y (hh) ?_
 intro _ _
 repeat'(first|(refine gY ?_;intros)|(refine hY ?_ ?_<;>intro hgd)|(refine jY ?_ ?_<;>intro _)|fail)
 (refine rt_Y (y:=()) (hrs:=Tryz.results97) (hv:=?_) (hφ:=?_))
 ·rfl
 ·trivial
theorem cutP_le(s p:BA):(cutP s p).1.size≤s.size:=by
 unfold cutP
 split
 ·simp only[ByteArray.size_extract];omega
 ·exact Nat.le_refl _
theorem cutD_le(s:BA):(cutD s).1.2.size≤s.size:=by
 unfold cutD
 split
 ·simp only[ByteArray.size_extract];omega
 ·exact Nat.zero_le _
set_option maxHeartbeats 1600000 in
theorem stray_spec(kb b:Nat)(nm:BA)(m:Mn)(mv wp:Value)(mb:Nat)(rv:Value)(ft:Int)(f:BA)(A:HProp)(hA:Vw A 1 mv (m.runs.map uV))(hz:m.runs.length≤1099511627776)(hn:nm.size≤1099511627776)(hf:f.size≤1099511627776):
  FSpec Tryz.prog 93 [.pointer (some ⟨kb,0,none⟩),.string f] [kvP kb b nm m mv wp mb rv ft,A] Unit (fun _=>True) (fun _=>.bool (strayB nm m f)) (fun _=>[kvP kb b nm m mv wp mb rv ft,A]):=by
 have hM:=kman_spec kb b nm m mv wp mb rv ft hn
 have z2:ByteArray.size (⟨#[46,110,101,119]⟩:ByteArray)=4:=rfl
 have z3:(nm++dotMan).size=nm.size+4:=by rw[ByteArray.size_append];rfl
 have hCP:=cutP_spec f (nm++dotK) (by omega) (by rw[ByteArray.size_append];show nm.size+1≤_;omega)
 have hrs:=cutP_le f (nm++dotK)
 unfold strayB
 unfold manK kvP kvC at hM ⊢
 generalize q0:BEq.beq f.toList _=t0
 cases t0 with
 |true=>
  have z1:ByteArray.size (⟨#[46]⟩:ByteArray)=1:=rfl
  refine spec_intro [] _ Tryz.func93 rfl Tryz.ntmps93 (by rfl) (fun w0 R=>?_)
  repeat'(first|(refine gY ?_;intros)|(refine hY ?_ ?_<;>intro hgd)|(refine jY ?_ ?_<;>intro _)|fail)
  refine cl_Y (hM) ?_
  intro _ _
  repeat'(first|(refine gY ?_;intros)|(refine hY ?_ ?_<;>intro hgd)|(refine jY ?_ ?_<;>intro _)|fail)
  (refine rt_Y (y:=()) (hrs:=Tryz.results93) (hv:=?_) (hφ:=?_))
  ·rfl
  ·trivial
 |false=>
  generalize cutP f (nm++dotK)=r at hCP hrs
  obtain⟨rest,is⟩:=r
  dsimp only at hCP hrs
  have hCD:=cutD_spec rest (by omega)
  have hds:=cutD_le rest
  simp only[cond_false]
  unfold strayC
  dsimp only
  generalize cutD rest=c at hCD hds
  obtain⟨⟨kd,num⟩,so⟩:=c
  dsimp only at hCD hds ⊢
  have hU:FSpec Tryz.prog 139 [.string num] [] Unit (fun _=>True) (fun _=>.tuple #[.int .u64 (unN num),.int .i64 (unK num)]) (fun _=>[]):=unhex_spec num (by omega)
  generalize unN num=n at hU
  generalize unK num=e at hU
  have hCt:=Contains_spec mv A m.runs n hA hz
  generalize m.runs.contains n=ct at hCt
  have z1:ByteArray.size (⟨#[46]⟩:ByteArray)=1:=rfl
  refine spec_intro [] _ Tryz.func93 rfl Tryz.ntmps93 (by rfl) (fun w0 R=>?_)
  repeat'(first|(refine gY ?_;intros)|(refine hY ?_ ?_<;>intro hgd)|(refine jY ?_ ?_<;>intro _)|fail)
  refine cl_Y (hM) ?_
  intro _ _
  repeat'(first|(refine gY ?_;intros)|(refine hY ?_ ?_<;>intro hgd)|(refine jY ?_ ?_<;>intro _)|fail)
  refine cl_Y (hCP) ?_
  intro _ _
  repeat'(first|(refine gY ?_;intros)|(refine hY ?_ ?_<;>intro hgd)|(refine jY ?_ ?_<;>intro _)|fail)
  refine cl_Y (hCD) ?_
  intro _ _
  repeat'(first|(refine gY ?_;intros)|(refine hY ?_ ?_<;>intro hgd)|(refine jY ?_ ?_<;>intro _)|fail)
  refine cl_Y (hU) ?_
  intro _ _
  cases is with
  |false=>
   repeat'(first|(refine gY ?_;intros)|(refine hY ?_ ?_<;>intro hgd)|(refine jY ?_ ?_<;>intro _)|fail)
   (refine rt_Y (y:=()) (hrs:=Tryz.results93) (hv:=?_) (hφ:=?_))
   ·rfl
   ·trivial
  |true=>
  cases so with
  |false=>
   repeat'(first|(refine gY ?_;intros)|(refine hY ?_ ?_<;>intro hgd)|(refine jY ?_ ?_<;>intro _)|fail)
   (refine rt_Y (y:=()) (hrs:=Tryz.results93) (hv:=?_) (hφ:=?_))
   ·rfl
   ·trivial
  |true=>
  cases q1: !decide (e=0)with
  |true=>
   repeat'(first|(refine gY ?_;intros)|(refine hY ?_ ?_<;>intro hgd)|(refine jY ?_ ?_<;>intro _)|fail)
   (refine rt_Y (y:=()) (hrs:=Tryz.results93) (hv:=?_) (hφ:=?_))
   ·rfl
   ·trivial
  |false=>
  cases q2: !decide ((num.size:Int)=12)with
  |true=>
   repeat'(first|(refine gY ?_;intros)|(refine hY ?_ ?_<;>intro hgd)|(refine jY ?_ ?_<;>intro _)|fail)
   (refine rt_Y (y:=()) (hrs:=Tryz.results93) (hv:=?_) (hφ:=?_))
   ·rfl
   ·trivial
  |false=>
  generalize q3:BEq.beq kd.toList walK.toList=t3
  cases t3 with
  |true=>
   repeat'(first|(refine gY ?_;intros)|(refine hY ?_ ?_<;>intro hgd)|(refine jY ?_ ?_<;>intro _)|fail)
   (refine rt_Y (y:=()) (hrs:=Tryz.results93) (hv:=?_) (hφ:=?_))
   ·rfl
   ·trivial
  |false=>
  generalize q4:BEq.beq kd.toList runK.toList=t4
  cases t4 with
  |true=>
   repeat'(first|(refine gY ?_;intros)|(refine hY ?_ ?_<;>intro hgd)|(refine jY ?_ ?_<;>intro _)|fail)
   refine cl_Y (hCt) ?_
   intro _ _
   repeat'(first|(refine gY ?_;intros)|(refine hY ?_ ?_<;>intro hgd)|(refine jY ?_ ?_<;>intro _)|fail)
   (refine rt_Y (y:=()) (hrs:=Tryz.results93) (hv:=?_) (hφ:=?_))
   ·rfl
   ·trivial
  |false=>
   repeat'(first|(refine gY ?_;intros)|(refine hY ?_ ?_<;>intro hgd)|(refine jY ?_ ?_<;>intro _)|fail)
   (refine rt_Y (y:=()) (hrs:=Tryz.results93) (hv:=?_) (hφ:=?_))
   ·rfl
   ·trivial
theorem wputK(v n:Nat)(h:(n=1∧v<256)∨(n=2∧v<65536)∨(n=3∧v<16777216)):FSpec Tryz.prog 102 [.int .u64 (v:Int),.int .i64 (n:Int)] [] Unit (fun _=>True) (fun _=>.tuple #[.string (nbK v n),.int .i64 0]) (fun _=>[]):=
 put_spec v n (by omega) (by omega) (by omega) (fitsK h)
theorem batch1_spec(b3:Nat)(s:BA)(v n:Nat)(h:(n=1∧v<256)∨(n=2∧v<65536)∨(n=3∧v<16777216))(hs:s.size≤1099511627776):
  FSpec Tryz.prog 101 [.int .i64 (v:Int),.int .i64 (n:Int),.pointer (some ⟨b3,0,none⟩)] [bldP b3 s] Unit (fun _=>True) (fun _=>.tuple #[]) (fun _=>[bldP b3 (s++nbK v n)]):=by
 have hp:=wputK v n h
 have hw:=writeString_spec b3 s (nbK v n) (by rw[nbK_size];omega)
 generalize nbK v n=t at hp hw
 have hv:IntKind.u64.wrap (v:Int)=(v:Int):=by rw[wrap_u64];omega
 refine spec_intro [] _ Tryz.func101 rfl Tryz.ntmps101 (by rfl) (fun w0 R=>?_)
 repeat'(first|(refine gY ?_;intros)|(refine hY ?_ ?_<;>intro hgd)|(refine jY ?_ ?_<;>intro _)|fail)
 try rw[hv]
 refine cl_Y (hp) ?_
 intro _ _
 repeat'(first|(refine gY ?_;intros)|(refine hY ?_ ?_<;>intro hgd)|(refine jY ?_ ?_<;>intro _)|fail)
 refine cl_Y (hw) ?_
 intro _ _
 repeat'(first|(refine gY ?_;intros)|(refine hY ?_ ?_<;>intro hgd)|(refine jY ?_ ?_<;>intro _)|fail)
 (refine rt_Y (y:=()) (hrs:=Tryz.results101) (hv:=?_) (hφ:=?_))
 ·rfl
 ·trivial
theorem batch1_v(b3:Nat)(s:BA)(v n:Nat)(h:(n=1∧v<256)∨(n=2∧v<65536)∨(n=3∧v<16777216))(hs:s.size≤1099511627776):
  VSpec Tryz.prog (.func (.func 101) #[] [.pointer (some ⟨b3,0,none⟩)].toArray) [.int .i64 (v:Int),.int .i64 (n:Int)] [bldP b3 s] Unit (fun _=>True) (fun _=>.tuple #[]) (fun _=>[bldP b3 (s++nbK v n)]):=
 vspec_func (args:=[.int .i64 (v:Int),.int .i64 (n:Int)]) (cap:=[.pointer (some ⟨b3,0,none⟩)]) (batch1_spec b3 s v n h hs)
set_option maxHeartbeats 4000000 in
theorem batch_spec(u:Value)(A:HProp)(l:List Pr)(hA:Vw A 3 u (l.map prV))(hok:∀ p∈l,okP p=true)(hz:l.length≤4096):
  FSpec Tryz.prog 48 [u] [A] Unit (fun _=>True) (fun _=>.string (batchK l)) (fun _=>[A]):=by
 have lm:(l.map prV).length=l.length:=by simp
 refine spec_intro [] _ Tryz.func48 rfl Tryz.ntmps48 (by rfl) (fun w0 R=>?_)
 refine ok_learn (VwIn.slice (VwIn.here hA)) ?_
 rintro⟨pa,ca,rfl⟩
 repeat'(first|(refine gY ?_;intros)|(refine hY ?_ ?_<;>intro hgd)|(refine jY ?_ ?_<;>intro _)|fail)
 rename_i b3
 refine opsL_map (fun _ h=>bld_new h) ?_
 have hv0:=batch1_v b3 ⟨#[]⟩ (l.map prV).length 2 (.inr (.inl ⟨rfl,by omega⟩)) (by decide)
 rw[show(⟨#[]⟩:BA)++nbK (l.map prV).length 2=nbK l.length 2++recsK (l.take 0)by rw[lm];apply ByteArray.ext;simp[ByteArray.data_append,recsK]]at hv0
 refine clV_Y (hv0) ?_
 intro _ _
 repeat'(first|(refine gY ?_;intros)|(refine hY ?_ ?_<;>intro hgd)|(refine jY ?_ ?_<;>intro _)|fail)
 refine ok_map (L':=[bldP b3 (nbK l.length 2++recsK (l.take 0)),A]++R) entD ?_
 refine ok_loop' (γ:=Nat) (fun i ρ L=>i≤l.length∧Knows ρ [(3,.pointer (some ⟨b3,0,none⟩)),(4,.func (.func 101) #[] #[.pointer (some ⟨b3,0,none⟩)]),(13,.slice pa (l.map prV).length ca),(14,.int .i64 ((l.map prV).length:Int)),(15,.int .i64 (i:Int))]∧
   L=[bldP b3 (nbK l.length 2++recsK (l.take i)),A]++R) (fun i=>l.length-i) 0 ⟨Nat.zero_le _,⟨rfl,rfl,rfl,rfl,rfl,trivial⟩,rfl⟩ ?_
 rintro i ρ L ⟨hi,hk,rfl⟩
 refine ok_regs hk ?_
 have hsz:(nbK l.length 2++recsK (l.take i)).size≤2+4096*262662:=by
  have h1:=recsK_size_le (l:=l.take i) (fun q hq=>hok q (List.mem_of_mem_take hq))
  rw[List.length_take]at h1
  rw[ByteArray.size_append,nbK_size]
  have h2:min i l.length*262662≤4096*262662:=Nat.mul_le_mul_right _ (by omega)
  omega
 cases t1:decide ((i:Int)<((l.map prV).length:Int))with
 |false=>
  have hie:i=l.length:=by have:=of_decide_eq_false t1;omega
  have hst:=string_spec b3 (nbK l.length 2++recsK (l.take i)) (by omega)
  rw[show nbK l.length 2++recsK (l.take i)=batchK l by rw[hie,List.take_length];rfl]at hst ⊢
  repeat'(first|(refine gY ?_;intros)|(refine hY ?_ ?_<;>intro hgd)|(refine jY ?_ ?_<;>intro _)|fail)
  refine cl_Y (hst) ?_
  intro _ _
  repeat'(first|(refine gY ?_;intros)|(refine hY ?_ ?_<;>intro hgd)|(refine jY ?_ ?_<;>intro _)|fail)
  (refine rt_Y (y:=()) (hrs:=Tryz.results48) (hv:=?_) (hφ:=?_))
  ·rfl
  ·trivial
 |true=>
  have h0:i<l.length:=by have:=of_decide_eq_true t1;omega
  have hx:(l.map prV)[i]? =some (prV l[i]):=by rw[List.getElem?_map,List.getElem?_eq_getElem h0];rfl
  have hn1:i<(l.map prV).length:=by omega
  have hp:=okP_k (hok _ (List.getElem_mem h0))
  have hst:nbK l.length 2++recsK (l.take (i+1))=nbK l.length 2++recsK (l.take i)++nbK (goneK l[i]) 1++nbK (l[i]).k.size 2++nbK (l[i]).v.size 3++((l[i]).k++(l[i]).v):=by
   rw[List.take_succ_eq_append_getElem h0,recsK_snoc]
   unfold recK
   simp only[ByteArray.append_assoc]
  generalize l[i]=p at hx hp hst
  obtain⟨pk,pv,pg⟩:=p
  dsimp only[prV]at hx hp hst
  refine ok_learn (VwIn.base (n:=3) (xs:=l.map prV) (VwIn.there (VwIn.here hA)) (by intro e;rw[e]at hn1;simp at hn1)) ?_
  rintro⟨bu,ou,rfl⟩
  generalize nbK l.length 2++recsK (l.take i)=s0 at hsz hst
  have hv1:=batch1_v b3 s0 (goneK ⟨pk,pv,pg⟩) 1 (.inl ⟨rfl,by unfold goneK;dsimp only;split<;>omega⟩) (by omega)
  have hs1:(s0++nbK (goneK ⟨pk,pv,pg⟩) 1).size≤3+4096*262662:=by rw[ByteArray.size_append,nbK_size];omega
  generalize s0++nbK (goneK ⟨pk,pv,pg⟩) 1=s1 at hv1 hs1 hst
  have hv2:=batch1_v b3 s1 pk.size 2 (.inr (.inl ⟨rfl,by omega⟩)) (by omega)
  have hs2:(s1++nbK pk.size 2).size≤5+4096*262662:=by rw[ByteArray.size_append,nbK_size];omega
  generalize s1++nbK pk.size 2=s2 at hv2 hs2 hst
  have hv3:=batch1_v b3 s2 pv.size 3 (.inr (.inr ⟨rfl,by omega⟩)) (by omega)
  have hs3:(s2++nbK pv.size 3).size≤8+4096*262662:=by rw[ByteArray.size_append,nbK_size];omega
  generalize s2++nbK pv.size 3=s3 at hv3 hs3 hst
  have hkv:(pk++pv).size=pk.size+pv.size:=ByteArray.size_append
  have hw:=writeString_spec b3 s3 (pk++pv) (by omega)
  cases pg<;>
  (
   repeat'(first|(refine gY ?_;intros)|(refine hY ?_ ?_<;>intro hgd)|(refine jY ?_ ?_<;>intro _)|fail)
   refine clV_Y (hv1) ?_
   intro _ _
   repeat'(first|(refine gY ?_;intros)|(refine hY ?_ ?_<;>intro hgd)|(refine jY ?_ ?_<;>intro _)|fail)
   refine clV_Y (hv2) ?_
   intro _ _
   repeat'(first|(refine gY ?_;intros)|(refine hY ?_ ?_<;>intro hgd)|(refine jY ?_ ?_<;>intro _)|fail)
   refine clV_Y (hv3) ?_
   intro _ _
   repeat'(first|(refine gY ?_;intros)|(refine hY ?_ ?_<;>intro hgd)|(refine jY ?_ ?_<;>intro _)|fail)
   refine cl_Y (hw) ?_
   intro _ _
   repeat'(first|(refine gY ?_;intros)|(refine hY ?_ ?_<;>intro hgd)|(refine jY ?_ ?_<;>intro _)|fail)
   refine cont_map (L':=[bldP b3 (nbK l.length 2++recsK (l.take (i+1))),A]++R) (by rw[hst];exact entD) ?_
   exact cont_back (i+1) ⟨h0,⟨rfl,rfl,rfl,rfl,rfl,trivial⟩,rfl⟩ (by omega)
  )
theorem i64_smallK{x:Int}(h0:0≤x)(h1:x≤9223372036854775807):IntKind.i64.wrap x=x:=by
 exact wrap_i64 (by omega) h1
theorem take_spec(b1 b4:Nat)(a t:BA)(ha:a.size≤1099511627776)(ht:t.size≤1099511627776):
  FSpec Tryz.prog 148 [.int .i64 (a.size:Int),.pointer (some ⟨b1,0,none⟩),.pointer (some ⟨b4,0,none⟩)] [pts b1 (.cells [.string (a++t)].toArray 9),pts b4 (.cells [.bool false].toArray 4)] Unit (fun _=>True) (fun _=>.string a)
   (fun _=>[pts b1 (.cells [.string t].toArray 9),pts b4 (.cells [.bool false].toArray 4)]):=by
 have e1:(a++t).extract 0 a.size=a:=ext_left a t rfl
 have e2:(a++t).extract a.size (a++t).size=t:=ext_right a t rfl ByteArray.size_append
 have hz:(a++t).size=a.size+t.size:=ByteArray.size_append
 generalize a++t=s at e1 e2 hz ⊢
 have f1:decide ((s.size:Int)<(a.size:Int))=false:=decide_eq_false (by omega)
 have f2:decide ((a.size:Int)>(s.size:Int))=false:=decide_eq_false (by omega)
 have c1:(a.size:Int).toNat=a.size:=rfl
 refine spec_intro [] _ Tryz.func148 rfl Tryz.ntmps148 (by rfl) (fun w0 R=>?_)
 repeat'(first|(refine gY ?_;intros)|(refine hY ?_ ?_<;>intro hgd)|(refine jY ?_ ?_<;>intro _)|fail)
 rw[c1,e1,e2]
 (refine rt_Y (y:=()) (hrs:=Tryz.results148) (hv:=?_) (hφ:=?_))
 ·rfl
 ·trivial
theorem take_v(b1 b4:Nat)(a t:BA)(n:Nat)(hn:a.size=n)(ha:n≤1099511627776)(ht:t.size≤1099511627776):
  VSpec Tryz.prog (.func (.func 148) #[] [.pointer (some ⟨b1,0,none⟩),.pointer (some ⟨b4,0,none⟩)].toArray) [.int .i64 (n:Int)] [pts b1 (.cells [.string (a++t)].toArray 9),pts b4 (.cells [.bool false].toArray 4)] Unit (fun _=>True) (fun _=>.string a)
   (fun _=>[pts b1 (.cells [.string t].toArray 9),pts b4 (.cells [.bool false].toArray 4)]):=by
 subst hn
 exact vspec_func (args:=[.int .i64 (a.size:Int)]) (cap:=[.pointer (some ⟨b1,0,none⟩),.pointer (some ⟨b4,0,none⟩)]) (take_spec b1 b4 a t ha ht)
abbrev tkP(b1 b4 b5:Nat):HProp:=pts b5 (.cells [.func (.func 148) #[] #[.pointer (some ⟨b1,0,none⟩),.pointer (some ⟨b4,0,none⟩)]].toArray 206)
theorem num_spec(b1 b4 b5:Nat)(v n:Nat)(t:BA)(h1:1≤n)(h3:n≤3)(hv:v<2 ^ (8*n))(ht:t.size≤1099511627776):
  FSpec Tryz.prog 149 [.int .i64 (n:Int),.pointer (some ⟨b5,0,none⟩)] [pts b1 (.cells [.string (nbK v n++t)].toArray 9),pts b4 (.cells [.bool false].toArray 4),tkP b1 b4 b5] Unit (fun _=>True) (fun _=>.int .i64 (v:Int))
   (fun _=>[pts b1 (.cells [.string t].toArray 9),pts b4 (.cells [.bool false].toArray 4),tkP b1 b4 b5]):=by
 have hT:=take_v b1 b4 (nbK v n) t n (nbK_size v n) (by omega) ht
 have hg:=get_spec (nbK v n) (by rw[nbK_size];exact h1) (by rw[nbK_size];omega)
 rw[nbK_size,nbK_get (by omega) hv]at hg
 have hlt:v<16777216:=Nat.lt_of_lt_of_le hv (by have:(2:Nat) ^ (8*n)≤2 ^ 24:=Nat.pow_le_pow_right (by decide) (by omega);simpa using this)
 have hw:IntKind.i64.wrap (v:Int)=(v:Int):=i64_smallK (by omega) (by omega)
 generalize nbK v n=a at hT hg
 refine spec_intro [] _ Tryz.func149 rfl Tryz.ntmps149 (by rfl) (fun w0 R=>?_)
 repeat'(first|(refine gY ?_;intros)|(refine hY ?_ ?_<;>intro hgd)|(refine jY ?_ ?_<;>intro _)|fail)
 refine clV_Y (hT) ?_
 intro _ _
 repeat'(first|(refine gY ?_;intros)|(refine hY ?_ ?_<;>intro hgd)|(refine jY ?_ ?_<;>intro _)|fail)
 refine cl_Y (hg) ?_
 intro _ _
 repeat'(first|(refine gY ?_;intros)|(refine hY ?_ ?_<;>intro hgd)|(refine jY ?_ ?_<;>intro _)|fail)
 try rw[hw]
 (refine rt_Y (y:=()) (hrs:=Tryz.results149) (hv:=?_) (hφ:=?_))
 ·rfl
 ·trivial
theorem num_v(b1 b4 b5:Nat)(v n:Nat)(t:BA)(h1:1≤n)(h3:n≤3)(hv:v<2 ^ (8*n))(ht:t.size≤1099511627776):
  VSpec Tryz.prog (.func (.func 149) #[] [.pointer (some ⟨b5,0,none⟩)].toArray) [.int .i64 (n:Int)] [pts b1 (.cells [.string (nbK v n++t)].toArray 9),pts b4 (.cells [.bool false].toArray 4),tkP b1 b4 b5] Unit (fun _=>True) (fun _=>.int .i64 (v:Int))
   (fun _=>[pts b1 (.cells [.string t].toArray 9),pts b4 (.cells [.bool false].toArray 4),tkP b1 b4 b5]):=
 vspec_func (args:=[.int .i64 (n:Int)]) (cap:=[.pointer (some ⟨b5,0,none⟩)]) (num_spec b1 b4 b5 v n t h1 h3 hv ht)
set_option maxHeartbeats 8000000 in
theorem unbatch_spec(l:List Pr)(hok:∀ p∈l,okP p=true)(hz:l.length≤4096):
  FSpec Tryz.prog 99 [.string (batchK l)] [] V1s (fun _=>True) (fun y=>.tuple #[y.1,.int .i64 0]) (fun y=>[row 65 3 y.1 (l.map prV)]):=by
 have hsz:=recsK_size_le hok
 have hsz':l.length*262662≤4096*262662:=Nat.mul_le_mul_right _ hz
 unfold batchK
 refine spec_intro [] _ Tryz.func99 rfl Tryz.ntmps99 (by rfl) (fun w0 R=>?_)
 repeat'(first|(refine gY ?_;intros)|(refine hY ?_ ?_<;>intro hgd)|(refine jY ?_ ?_<;>intro _)|fail)
 rename_i b1 b4 b5
 have hN0:=num_v b1 b4 b5 l.length 2 (recsK l) (by decide) (by decide) (by show l.length<65536;omega) (by omega)
 refine clV_Y (hN0) ?_
 intro _ _
 repeat'(first|(refine gY ?_;intros)|(refine hY ?_ ?_<;>intro hgd)|(refine jY ?_ ?_<;>intro _)|fail)
 refine ok_map (fun _ h=>nilRow (e:=65) (n:=3) h) ?_
 refine ok_map (L':=[pts b1 (.cells [.string (recsK (l.drop 0))].toArray 9),pts b4 (.cells [.bool false].toArray 4),tkP b1 b4 b5,row 65 3 (.slice none 0 0) ((l.take 0).map prV)]++R) entD ?_
 refine ok_loop' (γ:=Nat×V1s) (fun g ρ L=>g.1≤l.length∧Knows ρ [(1,.pointer (some ⟨b1,0,none⟩)),(2,g.2.1),(4,.pointer (some ⟨b4,0,none⟩)),(5,.pointer (some ⟨b5,0,none⟩)),(6,.func (.func 149) #[] #[.pointer (some ⟨b5,0,none⟩)]),(7,.int .i64 ((l.length-g.1:Nat):Int))]∧
   L=[pts b1 (.cells [.string (recsK (l.drop g.1))].toArray 9),pts b4 (.cells [.bool false].toArray 4),tkP b1 b4 b5,row 65 3 g.2.1 ((l.take g.1).map prV)]++R) (fun g=>l.length-g.1) (0,⟨.slice none 0 0,rfl⟩) ⟨Nat.zero_le _,⟨rfl,rfl,rfl,rfl,rfl,rfl,trivial⟩,rfl⟩ ?_
 rintro⟨i,⟨v,hv⟩⟩ ρ L ⟨hi,hk,rfl⟩
 dsimp only at hi hk ⊢
 refine ok_regs hk ?_
 have hll:((l.take i).map prV).length=i:=by rw[List.length_map,List.length_take];omega
 have hl2:(l.take i).length=i:=by rw[List.length_take];omega
 refine ok_learn (rowShapeS (e:=65) (n:=3) (v:=v) (xs:=(l.take i).map prV) (by decide) takeD) ?_
 rintro⟨px,cx,rfl,hcx,hsx⟩
 cases t1:decide (((l.length-i:Nat):Int)>0)with
 |false=>
  have hie:i=l.length:=by have:=of_decide_eq_false t1;omega
  rw[show l.drop i=[]by rw[hie,List.drop_length],show l.take i=l by rw[hie,List.take_length]]
  have f1:(!((recsK []).toList==(⟨#[]⟩:ByteArray).toList))=false:=by simp[recsK]
  repeat'(first|(refine gY ?_;intros)|(refine hY ?_ ?_<;>intro hgd)|(refine jY ?_ ?_<;>intro _)|fail)
  (refine rt_Y (y:=⟨.slice px (l.map prV).length cx,rfl⟩) (hrs:=Tryz.results99) (hv:=?_) (hφ:=?_))
  ·rfl
  ·trivial
 |true=>
  have h0:i<l.length:=by have:=of_decide_eq_true t1;omega
  have hp0:=hok _ (List.getElem_mem h0)
  have hp:=okP_k hp0
  have hgt:l[i]? =some l[i]:=List.getElem?_eq_getElem h0
  have hdr:=recsK_drop hgt
  have htk:(l.take (i+1)).map prV=(l.take i).map prV++[prV l[i]]:=by rw[List.take_succ_eq_append_getElem h0,List.map_append];rfl
  have hd1:(recsK (l.drop (i+1))).size≤4096*262662:=by
   have h1:=recsK_size_le (l:=l.drop (i+1)) (fun q hq=>hok q (List.mem_of_mem_drop hq))
   rw[List.length_drop]at h1
   exact Nat.le_trans h1 (Nat.mul_le_mul_right _ (by omega))
  have hcn:(((l.length-i:Nat):Int)-1)=((l.length-(i+1):Nat):Int):=by omega
  have hck:=memCheck_spec l[i]
  rw[if_pos hp0]at hck
  clear hN0 hgt
  rw[hdr]
  clear hdr
  generalize hrs:recsK (l.drop (i+1))=rest at hd1 ⊢
  generalize l[i]=p at hp htk hck ⊢
  obtain⟨pk,pv,pg⟩:=p
  have hrk:recK ⟨pk,pv,pg⟩++rest=nbK (goneK ⟨pk,pv,pg⟩) 1++(nbK pk.size 2++(nbK pv.size 3++(pk++(pv++rest)))):=by
   unfold recK;simp only[ByteArray.append_assoc]
  rw[hrk]
  clear hrk hp0
  dsimp only[prV]at hp htk hck ⊢
  have hg1:goneK ⟨pk,pv,pg⟩≤1:=by unfold goneK;dsimp only;split<;>omega
  have z1:(pv++rest).size≤1000000+4096*262662:=by rw[ByteArray.size_append];omega
  have z2:(pk++(pv++rest)).size≤2000000+4096*262662:=by rw[ByteArray.size_append];omega
  have z3:(nbK pv.size 3++(pk++(pv++rest))).size≤3000000+4096*262662:=by rw[ByteArray.size_append,nbK_size];omega
  have z4:(nbK pk.size 2++(nbK pv.size 3++(pk++(pv++rest)))).size≤4000000+4096*262662:=by rw[ByteArray.size_append,nbK_size];omega
  have hN1:=num_v b1 b4 b5 (goneK ⟨pk,pv,pg⟩) 1 (nbK pk.size 2++(nbK pv.size 3++(pk++(pv++rest)))) (by decide) (by decide) (by show _<256;omega) (by omega)
  have hN2:=num_v b1 b4 b5 pk.size 2 (nbK pv.size 3++(pk++(pv++rest))) (by decide) (by decide) (by show _<65536;omega) (by omega)
  have hN3:=num_v b1 b4 b5 pv.size 3 (pk++(pv++rest)) (by decide) (by decide) (by show _<16777216;omega) (by omega)
  have hT1:=take_v b1 b4 pk (pv++rest) pk.size rfl (by omega) (by omega)
  have hT2:=take_v b1 b4 pv rest pv.size rfl (by omega) (by omega)
  have hge:decide (((goneK ⟨pk,pv,pg⟩:Nat):Int)=1)=pg:=by cases pg<;>rfl
  have hgg:decide (((goneK ⟨pk,pv,pg⟩:Nat):Int)>1)=false:=decide_eq_false (by omega)
  generalize nbK pk.size 2++(nbK pv.size 3++(pk++(pv++rest)))=s1 at hN1 hN2 ⊢
  generalize nbK pv.size 3++(pk++(pv++rest))=s2 at hN2 hN3
  generalize pk++(pv++rest)=s3 at hN3 hT1
  generalize pv++rest=s4 at hT1 hT2
  generalize goneK ⟨pk,pv,pg⟩=gn at hN1 hge hgg hg1 ⊢
  generalize nbK gn 1++s1=s0 at hN1 ⊢
  repeat'(first|(refine gY ?_;intros)|(refine hY ?_ ?_<;>intro hgd)|(refine jY ?_ ?_<;>intro _)|fail)
  refine clV_Y (hN1) ?_
  intro _ _
  repeat'(first|(refine gY ?_;intros)|(refine hY ?_ ?_<;>intro hgd)|(refine jY ?_ ?_<;>intro _)|fail)
  refine clV_Y (hN2) ?_
  intro _ _
  repeat'(first|(refine gY ?_;intros)|(refine hY ?_ ?_<;>intro hgd)|(refine jY ?_ ?_<;>intro _)|fail)
  refine clV_Y (hN3) ?_
  intro _ _
  repeat'(first|(refine ro_Y ?_;intros)|fail)
  refine cont_then ?_
  refine ok_meet (γ:=Nat) (fun b11 ρ L=>Knows ρ [(1,.pointer (some ⟨b1,0,none⟩)),(2,.slice px ((l.take i).map prV).length cx),(4,.pointer (some ⟨b4,0,none⟩)),(5,.pointer (some ⟨b5,0,none⟩)),(6,.func (.func 149) #[] #[.pointer (some ⟨b5,0,none⟩)]),(7,.int .i64 ((l.length-i:Nat):Int)),(8,.int .i64 (gn:Int)),(11,.pointer (some ⟨b11,0,none⟩))]∧L=[pts b1 (.cells [.string rest].toArray 9),pts b4 (.cells [.bool false].toArray 4),tkP b1 b4 b5,row 65 3 (.slice px ((l.take i).map prV).length cx) ((l.take i).map prV),pts b11 (.cells [.string pk,.string pv,.bool (decide ((gn:Int)=1))].toArray 65)]++R) ?_ ?_
  ·refine ok_draw_node (cv:=[]) 4 [2,5,9,10] [tkP b1 b4 b5] (by kernel_rfl) rfl (by decide +kernel) (by decide +kernel) (by decide +kernel) (takePre takeD) _ rfl ?_
   refine cont_node [] [(2,[0,1,2],[3,4,5,6,7,8,9,10]),(9,[9],[0,1,2,3,4,5,6,7,8,10])] rfl (by decide +kernel) ?_
   intro x hx
   simp only[List.mem_cons,List.not_mem_nil,or_false]at hx
   rcases hx with rfl|rfl
   ·dsimp only[List.length_cons,List.length_nil]
    repeat'(first|(refine gY ?_;intros)|(refine hY ?_ ?_<;>intro hgd)|(refine jY ?_ ?_<;>intro _)|fail)
    refine clVN_Y (hT1) ?_
    intro _ _
    repeat'(first|(refine gY ?_;intros)|(refine hY ?_ ?_<;>intro hgd)|(refine jY ?_ ?_<;>intro _)|fail)
    refine cont_node [] [(5,[3,4,5],[6,7,8,9,10]),(9,[9],[3,4,5,6,7,8,10])] rfl (by decide +kernel) ?_
    intro x hx
    simp only[List.mem_cons,List.not_mem_nil,or_false]at hx
    rcases hx with rfl|rfl
    ·dsimp only[List.length_cons,List.length_nil]
     repeat'(first|(refine gY ?_;intros)|(refine hY ?_ ?_<;>intro hgd)|(refine jY ?_ ?_<;>intro _)|fail)
     refine clVN_Y (hT2) ?_
     intro _ _
     repeat'(first|(refine gY ?_;intros)|(refine hY ?_ ?_<;>intro hgd)|(refine jY ?_ ?_<;>intro _)|fail)
     refine cont_node [] [(9,[9],[6,7,8,10])] rfl (by decide +kernel) ?_
     intro x hx
     simp only[List.mem_cons,List.not_mem_nil,or_false]at hx
     subst hx
     ·dsimp only[List.length_cons,List.length_nil]
      repeat'(first|(refine gY ?_;intros)|(refine hY ?_ ?_<;>intro hgd)|(refine jY ?_ ?_<;>intro _)|fail)
      rename_i b11
      refine cont_node [] [(10,[6,7,8,10],[])] rfl (by decide +kernel) ?_
      intro x hx
      simp only[List.mem_cons,List.not_mem_nil,or_false]at hx
      subst hx
      ·dsimp only[List.length_cons,List.length_nil]
       repeat'(first|(refine gY ?_;intros)|(refine hY ?_ ?_<;>intro hgd)|(refine jY ?_ ?_<;>intro _)|fail)
       refine cont_node0 (by decide +kernel) ?_
       repeat'(first|(refine gY ?_;intros)|(refine hY ?_ ?_<;>intro hgd)|(refine jY ?_ ?_<;>intro _)|fail)
       refine cont_map (L':=[pts b1 (.cells [.string rest].toArray 9),pts b4 (.cells [.bool false].toArray 4),tkP b1 b4 b5,row 65 3 (.slice px ((l.take i).map prV).length cx) ((l.take i).map prV),pts b11 (.cells [.string pk,.string pv,.bool (decide ((gn:Int)=1))].toArray 65)]++R) entD ?_
       exact cont_meet b11 ⟨⟨rfl,rfl,rfl,rfl,rfl,rfl,rfl,rfl,trivial⟩,rfl⟩
    ·dsimp only[List.length_cons,List.length_nil]
     repeat'(first|(refine gY ?_;intros)|(refine hY ?_ ?_<;>intro hgd)|(refine jY ?_ ?_<;>intro _)|fail)
     rename_i b11
     refine cont_node [] [(5,[3,4,5],[6,7,8,10])] rfl (by decide +kernel) ?_
     intro x hx
     simp only[List.mem_cons,List.not_mem_nil,or_false]at hx
     subst hx
     ·dsimp only[List.length_cons,List.length_nil]
      repeat'(first|(refine gY ?_;intros)|(refine hY ?_ ?_<;>intro hgd)|(refine jY ?_ ?_<;>intro _)|fail)
      refine clVN_Y (hT2) ?_
      intro _ _
      repeat'(first|(refine gY ?_;intros)|(refine hY ?_ ?_<;>intro hgd)|(refine jY ?_ ?_<;>intro _)|fail)
      refine cont_node [] [(10,[6,7,8,10],[])] rfl (by decide +kernel) ?_
      intro x hx
      simp only[List.mem_cons,List.not_mem_nil,or_false]at hx
      subst hx
      ·dsimp only[List.length_cons,List.length_nil]
       repeat'(first|(refine gY ?_;intros)|(refine hY ?_ ?_<;>intro hgd)|(refine jY ?_ ?_<;>intro _)|fail)
       refine cont_node0 (by decide +kernel) ?_
       repeat'(first|(refine gY ?_;intros)|(refine hY ?_ ?_<;>intro hgd)|(refine jY ?_ ?_<;>intro _)|fail)
       refine cont_map (L':=[pts b1 (.cells [.string rest].toArray 9),pts b4 (.cells [.bool false].toArray 4),tkP b1 b4 b5,row 65 3 (.slice px ((l.take i).map prV).length cx) ((l.take i).map prV),pts b11 (.cells [.string pk,.string pv,.bool (decide ((gn:Int)=1))].toArray 65)]++R) entD ?_
       exact cont_meet b11 ⟨⟨rfl,rfl,rfl,rfl,rfl,rfl,rfl,rfl,trivial⟩,rfl⟩
   ·dsimp only[List.length_cons,List.length_nil]
    repeat'(first|(refine gY ?_;intros)|(refine hY ?_ ?_<;>intro hgd)|(refine jY ?_ ?_<;>intro _)|fail)
    rename_i b11
    refine cont_node [] [(2,[0,1,2],[3,4,5,6,7,8,10])] rfl (by decide +kernel) ?_
    intro x hx
    simp only[List.mem_cons,List.not_mem_nil,or_false]at hx
    subst hx
    ·dsimp only[List.length_cons,List.length_nil]
     repeat'(first|(refine gY ?_;intros)|(refine hY ?_ ?_<;>intro hgd)|(refine jY ?_ ?_<;>intro _)|fail)
     refine clVN_Y (hT1) ?_
     intro _ _
     repeat'(first|(refine gY ?_;intros)|(refine hY ?_ ?_<;>intro hgd)|(refine jY ?_ ?_<;>intro _)|fail)
     refine cont_node [] [(5,[3,4,5],[6,7,8,10])] rfl (by decide +kernel) ?_
     intro x hx
     simp only[List.mem_cons,List.not_mem_nil,or_false]at hx
     subst hx
     ·dsimp only[List.length_cons,List.length_nil]
      repeat'(first|(refine gY ?_;intros)|(refine hY ?_ ?_<;>intro hgd)|(refine jY ?_ ?_<;>intro _)|fail)
      refine clVN_Y (hT2) ?_
      intro _ _
      repeat'(first|(refine gY ?_;intros)|(refine hY ?_ ?_<;>intro hgd)|(refine jY ?_ ?_<;>intro _)|fail)
      refine cont_node [] [(10,[6,7,8,10],[])] rfl (by decide +kernel) ?_
      intro x hx
      simp only[List.mem_cons,List.not_mem_nil,or_false]at hx
      subst hx
      ·dsimp only[List.length_cons,List.length_nil]
       repeat'(first|(refine gY ?_;intros)|(refine hY ?_ ?_<;>intro hgd)|(refine jY ?_ ?_<;>intro _)|fail)
       refine cont_node0 (by decide +kernel) ?_
       repeat'(first|(refine gY ?_;intros)|(refine hY ?_ ?_<;>intro hgd)|(refine jY ?_ ?_<;>intro _)|fail)
       refine cont_map (L':=[pts b1 (.cells [.string rest].toArray 9),pts b4 (.cells [.bool false].toArray 4),tkP b1 b4 b5,row 65 3 (.slice px ((l.take i).map prV).length cx) ((l.take i).map prV),pts b11 (.cells [.string pk,.string pv,.bool (decide ((gn:Int)=1))].toArray 65)]++R) entD ?_
       exact cont_meet b11 ⟨⟨rfl,rfl,rfl,rfl,rfl,rfl,rfl,rfl,trivial⟩,rfl⟩
  rintro b11 ρ L ⟨hk,rfl⟩
  refine ok_regs hk ?_
  rw[hge]
  repeat'(first|(refine gY ?_;intros)|(refine hY ?_ ?_<;>intro hgd)|(refine jY ?_ ?_<;>intro _)|fail)
  refine cl_Y (hck) ?_
  intro _ _
  repeat'(first|(refine gY ?_;intros)|(refine hY ?_ ?_<;>intro hgd)|(refine jY ?_ ?_<;>intro _)|fail)
  rename_i v1 hv1 v2 hv2
  rw[hcn]
  refine cont_map (L':=[pts b1 (.cells [.string rest].toArray 9),pts b4 (.cells [.bool false].toArray 4),tkP b1 b4 b5,row 65 3 v2 ((l.take (i+1)).map prV)]++R) (by rw[htk];exact entD) ?_
  exact cont_back (i+1,⟨v2,hv2⟩) ⟨h0,⟨rfl,rfl,rfl,rfl,rfl,rfl,trivial⟩,by dsimp only;rw[hrs]⟩ (by dsimp only;omega)
end Go.Proofs.YtgbmjoenbocfcaaGreat
