/- Texts merged: SdA SdB. -/
import Derived.Test.YtmnafjonbeihiaaGreatDoorSlv
import Derived.Test.YtmnafjonbeihiaaGreatDoorH35
import Derived.Test.YtmnafjonbeihiaaGreatDoorY
import Derived.Test.YtmnafjonbeihiaaGreatDoorFwY
set_option linter.unusedSimpArgs false
set_option linter.unusedVariables false
set_option maxRecDepth 100000
namespace Go.Proofs.YtmnafjonbeihiaaGreatDoor
open Go Go.Fx Go.Proofs Go.Pl Go.RowKit
def UT(A:HProp):Prop:=∀ w:World,(∃ h:Frag,h.le (fun b=>w.heap[b]?)∧A h)→Lib.Utf8Tabs (Tryz.laysValid_ren.g 3) (Tryz.laysValid_ren.g 4) w
theorem sats_below{w0 w w':World}{L:List HProp}(hs:Sats ⟨w0,false⟩ w L)(hB:Below w.heap.size w w'):Sats ⟨w0,false⟩ w' L:=by
 refine⟨hB.os.trans hs.os,hB.tape.trans hs.tape,hB.output.trans hs.output,⟨Nat.le_trans hs.size.1 hB.size,fun h=>by cases h⟩,hs.heap.mono ?_⟩
 intro b o hb
 have hlt:=(Array.getElem?_eq_some_iff.1 hb).1
 show w'.heap[b]? =some o
 rw[hB.block b hlt];exact hb
theorem valid_spec(s:BA)(A:HProp)(hA:UT A)(hs:s.size≤9223372036854775807):FSpec Tryz.prog 241 [.string s] [A] Unit (fun _=>True) (fun _=>.bool (validS s)) (fun _=>[A]):=by
 intro w0 w R hsat
 have hT:=hA w (Sats.head hsat)
 refine(Any.utf8_ValidString Tryz.laysValid s w hs hT).mono ?_
 rintro e w' ⟨rfl,hB⟩
 exact⟨(),trivial,rfl,sats_below hsat hB⟩
instance:FromBits Tryz.prog 263:=⟨fun n w=>by
 have h:=run_callFunc_extern (P:=Tryz.prog) (f:=263) (fn:=Tryz.f263) (e:=Extern.MathFloatBits.float64frombits) (by kernel_rfl) (by kernel_rfl) (by kernel_rfl) (by kernel_rfl) (by kernel_rfl) #[.int .u64 n] w
 rw[h];rfl⟩
theorem canon_spec(n:Int):FSpec Tryz.prog 240 [.int .u64 n] [] Unit (fun _=>True) (fun _=>.int .u64 (canonR n)) (fun _=>[]):=by
 unfold canonR nanB
 cases hf:Op.floatEq .f64 n.toNat n.toNat with
 |true=>
  have hg:(!Op.floatEq .f64 n.toNat n.toNat)=false:=by rw[hf];rfl
  rw[if_neg (by simp)]
  refine spec_intro [] _ Tryz.func240 rfl Tryz.ntmps240 (by rfl) (fun w0 R=>?_)
  repeat'(first|(refine gY ?_;intros)|(refine hY ?_ ?_<;>intro hgd)|(refine jY ?_ ?_<;>intro _)|fail)
  (refine rt_Y (y:=()) (hrs:=Tryz.results240) (hv:=?_) (hφ:=?_))
  ·rfl
  ·trivial
 |false=>
  have hg:(!Op.floatEq .f64 n.toNat n.toNat)=true:=by rw[hf];rfl
  rw[if_pos (by simp)]
  refine spec_intro [] _ Tryz.func240 rfl Tryz.ntmps240 (by rfl) (fun w0 R=>?_)
  repeat'(first|(refine gY ?_;intros)|(refine hY ?_ ?_<;>intro hgd)|(refine jY ?_ ?_<;>intro _)|fail)
  (refine rt_Y (y:=()) (hrs:=Tryz.results240) (hv:=?_) (hφ:=?_))
  ·rfl
  ·trivial
theorem eqS_decide(a b:BA):(a.toList==b.toList)=decide (a=b):=by
 rw[Bool.eq_iff_iff];simp only[decide_eq_true_eq];exact eqS_iff
theorem eqL_valV(a b:Vl):eqL [TypeDesc.int .u8,TypeDesc.int .i64,TypeDesc.int .u64,TypeDesc.string] (valV a) (valV b)=decide (a=b):=by
 obtain⟨k,i,r,s⟩:=a
 obtain⟨k',i',r',s'⟩:=b
 simp only[valV,eqL,eqD,eqS_decide,Bool.and_true]
 rw[Bool.eq_iff_iff]
 simp only[Bool.and_eq_true,beq_iff_eq,decide_eq_true_eq,Vl.ext_iff']
instance valEq:SEq Tryz.prog 93 [.int .u8,.int .i64,.int .u64,.string]:=⟨by kernel_rfl⟩
set_option maxHeartbeats 2000000 in
theorem vCheck_spec(v:Vl)(A:HProp)(hA:UT A)(hw:v.wf):FSpec Tryz.prog 201 [.agg (valV v).toArray] [A] Unit (fun _=>True) (fun _=>.int .i64 (if checkV v then 0 else 2)) (fun _=>[A]):=by
 obtain⟨k,i,r,s⟩:=v
 unfold checkV wantV
 dsimp only[valV]
 cases o0:decide (k=0)with
 |true=>
  rw[if_pos (of_decide_eq_true o0)]
  dsimp only
  have e0:k=0:=of_decide_eq_true o0
  subst e0
  have he:=eqL_valV ⟨0,i,r,s⟩ ⟨0,0,0,⟨#[]⟩⟩
  dsimp only[valV]at he
  cases hq:nilB BinOp.neq (eqL [TypeDesc.int .u8,TypeDesc.int .i64,TypeDesc.int .u64,TypeDesc.string] [Value.int .u8 0,Value.int .i64 i,Value.int .u64 r,Value.string s] [Value.int .u8 0,Value.int .i64 0,Value.int .u64 0,Value.string ⟨#[]⟩])with
  |true=>
   refine spec_intro [] _ Tryz.func201 rfl Tryz.ntmps201 (by rfl) (fun w0 R=>?_)
   repeat'(first|(refine gY ?_;intros)|(refine hY ?_ ?_<;>intro hgd)|(refine jY ?_ ?_<;>intro _)|fail)
   (refine rt_Y (y:=()) (hrs:=Tryz.results201) (hv:=?_) (hφ:=?_))
   ·have hd:decide ((⟨0,i,r,s⟩:Vl)=⟨0,0,0,⟨#[]⟩⟩)=false:=by rw[he]at hq;simpa only[nilB,Bool.not_eq_true',Bool.not_eq_false']using hq
    show Value.int .i64 2=Value.int .i64 (if(decide ((⟨0,i,r,s⟩:Vl)=⟨0,0,0,⟨#[]⟩⟩)&&decide (s.size≤100))=true then 0 else 2)
    rw[hd];rfl
   ·trivial
  |false=>
   cases hz:decide ((100:Int)<(s.size:Int))with
   |true=>
    refine spec_intro [] _ Tryz.func201 rfl Tryz.ntmps201 (by rfl) (fun w0 R=>?_)
    repeat'(first|(refine gY ?_;intros)|(refine hY ?_ ?_<;>intro hgd)|(refine jY ?_ ?_<;>intro _)|fail)
    (refine rt_Y (y:=()) (hrs:=Tryz.results201) (hv:=?_) (hφ:=?_))
    ·have hd:decide ((⟨0,i,r,s⟩:Vl)=⟨0,0,0,⟨#[]⟩⟩)=true:=by rw[he]at hq;simpa only[nilB,Bool.not_eq_true',Bool.not_eq_false']using hq
     show Value.int .i64 2=Value.int .i64 (if(decide ((⟨0,i,r,s⟩:Vl)=⟨0,0,0,⟨#[]⟩⟩)&&decide (s.size≤100))=true then 0 else 2)
     have hz':decide (s.size≤100)=false:=by simp at hz ⊢;omega
     rw[hd,hz'];rfl
    ·trivial
   |false=>
    refine spec_intro [] _ Tryz.func201 rfl Tryz.ntmps201 (by rfl) (fun w0 R=>?_)
    repeat'(first|(refine gY ?_;intros)|(refine hY ?_ ?_<;>intro hgd)|(refine jY ?_ ?_<;>intro _)|fail)
    (refine rt_Y (y:=()) (hrs:=Tryz.results201) (hv:=?_) (hφ:=?_))
    ·have hd:decide ((⟨0,i,r,s⟩:Vl)=⟨0,0,0,⟨#[]⟩⟩)=true:=by rw[he]at hq;simpa only[nilB,Bool.not_eq_true',Bool.not_eq_false']using hq
     show Value.int .i64 0=Value.int .i64 (if(decide ((⟨0,i,r,s⟩:Vl)=⟨0,0,0,⟨#[]⟩⟩)&&decide (s.size≤100))=true then 0 else 2)
     have hz':decide (s.size≤100)=true:=by simp at hz ⊢;omega
     rw[hd,hz'];rfl
    ·trivial
 |false=>
 rw[if_neg (of_decide_eq_false o0)]
 cases o1:decide (k=1)with
 |true=>
  rw[if_pos (of_decide_eq_true o1)]
  have e1:k=1:=of_decide_eq_true o1
  subst e1
  cases u1:decide ((1:Int)<IntKind.u64.wrap i)with
  |true=>
   rw[if_pos (of_decide_eq_true u1)]
   refine spec_intro [] _ Tryz.func201 rfl Tryz.ntmps201 (by rfl) (fun w0 R=>?_)
   repeat'(first|(refine gY ?_;intros)|(refine hY ?_ ?_<;>intro hgd)|(refine jY ?_ ?_<;>intro _)|fail)
   (refine rt_Y (y:=()) (hrs:=Tryz.results201) (hv:=?_) (hφ:=?_))
   ·rfl
   ·trivial
  |false=>
   rw[if_neg (of_decide_eq_false u1)]
   dsimp only
   have he:=eqL_valV ⟨1,i,r,s⟩ ⟨1,i,0,⟨#[]⟩⟩
   dsimp only[valV]at he
   cases hq:nilB BinOp.neq (eqL [TypeDesc.int .u8,TypeDesc.int .i64,TypeDesc.int .u64,TypeDesc.string] [Value.int .u8 1,Value.int .i64 i,Value.int .u64 r,Value.string s] [Value.int .u8 1,Value.int .i64 i,Value.int .u64 0,Value.string ⟨#[]⟩])with
   |true=>
    refine spec_intro [] _ Tryz.func201 rfl Tryz.ntmps201 (by rfl) (fun w0 R=>?_)
    repeat'(first|(refine gY ?_;intros)|(refine hY ?_ ?_<;>intro hgd)|(refine jY ?_ ?_<;>intro _)|fail)
    (refine rt_Y (y:=()) (hrs:=Tryz.results201) (hv:=?_) (hφ:=?_))
    ·have hd:decide ((⟨1,i,r,s⟩:Vl)=⟨1,i,0,⟨#[]⟩⟩)=false:=by rw[he]at hq;simpa only[nilB,Bool.not_eq_true',Bool.not_eq_false']using hq
     show Value.int .i64 2=Value.int .i64 (if(decide ((⟨1,i,r,s⟩:Vl)=⟨1,i,0,⟨#[]⟩⟩)&&decide (s.size≤100))=true then 0 else 2)
     rw[hd];rfl
    ·trivial
   |false=>
    cases hz:decide ((100:Int)<(s.size:Int))with
    |true=>
     refine spec_intro [] _ Tryz.func201 rfl Tryz.ntmps201 (by rfl) (fun w0 R=>?_)
     repeat'(first|(refine gY ?_;intros)|(refine hY ?_ ?_<;>intro hgd)|(refine jY ?_ ?_<;>intro _)|fail)
     (refine rt_Y (y:=()) (hrs:=Tryz.results201) (hv:=?_) (hφ:=?_))
     ·have hd:decide ((⟨1,i,r,s⟩:Vl)=⟨1,i,0,⟨#[]⟩⟩)=true:=by rw[he]at hq;simpa only[nilB,Bool.not_eq_true',Bool.not_eq_false']using hq
      show Value.int .i64 2=Value.int .i64 (if(decide ((⟨1,i,r,s⟩:Vl)=⟨1,i,0,⟨#[]⟩⟩)&&decide (s.size≤100))=true then 0 else 2)
      have hz':decide (s.size≤100)=false:=by simp at hz ⊢;omega
      rw[hd,hz'];rfl
     ·trivial
    |false=>
     refine spec_intro [] _ Tryz.func201 rfl Tryz.ntmps201 (by rfl) (fun w0 R=>?_)
     repeat'(first|(refine gY ?_;intros)|(refine hY ?_ ?_<;>intro hgd)|(refine jY ?_ ?_<;>intro _)|fail)
     (refine rt_Y (y:=()) (hrs:=Tryz.results201) (hv:=?_) (hφ:=?_))
     ·have hd:decide ((⟨1,i,r,s⟩:Vl)=⟨1,i,0,⟨#[]⟩⟩)=true:=by rw[he]at hq;simpa only[nilB,Bool.not_eq_true',Bool.not_eq_false']using hq
      show Value.int .i64 0=Value.int .i64 (if(decide ((⟨1,i,r,s⟩:Vl)=⟨1,i,0,⟨#[]⟩⟩)&&decide (s.size≤100))=true then 0 else 2)
      have hz':decide (s.size≤100)=true:=by simp at hz ⊢;omega
      rw[hd,hz'];rfl
     ·trivial
 |false=>
 rw[if_neg (of_decide_eq_false o1)]
 cases o2:decide (k=2)with
 |true=>
  rw[if_pos (of_decide_eq_true o2)]
  dsimp only
  have e2:k=2:=of_decide_eq_true o2
  subst e2
  have he:=eqL_valV ⟨2,i,r,s⟩ ⟨2,i,0,⟨#[]⟩⟩
  dsimp only[valV]at he
  cases hq:nilB BinOp.neq (eqL [TypeDesc.int .u8,TypeDesc.int .i64,TypeDesc.int .u64,TypeDesc.string] [Value.int .u8 2,Value.int .i64 i,Value.int .u64 r,Value.string s] [Value.int .u8 2,Value.int .i64 i,Value.int .u64 0,Value.string ⟨#[]⟩])with
  |true=>
   refine spec_intro [] _ Tryz.func201 rfl Tryz.ntmps201 (by rfl) (fun w0 R=>?_)
   repeat'(first|(refine gY ?_;intros)|(refine hY ?_ ?_<;>intro hgd)|(refine jY ?_ ?_<;>intro _)|fail)
   (refine rt_Y (y:=()) (hrs:=Tryz.results201) (hv:=?_) (hφ:=?_))
   ·have hd:decide ((⟨2,i,r,s⟩:Vl)=⟨2,i,0,⟨#[]⟩⟩)=false:=by rw[he]at hq;simpa only[nilB,Bool.not_eq_true',Bool.not_eq_false']using hq
    show Value.int .i64 2=Value.int .i64 (if(decide ((⟨2,i,r,s⟩:Vl)=⟨2,i,0,⟨#[]⟩⟩)&&decide (s.size≤100))=true then 0 else 2)
    rw[hd];rfl
   ·trivial
  |false=>
   cases hz:decide ((100:Int)<(s.size:Int))with
   |true=>
    refine spec_intro [] _ Tryz.func201 rfl Tryz.ntmps201 (by rfl) (fun w0 R=>?_)
    repeat'(first|(refine gY ?_;intros)|(refine hY ?_ ?_<;>intro hgd)|(refine jY ?_ ?_<;>intro _)|fail)
    (refine rt_Y (y:=()) (hrs:=Tryz.results201) (hv:=?_) (hφ:=?_))
    ·have hd:decide ((⟨2,i,r,s⟩:Vl)=⟨2,i,0,⟨#[]⟩⟩)=true:=by rw[he]at hq;simpa only[nilB,Bool.not_eq_true',Bool.not_eq_false']using hq
     show Value.int .i64 2=Value.int .i64 (if(decide ((⟨2,i,r,s⟩:Vl)=⟨2,i,0,⟨#[]⟩⟩)&&decide (s.size≤100))=true then 0 else 2)
     have hz':decide (s.size≤100)=false:=by simp at hz ⊢;omega
     rw[hd,hz'];rfl
    ·trivial
   |false=>
    refine spec_intro [] _ Tryz.func201 rfl Tryz.ntmps201 (by rfl) (fun w0 R=>?_)
    repeat'(first|(refine gY ?_;intros)|(refine hY ?_ ?_<;>intro hgd)|(refine jY ?_ ?_<;>intro _)|fail)
    (refine rt_Y (y:=()) (hrs:=Tryz.results201) (hv:=?_) (hφ:=?_))
    ·have hd:decide ((⟨2,i,r,s⟩:Vl)=⟨2,i,0,⟨#[]⟩⟩)=true:=by rw[he]at hq;simpa only[nilB,Bool.not_eq_true',Bool.not_eq_false']using hq
     show Value.int .i64 0=Value.int .i64 (if(decide ((⟨2,i,r,s⟩:Vl)=⟨2,i,0,⟨#[]⟩⟩)&&decide (s.size≤100))=true then 0 else 2)
     have hz':decide (s.size≤100)=true:=by simp at hz ⊢;omega
     rw[hd,hz'];rfl
    ·trivial
 |false=>
 rw[if_neg (of_decide_eq_false o2)]
 cases o3:decide (k=3)with
 |true=>
  rw[if_pos (of_decide_eq_true o3)]
  dsimp only
  have e3:k=3:=of_decide_eq_true o3
  subst e3
  have hc:=canon_spec r
  generalize canonR r=rc at hc
  have he:=eqL_valV ⟨3,i,r,s⟩ ⟨3,0,rc,⟨#[]⟩⟩
  dsimp only[valV]at he
  cases hq:nilB BinOp.neq (eqL [TypeDesc.int .u8,TypeDesc.int .i64,TypeDesc.int .u64,TypeDesc.string] [Value.int .u8 3,Value.int .i64 i,Value.int .u64 r,Value.string s] [Value.int .u8 3,Value.int .i64 0,Value.int .u64 rc,Value.string ⟨#[]⟩])with
  |true=>
   refine spec_intro [] _ Tryz.func201 rfl Tryz.ntmps201 (by rfl) (fun w0 R=>?_)
   repeat'(first|(refine gY ?_;intros)|(refine hY ?_ ?_<;>intro hgd)|(refine jY ?_ ?_<;>intro _)|fail)
   refine cl_Y (hc) ?_
   intro _ _
   repeat'(first|(refine gY ?_;intros)|(refine hY ?_ ?_<;>intro hgd)|(refine jY ?_ ?_<;>intro _)|fail)
   (refine rt_Y (y:=()) (hrs:=Tryz.results201) (hv:=?_) (hφ:=?_))
   ·have hd:decide ((⟨3,i,r,s⟩:Vl)=⟨3,0,rc,⟨#[]⟩⟩)=false:=by rw[he]at hq;simpa only[nilB,Bool.not_eq_true',Bool.not_eq_false']using hq
    show Value.int .i64 2=Value.int .i64 (if(decide ((⟨3,i,r,s⟩:Vl)=⟨3,0,rc,⟨#[]⟩⟩)&&decide (s.size≤100))=true then 0 else 2)
    rw[hd];rfl
   ·trivial
  |false=>
   cases hz:decide ((100:Int)<(s.size:Int))with
   |true=>
    refine spec_intro [] _ Tryz.func201 rfl Tryz.ntmps201 (by rfl) (fun w0 R=>?_)
    repeat'(first|(refine gY ?_;intros)|(refine hY ?_ ?_<;>intro hgd)|(refine jY ?_ ?_<;>intro _)|fail)
    refine cl_Y (hc) ?_
    intro _ _
    repeat'(first|(refine gY ?_;intros)|(refine hY ?_ ?_<;>intro hgd)|(refine jY ?_ ?_<;>intro _)|fail)
    (refine rt_Y (y:=()) (hrs:=Tryz.results201) (hv:=?_) (hφ:=?_))
    ·have hd:decide ((⟨3,i,r,s⟩:Vl)=⟨3,0,rc,⟨#[]⟩⟩)=true:=by rw[he]at hq;simpa only[nilB,Bool.not_eq_true',Bool.not_eq_false']using hq
     show Value.int .i64 2=Value.int .i64 (if(decide ((⟨3,i,r,s⟩:Vl)=⟨3,0,rc,⟨#[]⟩⟩)&&decide (s.size≤100))=true then 0 else 2)
     have hz':decide (s.size≤100)=false:=by simp at hz ⊢;omega
     rw[hd,hz'];rfl
    ·trivial
   |false=>
    refine spec_intro [] _ Tryz.func201 rfl Tryz.ntmps201 (by rfl) (fun w0 R=>?_)
    repeat'(first|(refine gY ?_;intros)|(refine hY ?_ ?_<;>intro hgd)|(refine jY ?_ ?_<;>intro _)|fail)
    refine cl_Y (hc) ?_
    intro _ _
    repeat'(first|(refine gY ?_;intros)|(refine hY ?_ ?_<;>intro hgd)|(refine jY ?_ ?_<;>intro _)|fail)
    (refine rt_Y (y:=()) (hrs:=Tryz.results201) (hv:=?_) (hφ:=?_))
    ·have hd:decide ((⟨3,i,r,s⟩:Vl)=⟨3,0,rc,⟨#[]⟩⟩)=true:=by rw[he]at hq;simpa only[nilB,Bool.not_eq_true',Bool.not_eq_false']using hq
     show Value.int .i64 0=Value.int .i64 (if(decide ((⟨3,i,r,s⟩:Vl)=⟨3,0,rc,⟨#[]⟩⟩)&&decide (s.size≤100))=true then 0 else 2)
     have hz':decide (s.size≤100)=true:=by simp at hz ⊢;omega
     rw[hd,hz'];rfl
    ·trivial
 |false=>
 rw[if_neg (of_decide_eq_false o3)]
 cases o5:decide (k=5)with
 |true=>
  rw[if_pos (of_decide_eq_true o5)]
  have e5:k=5:=of_decide_eq_true o5
  subst e5
  have hv:=valid_spec s A hA (by have:=hw.t;dsimp only at this;omega)
  cases u5:validS s with
  |false=>
   rw[u5]at hv
   rw[if_neg (by simp)]
   refine spec_intro [] _ Tryz.func201 rfl Tryz.ntmps201 (by rfl) (fun w0 R=>?_)
   repeat'(first|(refine gY ?_;intros)|(refine hY ?_ ?_<;>intro hgd)|(refine jY ?_ ?_<;>intro _)|fail)
   refine cl_Y (hv) ?_
   intro _ _
   repeat'(first|(refine gY ?_;intros)|(refine hY ?_ ?_<;>intro hgd)|(refine jY ?_ ?_<;>intro _)|fail)
   (refine rt_Y (y:=()) (hrs:=Tryz.results201) (hv:=?_) (hφ:=?_))
   ·rfl
   ·trivial
  |true=>
   rw[u5]at hv
   rw[if_pos rfl]
   dsimp only
   have he:=eqL_valV ⟨5,i,r,s⟩ ⟨5,0,0,s⟩
   dsimp only[valV]at he
   cases hq:nilB BinOp.neq (eqL [TypeDesc.int .u8,TypeDesc.int .i64,TypeDesc.int .u64,TypeDesc.string] [Value.int .u8 5,Value.int .i64 i,Value.int .u64 r,Value.string s] [Value.int .u8 5,Value.int .i64 0,Value.int .u64 0,Value.string s])with
   |true=>
    refine spec_intro [] _ Tryz.func201 rfl Tryz.ntmps201 (by rfl) (fun w0 R=>?_)
    repeat'(first|(refine gY ?_;intros)|(refine hY ?_ ?_<;>intro hgd)|(refine jY ?_ ?_<;>intro _)|fail)
    refine cl_Y (hv) ?_
    intro _ _
    repeat'(first|(refine gY ?_;intros)|(refine hY ?_ ?_<;>intro hgd)|(refine jY ?_ ?_<;>intro _)|fail)
    (refine rt_Y (y:=()) (hrs:=Tryz.results201) (hv:=?_) (hφ:=?_))
    ·have hd:decide ((⟨5,i,r,s⟩:Vl)=⟨5,0,0,s⟩)=false:=by rw[he]at hq;simpa only[nilB,Bool.not_eq_true',Bool.not_eq_false']using hq
     show Value.int .i64 2=Value.int .i64 (if(decide ((⟨5,i,r,s⟩:Vl)=⟨5,0,0,s⟩)&&decide (s.size≤100))=true then 0 else 2)
     rw[hd];rfl
    ·trivial
   |false=>
    cases hz:decide ((100:Int)<(s.size:Int))with
    |true=>
     refine spec_intro [] _ Tryz.func201 rfl Tryz.ntmps201 (by rfl) (fun w0 R=>?_)
     repeat'(first|(refine gY ?_;intros)|(refine hY ?_ ?_<;>intro hgd)|(refine jY ?_ ?_<;>intro _)|fail)
     refine cl_Y (hv) ?_
     intro _ _
     repeat'(first|(refine gY ?_;intros)|(refine hY ?_ ?_<;>intro hgd)|(refine jY ?_ ?_<;>intro _)|fail)
     (refine rt_Y (y:=()) (hrs:=Tryz.results201) (hv:=?_) (hφ:=?_))
     ·have hd:decide ((⟨5,i,r,s⟩:Vl)=⟨5,0,0,s⟩)=true:=by rw[he]at hq;simpa only[nilB,Bool.not_eq_true',Bool.not_eq_false']using hq
      show Value.int .i64 2=Value.int .i64 (if(decide ((⟨5,i,r,s⟩:Vl)=⟨5,0,0,s⟩)&&decide (s.size≤100))=true then 0 else 2)
      have hz':decide (s.size≤100)=false:=by simp at hz ⊢;omega
      rw[hd,hz'];rfl
     ·trivial
    |false=>
     refine spec_intro [] _ Tryz.func201 rfl Tryz.ntmps201 (by rfl) (fun w0 R=>?_)
     repeat'(first|(refine gY ?_;intros)|(refine hY ?_ ?_<;>intro hgd)|(refine jY ?_ ?_<;>intro _)|fail)
     refine cl_Y (hv) ?_
     intro _ _
     repeat'(first|(refine gY ?_;intros)|(refine hY ?_ ?_<;>intro hgd)|(refine jY ?_ ?_<;>intro _)|fail)
     (refine rt_Y (y:=()) (hrs:=Tryz.results201) (hv:=?_) (hφ:=?_))
     ·have hd:decide ((⟨5,i,r,s⟩:Vl)=⟨5,0,0,s⟩)=true:=by rw[he]at hq;simpa only[nilB,Bool.not_eq_true',Bool.not_eq_false']using hq
      show Value.int .i64 0=Value.int .i64 (if(decide ((⟨5,i,r,s⟩:Vl)=⟨5,0,0,s⟩)&&decide (s.size≤100))=true then 0 else 2)
      have hz':decide (s.size≤100)=true:=by simp at hz ⊢;omega
      rw[hd,hz'];rfl
     ·trivial
 |false=>
 rw[if_neg (of_decide_eq_false o5)]
 cases o4:decide (k=4)with
 |true=>
  rw[if_pos (of_decide_eq_true o4)]
  dsimp only
  have e4:k=4:=of_decide_eq_true o4
  subst e4
  have he:=eqL_valV ⟨4,i,r,s⟩ ⟨4,0,0,s⟩
  dsimp only[valV]at he
  cases hq:nilB BinOp.neq (eqL [TypeDesc.int .u8,TypeDesc.int .i64,TypeDesc.int .u64,TypeDesc.string] [Value.int .u8 4,Value.int .i64 i,Value.int .u64 r,Value.string s] [Value.int .u8 4,Value.int .i64 0,Value.int .u64 0,Value.string s])with
  |true=>
   refine spec_intro [] _ Tryz.func201 rfl Tryz.ntmps201 (by rfl) (fun w0 R=>?_)
   repeat'(first|(refine gY ?_;intros)|(refine hY ?_ ?_<;>intro hgd)|(refine jY ?_ ?_<;>intro _)|fail)
   (refine rt_Y (y:=()) (hrs:=Tryz.results201) (hv:=?_) (hφ:=?_))
   ·have hd:decide ((⟨4,i,r,s⟩:Vl)=⟨4,0,0,s⟩)=false:=by rw[he]at hq;simpa only[nilB,Bool.not_eq_true',Bool.not_eq_false']using hq
    show Value.int .i64 2=Value.int .i64 (if(decide ((⟨4,i,r,s⟩:Vl)=⟨4,0,0,s⟩)&&decide (s.size≤100))=true then 0 else 2)
    rw[hd];rfl
   ·trivial
  |false=>
   cases hz:decide ((100:Int)<(s.size:Int))with
   |true=>
    refine spec_intro [] _ Tryz.func201 rfl Tryz.ntmps201 (by rfl) (fun w0 R=>?_)
    repeat'(first|(refine gY ?_;intros)|(refine hY ?_ ?_<;>intro hgd)|(refine jY ?_ ?_<;>intro _)|fail)
    (refine rt_Y (y:=()) (hrs:=Tryz.results201) (hv:=?_) (hφ:=?_))
    ·have hd:decide ((⟨4,i,r,s⟩:Vl)=⟨4,0,0,s⟩)=true:=by rw[he]at hq;simpa only[nilB,Bool.not_eq_true',Bool.not_eq_false']using hq
     show Value.int .i64 2=Value.int .i64 (if(decide ((⟨4,i,r,s⟩:Vl)=⟨4,0,0,s⟩)&&decide (s.size≤100))=true then 0 else 2)
     have hz':decide (s.size≤100)=false:=by simp at hz ⊢;omega
     rw[hd,hz'];rfl
    ·trivial
   |false=>
    refine spec_intro [] _ Tryz.func201 rfl Tryz.ntmps201 (by rfl) (fun w0 R=>?_)
    repeat'(first|(refine gY ?_;intros)|(refine hY ?_ ?_<;>intro hgd)|(refine jY ?_ ?_<;>intro _)|fail)
    (refine rt_Y (y:=()) (hrs:=Tryz.results201) (hv:=?_) (hφ:=?_))
    ·have hd:decide ((⟨4,i,r,s⟩:Vl)=⟨4,0,0,s⟩)=true:=by rw[he]at hq;simpa only[nilB,Bool.not_eq_true',Bool.not_eq_false']using hq
     show Value.int .i64 0=Value.int .i64 (if(decide ((⟨4,i,r,s⟩:Vl)=⟨4,0,0,s⟩)&&decide (s.size≤100))=true then 0 else 2)
     have hz':decide (s.size≤100)=true:=by simp at hz ⊢;omega
     rw[hd,hz'];rfl
    ·trivial
 |false=>
 rw[if_neg (of_decide_eq_false o4)]
 refine spec_intro [] _ Tryz.func201 rfl Tryz.ntmps201 (by rfl) (fun w0 R=>?_)
 repeat'(first|(refine gY ?_;intros)|(refine hY ?_ ?_<;>intro hgd)|(refine jY ?_ ?_<;>intro _)|fail)
 (refine rt_Y (y:=()) (hrs:=Tryz.results201) (hv:=?_) (hφ:=?_))
 ·rfl
 ·trivial
end Go.Proofs.YtmnafjonbeihiaaGreatDoor
namespace Go.Proofs.YtmnafjonbeihiaaGreatDoor
open Go Go.Fx Go.Proofs Go.Pl
theorem null_spec:FSpec Tryz.prog 202 [] [] Unit (fun _=>True) (fun _=>.agg (valV nul).toArray) (fun _=>[]):=by
 refine spec_intro [] _ Tryz.func202 rfl Tryz.ntmps202 (by rfl) (fun w0 R=>?_)
 repeat'(first|(refine gY ?_;intros)|(refine hY ?_ ?_<;>intro hgd)|(refine jY ?_ ?_<;>intro _)|fail)
 (refine rt_Y (y:=()) (hrs:=Tryz.results202) (hv:=?_) (hφ:=?_))
 ·rfl
 ·trivial
set_option maxHeartbeats 2000000 in
theorem sdFits_spec(c:Co)(v:Vl)(A:HProp)(hA:UT A)(hw:v.wf):FSpec Tryz.prog 164 [.agg (coV c).toArray,.agg (valV v).toArray] [A] Unit (fun _=>True) (fun _=>.bool (fitsC c v)) (fun _=>[A]):=by
 have hv:=vCheck_spec v A hA hw
 have hn:=null_spec
 have he:=eqL_valV v nul
 unfold fitsC
 obtain⟨cn,ck,cb⟩:=c
 obtain⟨k,i,r,s⟩:=v
 dsimp only[coV,valV,nul]at hv hn he ⊢
 cases hc:checkV ⟨k,i,r,s⟩with
 |false=>
  rw[hc,if_neg (by decide)]at hv
  rw[Bool.false_and]
  refine spec_intro [] _ Tryz.func164 rfl Tryz.ntmps164 (by rfl) (fun w0 R=>?_)
  repeat'(first|(refine gY ?_;intros)|(refine hY ?_ ?_<;>intro hgd)|(refine jY ?_ ?_<;>intro _)|fail)
  (apply ok_draw [14];(focus(kernel_rfl));(focus((conv=>lhs;whnf);first|done|rfl));(focus(decide +kernel));(focus(exact(fun _ h=>h))))
  repeat'(first|(refine gY ?_;intros)|(refine hY ?_ ?_<;>intro hgd)|(refine jY ?_ ?_<;>intro _)|fail)
  refine cl_Y (hv) ?_
  intro _ _
  repeat'(first|(refine gY ?_;intros)|(refine hY ?_ ?_<;>intro hgd)|(refine jY ?_ ?_<;>intro _)|fail)
  (refine rt_Y (y:=()) (hrs:=Tryz.results164) (hv:=?_) (hφ:=?_))
  ·rfl
  ·trivial
 |true=>
  rw[hc,if_pos rfl]at hv
  rw[Bool.true_and]
  cases hk:decide (k=ck)with
  |true=>
   rw[Bool.true_or]
   refine spec_intro [] _ Tryz.func164 rfl Tryz.ntmps164 (by rfl) (fun w0 R=>?_)
   repeat'(first|(refine gY ?_;intros)|(refine hY ?_ ?_<;>intro hgd)|(refine jY ?_ ?_<;>intro _)|fail)
   (apply ok_draw [14];(focus(kernel_rfl));(focus((conv=>lhs;whnf);first|done|rfl));(focus(decide +kernel));(focus(exact(fun _ h=>h))))
   repeat'(first|(refine gY ?_;intros)|(refine hY ?_ ?_<;>intro hgd)|(refine jY ?_ ?_<;>intro _)|fail)
   refine cl_Y (hv) ?_
   intro _ _
   repeat'(first|(refine gY ?_;intros)|(refine hY ?_ ?_<;>intro hgd)|(refine jY ?_ ?_<;>intro _)|fail)
   (refine rt_Y (y:=()) (hrs:=Tryz.results164) (hv:=?_) (hφ:=?_))
   ·rfl
   ·trivial
  |false=>
   rw[Bool.false_or]
   cases cb with
   |false=>
    rw[Bool.false_and]
    refine spec_intro [] _ Tryz.func164 rfl Tryz.ntmps164 (by rfl) (fun w0 R=>?_)
    repeat'(first|(refine gY ?_;intros)|(refine hY ?_ ?_<;>intro hgd)|(refine jY ?_ ?_<;>intro _)|fail)
    (apply ok_draw [14];(focus(kernel_rfl));(focus((conv=>lhs;whnf);first|done|rfl));(focus(decide +kernel));(focus(exact(fun _ h=>h))))
    repeat'(first|(refine gY ?_;intros)|(refine hY ?_ ?_<;>intro hgd)|(refine jY ?_ ?_<;>intro _)|fail)
    refine cl_Y (hv) ?_
    intro _ _
    repeat'(first|(refine gY ?_;intros)|(refine hY ?_ ?_<;>intro hgd)|(refine jY ?_ ?_<;>intro _)|fail)
    (refine rt_Y (y:=()) (hrs:=Tryz.results164) (hv:=?_) (hφ:=?_))
    ·rfl
    ·trivial
   |true=>
    rw[Bool.true_and,← he]
    refine spec_intro [] _ Tryz.func164 rfl Tryz.ntmps164 (by rfl) (fun w0 R=>?_)
    repeat'(first|(refine gY ?_;intros)|(refine hY ?_ ?_<;>intro hgd)|(refine jY ?_ ?_<;>intro _)|fail)
    (apply ok_draw [14];(focus(kernel_rfl));(focus((conv=>lhs;whnf);first|done|rfl));(focus(decide +kernel));(focus(exact(fun _ h=>h))))
    repeat'(first|(refine gY ?_;intros)|(refine hY ?_ ?_<;>intro hgd)|(refine jY ?_ ?_<;>intro _)|fail)
    refine cl_Y (hv) ?_
    intro _ _
    repeat'(first|(refine gY ?_;intros)|(refine hY ?_ ?_<;>intro hgd)|(refine jY ?_ ?_<;>intro _)|fail)
    refine clN_Y (hn) ?_
    intro _ _
    repeat'(first|(refine gY ?_;intros)|(refine hY ?_ ?_<;>intro hgd)|(refine jY ?_ ?_<;>intro _)|fail)
    (refine rt_Y (y:=()) (hrs:=Tryz.results164) (hv:=?_) (hφ:=?_))
    ·rfl
    ·trivial
theorem fitsL_step{cs:List Co}{l:List Vl}{j:Nat}{c:Co}{v:Vl}(h1:cs[j]? =some c)(h2:l[j]? =some v):fitsL (cs.drop j) (l.drop j)=(fitsC c v&&fitsL (cs.drop (j+1)) (l.drop (j+1))):=by
 obtain⟨a1,b1⟩:=List.getElem?_eq_some_iff.1 h1
 obtain⟨a2,b2⟩:=List.getElem?_eq_some_iff.1 h2
 rw[List.drop_eq_getElem_cons a1,List.drop_eq_getElem_cons a2,b1,b2,fitsL]
set_option maxHeartbeats 1000000 in
theorem eqF_spec(A:HProp)(hA:UT A)(cols:List Co)(l:List Vl)(u w:Value)(hu:Vw A 3 u (cols.map coV))(hw:Vw A 4 w (l.map valV))(hwf:∀ v∈l,v.wf)(hb:cols.length≤1000000):
  FSpec Tryz.prog 165 [u,w,.func (.func 164) #[] #[]] [A] Unit (fun _=>True) (fun _=>.bool (fitsL cols l)) (fun _=>[A]):=by
 have hcl:(cols.map coV).length=cols.length:=by simp
 have hll:(l.map valV).length=l.length:=by simp
 refine spec_intro [] _ Tryz.func165 rfl Tryz.ntmps165 (by rfl) (fun w0 R=>?_)
 refine ok_learn (VwIn.slice (VwIn.here hu)) ?_
 rintro⟨pu,cu,rfl⟩
 refine ok_learn (VwIn.slice (VwIn.here hw)) ?_
 rintro⟨pw,cw,rfl⟩
 cases t0:(!decide (((cols.map coV).length:Int)=((l.map valV).length:Int)))with
 |true=>
  have hne:fitsL cols l=false:=by
   cases hf:fitsL cols l with
   |false=>rfl
   |true=>have:=fitsL_len hf;simp at t0;omega
  rw[hne]
  repeat'(first|(refine gY ?_;intros)|(refine hY ?_ ?_<;>intro hgd)|(refine jY ?_ ?_<;>intro _)|fail)
  (refine rt_Y (y:=()) (hrs:=Tryz.results165) (hv:=?_) (hφ:=?_))
  ·rfl
  ·trivial
 |false=>
  have hlen:l.length=cols.length:=by simp at t0;omega
  repeat'(first|(refine gY ?_;intros)|(refine hY ?_ ?_<;>intro hgd)|(refine jY ?_ ?_<;>intro _)|fail)
  refine ok_loop' (γ:=Nat) (fun j ρ L=>j≤cols.length∧fitsL cols l=fitsL (cols.drop j) (l.drop j)∧Knows ρ [(1,.slice pw (l.map valV).length cw),(2,.func (.func 164) #[] #[]),(15,.slice pu (cols.map coV).length cu),(16,.int .i64 ((cols.map coV).length:Int)),(17,.int .i64 j)]∧L=[A]++R) (fun j=>cols.length-j) 0 ⟨by omega,rfl,⟨rfl,rfl,rfl,rfl,rfl,trivial⟩,rfl⟩ ?_
  rintro j ρ L ⟨hj,hfl,hk,rfl⟩
  refine ok_regs hk ?_
  cases t1:decide ((j:Int)<((cols.map coV).length:Int))with
  |false=>
   have hje:j=cols.length:=by simp at t1;omega
   have hft:fitsL cols l=true:=by rw[hfl,hje,List.drop_length,← hlen,List.drop_length];rfl
   rw[hft]
   repeat'(first|(refine gY ?_;intros)|(refine hY ?_ ?_<;>intro hgd)|(refine jY ?_ ?_<;>intro _)|fail)
   (refine rt_Y (y:=()) (hrs:=Tryz.results165) (hv:=?_) (hφ:=?_))
   ·rfl
   ·trivial
  |true=>
   have h:j<cols.length:=by simp at t1;omega
   have hcj:cols[j]? =some cols[j]:=List.getElem?_eq_getElem h
   have hlj:l[j]? =some (l[j]'(by omega)):=List.getElem?_eq_getElem _
   have hx:(cols.map coV)[j]? =some (coV cols[j]):=by rw[List.getElem?_map,hcj];rfl
   have hy:(l.map valV)[j]? =some (valV (l[j]'(by omega))):=by rw[List.getElem?_map,hlj];rfl
   have hst:=fitsL_step hcj hlj
   have hwj:=hwf _ (List.mem_of_getElem? hlj)
   have hn1:j<(cols.map coV).length:=by omega
   have hn2:j<(l.map valV).length:=by omega
   generalize cols[j]=c at hx hst
   generalize l[j]'(by omega)=v at hy hst hwj
   have hf:=sdFits_spec c v A hA hwj
   refine ok_learn (VwIn.base (VwIn.here hu) (by intro e;rw[e]at hn1;simp at hn1)) ?_
   rintro⟨bu,ou,rfl⟩
   refine ok_learn (VwIn.base (VwIn.here hw) (by intro e;rw[e]at hn2;simp at hn2)) ?_
   rintro⟨bw,ow,rfl⟩
   dsimp only[coV,valV]at hx hy hf
   cases hb:fitsC c v with
   |false=>
    rw[hb]at hf hst
    rw[hfl,hst,Bool.false_and]
    repeat'(first|(refine gY ?_;intros)|(refine hY ?_ ?_<;>intro hgd)|(refine jY ?_ ?_<;>intro _)|fail)
    refine clV_Y (vspec_fn hf) ?_
    intro _ _
    repeat'(first|(refine gY ?_;intros)|(refine hY ?_ ?_<;>intro hgd)|(refine jY ?_ ?_<;>intro _)|fail)
    (refine rt_Y (y:=()) (hrs:=Tryz.results165) (hv:=?_) (hφ:=?_))
    ·rfl
    ·trivial
   |true=>
    rw[hb]at hf hst
    rw[Bool.true_and]at hst
    repeat'(first|(refine gY ?_;intros)|(refine hY ?_ ?_<;>intro hgd)|(refine jY ?_ ?_<;>intro _)|fail)
    refine clV_Y (vspec_fn hf) ?_
    intro _ _
    repeat'(first|(refine gY ?_;intros)|(refine hY ?_ ?_<;>intro hgd)|(refine jY ?_ ?_<;>intro _)|fail)
    refine cont_map (L':=[A]++R) entD ?_
    refine cont_back (j+1) ⟨h,hfl.trans hst,⟨rfl,rfl,rfl,rfl,rfl,trivial⟩,rfl⟩ (by omega)
theorem sName_spec(s:ByteArray)(hs:s.size≤4611686018427387904):FSpec Tryz.prog 200 [.string s] [] Unit (fun _=>True) (fun _=>.bool (nameS s)) (fun _=>[]):=by
 refine spec_intro [183] _ Tryz.func200 rfl Tryz.ntmps200 (by rfl) (fun w0 R=>?_)
 repeat'(first|(refine gY ?_;intros)|(refine hY ?_ ?_<;>intro hgd)|(refine jY ?_ ?_<;>intro _)|fail)
 rename_i bb cap
 refine ok_loop' (γ:=Nat) (fun n ρ L=>n≤s.size∧(s.data.toList.take n).all nameC=true∧Knows ρ [(0,.string s),(6,.slice (some ⟨bb,0,none⟩) s.size cap),(7,.int .i64 s.size),(8,.int .i64 n)]∧L=[bytesR 5 (.slice (some ⟨bb,0,none⟩) s.size cap) s]++R) (fun n=>s.size-n) 0 ⟨by omega,rfl,⟨rfl,rfl,rfl,rfl,trivial⟩,rfl⟩ ?_
 rintro n ρ L ⟨hn,hall,hk,rfl⟩
 refine ok_regs hk ?_
 cases t1:decide ((n:Int)<(s.size:Int))with
 |false=>
  have hn':n=s.size:=by simp at t1;omega
  have hfull:s.data.toList.all nameC=true:=by rw[hn',List.take_of_length_le (by simp)]at hall;exact hall
  unfold nameS
  rw[hfull,Bool.true_and]
  cases t2:(!(s.toList==(⟨#[]⟩:BA).toList))with
  |false=>
   repeat'(first|(refine gY ?_;intros)|(refine hY ?_ ?_<;>intro hgd)|(refine jY ?_ ?_<;>intro _)|fail)
   (refine rt_Y (y:=()) (hrs:=Tryz.results200) (hv:=?_) (hφ:=?_))
   ·rfl
   ·trivial
  |true=>
   have t3:decide ((s.size:Int)≤16)=decide (s.size≤16):=by rw[Bool.eq_iff_iff];simp;omega
   rw[Bool.true_and,← t3]
   repeat'(first|(refine gY ?_;intros)|(refine hY ?_ ?_<;>intro hgd)|(refine jY ?_ ?_<;>intro _)|fail)
   (refine rt_Y (y:=()) (hrs:=Tryz.results200) (hv:=?_) (hφ:=?_))
   ·rfl
   ·trivial
 |true=>
  have h:n<s.data.toList.length:=by simp at t1;simpa using t1
  have hx:(byteL s)[n]? =some [.int .u8 s.data.toList[n].toNat]:=by unfold byteL;rw[List.getElem?_map,List.getElem?_eq_getElem h];rfl
  have hnt:n+1≤s.size:=by have h':=h;simp at h';omega
  have hin:s.data.toList[n]∈s.data.toList:=List.getElem_mem h
  have htk:s.data.toList.take (n+1)=s.data.toList.take n++[s.data.toList[n]]:=List.take_succ_eq_append_getElem h
  generalize hc:s.data.toList[n]=c at hx htk hin
  clear hk hc
  have hgo:nameC c=true→((s.data.toList.take (n+1)).all nameC=true):=fun hm=>by rw[htk,List.all_append,hall];simp[hm]
  have hno:nameC c=false→nameS s=false:=fun hm=>by
   have:s.data.toList.all nameC=false:=List.all_eq_false.2 ⟨c,hin,by simp[hm]⟩
   simp only[nameS,this,Bool.false_and]
  unfold nameC at hgo hno
  cases u1:decide ((c.toNat:Int)<97)<;>cases u2:decide ((122:Int)<(c.toNat:Int))<;>cases u3:decide ((c.toNat:Int)<48)<;>cases u4:decide ((57:Int)<(c.toNat:Int))<;>rw[u1,u2,u3,u4]at hgo hno
  all_goals repeat'(first|(refine gY ?_;intros)|(refine hY ?_ ?_<;>intro hgd)|(refine jY ?_ ?_<;>intro _)|fail)
  all_goals first
   |(refine cont_back (n+1) ⟨hnt,hgo rfl,⟨rfl,rfl,rfl,rfl,trivial⟩,rfl⟩ (by omega))
   |(
    rw[hno rfl]
    (refine rt_Y (y:=()) (hrs:=Tryz.results200) (hv:=?_) (hφ:=?_))
    ·rfl
    ·trivial)
instance keyStrSd:KeyT Tryz.prog 9 KStr:=keyT_str Tryz.underlying9
def seenL(l:List BA):List (BA×Value):=l.map fun s=>(s,Value.int .i64 1)
theorem seen_in(s:BA):∀ {l:List BA},s∈l→getK KStr s (seenL l)=some (.int .i64 1)
 |b::l,h=>by
  simp only[seenL,List.map_cons,getK]
  by_cases hb:s=b
  ·rw[if_pos hb]
  ·rw[if_neg hb]
   exact seen_in s ((List.mem_cons.1 h).resolve_left hb)
theorem seen_out(s:BA):∀ {l:List BA},s∉l→getK KStr s (seenL l)=none
 | [],_=>rfl
 |b::l,h=>by
  simp only[List.mem_cons,not_or]at h
  simp only[seenL,List.map_cons,getK]
  rw[if_neg h.1]
  exact seen_out s h.2
theorem seen_put(s:BA):∀ {l:List BA},s∉l→putK KStr s (.int .i64 1) (seenL l)=seenL (l++[s])
 | [],_=>rfl
 |b::l,h=>by
  simp only[List.mem_cons,not_or]at h
  have ih:=seen_put s h.2
  simp only[seenL,List.map_cons,List.cons_append,putK]at ih ⊢
  rw[if_neg h.1,ih]
set_option maxHeartbeats 1000000 in
theorem named_spec(u:Value)(A:HProp)(l:List BA)(hA:Vw A 1 u (l.map fun s=>[Value.string s]))(hs:∀ s∈l,s.size≤4611686018427387904)(hb:l.length≤5864062014805):
  FSpec Tryz.prog 162 [u] [A] Unit (fun _=>True) (fun _=>.bool (namedS l)) (fun _=>[A]):=by
 have hlm:(l.map fun s=>[Value.string s]).length=l.length:=by simp
 refine spec_intro [] _ Tryz.func162 rfl Tryz.ntmps162 (by rfl) (fun w0 R=>?_)
 refine ok_learn (VwIn.slice (VwIn.here hA)) ?_
 rintro⟨pu,cu,rfl⟩
 repeat'(first|(refine gY ?_;intros)|(refine hY ?_ ?_<;>intro hgd)|(refine jY ?_ ?_<;>intro _)|fail)
 rename_i bm
 refine ok_loop' (γ:=Nat) (fun n ρ L=>n≤l.length∧(l.take n).all nameS=true∧(l.take n).Nodup∧Knows ρ [(3,.map (some bm)),(7,.slice pu (l.map fun s=>[Value.string s]).length cu),(8,.int .i64 ((l.map fun s=>[Value.string s]).length:Int)),(9,.int .i64 n)]∧L=[mapK KStr bm (seenL (l.take n)),A]++R) (fun n=>l.length-n) 0 ⟨by omega,rfl,by simp,⟨rfl,rfl,rfl,rfl,trivial⟩,rfl⟩ ?_
 rintro n ρ L ⟨hn,hall,hnd,hk,rfl⟩
 refine ok_regs hk ?_
 cases t1:decide ((n:Int)<((l.map fun s=>[Value.string s]).length:Int))with
 |false=>
  have hn':n=l.length:=by simp at t1;omega
  rw[hn',List.take_length]at hall hnd
  have:namedS l=true:=by unfold namedS;rw[hall];simp[hnd]
  rw[this]
  repeat'(first|(refine gY ?_;intros)|(refine hY ?_ ?_<;>intro hgd)|(refine jY ?_ ?_<;>intro _)|fail)
  (refine rt_Y (y:=()) (hrs:=Tryz.results162) (hv:=?_) (hφ:=?_))
  ·rfl
  ·trivial
 |true=>
  have h:n<l.length:=by simp at t1;omega
  have hx2:l[n]? =some l[n]:=List.getElem?_eq_getElem h
  have hx:(l.map fun s=>[Value.string s])[n]? =some [Value.string l[n]]:=by rw[List.getElem?_map,hx2];rfl
  have hn1:n<(l.map fun s=>[Value.string s]).length:=by omega
  have htk:l.take (n+1)=l.take n++[l[n]]:=List.take_succ_eq_append_getElem h
  have hsz:=hs _ (List.getElem_mem h)
  have hin:l[n]∈l:=List.getElem_mem h
  have hnod:l[n]∈l.take n→namedS l=false:=fun hm=>by
   have:¬ l.Nodup:=fun hd=>by
    have hd2:(l.take (n+1)).Nodup:=hd.sublist (List.take_sublist ..)
    rw[htk,List.nodup_append]at hd2
    exact hd2.2.2 _ hm _ (List.mem_singleton.2 rfl) rfl
   unfold namedS;simp[this]
  generalize l[n]=s at hx htk hsz hin hnod
  have hns:=sName_spec s hsz
  refine ok_learn (VwIn.base (VwIn.there (VwIn.here hA)) (by intro e;rw[e]at hn1;simp at hn1)) ?_
  rintro⟨bu,ou,rfl⟩
  cases hb:nameS s with
  |false=>
   have:namedS l=false:=by
    have:l.all nameS=false:=List.all_eq_false.2 ⟨s,hin,by simp[hb]⟩
    unfold namedS;rw[this,Bool.false_and]
   rw[this]
   rw[hb]at hns
   repeat'(first|(refine gY ?_;intros)|(refine hY ?_ ?_<;>intro hgd)|(refine jY ?_ ?_<;>intro _)|fail)
   refine cl_Y (hns) ?_
   intro _ _
   repeat'(first|(refine gY ?_;intros)|(refine hY ?_ ?_<;>intro hgd)|(refine jY ?_ ?_<;>intro _)|fail)
   (refine rt_Y (y:=()) (hrs:=Tryz.results162) (hv:=?_) (hφ:=?_))
   ·rfl
   ·trivial
  |true=>
   rw[hb]at hns
   by_cases hm:s∈l.take n
   ·have hg:=seen_in s hm
    rw[hnod hm]
    repeat'(first|(refine gY ?_;intros)|(refine hY ?_ ?_<;>intro hgd)|(refine jY ?_ ?_<;>intro _)|fail)
    refine cl_Y (hns) ?_
    intro _ _
    repeat'(first|(refine gY ?_;intros)|(refine hY ?_ ?_<;>intro hgd)|(refine jY ?_ ?_<;>intro _)|fail)
    (refine rt_Y (y:=()) (hrs:=Tryz.results162) (hv:=?_) (hφ:=?_))
    ·rfl
    ·trivial
   ·have hg:=seen_out s hm
    have hp:=seen_put s hm
    rw[← htk]at hp
    repeat'(first|(refine gY ?_;intros)|(refine hY ?_ ?_<;>intro hgd)|(refine jY ?_ ?_<;>intro _)|fail)
    refine cl_Y (hns) ?_
    intro _ _
    repeat'(first|(refine gY ?_;intros)|(refine hY ?_ ?_<;>intro hgd)|(refine jY ?_ ?_<;>intro _)|fail)
    rw[show(0:Int)+1=1 from rfl,hp]
    refine cont_map (L':=[mapK KStr bm (seenL (l.take (n+1))),A]++R) entD ?_
    refine cont_back (n+1) ⟨h,by rw[htk,List.all_append,hall];simp[hb],by rw[htk,List.nodup_append];exact⟨hnd,by simp,fun a ha b hb2 e=>by rw[List.mem_singleton]at hb2;subst hb2;subst e;exact hm ha⟩,⟨rfl,rfl,rfl,rfl,trivial⟩,rfl⟩ (by omega)
end Go.Proofs.YtmnafjonbeihiaaGreatDoor
