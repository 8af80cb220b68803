/- Texts merged: SvA SvB. -/
import Derived.Test.YtmnafjonbeihiaaGreatDoorH36
import Derived.Test.YtmnafjonbeihiaaGreatDoorSvP
import Derived.Test.YtmnafjonbeihiaaGreatDoorG3
set_option linter.unusedSimpArgs false
set_option linter.unusedVariables false
set_option maxRecDepth 100000
set_option pp.deepTerms true
set_option pp.maxSteps 200000
namespace Go.Fx
open Go
class CmpStr(P:Program)(f:FuncId):Prop where
 call:∀ (a b:ByteArray) w,(callFunc f #[.string a,.string b]).run P w= .ok (.value (.int .i64 (Lib.compareBytes a.data.toList b.data.toList))) w
theorem s_cmpstr{X:Cx}{ops:Array Oper}{nb:NB}{N:Act→World→Prop}{i:Nat}{os:List Oper}{Ls:List HProp}{ds:List Deferred}{ρ:Regs}{L:List HProp}{ty:TypeId}{d:Nat}[NoT nb]{f:FuncId}[K:CmpStr X.P f]{x y:Operand}{at_:Array TypeId}{a b:ByteArray}
  (hx:ev ρ x= .string a)(hy:ev ρ y= .string b)(hd:Nat.blt d X.nt=true)(hb:nb.contains i=false)
  (h:OpsL X ops nb N (i+1) os L ds (upd ρ d (.int .i64 (Lib.compareBytes a.data.toList b.data.toList))) L):Op1 X ops nb N i (some d) (.call {callee:=.value (.func f),args:= #[x,y],argTypes:=at_}) ty os Ls ds ρ L:=by
 refine op_eff (Y:=Unit) (φ:=fun _=>True) (v:=fun _=>.int .i64 (Lib.compareBytes a.data.toList b.data.toList)) (L':=fun _=>L) ⟨(fun _ e=>by cases e),fun pos after gd=>⟨rfl,fun w hs=>?_⟩⟩ (fun _ e=>by cases e;exact hd) hb fun _ _=>h
 unfold OpVal
 have e1:(#[x,y].map (ev ρ))=#[.string a,.string b]:=by simp[hx,hy]
 simp only[execOp,resolve,ev,Deferred.ofValue,invoke,Sem.run_bind,Sem.run_pure,Result.andThen_ok,Array.append_empty,Array.empty_append,e1,K.call]
 exact⟨(),trivial,trivial,hs⟩
end Go.Fx
namespace Go.Proofs.YtmnafjonbeihiaaGreatDoor
open Go Go.Fx Go.Proofs Go.Pl Go.RowKit
instance:CmpStr Tryz.prog 266:=⟨fun a b w=>by
 have h:=run_callFunc_extern (P:=Tryz.prog) (f:=266) (fn:=Tryz.f266) (e:=Extern.BytealgCompare.compare) (by kernel_rfl) (by kernel_rfl) (by kernel_rfl) (by kernel_rfl) (by kernel_rfl) #[.string a,.string b] w
 rw[h,Lib.run_compareString];rfl⟩
theorem cmpStr0_spec{m:Bool}(a b:BA):FSpecM m Tryz.prog 250 [.string a,.string b] [] Unit (fun _=>True) (fun _=>.int .i64 (Lib.compareBytes a.data.toList b.data.toList)) (fun _=>[]):=by
 refine spec_intro [] _ Tryz.func250 rfl Tryz.ntmps250 (by rfl) (fun w0 R=>?_)
 repeat'(first|(refine gY ?_;intros)|(refine hY ?_ ?_<;>intro hgd)|(refine jY ?_ ?_<;>intro _)|fail)
 refine ops_run (s_cmpstr (by rfl) (by rfl) (by rfl) (by rfl) ?_)
 repeat'(first|(refine gY ?_;intros)|(refine hY ?_ ?_<;>intro hgd)|(refine jY ?_ ?_<;>intro _)|fail)
 (refine rt_Y (y:=()) (hrs:=Tryz.results250) (hv:=?_) (hφ:=?_))
 ·rfl
 ·trivial
theorem cmpStr_spec{m:Bool}(a b:BA):FSpecM m Tryz.prog 217 [.string a,.string b] [] Unit (fun _=>True) (fun _=>.int .i64 (Lib.compareBytes a.data.toList b.data.toList)) (fun _=>[]):=by
 refine spec_intro [] _ Tryz.func217 rfl Tryz.ntmps217 (by rfl) (fun w0 R=>?_)
 repeat'(first|(refine gY ?_;intros)|(refine hY ?_ ?_<;>intro hgd)|(refine jY ?_ ?_<;>intro _)|fail)
 refine cl_Y (cmpStr0_spec a b) ?_
 intro _ _
 repeat'(first|(refine gY ?_;intros)|(refine hY ?_ ?_<;>intro hgd)|(refine jY ?_ ?_<;>intro _)|fail)
 (refine rt_Y (y:=()) (hrs:=Tryz.results217) (hv:=?_) (hφ:=?_))
 ·rfl
 ·trivial
theorem nan8_spec{m:Bool}(a:Int):FSpecM m Tryz.prog 248 [.int .u8 a] [] Unit (fun _=>True) (fun _=>.bool false) (fun _=>[]):=by
 have f:(!decide (a=a))=false:=by simp
 refine spec_intro [] _ Tryz.func248 rfl Tryz.ntmps248 (by rfl) (fun w0 R=>?_)
 repeat'(first|(refine gY ?_;intros)|(refine hY ?_ ?_<;>intro hgd)|(refine jY ?_ ?_<;>intro _)|fail)
 (refine rt_Y (y:=()) (hrs:=Tryz.results248) (hv:=?_) (hφ:=?_))
 ·rfl
 ·trivial
theorem nan64_spec{m:Bool}(a:Int):FSpecM m Tryz.prog 249 [.int .i64 a] [] Unit (fun _=>True) (fun _=>.bool false) (fun _=>[]):=by
 have f:(!decide (a=a))=false:=by simp
 refine spec_intro [] _ Tryz.func249 rfl Tryz.ntmps249 (by rfl) (fun w0 R=>?_)
 repeat'(first|(refine gY ?_;intros)|(refine hY ?_ ?_<;>intro hgd)|(refine jY ?_ ?_<;>intro _)|fail)
 (refine rt_Y (y:=()) (hrs:=Tryz.results249) (hv:=?_) (hφ:=?_))
 ·rfl
 ·trivial
theorem cmp8_spec{m:Bool}(a b:Int):FSpecM m Tryz.prog 215 [.int .u8 a,.int .u8 b] [] Unit (fun _=>True) (fun _=>.int .i64 (cmpI a b)) (fun _=>[]):=by
 unfold cmpI
 cases t1:decide (a<b)with
 |true=>
  rw[if_pos (of_decide_eq_true t1)]
  refine spec_intro [] _ Tryz.func215 rfl Tryz.ntmps215 (by rfl) (fun w0 R=>?_)
  repeat'(first|(refine gY ?_;intros)|(refine hY ?_ ?_<;>intro hgd)|(refine jY ?_ ?_<;>intro _)|fail)
  refine cl_Y (nan8_spec a) ?_
  intro _ _
  repeat'(first|(refine gY ?_;intros)|(refine hY ?_ ?_<;>intro hgd)|(refine jY ?_ ?_<;>intro _)|fail)
  refine cl_Y (nan8_spec b) ?_
  intro _ _
  repeat'(first|(refine gY ?_;intros)|(refine hY ?_ ?_<;>intro hgd)|(refine jY ?_ ?_<;>intro _)|fail)
  (refine rt_Y (y:=()) (hrs:=Tryz.results215) (hv:=?_) (hφ:=?_))
  ·rfl
  ·trivial
 |false=>
  rw[if_neg (of_decide_eq_false t1)]
  cases t2:decide (b<a)with
  |true=>
   rw[if_pos (of_decide_eq_true t2)]
   refine spec_intro [] _ Tryz.func215 rfl Tryz.ntmps215 (by rfl) (fun w0 R=>?_)
   repeat'(first|(refine gY ?_;intros)|(refine hY ?_ ?_<;>intro hgd)|(refine jY ?_ ?_<;>intro _)|fail)
   refine cl_Y (nan8_spec a) ?_
   intro _ _
   repeat'(first|(refine gY ?_;intros)|(refine hY ?_ ?_<;>intro hgd)|(refine jY ?_ ?_<;>intro _)|fail)
   refine cl_Y (nan8_spec b) ?_
   intro _ _
   repeat'(first|(refine gY ?_;intros)|(refine hY ?_ ?_<;>intro hgd)|(refine jY ?_ ?_<;>intro _)|fail)
   (refine rt_Y (y:=()) (hrs:=Tryz.results215) (hv:=?_) (hφ:=?_))
   ·rfl
   ·trivial
  |false=>
   rw[if_neg (of_decide_eq_false t2)]
   refine spec_intro [] _ Tryz.func215 rfl Tryz.ntmps215 (by rfl) (fun w0 R=>?_)
   repeat'(first|(refine gY ?_;intros)|(refine hY ?_ ?_<;>intro hgd)|(refine jY ?_ ?_<;>intro _)|fail)
   refine cl_Y (nan8_spec a) ?_
   intro _ _
   repeat'(first|(refine gY ?_;intros)|(refine hY ?_ ?_<;>intro hgd)|(refine jY ?_ ?_<;>intro _)|fail)
   refine cl_Y (nan8_spec b) ?_
   intro _ _
   repeat'(first|(refine gY ?_;intros)|(refine hY ?_ ?_<;>intro hgd)|(refine jY ?_ ?_<;>intro _)|fail)
   (refine rt_Y (y:=()) (hrs:=Tryz.results215) (hv:=?_) (hφ:=?_))
   ·rfl
   ·trivial
theorem cmp64_spec{m:Bool}(a b:Int):FSpecM m Tryz.prog 216 [.int .i64 a,.int .i64 b] [] Unit (fun _=>True) (fun _=>.int .i64 (cmpI a b)) (fun _=>[]):=by
 unfold cmpI
 cases t1:decide (a<b)with
 |true=>
  rw[if_pos (of_decide_eq_true t1)]
  refine spec_intro [] _ Tryz.func216 rfl Tryz.ntmps216 (by rfl) (fun w0 R=>?_)
  repeat'(first|(refine gY ?_;intros)|(refine hY ?_ ?_<;>intro hgd)|(refine jY ?_ ?_<;>intro _)|fail)
  refine cl_Y (nan64_spec a) ?_
  intro _ _
  repeat'(first|(refine gY ?_;intros)|(refine hY ?_ ?_<;>intro hgd)|(refine jY ?_ ?_<;>intro _)|fail)
  refine cl_Y (nan64_spec b) ?_
  intro _ _
  repeat'(first|(refine gY ?_;intros)|(refine hY ?_ ?_<;>intro hgd)|(refine jY ?_ ?_<;>intro _)|fail)
  (refine rt_Y (y:=()) (hrs:=Tryz.results216) (hv:=?_) (hφ:=?_))
  ·rfl
  ·trivial
 |false=>
  rw[if_neg (of_decide_eq_false t1)]
  cases t2:decide (b<a)with
  |true=>
   rw[if_pos (of_decide_eq_true t2)]
   refine spec_intro [] _ Tryz.func216 rfl Tryz.ntmps216 (by rfl) (fun w0 R=>?_)
   repeat'(first|(refine gY ?_;intros)|(refine hY ?_ ?_<;>intro hgd)|(refine jY ?_ ?_<;>intro _)|fail)
   refine cl_Y (nan64_spec a) ?_
   intro _ _
   repeat'(first|(refine gY ?_;intros)|(refine hY ?_ ?_<;>intro hgd)|(refine jY ?_ ?_<;>intro _)|fail)
   refine cl_Y (nan64_spec b) ?_
   intro _ _
   repeat'(first|(refine gY ?_;intros)|(refine hY ?_ ?_<;>intro hgd)|(refine jY ?_ ?_<;>intro _)|fail)
   (refine rt_Y (y:=()) (hrs:=Tryz.results216) (hv:=?_) (hφ:=?_))
   ·rfl
   ·trivial
  |false=>
   rw[if_neg (of_decide_eq_false t2)]
   refine spec_intro [] _ Tryz.func216 rfl Tryz.ntmps216 (by rfl) (fun w0 R=>?_)
   repeat'(first|(refine gY ?_;intros)|(refine hY ?_ ?_<;>intro hgd)|(refine jY ?_ ?_<;>intro _)|fail)
   refine cl_Y (nan64_spec a) ?_
   intro _ _
   repeat'(first|(refine gY ?_;intros)|(refine hY ?_ ?_<;>intro hgd)|(refine jY ?_ ?_<;>intro _)|fail)
   refine cl_Y (nan64_spec b) ?_
   intro _ _
   repeat'(first|(refine gY ?_;intros)|(refine hY ?_ ?_<;>intro hgd)|(refine jY ?_ ?_<;>intro _)|fail)
   (refine rt_Y (y:=()) (hrs:=Tryz.results216) (hv:=?_) (hφ:=?_))
   ·rfl
   ·trivial
theorem canonM_spec{m:Bool}(n:Int):FSpecM m Tryz.prog 240 [.int .u64 n] [] Unit (fun _=>True) (fun _=>.int .u64 (canonR n)) (fun _=>[]):=by
 unfold canonR nanB
 cases hf:Op.floatEq .f64 n.toNat n.toNat with
 |true=>
  have hg:(!Op.floatEq .f64 n.toNat n.toNat)=false:=by rw[hf];rfl
  rw[if_neg (by simp)]
  refine spec_intro [] _ Tryz.func240 rfl Tryz.ntmps240 (by rfl) (fun w0 R=>?_)
  repeat'(first|(refine gY ?_;intros)|(refine hY ?_ ?_<;>intro hgd)|(refine jY ?_ ?_<;>intro _)|fail)
  (refine rt_Y (y:=()) (hrs:=Tryz.results240) (hv:=?_) (hφ:=?_))
  ·rfl
  ·trivial
 |false=>
  have hg:(!Op.floatEq .f64 n.toNat n.toNat)=true:=by rw[hf];rfl
  rw[if_pos (by simp)]
  refine spec_intro [] _ Tryz.func240 rfl Tryz.ntmps240 (by rfl) (fun w0 R=>?_)
  repeat'(first|(refine gY ?_;intros)|(refine hY ?_ ?_<;>intro hgd)|(refine jY ?_ ?_<;>intro _)|fail)
  (refine rt_Y (y:=()) (hrs:=Tryz.results240) (hv:=?_) (hφ:=?_))
  ·rfl
  ·trivial
def keyR(n:Int):Int:=if shiftOf .shr .u64 (canonR n) 63=0 then bitsOf .or .u64 (canonR n) 9223372036854775808 else bitsOf .xor .u64 (if IntKind.u64.signed then -1 else IntKind.u64.max) (canonR n)
theorem keyR_spec{m:Bool}(n:Int):FSpecM m Tryz.prog 247 [.int .u64 n] [] Unit (fun _=>True) (fun _=>.int .u64 (keyR n)) (fun _=>[]):=by
 unfold keyR
 cases t1:decide (shiftOf .shr .u64 (canonR n) 63=0)with
 |true=>
  rw[if_pos (of_decide_eq_true t1)]
  refine spec_intro [] _ Tryz.func247 rfl Tryz.ntmps247 (by rfl) (fun w0 R=>?_)
  repeat'(first|(refine gY ?_;intros)|(refine hY ?_ ?_<;>intro hgd)|(refine jY ?_ ?_<;>intro _)|fail)
  refine cl_Y (canonM_spec n) ?_
  intro _ _
  repeat'(first|(refine gY ?_;intros)|(refine hY ?_ ?_<;>intro hgd)|(refine jY ?_ ?_<;>intro _)|fail)
  (refine rt_Y (y:=()) (hrs:=Tryz.results247) (hv:=?_) (hφ:=?_))
  ·rfl
  ·trivial
 |false=>
  rw[if_neg (of_decide_eq_false t1)]
  refine spec_intro [] _ Tryz.func247 rfl Tryz.ntmps247 (by rfl) (fun w0 R=>?_)
  repeat'(first|(refine gY ?_;intros)|(refine hY ?_ ?_<;>intro hgd)|(refine jY ?_ ?_<;>intro _)|fail)
  refine cl_Y (canonM_spec n) ?_
  intro _ _
  repeat'(first|(refine gY ?_;intros)|(refine hY ?_ ?_<;>intro hgd)|(refine jY ?_ ?_<;>intro _)|fail)
  (refine rt_Y (y:=()) (hrs:=Tryz.results247) (hv:=?_) (hφ:=?_))
  ·rfl
  ·trivial
theorem realLess_spec{m:Bool}(a b:Int):FSpecM m Tryz.prog 213 [.int .u64 a,.int .u64 b] [] Unit (fun _=>True) (fun _=>.bool (decide (keyR a<keyR b))) (fun _=>[]):=by
 refine spec_intro [] _ Tryz.func213 rfl Tryz.ntmps213 (by rfl) (fun w0 R=>?_)
 repeat'(first|(refine gY ?_;intros)|(refine hY ?_ ?_<;>intro hgd)|(refine jY ?_ ?_<;>intro _)|fail)
 refine cl_Y (keyR_spec a) ?_
 intro _ _
 repeat'(first|(refine gY ?_;intros)|(refine hY ?_ ?_<;>intro hgd)|(refine jY ?_ ?_<;>intro _)|fail)
 refine cl_Y (keyR_spec b) ?_
 intro _ _
 repeat'(first|(refine gY ?_;intros)|(refine hY ?_ ?_<;>intro hgd)|(refine jY ?_ ?_<;>intro _)|fail)
 (refine rt_Y (y:=()) (hrs:=Tryz.results213) (hv:=?_) (hφ:=?_))
 ·rfl
 ·trivial
def orL:List Int→Int
 | []=>0
 |x::l=>if x=0 then orL l else x
def i1V(x:Int):List Value:=[.int .i64 x]
theorem or_spec{m:Bool}(u:Value)(A:HProp)(l:List Int)(hA:Vw A 1 u (l.map i1V))(hl:l.length≤1000):FSpecM m Tryz.prog 214 [u] [A] Unit (fun _=>True) (fun _=>.int .i64 (orL l)) (fun _=>[A]):=by
 have lm:(l.map i1V).length=l.length:=by simp
 refine spec_intro [] _ Tryz.func214 rfl Tryz.ntmps214 (by rfl) (fun w0 R=>?_)
 refine ok_learn (VwIn.slice (VwIn.here hA)) ?_
 rintro⟨pu,cu,rfl⟩
 repeat'(first|(refine gY ?_;intros)|(refine hY ?_ ?_<;>intro hgd)|(refine jY ?_ ?_<;>intro _)|fail)
 refine ok_loop' (γ:=Nat) (fun k ρ L=>k≤l.length∧orL l=orL (l.drop k)∧Knows ρ [(3,.int .i64 0),(6,.slice pu (l.map i1V).length cu),(7,.int .i64 ((l.map i1V).length:Int)),(8,.int .i64 (k:Int))]∧L=[A]++R) (fun k=>l.length-k) 0 ⟨by simp,rfl,⟨rfl,rfl,rfl,rfl,trivial⟩,rfl⟩ ?_
 rintro k ρ L ⟨hk1,ho,hk,rfl⟩
 refine ok_regs hk ?_
 cases t1:decide ((k:Int)<((l.map i1V).length:Int))with
 |true=>
  have h0:k<l.length:=by have:=of_decide_eq_true t1;omega
  have hn1:k<(l.map i1V).length:=by omega
  have hki:l[k]? =some l[k]:=List.getElem?_eq_getElem h0
  have hxx:(l.map i1V)[k]? =some (i1V l[k]):=by rw[List.getElem?_map,hki];rfl
  have hd:l.drop k=l[k]::l.drop (k+1):=List.drop_eq_getElem_cons h0
  refine ok_learn (VwIn.base (VwIn.here hA) (by intro e;rw[e]at hn1;simp at hn1)) ?_
  rintro⟨bu,ou,rfl⟩
  rw[hd]at ho
  generalize l[k]=x at hxx ho
  dsimp only[i1V]at hxx
  unfold orL at ho
  cases t2:(!decide (x=(0:Int)))with
  |true=>
   have hx:x≠0:=by simpa using t2
   rw[if_neg hx]at ho
   rw[show orL l=x by cases l with|nil=>simp at h0|cons a b=>exact ho]
   repeat'(first|(refine gY ?_;intros)|(refine hY ?_ ?_<;>intro hgd)|(refine jY ?_ ?_<;>intro _)|fail)
   (refine rt_Y (y:=()) (hrs:=Tryz.results214) (hv:=?_) (hφ:=?_))
   ·rfl
   ·trivial
  |false=>
   have hx:x=0:=by simpa using t2
   rw[if_pos hx]at ho
   repeat'(first|(refine gY ?_;intros)|(refine hY ?_ ?_<;>intro hgd)|(refine jY ?_ ?_<;>intro _)|fail)
   refine cont_back (k+1) ⟨h0,by cases l with|nil=>simp at h0|cons a b=>exact ho,⟨rfl,rfl,rfl,rfl,trivial⟩,rfl⟩ (by show l.length-(k+1)<l.length-k;omega)
 |false=>
  have hkl:k=l.length:=by have:=of_decide_eq_false t1;omega
  have h0:orL l=0:=by rw[ho,hkl,List.drop_length];rfl
  rw[h0]
  repeat'(first|(refine gY ?_;intros)|(refine hY ?_ ?_<;>intro hgd)|(refine jY ?_ ?_<;>intro _)|fail)
  (refine rt_Y (y:=()) (hrs:=Tryz.results214) (hv:=?_) (hφ:=?_))
  ·rfl
  ·trivial
theorem compare_or(a b:Vl):compareV keyR a b=orL [cmpI a.kind b.kind,cmpI a.int b.int,cmpI (keyR a.real) (keyR b.real),Lib.compareBytes a.text.data.toList b.text.data.toList]:=by
 unfold compareV
 simp only[lexC,orL]
 by_cases h:Lib.compareBytes a.text.data.toList b.text.data.toList=0
 ·rw[if_pos h,h]
 ·rw[if_neg h]
theorem compare_spec{m:Bool}(a b:Vl):FSpecM m Tryz.prog 168 [.agg (valV a).toArray,.agg (valV b).toArray] [] Unit (fun _=>True) (fun _=>.int .i64 (compareV keyR a b)) (fun _=>[]):=by
 have hco:=compare_or a b
 obtain⟨ak,ai,ar,ax⟩:=a
 obtain⟨bk,bi,br,bx⟩:=b
 dsimp only[valV]at hco ⊢
 rw[hco]
 cases t1:decide (keyR ar<keyR br)with
 |true=>
  have hc:cmpI (keyR ar) (keyR br)= -1:=by unfold cmpI;rw[if_pos (of_decide_eq_true t1)]
  rw[hc]
  have h1:=realLess_spec (m:=m) ar br
  rw[t1]at h1
  refine spec_intro [] _ Tryz.func168 rfl Tryz.ntmps168 (by rfl) (fun w0 R=>?_)
  repeat'(first|(refine gY ?_;intros)|(refine hY ?_ ?_<;>intro hgd)|(refine jY ?_ ?_<;>intro _)|fail)
  rename_i b2 b3
  refine cl_Y (h1) ?_
  intro _ _
  repeat'(first|(refine gY ?_;intros)|(refine hY ?_ ?_<;>intro hgd)|(refine jY ?_ ?_<;>intro _)|fail)
  refine ok_map (L':=[pts b2 (.cells [.int .u8 ak,.int .i64 ai,.int .u64 ar,.string ax].toArray 93),pts b3 (.cells [.int .u8 bk,.int .i64 bi,.int .u64 br,.string bx].toArray 93)]++R) entD ?_
  refine ok_drawL (cv:=[]) [4,9] ([pts b2 (.cells [.int .u8 ak,.int .i64 ai,.int .u64 ar,.string ax].toArray 93),pts b3 (.cells [.int .u8 bk,.int .i64 bi,.int .u64 br,.string bx].toArray 93)]) (takeD) (by kernel_rfl) rfl (by decide +kernel) ?_
  repeat'(first|(refine gY ?_;intros)|(refine hY ?_ ?_<;>intro hgd)|(refine jY ?_ ?_<;>intro _)|fail)
  refine clN_Y (cmp8_spec ak bk) ?_
  intro _ _
  repeat'(first|(refine gY ?_;intros)|(refine hY ?_ ?_<;>intro hgd)|(refine jY ?_ ?_<;>intro _)|fail)
  refine clN_Y (cmp64_spec ai bi) ?_
  intro _ _
  repeat'(first|(refine gY ?_;intros)|(refine hY ?_ ?_<;>intro hgd)|(refine jY ?_ ?_<;>intro _)|fail)
  refine cl_Y (cmpStr_spec ax bx) ?_
  intro _ _
  repeat'(first|(refine gY ?_;intros)|(refine hY ?_ ?_<;>intro hgd)|(refine jY ?_ ?_<;>intro _)|fail)
  rename_i w1 hw1
  refine cl_Y (or_spec w1 (row 3 1 w1 ([cmpI ak bk,cmpI ai bi, -1,Lib.compareBytes ax.data.toList bx.data.toList].map i1V)) [cmpI ak bk,cmpI ai bi, -1,Lib.compareBytes ax.data.toList bx.data.toList] Vw.row (by simp)) ?_
  intro _ _
  repeat'(first|(refine gY ?_;intros)|(refine hY ?_ ?_<;>intro hgd)|(refine jY ?_ ?_<;>intro _)|fail)
  (refine rt_Y (y:=()) (hrs:=Tryz.results168) (hv:=?_) (hφ:=?_))
  ·rfl
  ·trivial
 |false=>
  have h1:=realLess_spec (m:=m) ar br
  rw[t1]at h1
  have h2:=realLess_spec (m:=m) br ar
  cases t2:decide (keyR br<keyR ar)with
  |true=>
   have hc:cmpI (keyR ar) (keyR br)=1:=by unfold cmpI;rw[if_neg (of_decide_eq_false t1),if_pos (of_decide_eq_true t2)]
   rw[hc]
   rw[t2]at h2
   refine spec_intro [] _ Tryz.func168 rfl Tryz.ntmps168 (by rfl) (fun w0 R=>?_)
   repeat'(first|(refine gY ?_;intros)|(refine hY ?_ ?_<;>intro hgd)|(refine jY ?_ ?_<;>intro _)|fail)
   rename_i b2 b3
   refine cl_Y (h1) ?_
   intro _ _
   repeat'(first|(refine gY ?_;intros)|(refine hY ?_ ?_<;>intro hgd)|(refine jY ?_ ?_<;>intro _)|fail)
   refine cl_Y (h2) ?_
   intro _ _
   repeat'(first|(refine gY ?_;intros)|(refine hY ?_ ?_<;>intro hgd)|(refine jY ?_ ?_<;>intro _)|fail)
   refine ok_map (L':=[pts b2 (.cells [.int .u8 ak,.int .i64 ai,.int .u64 ar,.string ax].toArray 93),pts b3 (.cells [.int .u8 bk,.int .i64 bi,.int .u64 br,.string bx].toArray 93)]++R) entD ?_
   refine ok_drawL (cv:=[]) [4,9] ([pts b2 (.cells [.int .u8 ak,.int .i64 ai,.int .u64 ar,.string ax].toArray 93),pts b3 (.cells [.int .u8 bk,.int .i64 bi,.int .u64 br,.string bx].toArray 93)]) (takeD) (by kernel_rfl) rfl (by decide +kernel) ?_
   repeat'(first|(refine gY ?_;intros)|(refine hY ?_ ?_<;>intro hgd)|(refine jY ?_ ?_<;>intro _)|fail)
   refine clN_Y (cmp8_spec ak bk) ?_
   intro _ _
   repeat'(first|(refine gY ?_;intros)|(refine hY ?_ ?_<;>intro hgd)|(refine jY ?_ ?_<;>intro _)|fail)
   refine clN_Y (cmp64_spec ai bi) ?_
   intro _ _
   repeat'(first|(refine gY ?_;intros)|(refine hY ?_ ?_<;>intro hgd)|(refine jY ?_ ?_<;>intro _)|fail)
   refine cl_Y (cmpStr_spec ax bx) ?_
   intro _ _
   repeat'(first|(refine gY ?_;intros)|(refine hY ?_ ?_<;>intro hgd)|(refine jY ?_ ?_<;>intro _)|fail)
   rename_i w1 hw1
   refine cl_Y (or_spec w1 (row 3 1 w1 ([cmpI ak bk,cmpI ai bi,1,Lib.compareBytes ax.data.toList bx.data.toList].map i1V)) [cmpI ak bk,cmpI ai bi,1,Lib.compareBytes ax.data.toList bx.data.toList] Vw.row (by simp)) ?_
   intro _ _
   repeat'(first|(refine gY ?_;intros)|(refine hY ?_ ?_<;>intro hgd)|(refine jY ?_ ?_<;>intro _)|fail)
   (refine rt_Y (y:=()) (hrs:=Tryz.results168) (hv:=?_) (hφ:=?_))
   ·rfl
   ·trivial
  |false=>
   have hc:cmpI (keyR ar) (keyR br)=0:=by unfold cmpI;rw[if_neg (of_decide_eq_false t1),if_neg (of_decide_eq_false t2)]
   rw[hc]
   rw[t2]at h2
   refine spec_intro [] _ Tryz.func168 rfl Tryz.ntmps168 (by rfl) (fun w0 R=>?_)
   repeat'(first|(refine gY ?_;intros)|(refine hY ?_ ?_<;>intro hgd)|(refine jY ?_ ?_<;>intro _)|fail)
   rename_i b2 b3
   refine cl_Y (h1) ?_
   intro _ _
   repeat'(first|(refine gY ?_;intros)|(refine hY ?_ ?_<;>intro hgd)|(refine jY ?_ ?_<;>intro _)|fail)
   refine cl_Y (h2) ?_
   intro _ _
   repeat'(first|(refine gY ?_;intros)|(refine hY ?_ ?_<;>intro hgd)|(refine jY ?_ ?_<;>intro _)|fail)
   refine ok_map (L':=[pts b2 (.cells [.int .u8 ak,.int .i64 ai,.int .u64 ar,.string ax].toArray 93),pts b3 (.cells [.int .u8 bk,.int .i64 bi,.int .u64 br,.string bx].toArray 93)]++R) entD ?_
   refine ok_drawL (cv:=[]) [4,9] ([pts b2 (.cells [.int .u8 ak,.int .i64 ai,.int .u64 ar,.string ax].toArray 93),pts b3 (.cells [.int .u8 bk,.int .i64 bi,.int .u64 br,.string bx].toArray 93)]) (takeD) (by kernel_rfl) rfl (by decide +kernel) ?_
   repeat'(first|(refine gY ?_;intros)|(refine hY ?_ ?_<;>intro hgd)|(refine jY ?_ ?_<;>intro _)|fail)
   refine clN_Y (cmp8_spec ak bk) ?_
   intro _ _
   repeat'(first|(refine gY ?_;intros)|(refine hY ?_ ?_<;>intro hgd)|(refine jY ?_ ?_<;>intro _)|fail)
   refine clN_Y (cmp64_spec ai bi) ?_
   intro _ _
   repeat'(first|(refine gY ?_;intros)|(refine hY ?_ ?_<;>intro hgd)|(refine jY ?_ ?_<;>intro _)|fail)
   refine cl_Y (cmpStr_spec ax bx) ?_
   intro _ _
   repeat'(first|(refine gY ?_;intros)|(refine hY ?_ ?_<;>intro hgd)|(refine jY ?_ ?_<;>intro _)|fail)
   rename_i w1 hw1
   refine cl_Y (or_spec w1 (row 3 1 w1 ([cmpI ak bk,cmpI ai bi,0,Lib.compareBytes ax.data.toList bx.data.toList].map i1V)) [cmpI ak bk,cmpI ai bi,0,Lib.compareBytes ax.data.toList bx.data.toList] Vw.row (by simp)) ?_
   intro _ _
   repeat'(first|(refine gY ?_;intros)|(refine hY ?_ ?_<;>intro hgd)|(refine jY ?_ ?_<;>intro _)|fail)
   (refine rt_Y (y:=()) (hrs:=Tryz.results168) (hv:=?_) (hφ:=?_))
   ·rfl
   ·trivial
def lessV(a b:Vl):Bool:=decide (compareV keyR a b<0)
theorem vLess_spec{m:Bool}(a b:Vl):FSpecM m Tryz.prog 119 [.agg (valV a).toArray,.agg (valV b).toArray] [] Unit (fun _=>True) (fun _=>.bool (lessV a b)) (fun _=>[]):=by
 have hc:=compare_spec (m:=m) a b
 unfold lessV
 obtain⟨ak,ai,ar,ax⟩:=a
 obtain⟨bk,bi,br,bx⟩:=b
 dsimp only[valV]at hc ⊢
 refine spec_intro [] _ Tryz.func119 rfl Tryz.ntmps119 (by rfl) (fun w0 R=>?_)
 repeat'(first|(refine gY ?_;intros)|(refine hY ?_ ?_<;>intro hgd)|(refine jY ?_ ?_<;>intro _)|fail)
 refine cl_Y (hc) ?_
 intro _ _
 repeat'(first|(refine gY ?_;intros)|(refine hY ?_ ?_<;>intro hgd)|(refine jY ?_ ?_<;>intro _)|fail)
 (refine rt_Y (y:=()) (hrs:=Tryz.results119) (hv:=?_) (hφ:=?_))
 ·rfl
 ·trivial
theorem order_spec{m:Bool}(u w:Value)(x y:List Vl)(k:Nat)(bk:Nat)(A:HProp)(hu:Vw A 4 u (x.map valV))(hw:Vw A 4 w (y.map valV))(hr:Rd A bk (.cells [.int .i64 (k:Int)].toArray 3))(hx:k<x.length)(hy:k<y.length):
  FSpecM m Tryz.prog 118 [u,w,.pointer (some ⟨bk,0,none⟩)] [A] Unit (fun _=>True) (fun _=>.int .i64 (if lessV x[k] y[k]then -1 else 1)) (fun _=>[A]):=by
 have hnx:k<(x.map valV).length:=by simpa using hx
 have hny:k<(y.map valV).length:=by simpa using hy
 have hxx:(x.map valV)[k]? =some (valV x[k]):=by rw[List.getElem?_map,List.getElem?_eq_getElem hx];rfl
 have hyy:(y.map valV)[k]? =some (valV y[k]):=by rw[List.getElem?_map,List.getElem?_eq_getElem hy];rfl
 have hl:=vLess_spec (m:=m) x[k] y[k]
 generalize x[k]=a at hxx hl ⊢
 generalize y[k]=b at hyy hl ⊢
 obtain⟨ak,ai,ar,ax⟩:=a
 obtain⟨bk',bi,br,bx⟩:=b
 dsimp only[valV]at hl hxx hyy
 cases t1:lessV ⟨ak,ai,ar,ax⟩ ⟨bk',bi,br,bx⟩with
 |true=>
  rw[if_pos rfl]
  rw[t1]at hl
  refine spec_intro [] _ Tryz.func118 rfl Tryz.ntmps118 (by rfl) (fun w0 R=>?_)
  refine ok_learn (VwIn.slice (VwIn.here hu)) ?_
  rintro⟨pu,cu,rfl⟩
  refine ok_learn (VwIn.base (VwIn.here hu) (by intro e;rw[e]at hnx;simp at hnx)) ?_
  rintro⟨bu,ou,rfl⟩
  refine ok_learn (VwIn.slice (VwIn.here hw)) ?_
  rintro⟨pw,cw,rfl⟩
  refine ok_learn (VwIn.base (VwIn.here hw) (by intro e;rw[e]at hny;simp at hny)) ?_
  rintro⟨bw,ow,rfl⟩
  repeat'(first|(refine gY ?_;intros)|(refine hY ?_ ?_<;>intro hgd)|(refine jY ?_ ?_<;>intro _)|fail)
  refine cl_Y (hl) ?_
  intro _ _
  repeat'(first|(refine gY ?_;intros)|(refine hY ?_ ?_<;>intro hgd)|(refine jY ?_ ?_<;>intro _)|fail)
  (refine rt_Y (y:=()) (hrs:=Tryz.results118) (hv:=?_) (hφ:=?_))
  ·rfl
  ·trivial
 |false=>
  rw[if_neg (by simp)]
  rw[t1]at hl
  refine spec_intro [] _ Tryz.func118 rfl Tryz.ntmps118 (by rfl) (fun w0 R=>?_)
  refine ok_learn (VwIn.slice (VwIn.here hu)) ?_
  rintro⟨pu,cu,rfl⟩
  refine ok_learn (VwIn.base (VwIn.here hu) (by intro e;rw[e]at hnx;simp at hnx)) ?_
  rintro⟨bu,ou,rfl⟩
  refine ok_learn (VwIn.slice (VwIn.here hw)) ?_
  rintro⟨pw,cw,rfl⟩
  refine ok_learn (VwIn.base (VwIn.here hw) (by intro e;rw[e]at hny;simp at hny)) ?_
  rintro⟨bw,ow,rfl⟩
  repeat'(first|(refine gY ?_;intros)|(refine hY ?_ ?_<;>intro hgd)|(refine jY ?_ ?_<;>intro _)|fail)
  refine cl_Y (hl) ?_
  intro _ _
  repeat'(first|(refine gY ?_;intros)|(refine hY ?_ ?_<;>intro hgd)|(refine jY ?_ ?_<;>intro _)|fail)
  (refine rt_Y (y:=()) (hrs:=Tryz.results118) (hv:=?_) (hφ:=?_))
  ·rfl
  ·trivial
end Go.Proofs.YtmnafjonbeihiaaGreatDoor
