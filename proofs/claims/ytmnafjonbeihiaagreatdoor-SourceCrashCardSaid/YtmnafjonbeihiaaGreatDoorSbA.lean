import Derived.Test.YtmnafjonbeihiaaGreatDoorSbU
import Derived.Test.YtmnafjonbeihiaaGreatDoorH41
import Derived.Test.YtmnafjonbeihiaaGreatDoorFwFw
set_option linter.unusedSimpArgs false
set_option linter.unusedVariables false
set_option maxRecDepth 100000
namespace Go.Proofs.YtmnafjonbeihiaaGreatDoor
open Go Go.Fx Go.Proofs Go.Pl
theorem caught_idle(p:Addr):Idle Tryz.prog 237 [.pointer (some p)]:=by
 intro w
 refine callsDIn_of_wpSIn Tryz.func237 rfl trivial fun c₀ cs hu=>?_
 apply wpSIn_seq
 apply wpSIn_region
 simp[wpOpsSIn,go_sem,recoverD,hu,Tryz.ntmps237,Exit.thenS,Fw,Oper.about]
 refine wpSIn_of_wpIn rfl (wpIn_block (wpIn_seq (wpIn_region ?_)))
 simp[wpOpsIn,Oper.wpIn,Oper.semAt,Oper.uponIn,Oper.about,go_sem,Exit.then]
 refine wpIn_cond (t:=true) (by simp[Act.eval]) ?_
 simp only[if_true]
 apply wpIn_region
 simp[wpOpsIn,Oper.wpIn,Oper.semAt,Oper.uponIn,Oper.about,go_sem,Exit.inBlock]
 cases c₀
 simp_all [bodyPostS,results,Tryz.results237]
abbrev rdP(b:Nat)(s:BA)(i:Nat):HProp:=pts b (.cells [.string s,.int .i64 (i:Int)].toArray 311)
theorem take_spec(b:Nat)(s:BA)(i k:Nat)(h:i+k≤s.size)(hs:s.size≤1000000):
  FSpec Tryz.prog 238 [.pointer (some ⟨b,0,none⟩),.int .i64 (k:Int)] [rdP b s i] Unit (fun _=>True) (fun _=>.string (s.extract i (i+k))) (fun _=>[rdP b s (i+k)]):=by
 have hc:decide ((s.size:Int)-(i:Int)<(k:Int))=false:=by rw[decide_eq_false_iff_not];omega
 have hr:(0:Int)≤(i:Int)+(k:Int)-(k:Int)∧(i:Int)+(k:Int)-(k:Int)≤(i:Int)+(k:Int)∧(i:Int)+(k:Int)≤(s.size:Int):=⟨by omega,by omega,by omega⟩
 refine spec_intro [] _ Tryz.func238 rfl Tryz.ntmps238 (by rfl) (fun w0 R=>?_)
 repeat'(first|(refine gY ?_;intros)|(refine hY ?_ ?_<;>intro hgd)|(refine jY ?_ ?_<;>intro _)|fail)
 (refine rt_Y (y:=()) (hrs:=Tryz.results238) (hv:=?_) (hφ:=?_))
 ·show Value.string (s.extract _ _)=Value.string (s.extract i (i+k))
  congr 2<;>omega
 ·trivial
theorem number_spec(b:Nat)(s:BA)(i:Nat)(h:i+8≤s.size)(hs:s.size≤1000000):
  FSpec Tryz.prog 261 [.pointer (some ⟨b,0,none⟩)] [rdP b s i] Unit (fun _=>True) (fun _=>.int .u64 (valB (s.extract i (i+8)))) (fun _=>[rdP b s (i+8)]):=by
 have ht:=take_spec b s i 8 h hs
 have hz:(s.extract i (i+8)).size=8:=by rw[ByteArray.size_extract];omega
 have hg:=wget_spec (s.extract i (i+8)) (by omega) (by omega)
 rw[getL_valB _ (by omega)]at hg
 refine spec_intro [] _ Tryz.func261 rfl Tryz.ntmps261 (by rfl) (fun w0 R=>?_)
 repeat'(first|(refine gY ?_;intros)|(refine hY ?_ ?_<;>intro hgd)|(refine jY ?_ ?_<;>intro _)|fail)
 refine cl_Y (ht) ?_
 intro _ _
 repeat'(first|(refine gY ?_;intros)|(refine hY ?_ ?_<;>intro hgd)|(refine jY ?_ ?_<;>intro _)|fail)
 refine cl_Y (hg) ?_
 intro _ _
 repeat'(first|(refine gY ?_;intros)|(refine hY ?_ ?_<;>intro hgd)|(refine jY ?_ ?_<;>intro _)|fail)
 (refine rt_Y (y:=()) (hrs:=Tryz.results261) (hv:=?_) (hφ:=?_))
 ·rfl
 ·trivial
end Go.Proofs.YtmnafjonbeihiaaGreatDoor
