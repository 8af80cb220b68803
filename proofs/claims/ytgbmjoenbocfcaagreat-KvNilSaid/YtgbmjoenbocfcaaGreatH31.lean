/- Texts merged: FrA Sb. -/
import Derived.Test.YtgbmjoenbocfcaaGreatG2
import Derived.Test.YtgbmjoenbocfcaaGreatY
set_option linter.unusedSimpArgs false
set_option linter.unusedVariables false
set_option maxRecDepth 100000
namespace Go.Proofs.YtgbmjoenbocfcaaGreat
open Go Go.Fx Go.Proofs Go.Pl
theorem fits4(v:Nat)(h:v<4294967296):fitsB v 4 8=true:=by
 unfold fitsB
 have e:shiftOf .shr .u64 (v:Int) (4*8)=0:=by
  have e1:min (((4:Int)*8).toNat) IntKind.u64.bits=32:=by decide
  show(v:Int).fdiv (2 ^ (min ((4:Int)*8).toNat IntKind.u64.bits))=0
  rw[e1,Int.fdiv_eq_ediv_of_nonneg _ (by decide)]
  exact Int.ediv_eq_zero_of_lt (by omega) (by omega)
 rw[e];rfl
theorem wrap_u64(v:Nat)(h:v<18446744073709551616):IntKind.u64.wrap (v:Int)=(v:Int):=by
 have e4:(2:Int) ^ IntKind.u64.bits=18446744073709551616:=rfl
 unfold IntKind.wrap
 simp only[e4]
 rw[if_neg (by simp[IntKind.signed])]
 omega
theorem fput_spec(v:Nat)(h:v<4294967296):FSpec Tryz.prog 180 [.int .u32 v] [] Unit (fun _=>True) (fun _=>.string ⟨(putL v 4).toArray⟩) (fun _=>[]):=by
 have hw:=wrap_u64 v (by omega)
 refine spec_intro [] _ Tryz.func180 rfl Tryz.ntmps180 (by rfl) (fun w0 R=>?_)
 repeat'(first|(refine gY ?_;intros)|(refine hY ?_ ?_<;>intro hgd)|(refine jY ?_ ?_<;>intro _)|fail)
 refine cl_Y (put_spec v 4 (by omega) (by omega) (by omega) (fits4 v h)) ?_
 intro _ _
 repeat'(first|(refine gY ?_;intros)|(refine hY ?_ ?_<;>intro hgd)|(refine jY ?_ ?_<;>intro _)|fail)
 (refine rt_Y (y:=()) (hrs:=Tryz.results180) (hv:=?_) (hφ:=?_))
 ·rfl
 ·trivial
def put4(v:Nat):ByteArray:=⟨(putL v 4).toArray⟩
theorem put4_size(v:Nat):(put4 v).size=4:=by show(putL v 4).toArray.size=4;simp[putL]
theorem bits_nat(op:BinOp)(a b:Int):0≤bitsOf op .u32 a b∧bitsOf op .u32 a b<4294967296:=by
 have key:∀ n:Int,0≤IntKind.u32.wrap n∧IntKind.u32.wrap n<4294967296:=by
  intro n
  have e4:(2:Int) ^ IntKind.u32.bits=4294967296:=rfl
  unfold IntKind.wrap
  simp only[e4]
  rw[if_neg (by simp[IntKind.signed])]
  omega
 exact key _
def sumN(s:ByteArray):Nat:=(sumS s).toNat
theorem sumN_eq(s:ByteArray):sumS s=(sumN s:Int)∧sumN s<4294967296:=by
 have h:=bits_nat .xor (if IntKind.u32.signed then -1 else IntKind.u32.max) (sumL s.data.toList s.size)
 have h':0≤sumS s∧sumS s<4294967296:=h
 unfold sumN
 omega
theorem fput4_spec(v:Nat)(h:v<4294967296):FSpec Tryz.prog 180 [.int .u32 v] [] Unit (fun _=>True) (fun _=>.string (put4 v)) (fun _=>[]):=fput_spec v h
def frameOf(s:ByteArray):ByteArray:=put4 s.size++put4 (sumN (put4 s.size))++put4 (sumN s)++s
theorem fPut_spec(s:ByteArray)(h:s.size≤4194304):FSpec Tryz.prog 152 [.string s] [] Unit (fun _=>True) (fun _=>.tuple #[.string (frameOf s),.int .i64 0]) (fun _=>[]):=by
 have t1:decide ((4194304:Int)<(s.size:Int))=false:=by simp;omega
 have hw:IntKind.u32.wrap (s.size:Int)=(s.size:Int):=by
  have e4:(2:Int) ^ IntKind.u32.bits=4294967296:=rfl
  unfold IntKind.wrap
  simp only[e4]
  rw[if_neg (by simp[IntKind.signed])]
  omega
 have z0:=put4_size s.size
 have z1:=put4_size (sumN (put4 s.size))
 have z2:=put4_size (sumN s)
 have z3:(put4 s.size++put4 (sumN (put4 s.size))).size=8:=by rw[ByteArray.size_append,z0,z1]
 have z4:(put4 s.size++put4 (sumN (put4 s.size))++put4 (sumN s)).size=12:=by rw[ByteArray.size_append,z3,z2]
 refine spec_intro [] _ Tryz.func152 rfl Tryz.ntmps152 (by rfl) (fun w0 R=>?_)
 repeat'(first|(refine gY ?_;intros)|(refine hY ?_ ?_<;>intro hgd)|(refine jY ?_ ?_<;>intro _)|fail)
 refine cl_Y (fput4_spec s.size (by omega)) ?_
 intro _ _
 repeat'(first|(refine gY ?_;intros)|(refine hY ?_ ?_<;>intro hgd)|(refine jY ?_ ?_<;>intro _)|fail)
 refine cl_Y (sum_spec (put4 s.size) (by omega)) ?_
 intro _ _
 rw[(sumN_eq (put4 s.size)).1]
 repeat'(first|(refine gY ?_;intros)|(refine hY ?_ ?_<;>intro hgd)|(refine jY ?_ ?_<;>intro _)|fail)
 refine cl_Y (fput4_spec (sumN (put4 s.size)) (sumN_eq _).2) ?_
 intro _ _
 repeat'(first|(refine gY ?_;intros)|(refine hY ?_ ?_<;>intro hgd)|(refine jY ?_ ?_<;>intro _)|fail)
 refine cl_Y (sum_spec s (by omega)) ?_
 intro _ _
 rw[(sumN_eq s).1]
 repeat'(first|(refine gY ?_;intros)|(refine hY ?_ ?_<;>intro hgd)|(refine jY ?_ ?_<;>intro _)|fail)
 refine cl_Y (fput4_spec (sumN s) (sumN_eq _).2) ?_
 intro _ _
 repeat'(first|(refine gY ?_;intros)|(refine hY ?_ ?_<;>intro hgd)|(refine jY ?_ ?_<;>intro _)|fail)
 (refine rt_Y (y:=()) (hrs:=Tryz.results152) (hv:=?_) (hφ:=?_))
 ·rfl
 ·trivial
end Go.Proofs.YtgbmjoenbocfcaaGreat
namespace Go.Proofs.YtgbmjoenbocfcaaGreat
open Go Go.Fx Go.Proofs
instance noEsc:SameI Tryz.prog 179:=⟨fun x w=>by
 have h:=run_callFunc_extern (P:=Tryz.prog) (f:=179) (fn:=Tryz.f179) (e:=Extern.AbiNoEscape.same) (by kernel_rfl) (by kernel_rfl) (by kernel_rfl) (by kernel_rfl) (by kernel_rfl) #[x] w
 rw[h,Lib.run_noEscape];rfl⟩
theorem copyCheck_fresh(b:Nat)(v:Value):FSpec Tryz.prog 151 [.pointer (some ⟨b,0,none⟩)] [pts b (.cells [.pointer none,v].toArray 165)] Unit (fun _=>True) (fun _=>.tuple #[]) (fun _=>[pts b (.cells [.pointer (some ⟨b,0,none⟩),v].toArray 165)]):=by
 refine spec_intro [163] _ Tryz.func151 rfl Tryz.ntmps151 (by rfl) (fun w0 R=>?_)
 repeat'(first|(refine gY ?_;intros)|(refine hY ?_ ?_<;>intro hgd)|(refine jY ?_ ?_<;>intro _)|fail)
 refine ops_run (s_toUnsafe rfl rfl rfl memD (by simp) rfl rfl ?_)
 refine ops_run (s_same rfl rfl rfl ?_)
 refine ops_run (s_fromUnsafe rfl rfl memD (by kernel_rfl) rfl rfl ?_)
 repeat'(first|(refine gY ?_;intros)|(refine hY ?_ ?_<;>intro hgd)|(refine jY ?_ ?_<;>intro _)|fail)
 (refine rt_Y (y:=()) (hrs:=Tryz.results151) (hv:=?_) (hφ:=?_))
 ·rfl
 ·trivial
theorem copyCheck_used(b:Nat)(v:Value):FSpec Tryz.prog 151 [.pointer (some ⟨b,0,none⟩)] [pts b (.cells [.pointer (some ⟨b,0,none⟩),v].toArray 165)] Unit (fun _=>True) (fun _=>.tuple #[]) (fun _=>[pts b (.cells [.pointer (some ⟨b,0,none⟩),v].toArray 165)]):=by
 refine spec_intro [] _ Tryz.func151 rfl Tryz.ntmps151 (by rfl) (fun w0 R=>?_)
 repeat'(first|(refine gY ?_;intros)|(refine hY ?_ ?_<;>intro hgd)|(refine jY ?_ ?_<;>intro _)|fail)
 (refine rt_Y (y:=()) (hrs:=Tryz.results151) (hv:=?_) (hφ:=?_))
 ·rfl
 ·trivial
def bldM(b:Nat)(s:ByteArray)(x:Bool×{v:Value // v.oneCell'=true}):List HProp:=[pts b (.cells [.pointer (bif x.1 then some ⟨b,0,none⟩else none),x.2.1].toArray 165),row 5 1 x.2.1 (bytesV s)]
def bldP(b:Nat)(s:ByteArray):HProp:=exP (bldM b s)
theorem bld_new{b:Nat}{L:List HProp}{h:Frag}(s:SatL (pts b (.cells [.pointer none,.slice none 0 0].toArray 165)::L) h):SatL (bldP b ⟨#[]⟩::L) h:=
 ex_in (M:=bldM b ⟨#[]⟩) (false,⟨.slice none 0 0,rfl⟩) rfl
  (s.consMono fun _ k=>satL_emp (A:=row 5 1 (.slice none 0 0) []) ⟨fun _ hx=>by simp at hx,.inl ⟨rfl,rfl⟩⟩ k)
theorem bld_in{b:Nat}{s:ByteArray}{v:Value}(hv:v.oneCell'=true){L:List HProp}{h:Frag}(k:SatL (pts b (.cells [.pointer (some ⟨b,0,none⟩),v].toArray 165)::row 5 1 v (bytesV s)::L) h):SatL (bldP b s::L) h:=
 ex_in (M:=bldM b s) (true,⟨v,hv⟩) rfl k
theorem writeString_spec(b:Nat)(s u:ByteArray)(hs:s.size+u.size≤140737488355328):FSpec Tryz.prog 103 [.pointer (some ⟨b,0,none⟩),.string u] [bldP b s] Unit (fun _=>True) (fun _=>.tuple #[.int .i64 u.size,.nilIface]) (fun _=>[bldP b (s++u)]):=by
 have hl:=bytesV_len s
 refine spec_intro [] _ Tryz.func103 rfl Tryz.ntmps103 (by rfl) (fun w0 R=>?_)
 (refine ok_ex selD ?_)
 rintro⟨f,⟨v,hv⟩⟩
 cases f with
 |false=>
  dsimp only[bldM,cond_false]
  repeat'(first|(refine gY ?_;intros)|(refine hY ?_ ?_<;>intro hgd)|(refine jY ?_ ?_<;>intro _)|fail)
  refine cl_Y (copyCheck_fresh b v) ?_
  intro _ _
  repeat'(first|(refine gY ?_;intros)|(refine hY ?_ ?_<;>intro hgd)|(refine jY ?_ ?_<;>intro _)|fail)
  rename_i v' hv'
  rw[bytesV_app]
  refine cont_map (fun _ h=>bld_in hv' (Take.out2 takeD h)) ?_
  (refine rt_Y (y:=()) (hrs:=Tryz.results103) (hv:=?_) (hφ:=?_))
  ·rfl
  ·trivial
 |true=>
  dsimp only[bldM,cond_true]
  repeat'(first|(refine gY ?_;intros)|(refine hY ?_ ?_<;>intro hgd)|(refine jY ?_ ?_<;>intro _)|fail)
  refine cl_Y (copyCheck_used b v) ?_
  intro _ _
  repeat'(first|(refine gY ?_;intros)|(refine hY ?_ ?_<;>intro hgd)|(refine jY ?_ ?_<;>intro _)|fail)
  rename_i v' hv'
  rw[bytesV_app]
  refine cont_map (fun _ h=>bld_in hv' (Take.out2 takeD h)) ?_
  (refine rt_Y (y:=()) (hrs:=Tryz.results103) (hv:=?_) (hφ:=?_))
  ·rfl
  ·trivial
theorem row_cases{e:Nat}{v:Value}{xs:List (List Value)}{L R:List HProp}(t:Take L [row e 1 v xs] R)(h:Frag)(s:SatL L h):(v= .slice none 0 0∧xs=[])∨∃ g cap,v= .slice (some ⟨g,0,none⟩) xs.length cap∧xs.length≤cap:=by
 obtain⟨_,_,_,_,_,⟨g,hr⟩,_⟩:=t.out s
 rcases hr with hr|⟨b,cap,rest,rfl,hl,_⟩
 ·exact .inl hr
 ·refine .inr ⟨b,cap,rfl,?_⟩
  rw[List.length_append,g.flatten_length]at hl
  omega
theorem string_spec(b:Nat)(s:ByteArray)(hs:s.size≤9223372036854775807):FSpec Tryz.prog 104 [.pointer (some ⟨b,0,none⟩)] [bldP b s] Unit (fun _=>True) (fun _=>.string s) (fun _=>[]):=by
 have hl:=bytesV_len s
 refine spec_intro [] _ Tryz.func104 rfl Tryz.ntmps104 (by rfl) (fun w0 R=>?_)
 (refine ok_ex selD ?_)
 rintro⟨f,⟨v,hv⟩⟩
 dsimp only[bldM]
 generalize (Value.pointer (bif f then some ⟨b,0,none⟩else none))=p
 refine ok_learn (row_cases takeD) ?_
 rintro(⟨rfl,hn⟩|⟨g,cap,rfl,hcap⟩)
 ·have hs0:s=⟨#[]⟩:=by
   have:s.size=0:=by rw[← hl,hn];rfl
   exact ByteArray.ext (Array.eq_empty_of_size_eq_zero this)
  subst hs0
  repeat'(first|(refine gY ?_;intros)|(refine hY ?_ ?_<;>intro hgd)|(refine jY ?_ ?_<;>intro _)|fail)
  (apply ok_draw [4];(focus(kernel_rfl));(focus((conv=>lhs;whnf);first|done|rfl));(focus(decide +kernel));(focus(exact(fun _ h=>h))))
  repeat'(first|(refine gY ?_;intros)|(refine hY ?_ ?_<;>intro hgd)|(refine jY ?_ ?_<;>intro _)|fail)
  refine ops_run (s_sliceData_nil_nb rfl rfl (fun _ h=>h) ?_)
  repeat'(first|(refine gY ?_;intros)|(refine hY ?_ ?_<;>intro hgd)|(refine jY ?_ ?_<;>intro _)|fail)
  refine ops_run (s_unsafeString_none rfl rfl rfl rfl ?_)
  repeat'(first|(refine gY ?_;intros)|(refine hY ?_ ?_<;>intro hgd)|(refine jY ?_ ?_<;>intro _)|fail)
  (refine rt_Y (y:=()) (hrs:=Tryz.results104) (hv:=?_) (hφ:=?_))
  ·rfl
  ·trivial
 ·cases cap with
  |zero=>
   have hs0:s=⟨#[]⟩:=by
    have:s.size=0:=by omega
    exact ByteArray.ext (Array.eq_empty_of_size_eq_zero this)
   subst hs0
   repeat'(first|(refine gY ?_;intros)|(refine hY ?_ ?_<;>intro hgd)|(refine jY ?_ ?_<;>intro _)|fail)
   (apply ok_draw [4];(focus(kernel_rfl));(focus((conv=>lhs;whnf);first|done|rfl));(focus(decide +kernel));(focus(exact(fun _ h=>h))))
   repeat'(first|(refine gY ?_;intros)|(refine hY ?_ ?_<;>intro hgd)|(refine jY ?_ ?_<;>intro _)|fail)
   refine ops_run (s_sliceData_zero_nb rfl selD rfl (fun _ h=>h) ?_)
   intro b'
   repeat'(first|(refine gY ?_;intros)|(refine hY ?_ ?_<;>intro hgd)|(refine jY ?_ ?_<;>intro _)|fail)
   refine ops_run (s_unsafeString_none rfl rfl rfl rfl ?_)
   repeat'(first|(refine gY ?_;intros)|(refine hY ?_ ?_<;>intro hgd)|(refine jY ?_ ?_<;>intro _)|fail)
   (refine rt_Y (y:=()) (hrs:=Tryz.results104) (hv:=?_) (hφ:=?_))
   ·rfl
   ·trivial
  |succ c=>
   repeat'(first|(refine gY ?_;intros)|(refine hY ?_ ?_<;>intro hgd)|(refine jY ?_ ?_<;>intro _)|fail)
   (apply ok_draw [4];(focus(kernel_rfl));(focus((conv=>lhs;whnf);first|done|rfl));(focus(decide +kernel));(focus(exact(fun _ h=>h))))
   repeat'(first|(refine gY ?_;intros)|(refine hY ?_ ?_<;>intro hgd)|(refine jY ?_ ?_<;>intro _)|fail)
   refine ops_run (s_sliceData_row_nb rfl (by simp) rfl (fun _ h=>h) ?_)
   by_cases h0:s.size=0
   ·have hs0:s=⟨#[]⟩:=ByteArray.ext (Array.eq_empty_of_size_eq_zero h0)
    subst hs0
    repeat'(first|(refine gY ?_;intros)|(refine hY ?_ ?_<;>intro hgd)|(refine jY ?_ ?_<;>intro _)|fail)
    refine ops_run (s_unsafeString_none rfl rfl rfl rfl ?_)
    repeat'(first|(refine gY ?_;intros)|(refine hY ?_ ?_<;>intro hgd)|(refine jY ?_ ?_<;>intro _)|fail)
    (refine rt_Y (y:=()) (hrs:=Tryz.results104) (hv:=?_) (hφ:=?_))
    ·rfl
    ·trivial
   ·rw[hl]
    repeat'(first|(refine gY ?_;intros)|(refine hY ?_ ?_<;>intro hgd)|(refine jY ?_ ?_<;>intro _)|fail)
    refine ops_run (s_unsafeString_row (s:=s) rfl rfl rfl (by kernel_rfl) h0 hs selD rfl rfl ?_)
    repeat'(first|(refine gY ?_;intros)|(refine hY ?_ ?_<;>intro hgd)|(refine jY ?_ ?_<;>intro _)|fail)
    (refine rt_Y (y:=()) (hrs:=Tryz.results104) (hv:=?_) (hφ:=?_))
    ·rfl
    ·trivial
end Go.Proofs.YtgbmjoenbocfcaaGreat
