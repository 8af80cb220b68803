/- Texts merged: SbP StD. -/
import Derived.Test.YtmnafjonbeihiaaGreatDoorG15
import Derived.Test.YtmnafjonbeihiaaGreatDoorK2
set_option linter.unusedSimpArgs false
set_option linter.unusedVariables false
namespace Go.Pl
open Go Go.Fx
abbrev tl(s:BA):List UInt8:=s.data.toList
theorem tl_inj{a b:BA}(h:tl a=tl b):a=b:=ByteArray.ext (Array.ext' h)
theorem tl_app(a b:BA):tl (a++b)=tl a++tl b:=by unfold tl;rw[ByteArray.data_append,Array.toList_append]
theorem tl_ext(s:BA)(a b:Nat):tl (s.extract a b)=((tl s).drop a).take (b-a):=by
 unfold tl;rw[ByteArray.data_extract,Array.toList_extract,List.extract_eq_take_drop]
theorem tl_len(s:BA):(tl s).length=s.size:=by rw[Array.length_toList];rfl
theorem putL_len(v n:Nat):(putL v n).length=n:=by simp[putL]
theorem valN_putL(v:Nat):∀ n,valN (putL v n)=v % 256 ^ n
 |0=>by rw[Nat.pow_zero,Nat.mod_one];rfl
 |n+1=>by
  have e:putL v (n+1)=putL v n++[byteN v n]:=by unfold putL;rw[List.range_succ,List.map_append];rfl
  have hb:(byteN v n).toNat=v / 256 ^ n % 256:=by
   unfold byteN
   rw[show(2:Nat) ^ (8*n)=256 ^ n by rw[Nat.pow_mul]]
   simp
  rw[e,valN_app,valN_putL v n,putL_len,Nat.pow_succ,Nat.mod_mul]
  simp[valN,hb]
theorem valB_numB{v n:Nat}(h:v<256 ^ n):valB (numB v n)=(v:Int):=by
 unfold valB
 rw[show(numB v n).data.toList=putL v n from rfl,valN_putL,Nat.mod_eq_of_lt h]
theorem u64N_ok{x:Int}(h0:0≤x)(h1:x≤18446744073709551615):((u64N x:Nat):Int)=x:=by
 unfold u64N
 obtain⟨n,rfl⟩:=Int.eq_ofNat_of_zero_le h0
 rw[wrap64 n (by omega)]
 simp
theorem b8_ok{x:Int}(h0:0≤x)(h1:x≤255):((b8 x).toNat:Int)=x:=by
 obtain⟨n,rfl⟩:=Int.eq_ofNat_of_zero_le h0
 have hn:n<256:=by omega
 unfold b8 IntKind.wrap
 rw[if_neg (by simp[IntKind.signed])]
 have e4:(2:Int) ^ IntKind.u8.bits=256:=rfl
 rw[e4]
 have e5:(((n:Nat):Int) % 256)=((n:Nat):Int):=by omega
 rw[e5,Int.toNat_natCast]
 have:(UInt8.ofNat n).toNat=n % 256:=by simp
 rw[this,Nat.mod_eq_of_lt hn]
theorem num_back{x:Int}{n:Nat}(h0:0≤x)(h1:x<256 ^ n)(hn:n≤8):valB (numB (u64N x) n)=x:=by
 have hx:x<256 ^ 8:=by
  have h2:(256:Nat) ^ n≤256 ^ 8:=Nat.pow_le_pow_right (by decide) hn
  have h3:((256:Int) ^ n)=((256 ^ n:Nat):Int):=by rw[Int.natCast_pow];rfl
  have h4:((256:Int) ^ 8)=((256 ^ 8:Nat):Int):=by rw[Int.natCast_pow];rfl
  omega
 have e:=u64N_ok h0 (by
   have:(256:Int) ^ 8=18446744073709551616:=by decide
   omega)
 rw[valB_numB,e]
 have h3:((256:Int) ^ n)=((256 ^ n:Nat):Int):=by rw[Int.natCast_pow];rfl
 omega
end Go.Pl
set_option maxRecDepth 100000
namespace Go.Proofs.YtmnafjonbeihiaaGreatDoor
open Go Go.Fx Go.Proofs Go.Pl
theorem get64_spec(s:BA)(h1:1≤s.size)(h8:s.size≤8):FSpec Tryz.prog 196 [.string s] [] Unit (fun _=>True) (fun _=>.int .u64 (valB s)) (fun _=>[]):=by
 have hg:=wget_spec s h1 h8
 rw[getL_valB s h8]at hg
 refine spec_intro [] _ Tryz.func196 rfl Tryz.ntmps196 (by rfl) (fun w0 R=>?_)
 repeat'(first|(refine gY ?_;intros)|(refine hY ?_ ?_<;>intro hgd)|(refine jY ?_ ?_<;>intro _)|fail)
 refine cl_Y (hg) ?_
 intro _ _
 repeat'(first|(refine gY ?_;intros)|(refine hY ?_ ?_<;>intro hgd)|(refine jY ?_ ?_<;>intro _)|fail)
 (refine rt_Y (y:=()) (hrs:=Tryz.results196) (hv:=?_) (hφ:=?_))
 ·rfl
 ·trivial
theorem i64_small{x:Int}(h0:0≤x)(h1:x≤9223372036854775807):IntKind.i64.wrap x=x:=by
 exact wrap_i64 (by omega) h1
theorem getI_spec(s:BA)(h2:s.size=2):FSpec Tryz.prog 197 [.string s] [] Unit (fun _=>True) (fun _=>.int .i64 (valB s)) (fun _=>[]):=by
 have hg:=wget_spec s (by omega) (by omega)
 rw[getL_valB s (by omega)]at hg
 obtain⟨r1,r2⟩:=valB_rng s 2 h2
 have hw:IntKind.i64.wrap (valB s)=valB s:=i64_small r1 (by omega)
 refine spec_intro [] _ Tryz.func197 rfl Tryz.ntmps197 (by rfl) (fun w0 R=>?_)
 repeat'(first|(refine gY ?_;intros)|(refine hY ?_ ?_<;>intro hgd)|(refine jY ?_ ?_<;>intro _)|fail)
 refine cl_Y (hg) ?_
 intro _ _
 repeat'(first|(refine gY ?_;intros)|(refine hY ?_ ?_<;>intro hgd)|(refine jY ?_ ?_<;>intro _)|fail)
 (refine rt_Y (y:=()) (hrs:=Tryz.results197) (hv:=?_) (hφ:=?_))
 ·rfl
 ·trivial
theorem emp_size(b:BA):(b.toList==(⟨#[]⟩:ByteArray).toList)=decide (b.size=0):=by
 rw[eqS_decide,decide_eq_decide]
 constructor
 ·rintro rfl;rfl
 ·intro h
  apply ByteArray.ext
  exact Array.eq_empty_of_size_eq_zero h
end Go.Proofs.YtmnafjonbeihiaaGreatDoor
