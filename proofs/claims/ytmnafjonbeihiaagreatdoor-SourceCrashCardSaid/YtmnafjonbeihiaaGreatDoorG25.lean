/- Texts merged: SbB SbC SbD. -/
import Derived.Test.YtmnafjonbeihiaaGreatDoorSbA
import Derived.Test.YtmnafjonbeihiaaGreatDoorSlvd
import Derived.Test.YtmnafjonbeihiaaGreatDoorG15
import Derived.Test.YtmnafjonbeihiaaGreatDoorFwFv
import Derived.Test.YtmnafjonbeihiaaGreatDoorK8
set_option linter.unusedSimpArgs false
set_option linter.unusedVariables false
set_option maxRecDepth 100000
namespace Go.Proofs.YtmnafjonbeihiaaGreatDoor
open Go Go.Fx Go.Proofs Go.Pl
theorem decode_spec(s:BA)(A:HProp)(hA:UT A):FSpec Tryz.prog 282 [.string s] [A] Unit (fun _=>True) (fun _=>.tuple #[.int .i32 (Lib.decodeGo s).1,.int .i64 (Lib.decodeGo s).2]) (fun _=>[A]):=by
 intro w0 w R hsat
 have hT:=hA w (Sats.head hsat)
 refine(Any.utf8_DecodeRuneInString Tryz.laysDecode s w hT).mono ?_
 rintro e w' ⟨rfl,hB⟩
 exact⟨(),trivial,rfl,sats_below hsat hB⟩
theorem opens_spec(s:BA)(n:Int)(A:HProp)(hA:UT A)(hv:validS s=true)(hs:s.size≤1000000):FSpec Tryz.prog 277 [.string s,.int .i64 n] [A] Unit (fun _=>True) (fun _=>.bool true) (fun _=>[A]):=by
 have hz:s.data.toList.length=s.size:=tl_len s
 refine spec_intro [] _ Tryz.func277 rfl Tryz.ntmps277 (by rfl) (fun w0 R=>?_)
 repeat'(first|(refine gY ?_;intros)|(refine hY ?_ ?_<;>intro hgd)|(refine jY ?_ ?_<;>intro _)|fail)
 refine ok_loop' (γ:=Nat) (fun i ρ L=>i≤s.size∧Lib.validD ((tl s).drop i)=true∧Knows ρ [(0,.string s),(1,.int .i64 n),(5,.int .i64 (i:Int))]∧L=[A]++R) (fun i=>s.size-i) 0 ⟨by omega,hv,⟨rfl,rfl,rfl,trivial⟩,rfl⟩ ?_
 rintro i ρ L ⟨hi,hval,hk,rfl⟩
 refine ok_regs hk ?_
 cases t1:decide ((i:Int)<(s.size:Int))with
 |false=>
  repeat'(first|(refine gY ?_;intros)|(refine hY ?_ ?_<;>intro hgd)|(refine jY ?_ ?_<;>intro _)|fail)
  (refine rt_Y (y:=()) (hrs:=Tryz.results277) (hv:=?_) (hφ:=?_))
  ·rfl
  ·trivial
 |true=>
  have h0:i<s.size:=by have:=of_decide_eq_true t1;omega
  obtain⟨c,z,hcz,hne,hz1,hz2,hnx⟩:=valid_at h0 hval
  have hd:=decode_spec (s.extract i s.size) A hA
  rw[hcz]at hd
  have hr:(0:Int)≤(i:Int)∧(i:Int)≤(s.size:Int):=⟨by omega,by omega⟩
  repeat'(first|(refine gY ?_;intros)|(refine hY ?_ ?_<;>intro hgd)|(refine jY ?_ ?_<;>intro _)|fail)
  refine cl_Y (hd) ?_
  intro _ _
  cases u1:decide ((c:Int)=65533)with
  |false=>
   repeat'(first|(refine gY ?_;intros)|(refine hY ?_ ?_<;>intro hgd)|(refine jY ?_ ?_<;>intro _)|fail)
   refine cont_back (i+z) ⟨hz2,hnx,⟨rfl,rfl,rfl,trivial⟩,rfl⟩ (by omega)
  |true=>
   have u2:decide ((z:Int)=1)=false:=by
    rw[decide_eq_false_iff_not]
    intro e
    exact hne ⟨by have:=of_decide_eq_true u1;omega,by omega⟩
   repeat'(first|(refine gY ?_;intros)|(refine hY ?_ ?_<;>intro hgd)|(refine jY ?_ ?_<;>intro _)|fail)
   refine cont_back (i+z) ⟨hz2,hnx,⟨rfl,rfl,rfl,trivial⟩,rfl⟩ (by omega)
theorem oneB_get(k:Int):(oneB k).data.toList[0]? =some (b8 k):=rfl
theorem conv_one{k:Int}(h0:0≤k)(h1:k≤255):IntKind.i64.wrap ((b8 k).toNat:Int)=k:=by
 rw[b8_ok h0 h1];exact wrap_i64 (by omega) (by omega)
set_option maxHeartbeats 4000000 in
theorem text_spec(b:Nat)(s t:BA)(i:Nat)(vd:Bool)(A:HProp)(hA:UT A)(h:At s i (oneB t.size++t))(hs:s.size≤1000000)(ht:t.size≤100)(hv:vd=true→validS t=true):
  FSpec Tryz.prog 262 [.pointer (some ⟨b,0,none⟩),.bool vd] [rdP b s i,A] Unit (fun _=>True) (fun _=>.string t) (fun _=>[rdP b s (i+1+t.size),A]):=by
 have h1:=h.left
 have h2:=h.right
 rw[oneB_size]at h2
 have hle:=h2.le
 have hx2:=h2.ext
 have ht1:=take_spec b s i 1 (by omega) hs
 rw[oneB_at h1]at ht1
 have ht2:=take_spec b s (i+1) t.size (by omega) hs
 rw[hx2]at ht2
 have hg:=oneB_get (t.size:Int)
 have hw:=conv_one (k:=(t.size:Int)) (by omega) (by omega)
 have hr:(0:Int)≤((i+1:Nat):Int)∧((i+1:Nat):Int)≤(s.size:Int):=⟨by omega,by omega⟩
 have hc:decide ((100:Int)<(t.size:Int))=false:=by rw[decide_eq_false_iff_not];omega
 cases vd with
 |false=>
  refine spec_intro [] _ Tryz.func262 rfl Tryz.ntmps262 (by rfl) (fun w0 R=>?_)
  repeat'(first|(refine gY ?_;intros)|(refine hY ?_ ?_<;>intro hgd)|(refine jY ?_ ?_<;>intro _)|fail)
  refine cl_Y (ht1) ?_
  intro _ _
  repeat'(first|(refine gY ?_;intros)|(refine hY ?_ ?_<;>intro hgd)|(refine jY ?_ ?_<;>intro _)|fail)
  refine cl_Y (ht2) ?_
  intro _ _
  repeat'(first|(refine gY ?_;intros)|(refine hY ?_ ?_<;>intro hgd)|(refine jY ?_ ?_<;>intro _)|fail)
  (refine rt_Y (y:=()) (hrs:=Tryz.results262) (hv:=?_) (hφ:=?_))
  ·rfl
  ·trivial
 |true=>
  have ho:=opens_spec t (t.size:Int) A hA (hv rfl) (by omega)
  have hz:(s.extract (i+1) s.size).size=s.size-(i+1):=by rw[ByteArray.size_extract];omega
  have hx3:(s.extract (i+1) s.size).extract 0 t.size=t:=by rw[ext_ext _ _ _ (by omega)];exact hx2
  have hx4:(s.extract ((i+1:Nat):Int).toNat s.size).extract 0 (if(((s.extract ((i+1:Nat):Int).toNat s.size).size:Nat):Int)<(t.size:Int)then(((s.extract ((i+1:Nat):Int).toNat s.size).size:Nat):Int)else(t.size:Int)).toNat=t:=by
   rw[Int.toNat_natCast,hz,if_neg (by omega),Int.toNat_natCast];exact hx3
  refine spec_intro [] _ Tryz.func262 rfl Tryz.ntmps262 (by rfl) (fun w0 R=>?_)
  repeat'(first|(refine gY ?_;intros)|(refine hY ?_ ?_<;>intro hgd)|(refine jY ?_ ?_<;>intro _)|fail)
  refine cl_Y (ht1) ?_
  intro _ _
  repeat'(first|(refine gY ?_;intros)|(refine hY ?_ ?_<;>intro hgd)|(refine jY ?_ ?_<;>intro _)|fail)
  rw[hx4]
  refine cl_Y (ho) ?_
  intro _ _
  repeat'(first|(refine gY ?_;intros)|(refine hY ?_ ?_<;>intro hgd)|(refine jY ?_ ?_<;>intro _)|fail)
  refine cl_Y (ht2) ?_
  intro _ _
  repeat'(first|(refine gY ?_;intros)|(refine hY ?_ ?_<;>intro hgd)|(refine jY ?_ ?_<;>intro _)|fail)
  (refine rt_Y (y:=()) (hrs:=Tryz.results262) (hv:=?_) (hφ:=?_))
  ·rfl
  ·trivial
theorem checkV_cases{v:Vl}(h:checkV v=true)(hw:v.wf):v=⟨0,0,0,⟨#[]⟩⟩∨(∃ i:Int,(i=0∨i=1)∧v=⟨1,i,0,⟨#[]⟩⟩)∨(∃ i:Int, -9223372036854775808≤i∧i≤9223372036854775807∧v=⟨2,i,0,⟨#[]⟩⟩)∨
  (∃ r:Int,0≤r∧r≤18446744073709551615∧v=⟨3,0,r,⟨#[]⟩⟩)∨(∃ t:BA,t.size≤100∧v=⟨4,0,0,t⟩)∨(∃ t:BA,t.size≤100∧validS t=true∧v=⟨5,0,0,t⟩):=by
 unfold checkV at h
 cases hq:wantV v with
 |none=>rw[hq]at h;cases h
 |some w=>
  rw[hq]at h
  simp only[Bool.and_eq_true,decide_eq_true_eq]at h
  obtain⟨he,hz⟩:=h
  unfold wantV at hq
  split at hq
  ·rw[← Option.some.inj hq]at he;exact .inl he
  split at hq
  ·split at hq
   ·cases hq
   ·rename_i hk hi
    rw[← Option.some.inj hq]at he
    refine .inr (.inl ⟨v.int,?_,he⟩)
    have h0:=hw.i0
    have h1:=hw.i1
    have e4:(2:Int) ^ IntKind.u64.bits=18446744073709551616:=rfl
    unfold IntKind.wrap at hi
    simp only[e4]at hi
    rw[if_neg (by simp[IntKind.signed])]at hi
    omega
  split at hq
  ·rw[← Option.some.inj hq]at he;exact .inr (.inr (.inl ⟨v.int,hw.i0,hw.i1,he⟩))
  split at hq
  ·rw[← Option.some.inj hq]at he
   have hr:=congrArg Vl.real he
   dsimp only at hr
   refine .inr (.inr (.inr (.inl ⟨v.real,hw.r0,hw.r1,?_⟩)))
   rw[← hr]at he
   exact he
  split at hq
  ·split at hq
   ·rename_i hvd
    rw[← Option.some.inj hq]at he
    exact .inr (.inr (.inr (.inr (.inr ⟨v.text,hz,hvd,he⟩))))
   ·cases hq
  split at hq
  ·rw[← Option.some.inj hq]at he;exact .inr (.inr (.inr (.inr (.inl ⟨v.text,hz,he⟩))))
  ·cases hq
theorem i64_back{i:Int}(h0: -9223372036854775808≤i)(h1:i≤9223372036854775807):IntKind.i64.wrap (valB (numB (u64N i) 8))=i:=by
 have hu:((u64N i:Nat):Int)=i % 18446744073709551616:=by
  unfold u64N IntKind.wrap
  have e4:(2:Int) ^ IntKind.u64.bits=18446744073709551616:=rfl
  simp only[e4]
  rw[if_neg (by simp[IntKind.signed])]
  omega
 have hlt:u64N i<256 ^ 8:=by
   have:(256:Nat) ^ 8=18446744073709551616:=by decide
   omega
 rw[valB_numB hlt,hu]
 unfold IntKind.wrap
 have e4:(2:Int) ^ IntKind.i64.bits=18446744073709551616:=rfl
 have e5:(2:Int) ^ (IntKind.i64.bits-1)=9223372036854775808:=rfl
 simp only[e4,e5]
 split
 ·rename_i h;simp only[IntKind.signed,Bool.true_and,decide_eq_true_eq]at h;omega
 ·rename_i h;simp only[IntKind.signed,Bool.true_and,decide_eq_true_eq]at h;omega
set_option maxHeartbeats 8000000 in
theorem rvalue_spec(b:Nat)(s:BA)(i:Nat)(v:Vl)(A:HProp)(hA:UT A)(h:At s i (putVB v))(hs:s.size≤1000000)(hc:checkV v=true)(hw:v.wf):
  FSpec Tryz.prog 239 [.pointer (some ⟨b,0,none⟩)] [rdP b s i,A] Unit (fun _=>True) (fun _=>.agg (valV v).toArray) (fun _=>[rdP b s (i+(putVB v).size),A]):=by
 have hck:=vCheck_spec v A hA hw
 rw[hc,if_pos rfl]at hck
 have e0:(!decide ((0:Int)=(0:Int)))=false:=by decide
 rcases checkV_cases hc hw with rfl|⟨n,hn,rfl⟩|⟨n,n0,n1,rfl⟩|⟨r,r0,r1,rfl⟩|⟨t,ht,rfl⟩|⟨t,ht,hv,rfl⟩
 ·have e:putVB ⟨0,0,0,⟨#[]⟩⟩=oneB 0:=rfl
  have hle:=h.le
  rw[e,oneB_size]at hle
  rw[e]at h
  rw[e,oneB_size]
  clear e
  have ht1:=take_spec b s i 1 hle hs
  rw[oneB_at h]at ht1
  have hg:=oneB_get 0
  have hb:((b8 0).toNat:Int)=0:=rfl
  dsimp only[valV]at hck ⊢
  refine spec_intro [] _ Tryz.func239 rfl Tryz.ntmps239 (by rfl) (fun w0 R=>?_)
  repeat'(first|(refine gY ?_;intros)|(refine hY ?_ ?_<;>intro hgd)|(refine jY ?_ ?_<;>intro _)|fail)
  refine cl_Y (ht1) ?_
  intro _ _
  repeat'(first|(refine ro_Y ?_;intros)|fail)
  rw[hb]
  repeat'(first|(refine gY ?_;intros)|(refine hY ?_ ?_<;>intro hgd)|(refine jY ?_ ?_<;>intro _)|fail)
  refine cl_Y (hck) ?_
  intro _ _
  repeat'(first|(refine gY ?_;intros)|(refine hY ?_ ?_<;>intro hgd)|(refine jY ?_ ?_<;>intro _)|fail)
  (refine rt_Y (y:=()) (hrs:=Tryz.results239) (hv:=?_) (hφ:=?_))
  ·rfl
  ·trivial
 ·have e:putVB ⟨1,n,0,⟨#[]⟩⟩=oneB 1++oneB n:=rfl
  rw[e]at h ⊢
  rw[ByteArray.size_append,oneB_size,oneB_size]
  have h2:=h.right
  rw[oneB_size]at h2
  have hle:=h2.le
  rw[oneB_size]at hle
  have ht1:=take_spec b s i 1 (by omega) hs
  rw[oneB_at h.left]at ht1
  have ht2:=take_spec b s (i+1) 1 (by omega) hs
  rw[oneB_at h2]at ht2
  have hg:=oneB_get 1
  have hg2:=oneB_get n
  have hb:((b8 1).toNat:Int)=1:=rfl
  have hb2:((b8 n).toNat:Int)=n:=b8_ok (by omega) (by omega)
  have hw2:IntKind.i64.wrap n=n:=wrap_i64 (by omega) (by omega)
  dsimp only[valV]at hck ⊢
  refine spec_intro [] _ Tryz.func239 rfl Tryz.ntmps239 (by rfl) (fun w0 R=>?_)
  repeat'(first|(refine gY ?_;intros)|(refine hY ?_ ?_<;>intro hgd)|(refine jY ?_ ?_<;>intro _)|fail)
  refine cl_Y (ht1) ?_
  intro _ _
  repeat'(first|(refine ro_Y ?_;intros)|fail)
  rw[hb]
  repeat'(first|(refine gY ?_;intros)|(refine hY ?_ ?_<;>intro hgd)|(refine jY ?_ ?_<;>intro _)|fail)
  refine cl_Y (ht2) ?_
  intro _ _
  repeat'(first|(refine ro_Y ?_;intros)|fail)
  rw[hb2,hw2]
  repeat'(first|(refine gY ?_;intros)|(refine hY ?_ ?_<;>intro hgd)|(refine jY ?_ ?_<;>intro _)|fail)
  refine cl_Y (hck) ?_
  intro _ _
  repeat'(first|(refine gY ?_;intros)|(refine hY ?_ ?_<;>intro hgd)|(refine jY ?_ ?_<;>intro _)|fail)
  (refine rt_Y (y:=()) (hrs:=Tryz.results239) (hv:=?_) (hφ:=?_))
  ·rfl
  ·trivial
 ·have e:putVB ⟨2,n,0,⟨#[]⟩⟩=oneB 2++numB (u64N n) 8:=rfl
  rw[e]at h ⊢
  rw[ByteArray.size_append,oneB_size,numB_size]
  have h2:=h.right
  rw[oneB_size]at h2
  have hle:=h2.le
  rw[numB_size]at hle
  have hx2:=h2.ext
  rw[numB_size]at hx2
  have ht1:=take_spec b s i 1 (by omega) hs
  rw[oneB_at h.left]at ht1
  have ht2:=number_spec b s (i+1) (by omega) hs
  rw[hx2]at ht2
  have hg:=oneB_get 2
  have hb:((b8 2).toNat:Int)=2:=rfl
  have hw2:=i64_back n0 n1
  dsimp only[valV]at hck ⊢
  refine spec_intro [] _ Tryz.func239 rfl Tryz.ntmps239 (by rfl) (fun w0 R=>?_)
  repeat'(first|(refine gY ?_;intros)|(refine hY ?_ ?_<;>intro hgd)|(refine jY ?_ ?_<;>intro _)|fail)
  refine cl_Y (ht1) ?_
  intro _ _
  repeat'(first|(refine ro_Y ?_;intros)|fail)
  rw[hb]
  repeat'(first|(refine gY ?_;intros)|(refine hY ?_ ?_<;>intro hgd)|(refine jY ?_ ?_<;>intro _)|fail)
  refine cl_Y (ht2) ?_
  intro _ _
  repeat'(first|(refine gY ?_;intros)|(refine hY ?_ ?_<;>intro hgd)|(refine jY ?_ ?_<;>intro _)|fail)
  refine cl_Y (hck) ?_
  intro _ _
  repeat'(first|(refine gY ?_;intros)|(refine hY ?_ ?_<;>intro hgd)|(refine jY ?_ ?_<;>intro _)|fail)
  (refine rt_Y (y:=()) (hrs:=Tryz.results239) (hv:=?_) (hφ:=?_))
  ·rfl
  ·trivial
 ·have e:putVB ⟨3,0,r,⟨#[]⟩⟩=oneB 3++numB (u64N r) 8:=rfl
  rw[e]at h ⊢
  rw[ByteArray.size_append,oneB_size,numB_size]
  have h2:=h.right
  rw[oneB_size]at h2
  have hle:=h2.le
  rw[numB_size]at hle
  have hx2:=h2.ext
  rw[numB_size]at hx2
  have ht1:=take_spec b s i 1 (by omega) hs
  rw[oneB_at h.left]at ht1
  have ht2:=number_spec b s (i+1) (by omega) hs
  rw[hx2,num_back r0 (by
   have:(256:Int) ^ 8=18446744073709551616:=by decide
   omega) (by omega)]at ht2
  have hg:=oneB_get 3
  have hb:((b8 3).toNat:Int)=3:=rfl
  dsimp only[valV]at hck ⊢
  refine spec_intro [] _ Tryz.func239 rfl Tryz.ntmps239 (by rfl) (fun w0 R=>?_)
  repeat'(first|(refine gY ?_;intros)|(refine hY ?_ ?_<;>intro hgd)|(refine jY ?_ ?_<;>intro _)|fail)
  refine cl_Y (ht1) ?_
  intro _ _
  repeat'(first|(refine ro_Y ?_;intros)|fail)
  rw[hb]
  repeat'(first|(refine gY ?_;intros)|(refine hY ?_ ?_<;>intro hgd)|(refine jY ?_ ?_<;>intro _)|fail)
  refine cl_Y (ht2) ?_
  intro _ _
  repeat'(first|(refine gY ?_;intros)|(refine hY ?_ ?_<;>intro hgd)|(refine jY ?_ ?_<;>intro _)|fail)
  refine cl_Y (hck) ?_
  intro _ _
  repeat'(first|(refine gY ?_;intros)|(refine hY ?_ ?_<;>intro hgd)|(refine jY ?_ ?_<;>intro _)|fail)
  (refine rt_Y (y:=()) (hrs:=Tryz.results239) (hv:=?_) (hφ:=?_))
  ·rfl
  ·trivial
 ·have e:putVB ⟨4,0,0,t⟩=oneB 4++(oneB t.size++t):=rfl
  rw[e]at h ⊢
  rw[ByteArray.size_append,ByteArray.size_append,oneB_size,oneB_size,show i+(1+(1+t.size))=i+1+1+t.size by omega]
  have h2:=h.right
  rw[oneB_size]at h2
  have hle:=h2.le
  have ht1:=take_spec b s i 1 (by omega) hs
  rw[oneB_at h.left]at ht1
  have ht2:=text_spec b s t (i+1) false A hA h2 hs ht (fun e=>by cases e)
  have hg:=oneB_get 4
  have hb:((b8 4).toNat:Int)=4:=rfl
  dsimp only[valV]at hck ⊢
  refine spec_intro [] _ Tryz.func239 rfl Tryz.ntmps239 (by rfl) (fun w0 R=>?_)
  repeat'(first|(refine gY ?_;intros)|(refine hY ?_ ?_<;>intro hgd)|(refine jY ?_ ?_<;>intro _)|fail)
  refine cl_Y (ht1) ?_
  intro _ _
  repeat'(first|(refine ro_Y ?_;intros)|fail)
  rw[hb]
  repeat'(first|(refine gY ?_;intros)|(refine hY ?_ ?_<;>intro hgd)|(refine jY ?_ ?_<;>intro _)|fail)
  refine cl_Y (ht2) ?_
  intro _ _
  repeat'(first|(refine gY ?_;intros)|(refine hY ?_ ?_<;>intro hgd)|(refine jY ?_ ?_<;>intro _)|fail)
  refine cl_Y (hck) ?_
  intro _ _
  repeat'(first|(refine gY ?_;intros)|(refine hY ?_ ?_<;>intro hgd)|(refine jY ?_ ?_<;>intro _)|fail)
  (refine rt_Y (y:=()) (hrs:=Tryz.results239) (hv:=?_) (hφ:=?_))
  ·rfl
  ·trivial
 ·have e:putVB ⟨5,0,0,t⟩=oneB 5++(oneB t.size++t):=rfl
  rw[e]at h ⊢
  rw[ByteArray.size_append,ByteArray.size_append,oneB_size,oneB_size,show i+(1+(1+t.size))=i+1+1+t.size by omega]
  have h2:=h.right
  rw[oneB_size]at h2
  have hle:=h2.le
  have ht1:=take_spec b s i 1 (by omega) hs
  rw[oneB_at h.left]at ht1
  have ht2:=text_spec b s t (i+1) true A hA h2 hs ht (fun _=>hv)
  have hg:=oneB_get 5
  have hb:((b8 5).toNat:Int)=5:=rfl
  dsimp only[valV]at hck ⊢
  refine spec_intro [] _ Tryz.func239 rfl Tryz.ntmps239 (by rfl) (fun w0 R=>?_)
  repeat'(first|(refine gY ?_;intros)|(refine hY ?_ ?_<;>intro hgd)|(refine jY ?_ ?_<;>intro _)|fail)
  refine cl_Y (ht1) ?_
  intro _ _
  repeat'(first|(refine ro_Y ?_;intros)|fail)
  rw[hb]
  repeat'(first|(refine gY ?_;intros)|(refine hY ?_ ?_<;>intro hgd)|(refine jY ?_ ?_<;>intro _)|fail)
  refine cl_Y (ht2) ?_
  intro _ _
  repeat'(first|(refine gY ?_;intros)|(refine hY ?_ ?_<;>intro hgd)|(refine jY ?_ ?_<;>intro _)|fail)
  refine cl_Y (hck) ?_
  intro _ _
  repeat'(first|(refine gY ?_;intros)|(refine hY ?_ ?_<;>intro hgd)|(refine jY ?_ ?_<;>intro _)|fail)
  (refine rt_Y (y:=()) (hrs:=Tryz.results239) (hv:=?_) (hφ:=?_))
  ·rfl
  ·trivial
set_option maxHeartbeats 8000000 in
theorem getRow_spec(s:BA)(l:List Vl)(A:HProp)(hA:UT A)(h:At s 0 (putRB l))(hs:s.size≤1000000)(hr:rowB l=true)(hwf:∀ v∈l,v.wf):
  FSpec Tryz.prog 198 [.string s] [A] V1s (fun _=>True) (fun y=>.tuple #[y.1,.int .i64 ((putRB l).size:Int),.int .i64 0]) (fun y=>[row 93 4 y.1 (l.map valV),A]):=by
 obtain⟨h1,hv⟩:=row_at h
 have hle:=h.le
 have hsz:=row_size l
 have hrw:=hr
 unfold rowB at hrw
 simp only[Bool.and_eq_true,decide_eq_true_eq,List.all_eq_true]at hrw
 obtain⟨hl1,hl8,hck⟩:=hrw
 have hpos:=putRB_pos l
 have hg:=oneB_get (l.length:Int)
 have hw:=conv_one (k:=(l.length:Int)) (by omega) (by omega)
 have hc1:decide ((l.length:Int)<1)=false:=by rw[decide_eq_false_iff_not];omega
 have hc2:decide ((8:Int)<(l.length:Int))=false:=by rw[decide_eq_false_iff_not];omega
 refine spec_intro [] _ Tryz.func198 rfl Tryz.ntmps198 (by rfl) (fun w0 R=>?_)
 refine ok_seq ?_
 refine ok_region ?_
 repeat'(first|(refine ro_Y ?_;intros)|fail)
 rename_i b4
 refine cont_then ?_
 refine ok_seq ?_
 refine ok_defer [.pointer (some ⟨b4,0,none⟩)] rfl (.cons rfl .nil) ?_
 refine cont_then ?_
 repeat'(first|(refine gY ?_;intros)|(refine hY ?_ ?_<;>intro hgd)|(refine jY ?_ ?_<;>intro _)|fail)
 rename_i b5
 have ht1:=take_spec b5 s 0 1 (by omega) hs
 rw[oneB_at h1]at ht1
 refine cl_Y (ht1) ?_
 intro _ _
 repeat'(first|(refine gY ?_;intros)|(refine hY ?_ ?_<;>intro hgd)|(refine jY ?_ ?_<;>intro _)|fail)
 refine ok_map (fun _ h=>nilRow (e:=93) (n:=4) h) ?_
 refine ok_map (L':=[rdP b5 s (1+offV l 0),row 93 4 (.slice none 0 0) ((l.take 0).map valV),pts b4 (.cells [.int .i64 0].toArray 34),A]++R) (by rw[show 1+offV l 0=0+1 from rfl,List.take_zero,List.map_nil];exact entD) ?_
 refine ok_loop' (γ:=Nat×V1s) (fun g ρ L=>g.1≤l.length∧Knows ρ [(4,.pointer (some ⟨b4,0,none⟩)),(5,.pointer (some ⟨b5,0,none⟩)),(7,g.2.1),(22,.int .i64 (l.length:Int)),(23,.int .i64 (g.1:Int))]∧
   L=[rdP b5 s (1+offV l g.1),row 93 4 g.2.1 ((l.take g.1).map valV),pts b4 (.cells [.int .i64 0].toArray 34),A]++R) (fun g=>l.length-g.1) (0,⟨.slice none 0 0,rfl⟩) ⟨by omega,⟨rfl,rfl,rfl,rfl,rfl,trivial⟩,rfl⟩ ?_
 rintro⟨j,⟨v,hvv⟩⟩ ρ L ⟨hj,hk,rfl⟩
 dsimp only at hj hk ⊢
 refine ok_regs hk ?_
 cases t1:decide ((j:Int)<(l.length:Int))with
 |false=>
  have hje:j=l.length:=by have:=of_decide_eq_false t1;omega
  subst hje
  rw[List.take_length,← hsz]
  repeat'(first|(refine gY ?_;intros)|(refine hY ?_ ?_<;>intro hgd)|(refine jY ?_ ?_<;>intro _)|fail)
  refine cont_deferred (.inr rfl) (caught_idle _) ?_
  (refine rt_Y (y:=⟨v,hvv⟩) (hrs:=Tryz.results198) (hv:=?_) (hφ:=?_))
  ·rfl
  ·trivial
 |true=>
  have h0:j<l.length:=by have:=of_decide_eq_true t1;omega
  have hat:=hv j h0
  rw[Nat.zero_add]at hat
  have hrv:=rvalue_spec b5 s (1+offV l j) l[j] A hA hat hs (hck _ (List.getElem_mem h0)) (hwf _ (List.getElem_mem h0))
  rw[show 1+offV l j+(putVB l[j]).size=1+offV l (j+1)by rw[offV_succ h0];omega]at hrv
  have htk:(l.take (j+1)).map valV=(l.take j).map valV++[valV l[j]]:=by rw[List.take_succ_eq_append_getElem h0,List.map_append];rfl
  have hlj:(l.take j).length=j:=by rw[List.length_take];omega
  generalize l[j]=x at hrv htk
  obtain⟨k,i,r,t⟩:=x
  dsimp only[valV]at hrv htk
  repeat'(first|(refine gY ?_;intros)|(refine hY ?_ ?_<;>intro hgd)|(refine jY ?_ ?_<;>intro _)|fail)
  refine cl_Y (hrv) ?_
  intro _ _
  repeat'(first|(refine gY ?_;intros)|(refine hY ?_ ?_<;>intro hgd)|(refine jY ?_ ?_<;>intro _)|fail)
  rename_i v3 hv3 v4 hv4
  refine cont_map (L':=[rdP b5 s (1+offV l (j+1)),row 93 4 v4 ((l.take (j+1)).map valV),pts b4 (.cells [.int .i64 0].toArray 34),A]++R) (by rw[htk];exact entD) ?_
  refine cont_back (j+1,⟨v4,hv4⟩) ⟨h0,⟨rfl,rfl,rfl,rfl,rfl,trivial⟩,rfl⟩ (by show l.length-(j+1)<l.length-j;omega)
end Go.Proofs.YtmnafjonbeihiaaGreatDoor
namespace Go.Pl
open Go Go.Fx
theorem putEB_apart(tx k nth:Int)(c:Chg):putEB tx k nth c=numB (u64N tx) 8++(numB (u64N k) 2++(numB (u64N nth) 2++(oneB c.table++(oneB c.kind++rowsB (hasE c))))):=by
 unfold putEB
 rw[rowsB_pre]
 apply tl_inj
 simp only[tl_app,List.append_assoc]
 rfl
theorem At.get{s:BA}{i:Nat}{k:Int}(h:At s i (oneB k)):s.data.toList[i]? =some (b8 k):=by
 obtain⟨a,b,e,rfl⟩:=h
 rw[show s.data.toList=tl s from rfl,e,List.getElem?_append_right (Nat.le_refl _),Nat.sub_self]
 rfl
theorem At.end_{s t:BA}{i:Nat}(h:At s i t)(he:s.size=i+t.size):s.extract i s.size=t:=by rw[he];exact h.ext
theorem ext_right(a b:BA):(a++b).extract a.size (a++b).size=b:=by
 refine At.end_ (i:=a.size) ?_ (by rw[ByteArray.size_append])
 exact⟨tl a,[],by rw[tl_app,List.append_nil],tl_len a⟩
theorem notE_nil{k nth:Int}{c:Chg}(h:mayE k nth c=true):∀ l∈notE c,l=[]:=by
 unfold mayE at h
 simp only[Bool.and_eq_true,List.all_eq_true,decide_eq_true_eq]at h
 exact fun l hl=>List.eq_nil_of_length_eq_zero (Nat.le_zero.1 (h.2.2 l hl))
theorem hasE_len(c:Chg):1≤(hasE c).length∧(hasE c).length≤2:=by unfold hasE;split<;>(try split)<;>simp
theorem hasE_in{c:Chg}{l:List Vl}(h:l∈hasE c):l=c.bef∨l=c.aft:=by
 unfold hasE at h
 split at h
 ·exact .inr (List.mem_singleton.1 h)
 ·split at h
  ·exact .inl (List.mem_singleton.1 h)
  ·rcases List.mem_cons.1 h with h|h
   ·exact .inl h
   ·exact .inr (List.mem_singleton.1 h)
end Go.Pl
namespace Go.Proofs.YtmnafjonbeihiaaGreatDoor
open Go Go.Fx Go.Proofs Go.Pl
theorem Vw.nil{P:HProp}{n:Nat}:Vw P n (.slice none 0 0) []:=fun h hp=>⟨fun _ hx=>by simp at hx,none,0,rfl,.inl rfl,fun _=>rfl,fun _ _ e=>by cases e⟩
structure RdR(A:HProp) where
 rs:List Rw
 P:HProp
 ext:Ext A P
 vw:∀ x∈rs,Vw P 4 x.1.1 (x.2.map valV)
set_option maxHeartbeats 16000000 in
theorem evGet_spec(tx k nth:Int)(c:Chg)(A:HProp)(hU:UT A)(hm:mayE k nth c=true)(t0:0≤tx)(t1:tx≤18446744073709551615)(hwb:∀ v∈c.bef,v.wf)(hwa:∀ v∈c.aft,v.wf):
  FSpec Tryz.prog 160 [.string (putEB tx k nth c)] [A] (Cm×HProp) (fun y=>Ext A y.2∧CmR y.2 y.1∧y.1.c=c) (fun y=>.tuple #[.agg (emV ⟨tx,k,nth,y.1⟩).toArray,.int .i64 0]) (fun y=>[y.2]):=by
 obtain⟨k0,k1,b0,b1,tt0,tt1,n0,n1,hrow⟩:=mayE_all hm
 have hnot:=notE_nil hm
 obtain⟨hl1,hl2⟩:=hasE_len c
 have hin:=fun l=>@hasE_in c l
 have hrl:∀ l∈hasE c,l.length≤1000000:=fun l hl=>by
  have:=hrow l hl
  unfold rowB at this
  simp only[Bool.and_eq_true,decide_eq_true_eq]at this
  omega
 have hsz:=foldR_size hrow (⟨#[]⟩:BA)
 have hs0:(putEB tx k nth c).size=14+(rowsB (hasE c)).size:=by
  rw[putEB_apart]
  simp only[ByteArray.size_append,numB_size,oneB_size]
  omega
 have hs1:(rowsB (hasE c)).size≤1634:=by
  have:(rowsB (hasE c)).size≤(⟨#[]⟩:BA).size+817*(hasE c).length:=hsz
  have e:(⟨#[]⟩:BA).size=0:=rfl
  omega
 have hA0:At (putEB tx k nth c) 0 (putEB tx k nth c):=At.self _
 rw[show At (putEB tx k nth c) 0 (putEB tx k nth c)=At (putEB tx k nth c) 0 (numB (u64N tx) 8++(numB (u64N k) 2++(numB (u64N nth) 2++(oneB c.table++(oneB c.kind++rowsB (hasE c))))))by rw[← putEB_apart]]at hA0
 generalize putEB tx k nth c=s at hs0 hA0
 have hx1:=hA0.left.ext
 have hB:=hA0.right
 have hx2:=hB.left.ext
 have hC:=hB.right
 have hx3:=hC.left.ext
 have hD:=hC.right
 have hc12:=hD.left.get
 have hE:=hD.right
 have hc13:=hE.left.get
 have hF:=hE.right
 simp only[numB_size,oneB_size,Nat.zero_add,Nat.reduceAdd]at hx1 hx2 hx3 hc12 hc13 hF
 have hx4:=hF.end_ (by omega)
 clear hA0 hB hC hD hE hF
 have p16:(256:Int) ^ 2=65536:=by decide
 have p64:(256:Int) ^ 8=18446744073709551616:=by decide
 have hg1:=get64_spec (s.extract 0 8) (by rw[hx1,numB_size];omega) (by rw[hx1,numB_size];omega)
 rw[hx1,num_back t0 (by omega) (by omega),← hx1]at hg1
 have hg2:=getI_spec (s.extract 8 10) (by rw[hx2,numB_size])
 rw[hx2,num_back tt0 (by omega) (by omega),← hx2]at hg2
 have hg3:=getI_spec (s.extract 10 12) (by rw[hx3,numB_size])
 rw[hx3,num_back n0 (by omega) (by omega),← hx3]at hg3
 have hcv:=conv_one (k:=c.table) b0 (by omega)
 have hck:=b8_ok (x:=c.kind) (by omega) (by omega)
 have hr1:(0:Int)≤8∧(8:Int)≤(s.size:Int):=⟨by omega,by omega⟩
 have hr2:(0:Int)≤8∧(8:Int)≤10∧(10:Int)≤(s.size:Int):=⟨by omega,by omega,by omega⟩
 have hr3:(0:Int)≤10∧(10:Int)≤12∧(12:Int)≤(s.size:Int):=⟨by omega,by omega,by omega⟩
 have hr4:(0:Int)≤14∧(14:Int)≤(s.size:Int):=⟨by omega,by omega⟩
 have hlen:decide ((s.size:Int)<14)=false:=by rw[decide_eq_false_iff_not];omega
 have e0:(!decide ((0:Int)=(0:Int)))=false:=by decide
 refine spec_intro [] _ Tryz.func160 rfl Tryz.ntmps160 (by rfl) (fun w0 R=>?_)
 repeat'(first|(refine gY ?_;intros)|(refine hY ?_ ?_<;>intro hgd)|(refine jY ?_ ?_<;>intro _)|fail)
 rename_i b2
 refine ok_meetE (γ:=Nat) (fun b4 ρ L=>Knows ρ [(0,.string s),(2,.pointer (some ⟨b2,0,none⟩)),(3,.int .i64 0),(4,.pointer (some ⟨b4,0,none⟩))]∧
   L=[pts b2 (.cells [.int .u64 0,.int .i64 0,.int .i64 0,.int .u8 0,.int .i64 0,.slice none 0 0,.slice none 0 0].toArray 177),A,pts b4 (.cells [.int .u64 tx,.int .i64 k,.int .i64 nth,.int .u8 ((b8 c.kind).toNat:Int),.int .i64 c.table,.slice none 0 0,.slice none 0 0].toArray 177)]++R) ?_ ?_
 ·refine ok_draw_node (cv:=[]) 5 [2,5,8,16,17] [] (by kernel_rfl) rfl (by decide +kernel) (by decide +kernel) (by decide +kernel) (fun _ _=>trivial) _ rfl ?_
  refine node_have 0 [] (γ:=Nat) (fun b4 ρ L=>Knows ρ [(0,.string s),(2,.pointer (some ⟨b2,0,none⟩)),(3,.int .i64 0),(4,.pointer (some ⟨b4,0,none⟩))]∧L=[pts b2 (.cells [.int .u64 0,.int .i64 0,.int .i64 0,.int .u8 0,.int .i64 0,.slice none 0 0,.slice none 0 0].toArray 177),A,pts b4 (.cells [.int .u64 tx,.int .i64 k,.int .i64 nth,.int .u8 ((b8 c.kind).toNat:Int),.int .i64 c.table,.slice none 0 0,.slice none 0 0].toArray 177)]++R) ?_ ?_
  ·rintro b4 ρ L ⟨hk,rfl⟩
   refine cont_regs hk ?_
   refine cont_node0 (by decide +kernel) ?_
   repeat'(first|(refine gY ?_;intros)|fail)
   refine cont_map (L':=[pts b2 (.cells [.int .u64 0,.int .i64 0,.int .i64 0,.int .u8 0,.int .i64 0,.slice none 0 0,.slice none 0 0].toArray 177),A,pts b4 (.cells [.int .u64 tx,.int .i64 k,.int .i64 nth,.int .u8 ((b8 c.kind).toNat:Int),.int .i64 c.table,.slice none 0 0,.slice none 0 0].toArray 177)]++R) entD ?_
   exact cont_meet b4 ⟨⟨rfl,rfl,rfl,rfl,trivial⟩,rfl⟩
  intro n2_5_8_16_17
  refine node_have 1 [9,10,11,12,13,14,15,17] (γ:=Nat) (fun b4 ρ L=>Knows ρ [(0,.string s),(2,.pointer (some ⟨b2,0,none⟩)),(3,.int .i64 0),(18,.int .u64 tx),(21,.int .i64 k),(24,.int .i64 nth),(4,.pointer (some ⟨b4,0,none⟩))]∧L=[pts b2 (.cells [.int .u64 0,.int .i64 0,.int .i64 0,.int .u8 0,.int .i64 0,.slice none 0 0,.slice none 0 0].toArray 177),A,pts b4 (.cells [.int .u64 0,.int .i64 0,.int .i64 0,.int .u8 0,.int .i64 0,.slice none 0 0,.slice none 0 0].toArray 177)]++R) ?_ ?_
  ·rintro b4 ρ L ⟨hk,rfl⟩
   refine cont_regs hk ?_
   refine cont_node [] [(17,[9,10,11,12,13,14,15,17],[])] rfl (by decide +kernel) ?_
   refine nodeE1 ?_
   ·dsimp only[List.length_cons,List.length_nil]
    repeat'(first|(refine gY ?_;intros)|fail)
    refine cont_map (L':=[pts b2 (.cells [.int .u64 0,.int .i64 0,.int .i64 0,.int .u8 0,.int .i64 0,.slice none 0 0,.slice none 0 0].toArray 177),A,pts b4 (.cells [.int .u64 tx,.int .i64 k,.int .i64 nth,.int .u8 ((b8 c.kind).toNat:Int),.int .i64 c.table,.slice none 0 0,.slice none 0 0].toArray 177)]++R) entD ?_
    exact n2_5_8_16_17 b4 _ _ ⟨⟨rfl,rfl,rfl,rfl,trivial⟩,rfl⟩
  intro n2_5_8_16
  refine node_have 2 [9,10,11,12,13,14,15,16,17] (γ:=Nat) (fun b4 ρ L=>Knows ρ [(0,.string s),(2,.pointer (some ⟨b2,0,none⟩)),(3,.int .i64 0),(18,.int .u64 tx),(21,.int .i64 k),(24,.int .i64 nth)]∧L=[pts b2 (.cells [.int .u64 0,.int .i64 0,.int .i64 0,.int .u8 0,.int .i64 0,.slice none 0 0,.slice none 0 0].toArray 177),A]++R) ?_ ?_
  ·rintro b4 ρ L ⟨hk,rfl⟩
   refine cont_regs hk ?_
   refine cont_node [] [(16,[16],[9,10,11,12,13,14,15,17])] rfl (by decide +kernel) ?_
   refine nodeE1 ?_
   ·dsimp only[List.length_cons,List.length_nil]
    repeat'(first|(refine gY ?_;intros)|fail)
    rename_i w
    refine cont_map (L':=[pts b2 (.cells [.int .u64 0,.int .i64 0,.int .i64 0,.int .u8 0,.int .i64 0,.slice none 0 0,.slice none 0 0].toArray 177),A,pts w (.cells [.int .u64 0,.int .i64 0,.int .i64 0,.int .u8 0,.int .i64 0,.slice none 0 0,.slice none 0 0].toArray 177)]++R) entD ?_
    exact n2_5_8_16 w _ _ ⟨⟨rfl,rfl,rfl,rfl,rfl,rfl,rfl,trivial⟩,rfl⟩
  intro n2_5_8
  refine node_have 2 [6,7,8,9,10,11,12,13,14,15,17] (γ:=Nat) (fun b4 ρ L=>Knows ρ [(0,.string s),(2,.pointer (some ⟨b2,0,none⟩)),(3,.int .i64 0),(18,.int .u64 tx),(21,.int .i64 k),(4,.pointer (some ⟨b4,0,none⟩))]∧L=[pts b2 (.cells [.int .u64 0,.int .i64 0,.int .i64 0,.int .u8 0,.int .i64 0,.slice none 0 0,.slice none 0 0].toArray 177),A,pts b4 (.cells [.int .u64 0,.int .i64 0,.int .i64 0,.int .u8 0,.int .i64 0,.slice none 0 0,.slice none 0 0].toArray 177)]++R) ?_ ?_
  ·rintro b4 ρ L ⟨hk,rfl⟩
   refine cont_regs hk ?_
   refine cont_node [] [(8,[6,7,8],[9,10,11,12,13,14,15,17])] rfl (by decide +kernel) ?_
   refine nodeE1 ?_
   ·dsimp only[List.length_cons,List.length_nil]
    repeat'(first|(refine gY ?_;intros)|fail)
    refine clN_Y (hg3) ?_
    intro _ _
    repeat'(first|(refine gY ?_;intros)|fail)
    refine cont_map (L':=[pts b2 (.cells [.int .u64 0,.int .i64 0,.int .i64 0,.int .u8 0,.int .i64 0,.slice none 0 0,.slice none 0 0].toArray 177),A,pts b4 (.cells [.int .u64 0,.int .i64 0,.int .i64 0,.int .u8 0,.int .i64 0,.slice none 0 0,.slice none 0 0].toArray 177)]++R) entD ?_
    exact n2_5_8_16 b4 _ _ ⟨⟨rfl,rfl,rfl,rfl,rfl,rfl,rfl,trivial⟩,rfl⟩
  intro n2_5_16
  refine node_have 3 [6,7,8,9,10,11,12,13,14,15,16,17] (γ:=Nat) (fun b4 ρ L=>Knows ρ [(0,.string s),(2,.pointer (some ⟨b2,0,none⟩)),(3,.int .i64 0),(18,.int .u64 tx),(21,.int .i64 k)]∧L=[pts b2 (.cells [.int .u64 0,.int .i64 0,.int .i64 0,.int .u8 0,.int .i64 0,.slice none 0 0,.slice none 0 0].toArray 177),A]++R) ?_ ?_
  ·rintro b4 ρ L ⟨hk,rfl⟩
   refine cont_regs hk ?_
   refine cont_node [] [(8,[6,7,8],[9,10,11,12,13,14,15,16,17]),(16,[16],[6,7,8,9,10,11,12,13,14,15,17])] rfl (by decide +kernel) ?_
   refine nodeE2 ?_ ?_
   ·dsimp only[List.length_cons,List.length_nil]
    repeat'(first|(refine gY ?_;intros)|fail)
    refine clN_Y (hg3) ?_
    intro _ _
    repeat'(first|(refine gY ?_;intros)|fail)
    refine cont_map (L':=[pts b2 (.cells [.int .u64 0,.int .i64 0,.int .i64 0,.int .u8 0,.int .i64 0,.slice none 0 0,.slice none 0 0].toArray 177),A]++R) entD ?_
    exact n2_5_8 b4 _ _ ⟨⟨rfl,rfl,rfl,rfl,rfl,rfl,trivial⟩,rfl⟩
   ·dsimp only[List.length_cons,List.length_nil]
    repeat'(first|(refine gY ?_;intros)|fail)
    rename_i w
    refine cont_map (L':=[pts b2 (.cells [.int .u64 0,.int .i64 0,.int .i64 0,.int .u8 0,.int .i64 0,.slice none 0 0,.slice none 0 0].toArray 177),A,pts w (.cells [.int .u64 0,.int .i64 0,.int .i64 0,.int .u8 0,.int .i64 0,.slice none 0 0,.slice none 0 0].toArray 177)]++R) entD ?_
    exact n2_5_16 w _ _ ⟨⟨rfl,rfl,rfl,rfl,rfl,rfl,trivial⟩,rfl⟩
  intro n2_5
  refine node_have 3 [3,4,5,6,7,8,9,10,11,12,13,14,15,17] (γ:=Nat) (fun b4 ρ L=>Knows ρ [(0,.string s),(2,.pointer (some ⟨b2,0,none⟩)),(3,.int .i64 0),(18,.int .u64 tx),(4,.pointer (some ⟨b4,0,none⟩))]∧L=[pts b2 (.cells [.int .u64 0,.int .i64 0,.int .i64 0,.int .u8 0,.int .i64 0,.slice none 0 0,.slice none 0 0].toArray 177),A,pts b4 (.cells [.int .u64 0,.int .i64 0,.int .i64 0,.int .u8 0,.int .i64 0,.slice none 0 0,.slice none 0 0].toArray 177)]++R) ?_ ?_
  ·rintro b4 ρ L ⟨hk,rfl⟩
   refine cont_regs hk ?_
   refine cont_node [] [(5,[3,4,5],[6,7,8,9,10,11,12,13,14,15,17])] rfl (by decide +kernel) ?_
   refine nodeE1 ?_
   ·dsimp only[List.length_cons,List.length_nil]
    repeat'(first|(refine gY ?_;intros)|fail)
    refine clN_Y (hg2) ?_
    intro _ _
    repeat'(first|(refine gY ?_;intros)|fail)
    refine cont_map (L':=[pts b2 (.cells [.int .u64 0,.int .i64 0,.int .i64 0,.int .u8 0,.int .i64 0,.slice none 0 0,.slice none 0 0].toArray 177),A,pts b4 (.cells [.int .u64 0,.int .i64 0,.int .i64 0,.int .u8 0,.int .i64 0,.slice none 0 0,.slice none 0 0].toArray 177)]++R) entD ?_
    exact n2_5_16 b4 _ _ ⟨⟨rfl,rfl,rfl,rfl,rfl,rfl,trivial⟩,rfl⟩
  intro n2_16
  refine node_have 4 [3,4,5,6,7,8,9,10,11,12,13,14,15,16,17] (γ:=Nat) (fun b4 ρ L=>Knows ρ [(0,.string s),(2,.pointer (some ⟨b2,0,none⟩)),(3,.int .i64 0),(18,.int .u64 tx)]∧L=[pts b2 (.cells [.int .u64 0,.int .i64 0,.int .i64 0,.int .u8 0,.int .i64 0,.slice none 0 0,.slice none 0 0].toArray 177),A]++R) ?_ ?_
  ·rintro b4 ρ L ⟨hk,rfl⟩
   refine cont_regs hk ?_
   refine cont_node [] [(5,[3,4,5],[6,7,8,9,10,11,12,13,14,15,16,17]),(16,[16],[3,4,5,6,7,8,9,10,11,12,13,14,15,17])] rfl (by decide +kernel) ?_
   refine nodeE2 ?_ ?_
   ·dsimp only[List.length_cons,List.length_nil]
    repeat'(first|(refine gY ?_;intros)|fail)
    refine clN_Y (hg2) ?_
    intro _ _
    repeat'(first|(refine gY ?_;intros)|fail)
    refine cont_map (L':=[pts b2 (.cells [.int .u64 0,.int .i64 0,.int .i64 0,.int .u8 0,.int .i64 0,.slice none 0 0,.slice none 0 0].toArray 177),A]++R) entD ?_
    exact n2_5 b4 _ _ ⟨⟨rfl,rfl,rfl,rfl,rfl,trivial⟩,rfl⟩
   ·dsimp only[List.length_cons,List.length_nil]
    repeat'(first|(refine gY ?_;intros)|fail)
    rename_i w
    refine cont_map (L':=[pts b2 (.cells [.int .u64 0,.int .i64 0,.int .i64 0,.int .u8 0,.int .i64 0,.slice none 0 0,.slice none 0 0].toArray 177),A,pts w (.cells [.int .u64 0,.int .i64 0,.int .i64 0,.int .u8 0,.int .i64 0,.slice none 0 0,.slice none 0 0].toArray 177)]++R) entD ?_
    exact n2_16 w _ _ ⟨⟨rfl,rfl,rfl,rfl,rfl,trivial⟩,rfl⟩
  intro n2
  refine node_have 4 [0,1,2,3,4,5,6,7,8,9,10,11,12,13,14,15,17] (γ:=Nat) (fun b4 ρ L=>Knows ρ [(0,.string s),(2,.pointer (some ⟨b2,0,none⟩)),(3,.int .i64 0),(4,.pointer (some ⟨b4,0,none⟩))]∧L=[pts b2 (.cells [.int .u64 0,.int .i64 0,.int .i64 0,.int .u8 0,.int .i64 0,.slice none 0 0,.slice none 0 0].toArray 177),A,pts b4 (.cells [.int .u64 0,.int .i64 0,.int .i64 0,.int .u8 0,.int .i64 0,.slice none 0 0,.slice none 0 0].toArray 177)]++R) ?_ ?_
  ·rintro b4 ρ L ⟨hk,rfl⟩
   refine cont_regs hk ?_
   refine cont_node [] [(2,[0,1,2],[3,4,5,6,7,8,9,10,11,12,13,14,15,17])] rfl (by decide +kernel) ?_
   refine nodeE1 ?_
   ·dsimp only[List.length_cons,List.length_nil]
    repeat'(first|(refine gY ?_;intros)|fail)
    refine clN_Y (hg1) ?_
    intro _ _
    repeat'(first|(refine gY ?_;intros)|fail)
    refine cont_map (L':=[pts b2 (.cells [.int .u64 0,.int .i64 0,.int .i64 0,.int .u8 0,.int .i64 0,.slice none 0 0,.slice none 0 0].toArray 177),A,pts b4 (.cells [.int .u64 0,.int .i64 0,.int .i64 0,.int .u8 0,.int .i64 0,.slice none 0 0,.slice none 0 0].toArray 177)]++R) entD ?_
    exact n2_16 b4 _ _ ⟨⟨rfl,rfl,rfl,rfl,rfl,trivial⟩,rfl⟩
  intro n16
  refine cont_node [] [(2,[0,1,2],[3,4,5,6,7,8,9,10,11,12,13,14,15,16,17]),(16,[16],[0,1,2,3,4,5,6,7,8,9,10,11,12,13,14,15,17])] rfl (by decide +kernel) ?_
  refine nodeE2 ?_ ?_
  ·dsimp only[List.length_cons,List.length_nil]
   repeat'(first|(refine gY ?_;intros)|fail)
   refine clN_Y (hg1) ?_
   intro _ _
   repeat'(first|(refine gY ?_;intros)|fail)
   refine cont_map (L':=[pts b2 (.cells [.int .u64 0,.int .i64 0,.int .i64 0,.int .u8 0,.int .i64 0,.slice none 0 0,.slice none 0 0].toArray 177),A]++R) entD ?_
   exact n2 0 _ _ ⟨⟨rfl,rfl,rfl,rfl,trivial⟩,rfl⟩
  ·dsimp only[List.length_cons,List.length_nil]
   repeat'(first|(refine gY ?_;intros)|fail)
   rename_i w
   refine cont_map (L':=[pts b2 (.cells [.int .u64 0,.int .i64 0,.int .i64 0,.int .u8 0,.int .i64 0,.slice none 0 0,.slice none 0 0].toArray 177),A,pts w (.cells [.int .u64 0,.int .i64 0,.int .i64 0,.int .u8 0,.int .i64 0,.slice none 0 0,.slice none 0 0].toArray 177)]++R) entD ?_
   exact n16 w _ _ ⟨⟨rfl,rfl,rfl,rfl,trivial⟩,rfl⟩
 rintro b4 ρ L ⟨hk,rfl⟩
 refine cont_regs hk ?_
 rw[hck]
 repeat'(first|(refine gY ?_;intros)|(refine hY ?_ ?_<;>intro hgd)|(refine jY ?_ ?_<;>intro _)|fail)
 have hz4:s.extract (Int.toNat 14) s.size=rowsB ((hasE c).drop 0):=by rw[List.drop_zero];exact hx4
 rw[hz4]
 clear hx1 hx2 hx3 hx4 hc12 hc13 hg1 hg2 hg3 hcv hck hr1 hr2 hr3 hr4 hlen hz4 hs0 hsz
 obtain⟨kd,tb,bf,af⟩:=c
 dsimp only at k0 k1 b0 b1 hwb hwa hin ⊢
 refine ok_map (fun _ h=>nilRow (e:=22) (n:=1) h) ?_
 refine ok_map (L':=[row 22 1 (.slice none 0 0) (([]:List Rw).map rwV),pts b2 (.cells [.int .u64 0,.int .i64 0,.int .i64 0,.int .u8 0,.int .i64 0,.slice none 0 0,.slice none 0 0].toArray 177),A,pts b4 (.cells [.int .u64 tx,.int .i64 k,.int .i64 nth,.int .u8 kd,.int .i64 tb,.slice none 0 0,.slice none 0 0].toArray 177)]++R) entD ?_
 refine ok_loop' (γ:=Nat×RdR A×V1s) (fun g ρ L=>g.1≤(hasE ⟨kd,tb,bf,af⟩).length∧g.2.1.rs.map (·.2)=(hasE ⟨kd,tb,bf,af⟩).take g.1∧Knows ρ [(2,.pointer (some ⟨b2,0,none⟩)),(3,.int .i64 0),(4,.pointer (some ⟨b4,0,none⟩)),(5,g.2.2.1),(6,.string (rowsB ((hasE ⟨kd,tb,bf,af⟩).drop g.1)))]∧
   L=[row 22 1 g.2.2.1 (g.2.1.rs.map rwV),pts b2 (.cells [.int .u64 0,.int .i64 0,.int .i64 0,.int .u8 0,.int .i64 0,.slice none 0 0,.slice none 0 0].toArray 177),g.2.1.P,pts b4 (.cells [.int .u64 tx,.int .i64 k,.int .i64 nth,.int .u8 kd,.int .i64 tb,.slice none 0 0,.slice none 0 0].toArray 177)]++R) (fun g=>(hasE ⟨kd,tb,bf,af⟩).length-g.1) (0,⟨[],A,Ext.refl A,fun _ h=>by simp at h⟩,⟨.slice none 0 0,rfl⟩) ⟨by omega,by simp,⟨rfl,rfl,rfl,rfl,rfl,trivial⟩,rfl⟩ ?_
 rintro⟨j,⟨rs,P,hE,hvw⟩,⟨v,hv⟩⟩ ρ L ⟨hj,hrs,hk,rfl⟩
 dsimp only at hE hvw hj hrs hk ⊢
 refine ok_regs hk ?_
 have hUP:=hU.ext hE
 have hjr:rs.length=j:=by have:=congrArg List.length hrs;rw[List.length_map,List.length_take]at this;omega
 have lr:(rs.map rwV).length=rs.length:=by simp
 by_cases h0:j<(hasE ⟨kd,tb,bf,af⟩).length
 ·have hdr:=List.drop_eq_getElem_cons h0
  have hr:=hrow _ (List.getElem_mem h0)
  have hwr:∀ v∈(hasE ⟨kd,tb,bf,af⟩)[j],v.wf:=by
   rcases hin _ (List.getElem_mem h0)with e|e
   ·rw[e];exact hwb
   ·rw[e];exact hwa
  have htk:(hasE ⟨kd,tb,bf,af⟩).take (j+1)=(hasE ⟨kd,tb,bf,af⟩).take j++[(hasE ⟨kd,tb,bf,af⟩)[j]]:=List.take_succ_eq_append_getElem h0
  have hfs:=foldR_size (ls:=(hasE ⟨kd,tb,bf,af⟩).drop j) (fun l hl=>hrow l (List.mem_of_mem_drop hl)) (⟨#[]⟩:BA)
  have hz:(rowsB ((hasE ⟨kd,tb,bf,af⟩).drop j)).size≤1000000:=by
   have e:(⟨#[]⟩:BA).size=0:=rfl
   have:(rowsB ((hasE ⟨kd,tb,bf,af⟩).drop j)).size≤(⟨#[]⟩:BA).size+817*((hasE ⟨kd,tb,bf,af⟩).drop j).length:=hfs
   rw[List.length_drop]at this
   omega
  rw[hdr,rowsB_cons]at hz ⊢
  generalize (hasE ⟨kd,tb,bf,af⟩)[j]=r at hr hwr htk hz
  generalize hT:rowsB ((hasE ⟨kd,tb,bf,af⟩).drop (j+1))=T at hz
  have hgr:=getRow_spec (putRB r++T) r P hUP (At.all _ _).left hz hr hwr
  have hpos:=putRB_pos r
  have hext:=ext_right (putRB r) T
  have hzz:(putRB r++T).size=(putRB r).size+T.size:=ByteArray.size_append
  have hne:(!((putRB r++T).toList==(⟨#[]⟩:ByteArray).toList))=true:=by
   rw[emp_size,Bool.not_eq_true',decide_eq_false_iff_not];omega
  have h2:decide (((rs.map rwV).length:Int)=2)=false:=by rw[decide_eq_false_iff_not];omega
  have hsl:(0:Int)≤((putRB r).size:Int)∧((putRB r).size:Int)≤((putRB r++T).size:Int):=⟨by omega,by omega⟩
  repeat'(first|(refine gY ?_;intros)|(refine hY ?_ ?_<;>intro hgd)|(refine jY ?_ ?_<;>intro _)|fail)
  refine cl_Y (hgr) ?_
  rintro⟨v1,hv1⟩ _
  dsimp only
  refine ops_learn (rowShapeS (e:=93) (n:=4) (v:=v1) (xs:=r.map valV) (by decide) takeD) ?_
  rintro⟨p1,c1,rfl,_,_⟩
  refine ops_poolN (ty:=93) (n:=4) (v:=.slice p1 (r.map valV).length c1) (xs:=r.map valV) (P:=P) takeD ?_
  intro P' hE' hvw'
  repeat'(first|(refine gY ?_;intros)|(refine hY ?_ ?_<;>intro hgd)|(refine jY ?_ ?_<;>intro _)|fail)
  rename_i v3 hv3 v4 hv4
  rw[show(putRB r++T).extract ((putRB r).size:Int).toNat (putRB r++T).size=T from hext,← hT]
  refine cont_map (L':=[row 22 1 v4 ((rs++[((⟨.slice p1 (r.map valV).length c1,hv1⟩:V1s),r)]).map rwV),pts b2 (.cells [.int .u64 0,.int .i64 0,.int .i64 0,.int .u8 0,.int .i64 0,.slice none 0 0,.slice none 0 0].toArray 177),P',pts b4 (.cells [.int .u64 tx,.int .i64 k,.int .i64 nth,.int .u8 kd,.int .i64 tb,.slice none 0 0,.slice none 0 0].toArray 177)]++R) (by rw[List.map_append];exact entD) ?_
  refine cont_back (j+1,⟨rs++[((⟨.slice p1 (r.map valV).length c1,hv1⟩:V1s),r)],P',hE.trans hE',fun x hx=>by
   rcases List.mem_append.1 hx with hx|hx
   ·exact hE'.vw (hvw x hx)
   ·rw[List.mem_singleton]at hx;subst hx;exact hvw'⟩,⟨v4,hv4⟩) ⟨by dsimp only;omega,by dsimp only;rw[List.map_append,hrs,htk];rfl,⟨rfl,rfl,rfl,rfl,rfl,trivial⟩,rfl⟩ (by show _-(j+1)<_-j;omega)
 ·have hje:j=(hasE ⟨kd,tb,bf,af⟩).length:=by omega
  rw[hje,List.take_length]at hrs
  rw[hje,List.drop_length,rowsB_nil]
  have hne:(!((⟨#[]⟩:ByteArray).toList==(⟨#[]⟩:ByteArray).toList))=false:=by rw[emp_size];rfl
  have hrr:=evRows_spec ⟨tx,k,nth,⟨kd,tb,⟨.slice none 0 0,rfl⟩,[],⟨.slice none 0 0,rfl⟩,[]⟩⟩ P ⟨Vw.nil,Vw.nil⟩
  dsimp only[emV]at hrr
  have hml:((hasM ⟨kd,tb,⟨.slice none 0 0,rfl⟩,[],⟨.slice none 0 0,rfl⟩,[]⟩).map rwV).length=(hasE ⟨kd,tb,bf,af⟩).length:=by
   unfold hasM hasE
   dsimp only
   split
   ·rfl
   ·split<;>rfl
  refine ok_learn (rowShape (e:=22) (n:=1) (v:=v) (xs:=rs.map rwV) (by decide) takeD) ?_
  rintro(⟨rfl,hn⟩|⟨p,cp,rfl,_⟩)
  ·exfalso;have:=congrArg List.length hn;rw[lr,List.length_nil]at this;omega
  generalize hasM ⟨kd,tb,⟨.slice none 0 0,rfl⟩,[],⟨.slice none 0 0,rfl⟩,[]⟩=hm1 at hrr hml
  have hll:(!decide (((rs.map rwV).length:Int)=((hm1.map rwV).length:Int)))=false:=by
   rw[Bool.not_eq_false',decide_eq_true_eq,hml,lr];omega
  repeat'(first|(refine gY ?_;intros)|(refine hY ?_ ?_<;>intro hgd)|(refine jY ?_ ?_<;>intro _)|fail)
  refine cl_Y (hrr) ?_
  rintro⟨⟨v5,hv5⟩,⟨v6,hv6⟩⟩ _
  dsimp only
  refine ops_learn (rowShapeS (e:=22) (n:=1) (v:=v5) (xs:=hm1.map rwV) (by decide) takeD) ?_
  rintro⟨p5,c5,rfl,_,_⟩
  cases q1:decide (kd=1)with
  |true=>
   obtain rfl:kd=1:=of_decide_eq_true q1
   obtain rfl:bf=[]:=hnot bf (by simp[notE])
   obtain⟨⟨⟨w,hw⟩,r⟩,rfl⟩:∃ x,rs=[x]:=by
    match rs,hrs with
    | [x],_=>exact⟨x,rfl⟩
    | [],h=>simp[hasE]at h
    |_::_::_,h=>simp[hasE]at h
   obtain rfl:r=af:=by simpa [hasE]using hrs
   have hvr:=hvw _ (List.mem_singleton.2 rfl)
   have hrz:=hrl r (by simp[hasE])
   dsimp only at hvr
   have hch:=evCheck_spec ⟨tx,k,nth,⟨1,tb,⟨.slice none 0 0,rfl⟩,[],⟨w,hw⟩,r⟩⟩ P hUP ⟨Vw.nil,hvr⟩ (fun v hv=>by simp at hv) hwa (by simp) hrz
   dsimp only[emV]at hch
   rw[show mayE k nth (Cm.c ⟨1,tb,⟨.slice none 0 0,rfl⟩,[],⟨w,hw⟩,r⟩)=true from hm,cond_true]at hch
   rw[show([((⟨w,hw⟩:V1s),r)]:List Rw).map rwV=[[w]]from rfl]at hll ⊢
   have hi0:(0:Nat)<([[w]]:List (List Value)).length:=by simp
   have hi1:([[w]]:List (List Value))[0]? =some [w]:=rfl
   repeat'(first|(refine gY ?_;intros)|(refine hY ?_ ?_<;>intro hgd)|(refine jY ?_ ?_<;>intro _)|fail)
   refine cl_Y (hch) ?_
   intro _ _
   repeat'(first|(refine gY ?_;intros)|(refine hY ?_ ?_<;>intro hgd)|(refine jY ?_ ?_<;>intro _)|fail)
   (refine rt_Y (y:=(⟨1,tb,⟨.slice none 0 0,rfl⟩,[],⟨w,hw⟩,r⟩,P)) (hrs:=Tryz.results160) (hv:=?_) (hφ:=?_))
   ·rfl
   ·exact⟨hE,⟨Vw.nil,hvr⟩,rfl⟩
  |false=>
  cases q4:decide (kd=4)with
  |true=>
   obtain rfl:kd=4:=of_decide_eq_true q4
   obtain rfl:bf=[]:=hnot bf (by simp[notE])
   obtain⟨⟨⟨w,hw⟩,r⟩,rfl⟩:∃ x,rs=[x]:=by
    match rs,hrs with
    | [x],_=>exact⟨x,rfl⟩
    | [],h=>simp[hasE]at h
    |_::_::_,h=>simp[hasE]at h
   obtain rfl:r=af:=by simpa [hasE]using hrs
   have hvr:=hvw _ (List.mem_singleton.2 rfl)
   have hrz:=hrl r (by simp[hasE])
   dsimp only at hvr
   have hch:=evCheck_spec ⟨tx,k,nth,⟨4,tb,⟨.slice none 0 0,rfl⟩,[],⟨w,hw⟩,r⟩⟩ P hUP ⟨Vw.nil,hvr⟩ (fun v hv=>by simp at hv) hwa (by simp) hrz
   dsimp only[emV]at hch
   rw[show mayE k nth (Cm.c ⟨4,tb,⟨.slice none 0 0,rfl⟩,[],⟨w,hw⟩,r⟩)=true from hm,cond_true]at hch
   rw[show([((⟨w,hw⟩:V1s),r)]:List Rw).map rwV=[[w]]from rfl]at hll ⊢
   have hi0:(0:Nat)<([[w]]:List (List Value)).length:=by simp
   have hi1:([[w]]:List (List Value))[0]? =some [w]:=rfl
   repeat'(first|(refine gY ?_;intros)|(refine hY ?_ ?_<;>intro hgd)|(refine jY ?_ ?_<;>intro _)|fail)
   refine cl_Y (hch) ?_
   intro _ _
   repeat'(first|(refine gY ?_;intros)|(refine hY ?_ ?_<;>intro hgd)|(refine jY ?_ ?_<;>intro _)|fail)
   (refine rt_Y (y:=(⟨4,tb,⟨.slice none 0 0,rfl⟩,[],⟨w,hw⟩,r⟩,P)) (hrs:=Tryz.results160) (hv:=?_) (hφ:=?_))
   ·rfl
   ·exact⟨hE,⟨Vw.nil,hvr⟩,rfl⟩
  |false=>
  cases q3:decide (kd=3)with
  |true=>
   obtain rfl:kd=3:=of_decide_eq_true q3
   obtain rfl:af=[]:=hnot af (by simp[notE])
   obtain⟨⟨⟨w,hw⟩,r⟩,rfl⟩:∃ x,rs=[x]:=by
    match rs,hrs with
    | [x],_=>exact⟨x,rfl⟩
    | [],h=>simp[hasE]at h
    |_::_::_,h=>simp[hasE]at h
   obtain rfl:r=bf:=by simpa [hasE]using hrs
   have hvr:=hvw _ (List.mem_singleton.2 rfl)
   have hrz:=hrl r (by simp[hasE])
   dsimp only at hvr
   have hch:=evCheck_spec ⟨tx,k,nth,⟨3,tb,⟨w,hw⟩,r,⟨.slice none 0 0,rfl⟩,[]⟩⟩ P hUP ⟨hvr,Vw.nil⟩ hwb (fun v hv=>by simp at hv) hrz (by simp)
   dsimp only[emV]at hch
   rw[show mayE k nth (Cm.c ⟨3,tb,⟨w,hw⟩,r,⟨.slice none 0 0,rfl⟩,[]⟩)=true from hm,cond_true]at hch
   rw[show([((⟨w,hw⟩:V1s),r)]:List Rw).map rwV=[[w]]from rfl]at hll ⊢
   have hi0:(0:Nat)<([[w]]:List (List Value)).length:=by simp
   have hi1:([[w]]:List (List Value))[0]? =some [w]:=rfl
   repeat'(first|(refine gY ?_;intros)|(refine hY ?_ ?_<;>intro hgd)|(refine jY ?_ ?_<;>intro _)|fail)
   refine cl_Y (hch) ?_
   intro _ _
   repeat'(first|(refine gY ?_;intros)|(refine hY ?_ ?_<;>intro hgd)|(refine jY ?_ ?_<;>intro _)|fail)
   (refine rt_Y (y:=(⟨3,tb,⟨w,hw⟩,r,⟨.slice none 0 0,rfl⟩,[]⟩,P)) (hrs:=Tryz.results160) (hv:=?_) (hφ:=?_))
   ·rfl
   ·exact⟨hE,⟨hvr,Vw.nil⟩,rfl⟩
  |false=>
   obtain rfl:kd=2:=by
    have:=of_decide_eq_false q1;have:=of_decide_eq_false q4;have:=of_decide_eq_false q3;omega
   obtain⟨⟨⟨w,hw⟩,r⟩,⟨⟨w',hw'⟩,r'⟩,rfl⟩:∃ x y,rs=[x,y]:=by
    match rs,hrs with
    | [x,y],_=>exact⟨x,y,rfl⟩
    | [],h=>simp[hasE]at h
    | [_],h=>simp[hasE]at h
    |_::_::_::_,h=>simp[hasE]at h
   obtain⟨rfl,rfl⟩:r=bf∧r'=af:=by simpa [hasE]using hrs
   have hvr:=hvw (⟨w,hw⟩,r) (by simp)
   have hvr':=hvw (⟨w',hw'⟩,r') (by simp)
   have hrz:=hrl r (by simp[hasE])
   have hrz':=hrl r' (by simp[hasE])
   dsimp only at hvr hvr'
   refine ops_learn (VwIn.slice (VwIn.there (VwIn.there (VwIn.here hvr)))) ?_
   rintro⟨pw,cw,rfl⟩
   refine ops_learn (VwIn.slice (VwIn.there (VwIn.there (VwIn.here hvr')))) ?_
   rintro⟨pw',cw',rfl⟩
   have hch:=evCheck_spec ⟨tx,k,nth,⟨2,tb,⟨.slice pw (r.map valV).length cw,hw⟩,r,⟨.slice pw' (r'.map valV).length cw',hw'⟩,r'⟩⟩ P hUP ⟨hvr,hvr'⟩ hwb hwa hrz hrz'
   dsimp only[emV]at hch
   rw[show mayE k nth (Cm.c ⟨2,tb,⟨.slice pw (r.map valV).length cw,hw⟩,r,⟨.slice pw' (r'.map valV).length cw',hw'⟩,r'⟩)=true from hm,cond_true]at hch
   rw[show([((⟨.slice pw (r.map valV).length cw,hw⟩:V1s),r),((⟨.slice pw' (r'.map valV).length cw',hw'⟩:V1s),r')]:List Rw).map rwV=[[.slice pw (r.map valV).length cw],[.slice pw' (r'.map valV).length cw']]from rfl]at hll ⊢
   have hi0:(0:Nat)<([[.slice pw (r.map valV).length cw],[.slice pw' (r'.map valV).length cw']]:List (List Value)).length:=by simp
   have hi1:([[.slice pw (r.map valV).length cw],[.slice pw' (r'.map valV).length cw']]:List (List Value))[0]? =some [.slice pw (r.map valV).length cw]:=rfl
   have hi2:(1:Nat)<([[.slice pw (r.map valV).length cw],[.slice pw' (r'.map valV).length cw']]:List (List Value)).length:=by simp
   have hi3:([[.slice pw (r.map valV).length cw],[.slice pw' (r'.map valV).length cw']]:List (List Value))[1]? =some [.slice pw' (r'.map valV).length cw']:=rfl
   repeat'(first|(refine gY ?_;intros)|(refine hY ?_ ?_<;>intro hgd)|(refine jY ?_ ?_<;>intro _)|fail)
   refine ok_drawL (cv:=[]) [8] ([row 22 1 (.slice (some ⟨p,0,none⟩) ([[.slice pw (r.map valV).length cw],[.slice pw' (r'.map valV).length cw']]:List (List Value)).length cp) [[.slice pw (r.map valV).length cw],[.slice pw' (r'.map valV).length cw']]]) (takeD) (by kernel_rfl) rfl (by decide +kernel) ?_
   repeat'(first|(refine gY ?_;intros)|(refine hY ?_ ?_<;>intro hgd)|(refine jY ?_ ?_<;>intro _)|fail)
   refine cl_Y (hch) ?_
   intro _ _
   repeat'(first|(refine gY ?_;intros)|(refine hY ?_ ?_<;>intro hgd)|(refine jY ?_ ?_<;>intro _)|fail)
   (refine rt_Y (y:=(⟨2,tb,⟨.slice pw (r.map valV).length cw,hw⟩,r,⟨.slice pw' (r'.map valV).length cw',hw'⟩,r'⟩,P)) (hrs:=Tryz.results160) (hv:=?_) (hφ:=?_))
   ·rfl
   ·exact⟨hE,⟨hvr,hvr'⟩,rfl⟩
end Go.Proofs.YtmnafjonbeihiaaGreatDoor
