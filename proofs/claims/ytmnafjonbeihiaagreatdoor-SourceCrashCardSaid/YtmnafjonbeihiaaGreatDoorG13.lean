/- Texts merged: EvA EvB EvC EvD. -/
import Derived.Test.YtmnafjonbeihiaaGreatDoorK4
import Derived.Test.YtmnafjonbeihiaaGreatDoorEvP
import Derived.Test.YtmnafjonbeihiaaGreatDoorG2
import Derived.Test.YtmnafjonbeihiaaGreatDoorG7
import Derived.Test.YtmnafjonbeihiaaGreatDoorK3
import Derived.Test.YtmnafjonbeihiaaGreatDoorG14
set_option linter.unusedSimpArgs false
set_option linter.unusedVariables false
set_option maxRecDepth 100000
namespace Go.Proofs.YtmnafjonbeihiaaGreatDoor
open Go Go.Fx Go.Proofs Go.Pl
theorem fits8(v:Nat):fitsB v 8 8=true:=by unfold fitsB;simp
theorem cNum_spec(v:Nat)(hv:v<18446744073709551616):FSpec Tryz.prog 235 [.int .u64 v] [] Unit (fun _=>True) (fun _=>.string (numB v 8)) (fun _=>[]):=by
 refine spec_intro [] _ Tryz.func235 rfl Tryz.ntmps235 (by rfl) (fun w0 R=>?_)
 repeat'(first|(refine gY ?_;intros)|(refine hY ?_ ?_<;>intro hgd)|(refine jY ?_ ?_<;>intro _)|fail)
 refine cl_Y (wput_spec v 8 hv (by omega) (by omega) (fits8 v)) ?_
 intro _ _
 repeat'(first|(refine gY ?_;intros)|(refine hY ?_ ?_<;>intro hgd)|(refine jY ?_ ?_<;>intro _)|fail)
 (refine rt_Y (y:=()) (hrs:=Tryz.results235) (hv:=?_) (hφ:=?_))
 ·rfl
 ·trivial
theorem u8_eq{x:Int}(h0:0≤x)(h1:x≤255):IntKind.u8.wrap x=x:=by
 have e4:(2:Int) ^ IntKind.u8.bits=256:=rfl
 unfold IntKind.wrap
 simp only[e4]
 rw[if_neg (by simp[IntKind.signed])]
 omega
theorem u8_lo(n:Int):0≤IntKind.u8.wrap n∧IntKind.u8.wrap n≤255:=by
 have e4:(2:Int) ^ IntKind.u8.bits=256:=rfl
 unfold IntKind.wrap
 simp only[e4]
 rw[if_neg (by simp[IntKind.signed])]
 omega
theorem u64_eq{x:Int}(h0:0≤x)(h1:x≤18446744073709551615):IntKind.u64.wrap x=x:=by
 have e4:(2:Int) ^ IntKind.u64.bits=18446744073709551616:=rfl
 unfold IntKind.wrap
 simp only[e4]
 rw[if_neg (by simp[IntKind.signed])]
 omega
theorem u64_lo(n:Int):0≤IntKind.u64.wrap n∧IntKind.u64.wrap n<18446744073709551616:=by
 have e4:(2:Int) ^ IntKind.u64.bits=18446744073709551616:=rfl
 unfold IntKind.wrap
 simp only[e4]
 rw[if_neg (by simp[IntKind.signed])]
 omega
theorem u64N_lt(n:Int):u64N n<18446744073709551616:=by have:=u64_lo n;unfold u64N;omega
theorem u64N_eq(n:Int):((u64N n:Nat):Int)=IntKind.u64.wrap n:=by have:=u64_lo n;unfold u64N;omega
theorem b8_nat{x:Int}(h0:0≤x)(h1:x≤255):((b8 x).toNat:Int)=x:=by
 have e:IntKind.u8.wrap x=x:=u8_eq h0 h1
 unfold b8
 rw[e]
 simp;omega
section
variable{X:Cx}{ops:Array Oper}{nb:NB}{N:Act→World→Prop}{i:Nat}{os:List Oper}{Ls:List HProp}{ds:List Deferred}{ρ:Regs}{L:List HProp}{ty:TypeId}{d:Nat}
theorem s_byte1 [NoT nb]{s t e:TypeId}[I:Ty X.P s (.slice e)][J:Ty X.P t .string][K:Ty X.P e (.int .u8)]{x:Operand}{v:Value}{c:Int}(hx:ev ρ x=v)(hc:(X.cv.contains s||X.cv.contains t)=true)
  (hr:VwIn L 1 v [[.int .u8 c]])(h0:0≤c)(h1:c≤255)(hd:Nat.blt d X.nt=true)(hb:nb.contains i=false)
  (h:OpsL X ops nb N (i+1) os L ds (upd ρ d (.string (oneB c))) L):Op1 X ops nb N i (some d) (.convert s t x) ty os Ls ds ρ L:=
 s_bytes_string (l:=[b8 c]) hx hc (by show VwIn L 1 v [[.int .u8 ((b8 c).toNat:Int)]];rw[b8_nat h0 h1];exact hr) hd hb h
end
theorem oneB_wrap(n:Int):oneB (IntKind.u8.wrap n)=oneB n:=by
 unfold oneB b8
 rw[u8_eq (u8_lo n).1 (u8_lo n).2]
theorem checkV_kind{v:Vl}(h:checkV v=true):v.kind=0∨v.kind=1∨v.kind=2∨v.kind=3∨v.kind=4∨v.kind=5:=by
 unfold checkV wantV at h
 by_cases h0:v.kind=0
 ·exact .inl h0
 by_cases h1:v.kind=1
 ·exact .inr (.inl h1)
 by_cases h2:v.kind=2
 ·exact .inr (.inr (.inl h2))
 by_cases h3:v.kind=3
 ·exact .inr (.inr (.inr (.inl h3)))
 by_cases h4:v.kind=4
 ·exact .inr (.inr (.inr (.inr (.inl h4))))
 by_cases h5:v.kind=5
 ·exact .inr (.inr (.inr (.inr (.inr h5))))
 rw[if_neg h0,if_neg h1,if_neg h2,if_neg h3,if_neg h5,if_neg h4]at h
 cases h
theorem cPut_spec(v:Vl)(A:HProp)(hA:UT A)(hw:v.wf)(hc:checkV v=true):FSpec Tryz.prog 193 [.agg (valV v).toArray] [A] Unit (fun _=>True) (fun _=>.tuple #[.string (putVB v),.int .i64 0]) (fun _=>[A]):=by
 have hv:=vCheck_spec v A hA hw
 rw[hc,if_pos rfl]at hv
 have hk:=checkV_kind hc
 obtain⟨k,n,r,s⟩:=v
 obtain⟨h0,h1,i0,i1,r0,r1,ht⟩:=hw
 dsimp only[valV]at*
 have e0:(!decide ((0:Int)=(0:Int)))=false:=by decide
 refine spec_intro [183] _ Tryz.func193 rfl Tryz.ntmps193 (by rfl) (fun w0 R=>?_)
 repeat'(first|(refine gY ?_;intros)|(refine hY ?_ ?_<;>intro hgd)|(refine jY ?_ ?_<;>intro _)|fail)
 refine cl_Y (hv) ?_
 intro _ _
 repeat'(first|(refine gY ?_;intros)|(refine hY ?_ ?_<;>intro hgd)|(refine jY ?_ ?_<;>intro _)|fail)
 refine ops_run (s_byte1 rfl rfl (VwIn.here Vw.row) h0 h1 rfl rfl ?_)
 rcases hk with rfl|rfl|rfl|rfl|rfl|rfl
 ·rw[show putVB ⟨0,n,r,s⟩=oneB 0 from rfl]
  repeat'(first|(refine gY ?_;intros)|(refine hY ?_ ?_<;>intro hgd)|(refine jY ?_ ?_<;>intro _)|fail)
  (refine rt_Y (y:=()) (hrs:=Tryz.results193) (hv:=?_) (hφ:=?_))
  ·rfl
  ·trivial
 ·rw[show putVB ⟨1,n,r,s⟩=oneB 1++oneB n from rfl]
  have z1:=oneB_size 1
  have z2:=oneB_size n
  repeat'(first|(refine gY ?_;intros)|(refine hY ?_ ?_<;>intro hgd)|(refine jY ?_ ?_<;>intro _)|fail)
  refine ops_run (s_byte1 rfl rfl (VwIn.here Vw.row) (u8_lo n).1 (u8_lo n).2 rfl rfl ?_)
  rw[oneB_wrap]
  repeat'(first|(refine gY ?_;intros)|(refine hY ?_ ?_<;>intro hgd)|(refine jY ?_ ?_<;>intro _)|fail)
  (refine rt_Y (y:=()) (hrs:=Tryz.results193) (hv:=?_) (hφ:=?_))
  ·rfl
  ·trivial
 ·have hn:=cNum_spec (u64N n) (u64N_lt n)
  rw[u64N_eq]at hn
  rw[show putVB ⟨2,n,r,s⟩=oneB 2++numB (u64N n) 8 from rfl]
  have z1:=oneB_size 2
  have z2:=numB_size (u64N n) 8
  repeat'(first|(refine gY ?_;intros)|(refine hY ?_ ?_<;>intro hgd)|(refine jY ?_ ?_<;>intro _)|fail)
  refine cl_Y (hn) ?_
  intro _ _
  repeat'(first|(refine gY ?_;intros)|(refine hY ?_ ?_<;>intro hgd)|(refine jY ?_ ?_<;>intro _)|fail)
  (refine rt_Y (y:=()) (hrs:=Tryz.results193) (hv:=?_) (hφ:=?_))
  ·rfl
  ·trivial
 ·have hn:=cNum_spec (u64N r) (u64N_lt r)
  rw[u64N_eq,u64_eq r0 r1]at hn
  rw[show putVB ⟨3,n,r,s⟩=oneB 3++numB (u64N r) 8 from rfl]
  have z1:=oneB_size 3
  have z2:=numB_size (u64N r) 8
  repeat'(first|(refine gY ?_;intros)|(refine hY ?_ ?_<;>intro hgd)|(refine jY ?_ ?_<;>intro _)|fail)
  refine cl_Y (hn) ?_
  intro _ _
  repeat'(first|(refine gY ?_;intros)|(refine hY ?_ ?_<;>intro hgd)|(refine jY ?_ ?_<;>intro _)|fail)
  (refine rt_Y (y:=()) (hrs:=Tryz.results193) (hv:=?_) (hφ:=?_))
  ·rfl
  ·trivial
 ·rw[show putVB ⟨4,n,r,s⟩=oneB 4++(oneB s.size++s)from rfl]
  have z1:=oneB_size 4
  have z2:=oneB_size s.size
  have z3:(oneB s.size++s).size=1+s.size:=by rw[ByteArray.size_append,z2]
  repeat'(first|(refine gY ?_;intros)|(refine hY ?_ ?_<;>intro hgd)|(refine jY ?_ ?_<;>intro _)|fail)
  refine ops_run (s_byte1 rfl rfl (VwIn.here Vw.row) (u8_lo s.size).1 (u8_lo s.size).2 rfl rfl ?_)
  rw[oneB_wrap]
  repeat'(first|(refine gY ?_;intros)|(refine hY ?_ ?_<;>intro hgd)|(refine jY ?_ ?_<;>intro _)|fail)
  (refine rt_Y (y:=()) (hrs:=Tryz.results193) (hv:=?_) (hφ:=?_))
  ·rfl
  ·trivial
 ·rw[show putVB ⟨5,n,r,s⟩=oneB 5++(oneB s.size++s)from rfl]
  have z1:=oneB_size 5
  have z2:=oneB_size s.size
  have z3:(oneB s.size++s).size=1+s.size:=by rw[ByteArray.size_append,z2]
  repeat'(first|(refine gY ?_;intros)|(refine hY ?_ ?_<;>intro hgd)|(refine jY ?_ ?_<;>intro _)|fail)
  refine ops_run (s_byte1 rfl rfl (VwIn.here Vw.row) (u8_lo s.size).1 (u8_lo s.size).2 rfl rfl ?_)
  rw[oneB_wrap]
  repeat'(first|(refine gY ?_;intros)|(refine hY ?_ ?_<;>intro hgd)|(refine jY ?_ ?_<;>intro _)|fail)
  (refine rt_Y (y:=()) (hrs:=Tryz.results193) (hv:=?_) (hφ:=?_))
  ·rfl
  ·trivial
end Go.Proofs.YtmnafjonbeihiaaGreatDoor
namespace Go.Proofs.YtmnafjonbeihiaaGreatDoor
open Go Go.Fx Go.Proofs Go.Pl
theorem vRow1_spec(v:Vl)(A:HProp)(hA:UT A)(hw:v.wf):FSpec Tryz.prog 234 [.agg (valV v).toArray] [A] Unit (fun _=>True) (fun _=>.bool (!checkV v)) (fun _=>[A]):=by
 have hv:=vCheck_spec v A hA hw
 cases hc:checkV v with
 |false=>
  rw[hc,if_neg Bool.false_ne_true]at hv
  have e0:(!decide ((2:Int)=(0:Int)))=true:=by decide
  refine spec_intro [] _ Tryz.func234 rfl Tryz.ntmps234 (by rfl) (fun w0 R=>?_)
  repeat'(first|(refine gY ?_;intros)|(refine hY ?_ ?_<;>intro hgd)|(refine jY ?_ ?_<;>intro _)|fail)
  refine cl_Y (hv) ?_
  intro _ _
  repeat'(first|(refine gY ?_;intros)|(refine hY ?_ ?_<;>intro hgd)|(refine jY ?_ ?_<;>intro _)|fail)
  (refine rt_Y (y:=()) (hrs:=Tryz.results234) (hv:=?_) (hφ:=?_))
  ·rfl
  ·trivial
 |true=>
  rw[hc,if_pos rfl]at hv
  have e0:(!decide ((0:Int)=(0:Int)))=false:=by decide
  refine spec_intro [] _ Tryz.func234 rfl Tryz.ntmps234 (by rfl) (fun w0 R=>?_)
  repeat'(first|(refine gY ?_;intros)|(refine hY ?_ ?_<;>intro hgd)|(refine jY ?_ ?_<;>intro _)|fail)
  refine cl_Y (hv) ?_
  intro _ _
  repeat'(first|(refine gY ?_;intros)|(refine hY ?_ ?_<;>intro hgd)|(refine jY ?_ ?_<;>intro _)|fail)
  (refine rt_Y (y:=()) (hrs:=Tryz.results234) (hv:=?_) (hφ:=?_))
  ·rfl
  ·trivial
theorem idxV_spec(fv u:Value)(A:HProp)(p:Vl→Bool)(l:List Vl)(hA:Vw A 4 u (l.map valV))(hf:∀ s∈l,VSpec Tryz.prog fv [.agg (valV s).toArray] [A] Unit (fun _=>True) (fun _=>.bool (p s)) (fun _=>[A]))(hl:l.length≤4611686018427387904):
  FSpec Tryz.prog 260 [u,fv] [A] Int (fun y=>decide (0≤y)=l.any p) (fun y=>.int .i64 y) (fun _=>[A]):=by
 refine spec_intro [] _ Tryz.func260 rfl Tryz.ntmps260 (by rfl) (fun w0 R=>?_)
 refine ok_learn (VwIn.slice (VwIn.here hA)) ?_
 rintro⟨pu,cu,rfl⟩
 repeat'(first|(refine gY ?_;intros)|(refine hY ?_ ?_<;>intro hgd)|(refine jY ?_ ?_<;>intro _)|fail)
 refine ok_loop' (γ:=Nat) (fun n ρ L=>n≤l.length∧(l.take n).any p=false∧Knows ρ [(0,.slice pu (l.map valV).length cu),(1,fv),(7,.int .i64 (l.map valV).length),(8,.int .i64 n)]∧L=[A]++R) (fun n=>l.length-n) 0 ⟨by omega,rfl,⟨rfl,rfl,rfl,rfl,trivial⟩,rfl⟩ ?_
 rintro n ρ L ⟨hn,hall,hk,rfl⟩
 refine ok_regs hk ?_
 have hlen:(l.map valV).length=l.length:=by simp
 cases t1:decide ((n:Int)<((l.map valV).length:Int))with
 |false=>
  have hn':n=l.length:=by simp at t1;omega
  have hfull:l.any p=false:=by rw[hn',List.take_of_length_le (Nat.le_refl _)]at hall;exact hall
  repeat'(first|(refine gY ?_;intros)|(refine hY ?_ ?_<;>intro hgd)|(refine jY ?_ ?_<;>intro _)|fail)
  (refine rt_Y (y:=(-1)) (hrs:=Tryz.results260) (hv:=?_) (hφ:=?_))
  ·rfl
  ·rw[hfull];rfl
 |true=>
  have h:n<l.length:=by simp at t1;omega
  have hx:(l.map valV)[n]? =some (valV l[n]):=by rw[List.getElem?_map,List.getElem?_eq_getElem h];rfl
  have hn1:n<(l.map valV).length:=by omega
  have htk:l.take (n+1)=l.take n++[l[n]]:=List.take_succ_eq_append_getElem h
  have hin:l[n]∈l:=List.getElem_mem h
  have hfs:=hf l[n] hin
  refine ok_learn (VwIn.base (VwIn.here hA) (by intro e;rw[e]at hn1;simp at hn1)) ?_
  rintro⟨bu,ou,rfl⟩
  generalize hc:l[n]=c at hx htk hin hfs
  have hcc:∃ z,z=c:=⟨c,rfl⟩
  obtain⟨z,hz⟩:=hcc
  obtain⟨ck,ci,cr,cs⟩:=c
  dsimp only[valV]at hx hfs
  repeat'(first|(refine gY ?_;intros)|(refine hY ?_ ?_<;>intro hgd)|(refine jY ?_ ?_<;>intro _)|fail)
  refine clV_Y (hfs) ?_
  intro _ _
  cases hp:p ⟨ck,ci,cr,cs⟩with
  |true=>
   repeat'(first|(refine gY ?_;intros)|(refine hY ?_ ?_<;>intro hgd)|(refine jY ?_ ?_<;>intro _)|fail)
   (refine rt_Y (y:=(n:Int)) (hrs:=Tryz.results260) (hv:=?_) (hφ:=?_))
   ·rfl
   ·rw[List.any_eq_true.2 ⟨_,hin,hp⟩];simp
  |false=>
   repeat'(first|(refine gY ?_;intros)|(refine hY ?_ ?_<;>intro hgd)|(refine jY ?_ ?_<;>intro _)|fail)
   refine cont_back (n+1) ⟨h,by rw[htk,List.any_append,hall];simp[hp],⟨rfl,rfl,rfl,rfl,trivial⟩,rfl⟩ (by omega)
theorem hasV_spec(fv u:Value)(A:HProp)(p:Vl→Bool)(l:List Vl)(hA:Vw A 4 u (l.map valV))(hf:∀ s∈l,VSpec Tryz.prog fv [.agg (valV s).toArray] [A] Unit (fun _=>True) (fun _=>.bool (p s)) (fun _=>[A]))(hl:l.length≤4611686018427387904):
  FSpec Tryz.prog 233 [u,fv] [A] Unit (fun _=>True) (fun _=>.bool (l.any p)) (fun _=>[A]):=by
 refine spec_intro [] _ Tryz.func233 rfl Tryz.ntmps233 (by rfl) (fun w0 R=>?_)
 repeat'(first|(refine gY ?_;intros)|(refine hY ?_ ?_<;>intro hgd)|(refine jY ?_ ?_<;>intro _)|fail)
 refine cl_Y (idxV_spec fv u A p l hA hf hl) ?_
 intro y hy
 repeat'(first|(refine gY ?_;intros)|(refine hY ?_ ?_<;>intro hgd)|(refine jY ?_ ?_<;>intro _)|fail)
 rw[← hy]
 (refine rt_Y (y:=()) (hrs:=Tryz.results233) (hv:=?_) (hφ:=?_))
 ·rfl
 ·trivial
theorem vRow_spec(u:Value)(A:HProp)(l:List Vl)(hA:UT A)(hu:Vw A 4 u (l.map valV))(hw:∀ v∈l,v.wf)(hl:l.length≤4611686018427387904):
  FSpec Tryz.prog 192 [u] [A] Unit (fun _=>True) (fun _=>.int .i64 (bif rowB l then 0 else 2)) (fun _=>[A]):=by
 have hc:=hasV_spec (.func (.func 234) #[] #[]) u A (fun v=> !checkV v) l hu (fun v hv=>vspec_fn (vRow1_spec v A hA (hw v hv))) hl
 have ll:(l.map valV).length=l.length:=by simp
 have hall:l.any (fun v=> !checkV v)= !l.all checkV:=by rw[List.not_all_eq_any_not]
 unfold rowB
 cases t1:decide (((l.map valV).length:Int)<1)with
 |true=>
  rw[show decide (1≤l.length)=false by rw[decide_eq_true_eq]at t1;rw[decide_eq_false_iff_not];omega,Bool.false_and,cond_false]
  refine spec_intro [] _ Tryz.func192 rfl Tryz.ntmps192 (by rfl) (fun w0 R=>?_)
  refine ok_learn (VwIn.slice (VwIn.here hu)) ?_
  rintro⟨pu,cu,rfl⟩
  repeat'(first|(refine gY ?_;intros)|(refine hY ?_ ?_<;>intro hgd)|(refine jY ?_ ?_<;>intro _)|fail)
  (refine rt_Y (y:=()) (hrs:=Tryz.results192) (hv:=?_) (hφ:=?_))
  ·rfl
  ·trivial
 |false=>
 rw[show decide (1≤l.length)=true by rw[decide_eq_false_iff_not]at t1;rw[decide_eq_true_eq];omega,Bool.true_and]
 cases t2:decide ((8:Int)<((l.map valV).length:Int))with
 |true=>
  rw[show decide (l.length≤8)=false by rw[decide_eq_true_eq]at t2;rw[decide_eq_false_iff_not];omega,Bool.false_and,cond_false]
  refine spec_intro [] _ Tryz.func192 rfl Tryz.ntmps192 (by rfl) (fun w0 R=>?_)
  refine ok_learn (VwIn.slice (VwIn.here hu)) ?_
  rintro⟨pu,cu,rfl⟩
  repeat'(first|(refine gY ?_;intros)|(refine hY ?_ ?_<;>intro hgd)|(refine jY ?_ ?_<;>intro _)|fail)
  (refine rt_Y (y:=()) (hrs:=Tryz.results192) (hv:=?_) (hφ:=?_))
  ·rfl
  ·trivial
 |false=>
 rw[show decide (l.length≤8)=true by rw[decide_eq_false_iff_not]at t2;rw[decide_eq_true_eq];omega,Bool.true_and]
 rw[hall]at hc
 cases h3:l.all checkV with
 |true=>
  rw[h3,Bool.not_true]at hc
  rw[cond_true]
  refine spec_intro [] _ Tryz.func192 rfl Tryz.ntmps192 (by rfl) (fun w0 R=>?_)
  refine ok_learn (VwIn.slice (VwIn.here hu)) ?_
  rintro⟨pu,cu,rfl⟩
  repeat'(first|(refine gY ?_;intros)|(refine hY ?_ ?_<;>intro hgd)|(refine jY ?_ ?_<;>intro _)|fail)
  refine cl_Y (hc) ?_
  intro _ _
  repeat'(first|(refine gY ?_;intros)|(refine hY ?_ ?_<;>intro hgd)|(refine jY ?_ ?_<;>intro _)|fail)
  (refine rt_Y (y:=()) (hrs:=Tryz.results192) (hv:=?_) (hφ:=?_))
  ·rfl
  ·trivial
 |false=>
  rw[h3,Bool.not_false]at hc
  rw[cond_false]
  refine spec_intro [] _ Tryz.func192 rfl Tryz.ntmps192 (by rfl) (fun w0 R=>?_)
  refine ok_learn (VwIn.slice (VwIn.here hu)) ?_
  rintro⟨pu,cu,rfl⟩
  repeat'(first|(refine gY ?_;intros)|(refine hY ?_ ?_<;>intro hgd)|(refine jY ?_ ?_<;>intro _)|fail)
  refine cl_Y (hc) ?_
  intro _ _
  repeat'(first|(refine gY ?_;intros)|(refine hY ?_ ?_<;>intro hgd)|(refine jY ?_ ?_<;>intro _)|fail)
  (refine rt_Y (y:=()) (hrs:=Tryz.results192) (hv:=?_) (hφ:=?_))
  ·rfl
  ·trivial
theorem putLB_step{l:List Vl}{j:Nat}(h:j<l.length)(s:BA):putLB (l.take (j+1)) s=putLB (l.take j) s++putVB l[j]:=by
 rw[List.take_succ_eq_append_getElem h,putLB_snoc]
theorem rowB_all{l:List Vl}(h:rowB l=true):1≤l.length∧l.length≤8∧∀ v∈l,checkV v=true:=by
 unfold rowB at h
 simp only[Bool.and_eq_true,decide_eq_true_eq,List.all_eq_true]at h
 exact⟨h.1,h.2.1,h.2.2⟩
theorem putRow_spec(u:Value)(A:HProp)(l:List Vl)(hA:UT A)(hu:Vw A 4 u (l.map valV))(hw:∀ v∈l,v.wf)(hr:rowB l=true):
  FSpec Tryz.prog 155 [u] [A] Unit (fun _=>True) (fun _=>.tuple #[.string (putRB l),.int .i64 0]) (fun _=>[A]):=by
 obtain⟨hl1,hl8,hall⟩:=rowB_all hr
 have hv:=vRow_spec u A l hA hu hw (by omega)
 rw[hr,cond_true]at hv
 have e0:(!decide ((0:Int)=(0:Int)))=false:=by decide
 have ll:(l.map valV).length=l.length:=by simp
 refine spec_intro [183] _ Tryz.func155 rfl Tryz.ntmps155 (by rfl) (fun w0 R=>?_)
 refine ok_learn (VwIn.slice (VwIn.here hu)) ?_
 rintro⟨pu,cu,rfl⟩
 refine ok_learn (VwIn.base (VwIn.here hu) (by intro e;rw[e]at ll;simp at ll;omega)) ?_
 rintro⟨bu,ou,rfl⟩
 repeat'(first|(refine gY ?_;intros)|(refine hY ?_ ?_<;>intro hgd)|(refine jY ?_ ?_<;>intro _)|fail)
 refine cl_Y (hv) ?_
 intro _ _
 repeat'(first|(refine gY ?_;intros)|(refine hY ?_ ?_<;>intro hgd)|(refine jY ?_ ?_<;>intro _)|fail)
 refine ops_run (s_byte1 rfl rfl (VwIn.here Vw.row) (u8_lo _).1 (u8_lo _).2 rfl rfl ?_)
 rw[oneB_wrap,show oneB ((l.map valV).length:Int)=oneB (l.length:Int)from by rw[ll]]
 repeat'(first|(refine gY ?_;intros)|(refine hY ?_ ?_<;>intro hgd)|(refine jY ?_ ?_<;>intro _)|fail)
 refine ok_map (L':=[A]++R) entD ?_
 refine ok_loop' (γ:=Nat) (fun j ρ L=>j≤l.length∧Knows ρ [(5,.string (putLB (l.take j) (oneB l.length))),(20,.slice (some ⟨bu,ou,none⟩) (l.map valV).length cu),(21,.int .i64 ((l.map valV).length:Int)),(22,.int .i64 (j:Int))]∧L=[A]++R) (fun j=>l.length-j) 0 ⟨by omega,⟨rfl,rfl,rfl,rfl,trivial⟩,rfl⟩ ?_
 rintro j ρ L ⟨hj,hk,rfl⟩
 refine ok_regs hk ?_
 cases t1:decide ((j:Int)<((l.map valV).length:Int))with
 |false=>
  have hje:j=l.length:=by rw[decide_eq_false_iff_not]at t1;omega
  subst hje
  rw[List.take_length]
  repeat'(first|(refine gY ?_;intros)|(refine hY ?_ ?_<;>intro hgd)|(refine jY ?_ ?_<;>intro _)|fail)
  (refine rt_Y (y:=()) (hrs:=Tryz.results155) (hv:=?_) (hφ:=?_))
  ·rfl
  ·trivial
 |true=>
  have hj0:j<l.length:=by rw[decide_eq_true_eq]at t1;omega
  have hx:(l.map valV)[j]? =some (valV l[j]):=by rw[List.getElem?_map,List.getElem?_eq_getElem hj0];rfl
  have hjn:j<(l.map valV).length:=by omega
  have hcv:=hall _ (List.getElem_mem hj0)
  have hp:=cPut_spec l[j] A hA (hw _ (List.getElem_mem hj0)) hcv
  have hstep:=putLB_step hj0 (oneB l.length)
  have hz1:=putLB_size (l:=l.take j) (fun v hv=>hall v (List.mem_of_mem_take hv)) (oneB l.length)
  have hz2:=putVB_size hcv
  have hz3:=oneB_size (l.length:Int)
  have hz4:(l.take j).length≤8:=by rw[List.length_take];omega
  generalize hc:l[j]=c at hx hp hstep hz2
  have hcc:∃ z,z=c:=⟨c,rfl⟩
  obtain⟨z,hz⟩:=hcc
  obtain⟨ck,ci,cr,cs⟩:=c
  dsimp only[valV]at hx hp
  repeat'(first|(refine gY ?_;intros)|(refine hY ?_ ?_<;>intro hgd)|(refine jY ?_ ?_<;>intro _)|fail)
  refine cl_Y (hp) ?_
  intro _ _
  repeat'(first|(refine gY ?_;intros)|(refine hY ?_ ?_<;>intro hgd)|(refine jY ?_ ?_<;>intro _)|fail)
  rw[← hstep]
  refine cont_map (L':=[A]++R) entD ?_
  refine cont_back (j+1) ⟨hj0,⟨rfl,rfl,rfl,rfl,trivial⟩,rfl⟩ (by omega)
end Go.Proofs.YtmnafjonbeihiaaGreatDoor
namespace Go.Pl
open Go
def hasE(c:Chg):List (List Vl):=if c.kind=1∨c.kind=4 then [c.aft]else if c.kind=3 then [c.bef]else [c.bef,c.aft]
def notE(c:Chg):List (List Vl):=if c.kind=1∨c.kind=4 then [c.bef]else if c.kind=3 then [c.aft]else []
def mayE(total nth:Int)(c:Chg):Bool:=
 !(
  decide (c.kind<1)||(decide (4<c.kind)||(decide (c.table<0)||(decide (12≤c.table)||(decide (total<0)||(decide (200≤total)||(decide (nth<0)||decide (total<nth))))))))&&
  ((hasE c).all rowB&&(notE c).all fun l=>decide (l.length≤0))
end Go.Pl
namespace Go.Proofs.YtmnafjonbeihiaaGreatDoor
open Go Go.Fx Go.Proofs Go.Pl
structure Em where
 tx:Int
 total:Int
 nth:Int
 c:Cm
def emV(e:Em):List Value:=[.int .u64 e.tx,.int .i64 e.total,.int .i64 e.nth,.int .u8 e.c.kind,.int .i64 e.c.table,e.c.bv.1,e.c.av.1]
def hasM(c:Cm):List Rw:=if c.kind=1∨c.kind=4 then [(c.av,c.aft)]else if c.kind=3 then [(c.bv,c.bef)]else [(c.bv,c.bef),(c.av,c.aft)]
def notM(c:Cm):List Rw:=if c.kind=1∨c.kind=4 then [(c.bv,c.bef)]else if c.kind=3 then [(c.av,c.aft)]else []
theorem hasM_c(c:Cm):(hasM c).map (·.2)=hasE c.c:=by
 unfold hasM hasE Cm.c
 dsimp only
 split
 ·rfl
 ·split<;>rfl
theorem notM_c(c:Cm):(notM c).map (·.2)=notE c.c:=by
 unfold notM notE Cm.c
 dsimp only
 split
 ·rfl
 ·split<;>rfl
theorem hasM_vw{A:HProp}{c:Cm}(h:CmR A c):∀ x∈hasM c,Vw A 4 x.1.1 (x.2.map valV):=by
 have h1:=h.bv
 have h2:=h.av
 unfold hasM
 split
 ·simp only[List.mem_singleton,forall_eq];exact h2
 ·split
  ·simp only[List.mem_singleton,forall_eq];exact h1
  ·simp only[List.mem_cons,List.not_mem_nil,or_false,forall_eq_or_imp,forall_eq];exact⟨h1,h2⟩
theorem notM_vw{A:HProp}{c:Cm}(h:CmR A c):∀ x∈notM c,Vw A 4 x.1.1 (x.2.map valV):=by
 have h1:=h.bv
 have h2:=h.av
 unfold notM
 split
 ·simp only[List.mem_singleton,forall_eq];exact h1
 ·split
  ·simp only[List.mem_singleton,forall_eq];exact h2
  ·simp
theorem fspec_lrn{P:Program}{f:FuncId}{args:List Value}{pre:List HProp}{Y:Type}{φ:Y→Prop}{ret:Y→Value}{post:Y→List HProp}{φ0:Prop}(k:∀ R h,SatL (pre++R) h→φ0)(h:φ0→FSpec P f args pre Y φ ret post):FSpec P f args pre Y φ ret post:=
 fun w0 w R hs=>h (k R _ hs.heap) w0 w R hs
theorem evRows_spec(e:Em)(A:HProp)(h:CmR A e.c):
  FSpec Tryz.prog 154 [.agg (emV e).toArray] [A] (V1s×V1s) (fun _=>True) (fun y=>.tuple #[y.1.1,y.2.1])
   (fun y=>[row 22 1 y.1.1 ((hasM e.c).map rwV),row 22 1 y.2.1 ((notM e.c).map rwV),A]):=by
 obtain⟨tx,total,nth,⟨k,t,⟨bv,hbv⟩,bef,⟨av,hav⟩,aft⟩⟩:=e
 obtain⟨h1,h2⟩:=h
 dsimp only at h1 h2
 unfold hasM notM
 dsimp only[emV]
 refine fspec_lrn (fun R hh s=>(VwIn.slice (VwIn.here h1)) hh s) ?_
 rintro⟨pb,cb,rfl⟩
 refine fspec_lrn (fun R hh s=>(VwIn.slice (VwIn.here h2)) hh s) ?_
 rintro⟨pa,ca,rfl⟩
 cases t1:decide (k=1)with
 |true=>
  rw[if_pos (.inl (of_decide_eq_true t1)),if_pos (.inl (of_decide_eq_true t1))]
  refine spec_intro [] _ Tryz.func154 rfl Tryz.ntmps154 (by rfl) (fun w0 R=>?_)
  repeat'(first|(refine gY ?_;intros)|(refine hY ?_ ?_<;>intro hgd)|(refine jY ?_ ?_<;>intro _)|fail)
  rename_i b1
  refine ok_draw_forkR (cv:=[]) 3 7 [3,7] [pts b1 (.cells [.int .u64 tx,.int .i64 total,.int .i64 nth,.int .u8 k,.int .i64 t,.slice pb (bef.map valV).length cb,.slice pa (aft.map valV).length ca].toArray 177)] (by decide) (by kernel_rfl) rfl (by decide +kernel) (by decide +kernel) (takePre takeD) ?_
  repeat'(first|(refine gY ?_;intros)|(refine hY ?_ ?_<;>intro hgd)|(refine jY ?_ ?_<;>intro _)|fail)
  refine cont_forkR (cv:=[]) rfl (by decide) rfl rfl rfl (by decide +kernel) (by decide +kernel) ?_ ?_
  ·repeat'(first|(refine gY ?_;intros)|(refine hY ?_ ?_<;>intro hgd)|(refine jY ?_ ?_<;>intro _)|fail)
   rename_i v1 hv1 v2 hv2
   (refine rt_Y (y:=(⟨v1,hv1⟩,⟨v2,hv2⟩)) (hrs:=Tryz.results154) (hv:=?_) (hφ:=?_))
   ·rfl
   ·trivial
  ·repeat'(first|(refine gY ?_;intros)|(refine hY ?_ ?_<;>intro hgd)|(refine jY ?_ ?_<;>intro _)|fail)
   rename_i v2 hv2
   refine cont_lateP (cv:=[]) rfl rfl rfl (by decide +kernel) (by decide +kernel) ?_
   repeat'(first|(refine gY ?_;intros)|(refine hY ?_ ?_<;>intro hgd)|(refine jY ?_ ?_<;>intro _)|fail)
   rename_i v1 hv1
   refine cont_late rfl ?_
   repeat'(first|(refine gY ?_;intros)|(refine hY ?_ ?_<;>intro hgd)|(refine jY ?_ ?_<;>intro _)|fail)
   (refine rt_Y (y:=(⟨v1,hv1⟩,⟨v2,hv2⟩)) (hrs:=Tryz.results154) (hv:=?_) (hφ:=?_))
   ·rfl
   ·trivial
 |false=>
 cases t4:decide (k=4)with
 |true=>
  rw[if_pos (.inr (of_decide_eq_true t4)),if_pos (.inr (of_decide_eq_true t4))]
  refine spec_intro [] _ Tryz.func154 rfl Tryz.ntmps154 (by rfl) (fun w0 R=>?_)
  repeat'(first|(refine gY ?_;intros)|(refine hY ?_ ?_<;>intro hgd)|(refine jY ?_ ?_<;>intro _)|fail)
  rename_i b1
  refine ok_draw_forkR (cv:=[]) 3 7 [3,7] [pts b1 (.cells [.int .u64 tx,.int .i64 total,.int .i64 nth,.int .u8 k,.int .i64 t,.slice pb (bef.map valV).length cb,.slice pa (aft.map valV).length ca].toArray 177)] (by decide) (by kernel_rfl) rfl (by decide +kernel) (by decide +kernel) (takePre takeD) ?_
  repeat'(first|(refine gY ?_;intros)|(refine hY ?_ ?_<;>intro hgd)|(refine jY ?_ ?_<;>intro _)|fail)
  refine cont_forkR (cv:=[]) rfl (by decide) rfl rfl rfl (by decide +kernel) (by decide +kernel) ?_ ?_
  ·repeat'(first|(refine gY ?_;intros)|(refine hY ?_ ?_<;>intro hgd)|(refine jY ?_ ?_<;>intro _)|fail)
   rename_i v1 hv1 v2 hv2
   (refine rt_Y (y:=(⟨v1,hv1⟩,⟨v2,hv2⟩)) (hrs:=Tryz.results154) (hv:=?_) (hφ:=?_))
   ·rfl
   ·trivial
  ·repeat'(first|(refine gY ?_;intros)|(refine hY ?_ ?_<;>intro hgd)|(refine jY ?_ ?_<;>intro _)|fail)
   rename_i v2 hv2
   refine cont_lateP (cv:=[]) rfl rfl rfl (by decide +kernel) (by decide +kernel) ?_
   repeat'(first|(refine gY ?_;intros)|(refine hY ?_ ?_<;>intro hgd)|(refine jY ?_ ?_<;>intro _)|fail)
   rename_i v1 hv1
   refine cont_late rfl ?_
   repeat'(first|(refine gY ?_;intros)|(refine hY ?_ ?_<;>intro hgd)|(refine jY ?_ ?_<;>intro _)|fail)
   (refine rt_Y (y:=(⟨v1,hv1⟩,⟨v2,hv2⟩)) (hrs:=Tryz.results154) (hv:=?_) (hφ:=?_))
   ·rfl
   ·trivial
 |false=>
 have hn14:¬ (k=1∨k=4):=fun h=>h.elim (of_decide_eq_false t1) (of_decide_eq_false t4)
 rw[if_neg hn14,if_neg hn14]
 cases t3:decide (k=3)with
 |true=>
  rw[if_pos (of_decide_eq_true t3),if_pos (of_decide_eq_true t3)]
  refine spec_intro [] _ Tryz.func154 rfl Tryz.ntmps154 (by rfl) (fun w0 R=>?_)
  repeat'(first|(refine gY ?_;intros)|(refine hY ?_ ?_<;>intro hgd)|(refine jY ?_ ?_<;>intro _)|fail)
  rename_i b1
  refine ok_draw_forkR (cv:=[]) 3 7 [3,7] [pts b1 (.cells [.int .u64 tx,.int .i64 total,.int .i64 nth,.int .u8 k,.int .i64 t,.slice pb (bef.map valV).length cb,.slice pa (aft.map valV).length ca].toArray 177)] (by decide) (by kernel_rfl) rfl (by decide +kernel) (by decide +kernel) (takePre takeD) ?_
  repeat'(first|(refine gY ?_;intros)|(refine hY ?_ ?_<;>intro hgd)|(refine jY ?_ ?_<;>intro _)|fail)
  refine cont_forkR (cv:=[]) rfl (by decide) rfl rfl rfl (by decide +kernel) (by decide +kernel) ?_ ?_
  ·repeat'(first|(refine gY ?_;intros)|(refine hY ?_ ?_<;>intro hgd)|(refine jY ?_ ?_<;>intro _)|fail)
   rename_i v1 hv1 v2 hv2
   (refine rt_Y (y:=(⟨v1,hv1⟩,⟨v2,hv2⟩)) (hrs:=Tryz.results154) (hv:=?_) (hφ:=?_))
   ·rfl
   ·trivial
  ·repeat'(first|(refine gY ?_;intros)|(refine hY ?_ ?_<;>intro hgd)|(refine jY ?_ ?_<;>intro _)|fail)
   rename_i v2 hv2
   refine cont_lateP (cv:=[]) rfl rfl rfl (by decide +kernel) (by decide +kernel) ?_
   repeat'(first|(refine gY ?_;intros)|(refine hY ?_ ?_<;>intro hgd)|(refine jY ?_ ?_<;>intro _)|fail)
   rename_i v1 hv1
   refine cont_late rfl ?_
   repeat'(first|(refine gY ?_;intros)|(refine hY ?_ ?_<;>intro hgd)|(refine jY ?_ ?_<;>intro _)|fail)
   (refine rt_Y (y:=(⟨v1,hv1⟩,⟨v2,hv2⟩)) (hrs:=Tryz.results154) (hv:=?_) (hφ:=?_))
   ·rfl
   ·trivial
 |false=>
  rw[if_neg (of_decide_eq_false t3),if_neg (of_decide_eq_false t3)]
  refine spec_intro [] _ Tryz.func154 rfl Tryz.ntmps154 (by rfl) (fun w0 R=>?_)
  repeat'(first|(refine gY ?_;intros)|(refine hY ?_ ?_<;>intro hgd)|(refine jY ?_ ?_<;>intro _)|fail)
  rename_i v1 hv1
  refine cont_map (fun _ h=>nilRow (e:=22) (n:=1) h) ?_
  (refine rt_Y (y:=(⟨v1,hv1⟩,⟨.slice none 0 0,rfl⟩)) (hrs:=Tryz.results154) (hv:=?_) (hφ:=?_))
  ·rfl
  ·trivial
end Go.Proofs.YtmnafjonbeihiaaGreatDoor
namespace Go.Proofs.YtmnafjonbeihiaaGreatDoor
open Go Go.Fx Go.Proofs Go.Pl
theorem hasM_all(c:Cm):(hasM c).all (fun x=>rowB x.2)=(hasE c.c).all rowB:=by rw[← hasM_c,List.all_map];rfl
theorem notM_all(c:Cm):(notM c).all (fun x=>decide (x.2.length≤0))=(notE c.c).all fun l=>decide (l.length≤0):=by rw[← notM_c,List.all_map];rfl
theorem hasM_len(c:Cm):(hasM c).length≤2:=by unfold hasM;split<;>(try split)<;>simp
theorem notM_len(c:Cm):(notM c).length≤2:=by unfold notM;split<;>(try split)<;>simp
theorem hasM_in{c:Cm}{x:Rw}(h:x∈hasM c):x.2=c.bef∨x.2=c.aft:=by
 unfold hasM at h
 split at h
 ·simp at h;subst h;exact .inr rfl
 ·split at h
  ·simp at h;subst h;exact .inl rfl
  ·simp at h;rcases h with rfl|rfl
   ·exact .inl rfl
   ·exact .inr rfl
theorem notM_in{c:Cm}{x:Rw}(h:x∈notM c):x.2=c.bef∨x.2=c.aft:=by
 unfold notM at h
 split at h
 ·simp at h;subst h;exact .inl rfl
 ·split at h
  ·simp at h;subst h;exact .inr rfl
  ·simp at h
theorem all_take_step{α:Type}{l:List α}{p:α→Bool}{j:Nat}(h:j<l.length)(ha:(l.take j).all p=true)(hp:p l[j]=true):(l.take (j+1)).all p=true:=by
 rw[List.take_succ_eq_append_getElem h,List.all_append,ha];simp[hp]
theorem all_false_of{α:Type}{l:List α}{p:α→Bool}{j:Nat}(h:j<l.length)(hp:p l[j]=false):l.all p=false:=by
 rw[List.all_eq_false];exact⟨l[j],List.getElem_mem h,by simp[hp]⟩
set_option maxHeartbeats 4000000 in
theorem evCheck_spec(e:Em)(A:HProp)(hA:UT A)(h:CmR A e.c)(hb:∀ v∈e.c.bef,v.wf)(ha:∀ v∈e.c.aft,v.wf)(lb:e.c.bef.length≤1000000)(la:e.c.aft.length≤1000000):
  FSpec Tryz.prog 151 [.agg (emV e).toArray] [A] Unit (fun _=>True) (fun _=>.int .i64 (bif mayE e.total e.nth e.c.c then 0 else 2)) (fun _=>[A]):=by
 have hr:=evRows_spec e A h
 have hall:=hasM_all e.c
 have nall:=notM_all e.c
 have hlen:=hasM_len e.c
 have nlen:=notM_len e.c
 have hvw:=hasM_vw h
 have nvw:=notM_vw h
 have hin:=fun x=>@hasM_in e.c x
 have nin:=fun x=>@notM_in e.c x
 obtain⟨tx,total,nth,⟨k,t,⟨bv,hbv⟩,bef,⟨av,hav⟩,aft⟩⟩:=e
 dsimp only at hb ha lb la hall nall hin nin
 have hm:mayE total nth (Cm.c ⟨k,t,⟨bv,hbv⟩,bef,⟨av,hav⟩,aft⟩)=(!(decide (k<1)||(decide (4<k)||(decide (t<0)||(decide (12≤t)||(decide (total<0)||(decide (200≤total)||(decide (nth<0)||decide (total<nth))))))))&&
   ((hasE (Cm.c ⟨k,t,⟨bv,hbv⟩,bef,⟨av,hav⟩,aft⟩)).all rowB&&(notE (Cm.c ⟨k,t,⟨bv,hbv⟩,bef,⟨av,hav⟩,aft⟩)).all fun l=>decide (l.length≤0))):=rfl
 dsimp only
 rw[hm,← hall,← nall]
 clear hm
 generalize hasM ⟨k,t,⟨bv,hbv⟩,bef,⟨av,hav⟩,aft⟩=hs at hr hlen hvw hin
 generalize notM ⟨k,t,⟨bv,hbv⟩,bef,⟨av,hav⟩,aft⟩=ns at hr nlen nvw nin
 clear hall nall h
 dsimp only[emV,Cm.c]at hr ⊢
 cases q1:decide (k<1)with
 |true=>
  rw[Bool.true_or,Bool.not_true,Bool.false_and,cond_false]
  refine spec_intro [] _ Tryz.func151 rfl Tryz.ntmps151 (by rfl) (fun w0 R=>?_)
  repeat'(first|(refine gY ?_;intros)|(refine hY ?_ ?_<;>intro hgd)|(refine jY ?_ ?_<;>intro _)|fail)
  (refine rt_Y (y:=()) (hrs:=Tryz.results151) (hv:=?_) (hφ:=?_))
  ·rfl
  ·trivial
 |false=>
 rw[Bool.false_or]
 cases q2:decide (4<k)with
 |true=>
  rw[Bool.true_or,Bool.not_true,Bool.false_and,cond_false]
  refine spec_intro [] _ Tryz.func151 rfl Tryz.ntmps151 (by rfl) (fun w0 R=>?_)
  repeat'(first|(refine gY ?_;intros)|(refine hY ?_ ?_<;>intro hgd)|(refine jY ?_ ?_<;>intro _)|fail)
  (refine rt_Y (y:=()) (hrs:=Tryz.results151) (hv:=?_) (hφ:=?_))
  ·rfl
  ·trivial
 |false=>
 rw[Bool.false_or]
 cases q3:decide (t<0)with
 |true=>
  rw[Bool.true_or,Bool.not_true,Bool.false_and,cond_false]
  refine spec_intro [] _ Tryz.func151 rfl Tryz.ntmps151 (by rfl) (fun w0 R=>?_)
  repeat'(first|(refine gY ?_;intros)|(refine hY ?_ ?_<;>intro hgd)|(refine jY ?_ ?_<;>intro _)|fail)
  (refine rt_Y (y:=()) (hrs:=Tryz.results151) (hv:=?_) (hφ:=?_))
  ·rfl
  ·trivial
 |false=>
 rw[Bool.false_or]
 cases q4:decide (12≤t)with
 |true=>
  rw[Bool.true_or,Bool.not_true,Bool.false_and,cond_false]
  refine spec_intro [] _ Tryz.func151 rfl Tryz.ntmps151 (by rfl) (fun w0 R=>?_)
  repeat'(first|(refine gY ?_;intros)|(refine hY ?_ ?_<;>intro hgd)|(refine jY ?_ ?_<;>intro _)|fail)
  (refine rt_Y (y:=()) (hrs:=Tryz.results151) (hv:=?_) (hφ:=?_))
  ·rfl
  ·trivial
 |false=>
 rw[Bool.false_or]
 cases q5:decide (total<0)with
 |true=>
  rw[Bool.true_or,Bool.not_true,Bool.false_and,cond_false]
  refine spec_intro [] _ Tryz.func151 rfl Tryz.ntmps151 (by rfl) (fun w0 R=>?_)
  repeat'(first|(refine gY ?_;intros)|(refine hY ?_ ?_<;>intro hgd)|(refine jY ?_ ?_<;>intro _)|fail)
  (refine rt_Y (y:=()) (hrs:=Tryz.results151) (hv:=?_) (hφ:=?_))
  ·rfl
  ·trivial
 |false=>
 rw[Bool.false_or]
 cases q6:decide (200≤total)with
 |true=>
  rw[Bool.true_or,Bool.not_true,Bool.false_and,cond_false]
  refine spec_intro [] _ Tryz.func151 rfl Tryz.ntmps151 (by rfl) (fun w0 R=>?_)
  repeat'(first|(refine gY ?_;intros)|(refine hY ?_ ?_<;>intro hgd)|(refine jY ?_ ?_<;>intro _)|fail)
  (refine rt_Y (y:=()) (hrs:=Tryz.results151) (hv:=?_) (hφ:=?_))
  ·rfl
  ·trivial
 |false=>
 rw[Bool.false_or]
 cases q7:decide (nth<0)with
 |true=>
  rw[Bool.true_or,Bool.not_true,Bool.false_and,cond_false]
  refine spec_intro [] _ Tryz.func151 rfl Tryz.ntmps151 (by rfl) (fun w0 R=>?_)
  repeat'(first|(refine gY ?_;intros)|(refine hY ?_ ?_<;>intro hgd)|(refine jY ?_ ?_<;>intro _)|fail)
  (refine rt_Y (y:=()) (hrs:=Tryz.results151) (hv:=?_) (hφ:=?_))
  ·rfl
  ·trivial
 |false=>
 rw[Bool.false_or]
 cases q8:decide (total<nth)with
 |true=>
  rw[Bool.not_true,Bool.false_and,cond_false]
  refine spec_intro [] _ Tryz.func151 rfl Tryz.ntmps151 (by rfl) (fun w0 R=>?_)
  repeat'(first|(refine gY ?_;intros)|(refine hY ?_ ?_<;>intro hgd)|(refine jY ?_ ?_<;>intro _)|fail)
  (refine rt_Y (y:=()) (hrs:=Tryz.results151) (hv:=?_) (hφ:=?_))
  ·rfl
  ·trivial
 |false=>
 rw[Bool.not_false,Bool.true_and]
 refine spec_intro [] _ Tryz.func151 rfl Tryz.ntmps151 (by rfl) (fun w0 R=>?_)
 repeat'(first|(refine gY ?_;intros)|(refine hY ?_ ?_<;>intro hgd)|(refine jY ?_ ?_<;>intro _)|fail)
 refine cl_Y (hr) ?_
 rintro⟨⟨v1,hv1⟩,⟨v2,hv2⟩⟩ _
 dsimp only
 refine ops_learn (rowShapeS (e:=22) (n:=1) (v:=v1) (xs:=hs.map rwV) (by decide) takeD) ?_
 rintro⟨p1,c1,rfl,hc1,hs1⟩
 refine ops_learn (rowShapeS (e:=22) (n:=1) (v:=v2) (xs:=ns.map rwV) (by decide) takeD) ?_
 rintro⟨p2,c2,rfl,hc2,hs2⟩
 repeat'(first|(refine gY ?_;intros)|(refine hY ?_ ?_<;>intro hgd)|(refine jY ?_ ?_<;>intro _)|fail)
 refine ok_map (L':=[row 22 1 (.slice p1 (hs.map rwV).length c1) (hs.map rwV),row 22 1 (.slice p2 (ns.map rwV).length c2) (ns.map rwV),A]++R) entD ?_
 have l1:(hs.map rwV).length=hs.length:=by simp
 have l2:(ns.map rwV).length=ns.length:=by simp
 refine ok_loop' (γ:=Nat) (fun j ρ L=>j≤hs.length∧(hs.take j).all (fun x=>rowB x.2)=true∧Knows ρ [(4,.slice p2 (ns.map rwV).length c2),(58,.slice p1 (hs.map rwV).length c1),(59,.int .i64 ((hs.map rwV).length:Int)),(60,.int .i64 (j:Int))]∧L=[row 22 1 (.slice p1 (hs.map rwV).length c1) (hs.map rwV),row 22 1 (.slice p2 (ns.map rwV).length c2) (ns.map rwV),A]++R) (fun j=>hs.length-j) 0 ⟨by omega,rfl,⟨rfl,rfl,rfl,rfl,trivial⟩,rfl⟩ ?_
 rintro j ρ L ⟨hj,hal,hk,rfl⟩
 refine ok_regs hk ?_
 cases t1:decide ((j:Int)<((hs.map rwV).length:Int))with
 |true=>
  have hj0:j<hs.length:=by rw[decide_eq_true_eq]at t1;omega
  have hx:(hs.map rwV)[j]? =some (rwV hs[j]):=by rw[List.getElem?_map,List.getElem?_eq_getElem hj0];rfl
  have hjn:j<(hs.map rwV).length:=by omega
  have hv:=hvw _ (List.getElem_mem hj0)
  have hi:=hin _ (List.getElem_mem hj0)
  refine ok_learn (VwIn.base (n:=1) (p:=p1) (len:=(hs.map rwV).length) (cap:=c1) (xs:=hs.map rwV) (VwIn.here Vw.row) (by intro e;rw[e]at hjn;simp at hjn)) ?_
  rintro⟨bl,ol,rfl⟩
  have hwx:∀ v∈hs[j].2,v.wf:=by rcases hi with e|e<;>rw[e]<;>assumption
  have hlx:hs[j].2.length≤4611686018427387904:=by rcases hi with e|e<;>rw[e]<;>omega
  have hrow:=vRow_spec hs[j].1.1 A hs[j].2 hA hv hwx hlx
  have hst:=fun h=>all_take_step (p:=fun x:Rw=>rowB x.2) hj0 hal h
  have hfl:=fun h=>all_false_of (p:=fun x:Rw=>rowB x.2) hj0 h
  generalize hs[j]=x at hx hv hrow hst hfl
  obtain⟨⟨xv,hxv⟩,xl⟩:=x
  dsimp only[rwV]at hx hv hrow hst hfl
  refine ok_learn (VwIn.slice (VwIn.there (VwIn.there (VwIn.here hv)))) ?_
  rintro⟨px,cx,rfl⟩
  cases hr1:rowB xl with
  |true=>
   rw[hr1,cond_true]at hrow
   have e0:(!decide ((0:Int)=(0:Int)))=false:=by decide
   repeat'(first|(refine gY ?_;intros)|(refine hY ?_ ?_<;>intro hgd)|(refine jY ?_ ?_<;>intro _)|fail)
   refine cl_Y (hrow) ?_
   intro _ _
   repeat'(first|(refine gY ?_;intros)|(refine hY ?_ ?_<;>intro hgd)|(refine jY ?_ ?_<;>intro _)|fail)
   refine cont_map (L':=[row 22 1 (.slice (some ⟨bl,ol,none⟩) (hs.map rwV).length c1) (hs.map rwV),row 22 1 (.slice p2 (ns.map rwV).length c2) (ns.map rwV),A]++R) entD ?_
   refine cont_back (j+1) ⟨hj0,hst hr1,⟨rfl,rfl,rfl,rfl,trivial⟩,rfl⟩ (by omega)
  |false=>
   rw[hr1,cond_false]at hrow
   rw[hfl hr1,Bool.false_and,cond_false]
   have e0:(!decide ((2:Int)=(0:Int)))=true:=by decide
   repeat'(first|(refine gY ?_;intros)|(refine hY ?_ ?_<;>intro hgd)|(refine jY ?_ ?_<;>intro _)|fail)
   refine cl_Y (hrow) ?_
   intro _ _
   repeat'(first|(refine gY ?_;intros)|(refine hY ?_ ?_<;>intro hgd)|(refine jY ?_ ?_<;>intro _)|fail)
   (refine rt_Y (y:=()) (hrs:=Tryz.results151) (hv:=?_) (hφ:=?_))
   ·rfl
   ·trivial
 |false=>
 have hje:j=hs.length:=by rw[decide_eq_false_iff_not]at t1;omega
 subst hje
 rw[List.take_length]at hal
 rw[hal,Bool.true_and]
 repeat'(first|(refine gY ?_;intros)|(refine hY ?_ ?_<;>intro hgd)|(refine jY ?_ ?_<;>intro _)|fail)
 refine ok_loop' (γ:=Nat) (fun j ρ L=>j≤ns.length∧(ns.take j).all (fun x=>decide (x.2.length≤0))=true∧Knows ρ [(68,.slice p2 (ns.map rwV).length c2),(69,.int .i64 ((ns.map rwV).length:Int)),(70,.int .i64 (j:Int))]∧L=[row 22 1 (.slice p1 (hs.map rwV).length c1) (hs.map rwV),row 22 1 (.slice p2 (ns.map rwV).length c2) (ns.map rwV),A]++R) (fun j=>ns.length-j) 0 ⟨by omega,rfl,⟨rfl,rfl,rfl,trivial⟩,rfl⟩ ?_
 rintro j ρ L ⟨hj,hal,hk,rfl⟩
 refine ok_regs hk ?_
 clear t1
 cases t1:decide ((j:Int)<((ns.map rwV).length:Int))with
 |true=>
  have hj0:j<ns.length:=by rw[decide_eq_true_eq]at t1;omega
  have hx:(ns.map rwV)[j]? =some (rwV ns[j]):=by rw[List.getElem?_map,List.getElem?_eq_getElem hj0];rfl
  have hjn:j<(ns.map rwV).length:=by omega
  have hv:=nvw _ (List.getElem_mem hj0)
  refine ok_learn (VwIn.base (n:=1) (p:=p2) (len:=(ns.map rwV).length) (cap:=c2) (xs:=ns.map rwV) (VwIn.there (VwIn.here Vw.row)) (by intro e;rw[e]at hjn;simp at hjn)) ?_
  rintro⟨bl,ol,rfl⟩
  have hst:=fun h=>all_take_step (p:=fun x:Rw=>decide (x.2.length≤0)) hj0 hal h
  have hfl:=fun h=>all_false_of (p:=fun x:Rw=>decide (x.2.length≤0)) hj0 h
  generalize ns[j]=x at hx hv hst hfl
  obtain⟨⟨xv,hxv⟩,xl⟩:=x
  dsimp only[rwV]at hx hv hst hfl
  refine ok_learn (VwIn.slice (VwIn.there (VwIn.there (VwIn.here hv)))) ?_
  rintro⟨px,cx,rfl⟩
  have lx:(xl.map valV).length=xl.length:=by simp
  cases t2:decide ((0:Int)<((xl.map valV).length:Int))with
  |false=>
   have hz:decide (xl.length≤0)=true:=by rw[decide_eq_false_iff_not]at t2;rw[decide_eq_true_eq];omega
   repeat'(first|(refine gY ?_;intros)|(refine hY ?_ ?_<;>intro hgd)|(refine jY ?_ ?_<;>intro _)|fail)
   refine cont_map (L':=[row 22 1 (.slice p1 (hs.map rwV).length c1) (hs.map rwV),row 22 1 (.slice (some ⟨bl,ol,none⟩) (ns.map rwV).length c2) (ns.map rwV),A]++R) entD ?_
   refine cont_back (j+1) ⟨hj0,hst hz,⟨rfl,rfl,rfl,trivial⟩,rfl⟩ (by omega)
  |true=>
   have hz:decide (xl.length≤0)=false:=by rw[decide_eq_true_eq]at t2;rw[decide_eq_false_iff_not];omega
   rw[hfl hz,cond_false]
   repeat'(first|(refine gY ?_;intros)|(refine hY ?_ ?_<;>intro hgd)|(refine jY ?_ ?_<;>intro _)|fail)
   (refine rt_Y (y:=()) (hrs:=Tryz.results151) (hv:=?_) (hφ:=?_))
   ·rfl
   ·trivial
 |false=>
 have hje:j=ns.length:=by rw[decide_eq_false_iff_not]at t1;omega
 subst hje
 rw[List.take_length]at hal
 rw[hal,cond_true]
 repeat'(first|(refine gY ?_;intros)|(refine hY ?_ ?_<;>intro hgd)|(refine jY ?_ ?_<;>intro _)|fail)
 (refine rt_Y (y:=()) (hrs:=Tryz.results151) (hv:=?_) (hφ:=?_))
 ·rfl
 ·trivial
end Go.Proofs.YtmnafjonbeihiaaGreatDoor
