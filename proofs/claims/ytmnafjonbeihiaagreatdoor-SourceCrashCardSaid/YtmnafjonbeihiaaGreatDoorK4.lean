/- Texts merged: G16 H39. -/
import Derived.Test.YtmnafjonbeihiaaGreatDoorY
import Derived.Test.YtmnafjonbeihiaaGreatDoorK1
/- Texts merged: WdA WdB WdC. -/
set_option linter.unusedSimpArgs false
set_option linter.unusedVariables false
set_option maxRecDepth 100000
namespace Go.Proofs.YtmnafjonbeihiaaGreatDoor
open Go Go.Fx Go.Proofs Go.Pl
theorem fits_spec(v n bits:Int)(h:0≤n*bits)(h1:n*bits≤1000000):FSpec Tryz.prog 191 [.int .u64 v,.int .i64 n,.int .i64 bits] [] Unit (fun _=>True) (fun _=>.bool (fitsB v n bits)) (fun _=>[]):=by
 unfold fitsB
 cases t1:decide (64≤n*bits)with
 |true=>
  refine spec_intro [] _ Tryz.func191 rfl Tryz.ntmps191 (by rfl) (fun w0 R=>?_)
  repeat'(first|(refine gY ?_;intros)|(refine hY ?_ ?_<;>intro hgd)|(refine jY ?_ ?_<;>intro _)|fail)
  (refine rt_Y (y:=()) (hrs:=Tryz.results191) (hv:=?_) (hφ:=?_))
  ·rfl
  ·trivial
 |false=>
  refine spec_intro [] _ Tryz.func191 rfl Tryz.ntmps191 (by rfl) (fun w0 R=>?_)
  repeat'(first|(refine gY ?_;intros)|(refine hY ?_ ?_<;>intro hgd)|(refine jY ?_ ?_<;>intro _)|fail)
  (refine rt_Y (y:=()) (hrs:=Tryz.results191) (hv:=?_) (hφ:=?_))
  ·rfl
  ·trivial
theorem put_spec(v:Nat)(n:Nat)(hv:v<18446744073709551616)(h1:1≤n)(h8:n≤8)(hf:fitsB v n 8=true):FSpec Tryz.prog 150 [.int .u64 v,.int .i64 n] [] Unit (fun _=>True) (fun _=>.tuple #[.string ⟨(putL v n).toArray⟩,.int .i64 0]) (fun _=>[]):=by
 have t1:decide ((n:Int)<1)=false:=by simp;omega
 have t2:decide ((8:Int)<(n:Int))=false:=by simp;omega
 refine spec_intro [183] _ Tryz.func150 rfl Tryz.ntmps150 (by rfl) (fun w0 R=>?_)
 repeat'(first|(refine gY ?_;intros)|(refine hY ?_ ?_<;>intro hgd)|(refine jY ?_ ?_<;>intro _)|fail)
 refine cl_Y (fits_spec v n 8 (by omega) (by omega)) ?_
 intro _ _
 rw[hf]
 repeat'(first|(refine gY ?_;intros)|(refine hY ?_ ?_<;>intro hgd)|(refine jY ?_ ?_<;>intro _)|fail)
 rename_i b
 rw[← putR_0 v n]
 refine ok_loop' (γ:=Nat) (fun k ρ L=>k≤n∧Knows ρ [(0,.int .u64 v),(6,.slice (some ⟨b,0,none⟩) n n),(23,.int .i64 n),(24,.int .i64 k)]∧L=[row 5 1 (.slice (some ⟨b,0,none⟩) n n) (putR v n k)]++R) (fun k=>n-k) 0 ⟨by omega,⟨rfl,rfl,rfl,rfl,trivial⟩,rfl⟩ ?_
 rintro k ρ L ⟨hk,hkn,rfl⟩
 refine ok_regs hkn ?_
 cases t3:decide ((k:Int)<(n:Int))with
 |true=>
  have hkl:k<n:=by simp at t3;omega
  have hb:=byte_shift v k (by omega)
  repeat'(first|(refine gY ?_;intros)|(refine hY ?_ ?_<;>intro hgd)|(refine jY ?_ ?_<;>intro _)|fail)
  rw[putR_set v n k hkl]
  refine cont_back (k+1) ⟨hkl,⟨rfl,rfl,rfl,rfl,trivial⟩,rfl⟩ (by omega)
 |false=>
  have hkl:k=n:=by simp at t3;omega
  subst hkl
  rw[putR_n]
  repeat'(first|(refine gY ?_;intros)|(refine hY ?_ ?_<;>intro hgd)|(refine jY ?_ ?_<;>intro _)|fail)
  (refine rt_Y (y:=()) (hrs:=Tryz.results150) (hv:=?_) (hφ:=?_))
  ·rfl
  ·trivial
theorem get_spec(s:ByteArray)(h1:1≤s.size)(h8:s.size≤8):FSpec Tryz.prog 159 [.string s] [] Unit (fun _=>True) (fun _=>.tuple #[.int .u64 (getL s.data.toList s.size),.int .i64 0]) (fun _=>[]):=by
 have t1:decide ((s.size:Int)<1)=false:=by simp;omega
 have t2:decide ((8:Int)<(s.size:Int))=false:=by simp;omega
 refine spec_intro [] _ Tryz.func159 rfl Tryz.ntmps159 (by rfl) (fun w0 R=>?_)
 repeat'(first|(refine gY ?_;intros)|(refine hY ?_ ?_<;>intro hgd)|(refine jY ?_ ?_<;>intro _)|fail)
 refine ok_loop' (γ:=Nat) (fun k ρ L=>k≤s.size∧Knows ρ [(0,.string s),(2,.int .u64 (getL s.data.toList k)),(14,.int .i64 s.size),(15,.int .i64 k)]∧L=[]++R) (fun k=>s.size-k) 0 ⟨by omega,⟨rfl,rfl,rfl,rfl,trivial⟩,rfl⟩ ?_
 rintro k ρ L ⟨hk,hkn,rfl⟩
 refine ok_regs hkn ?_
 cases t3:decide ((k:Int)<(s.size:Int))with
 |true=>
  have hkl:k<s.size:=by simp at t3;omega
  have hlen:k<s.data.toList.length:=by have h':=hkl;simp;exact h'
  have hc:s.data.toList[k]? =some s.data.toList[k]:=List.getElem?_eq_getElem hlen
  have hg:getL s.data.toList (k+1)=getStep (getL s.data.toList k) s.data.toList[k] k:=by
   show(match s.data.toList[k]? with|some c=>getStep (getL s.data.toList k) c k|none=>getL s.data.toList k)=_
   rw[hc]
  generalize s.data.toList[k]=c at hc hg
  repeat'(first|(refine gY ?_;intros)|(refine hY ?_ ?_<;>intro hgd)|(refine jY ?_ ?_<;>intro _)|fail)
  refine cont_back (k+1) ⟨hkl,⟨rfl,by rw[hg];rfl,rfl,rfl,trivial⟩,rfl⟩ (by omega)
 |false=>
  have hkl:k=s.size:=by simp at t3;omega
  subst hkl
  repeat'(first|(refine gY ?_;intros)|(refine hY ?_ ?_<;>intro hgd)|(refine jY ?_ ?_<;>intro _)|fail)
  (refine rt_Y (y:=()) (hrs:=Tryz.results159) (hv:=?_) (hφ:=?_))
  ·rfl
  ·trivial
theorem half1_spec(c:Int):FSpec Tryz.prog 259 [.int .u32 c] [] Unit (fun _=>True) (fun _=>.int .u32 (hiter 4 c)) (fun _=>[]):=by
 refine spec_intro [] _ Tryz.func259 rfl Tryz.ntmps259 (by rfl) (fun w0 R=>?_)
 repeat'(first|(refine gY ?_;intros)|(refine hY ?_ ?_<;>intro hgd)|(refine jY ?_ ?_<;>intro _)|fail)
 refine ok_loop' (γ:=Nat) (fun k ρ L=>k≤4∧Knows ρ [(0,.int .u32 (hiter k c)),(3,.int .i64 k)]∧L=[]++R) (fun k=>4-k) 0 ⟨by omega,⟨rfl,rfl,trivial⟩,rfl⟩ ?_
 rintro k ρ L ⟨hk,hkn,rfl⟩
 refine ok_regs hkn ?_
 cases t3:decide ((k:Int)<4)with
 |true=>
  have hkl:k<4:=by simp at t3;omega
  repeat'(first|(refine gY ?_;intros)|(refine hY ?_ ?_<;>intro hgd)|(refine jY ?_ ?_<;>intro _)|fail)
  refine cont_back (k+1) ⟨hkl,⟨rfl,rfl,trivial⟩,rfl⟩ (by omega)
 |false=>
  have hkl:k=4:=by simp at t3;omega
  subst hkl
  repeat'(first|(refine gY ?_;intros)|(refine hY ?_ ?_<;>intro hgd)|(refine jY ?_ ?_<;>intro _)|fail)
  (refine rt_Y (y:=()) (hrs:=Tryz.results259) (hv:=?_) (hφ:=?_))
  ·rfl
  ·trivial
instance arrT:ArI Tryz.prog 300 16 265 1:=⟨Tryz.underlying300,by kernel_rfl⟩
theorem half_spec:FSpec Tryz.prog 231 [] [] Unit (fun _=>True) (fun _=>.agg (tabV 16).toArray) (fun _=>[]):=by
 refine spec_intro [] _ Tryz.func231 rfl Tryz.ntmps231 (by rfl) (fun w0 R=>?_)
 repeat'(first|(refine gY ?_;intros)|(refine hY ?_ ?_<;>intro hgd)|(refine jY ?_ ?_<;>intro _)|fail)
 rename_i b0 b2
 refine ok_map (L':=[pts b2 (.cells (tabV 0).toArray 300),pts b0 _]++R) entD ?_
 refine ok_loop' (γ:=Nat) (fun k ρ L=>k≤16∧Knows ρ [(0,.pointer (some ⟨b0,0,none⟩)),(1,.func (.func 259) #[] #[]),(2,.pointer (some ⟨b2,0,none⟩)),(6,.agg (tabV 0).toArray),(7,.int .i64 k)]∧L=[pts b2 (.cells (tabV k).toArray 300),pts b0 (.cells (List.replicate 16 (.int .u32 0)).toArray 300)]++R) (fun k=>16-k) 0 ⟨by omega,⟨rfl,rfl,rfl,rfl,rfl,trivial⟩,rfl⟩ ?_
 rintro k ρ L ⟨hk,hkn,rfl⟩
 refine ok_regs hkn ?_
 cases t3:decide ((k:Int)<16)with
 |true=>
  have hkl:k<16:=by simp at t3;omega
  have hg:=tab0_get k hkl
  have hv:=vspec_fn (half1_spec (k:Int))
  have hb:Nat.ble (0+k+1) (tabV k).length=true:=by rw[tabV_len];simp;omega
  repeat'(first|(refine gY ?_;intros)|(refine hY ?_ ?_<;>intro hgd)|(refine jY ?_ ?_<;>intro _)|fail)
  refine clV_Y (hv) ?_
  intro _ _
  repeat'(first|(refine gY ?_;intros)|(refine hY ?_ ?_<;>intro hgd)|(refine jY ?_ ?_<;>intro _)|fail)
  have hset:=tabV_set k hkl
  rw[List.append_assoc]at hset
  first|rw[hset]|(simp only[List.cons_append,List.nil_append]at hset;rw[hset])
  refine cont_map (L':=[pts b2 (.cells (tabV (k+1)).toArray 300),pts b0 (.cells (List.replicate 16 (.int .u32 0)).toArray 300)]++R) entD ?_
  refine cont_back (k+1) ⟨hkl,⟨rfl,rfl,rfl,rfl,rfl,trivial⟩,rfl⟩ (by omega)
 |false=>
  have hkl:k=16:=by simp at t3;omega
  subst hkl
  repeat'(first|(refine gY ?_;intros)|(refine hY ?_ ?_<;>intro hgd)|(refine jY ?_ ?_<;>intro _)|fail)
  (refine rt_Y (y:=()) (hrs:=Tryz.results231) (hv:=?_) (hφ:=?_))
  ·rfl
  ·trivial
theorem sum_spec(s:ByteArray)(hs:s.size≤4611686018427387904):FSpec Tryz.prog 189 [.string s] [] Unit (fun _=>True) (fun _=>.int .u32 (sumS s)) (fun _=>[]):=by
 refine spec_intro [] _ Tryz.func189 rfl Tryz.ntmps189 (by rfl) (fun w0 R=>?_)
 repeat'(first|(refine gY ?_;intros)|(refine hY ?_ ?_<;>intro hgd)|(refine jY ?_ ?_<;>intro _)|fail)
 refine cl_Y (half_spec) ?_
 intro _ _
 repeat'(first|(refine gY ?_;intros)|(refine hY ?_ ?_<;>intro hgd)|(refine jY ?_ ?_<;>intro _)|fail)
 rename_i b
 refine ok_loop' (γ:=Nat) (fun k ρ L=>k≤s.size∧Knows ρ [(0,.string s),(3,.pointer (some ⟨b,0,none⟩)),(4,.int .u32 (sumL s.data.toList k)),(8,.int .i64 s.size),(9,.int .i64 k)]∧L=[pts b (.cells (tabV 16).toArray 300)]++R) (fun k=>s.size-k) 0 ⟨by omega,⟨rfl,rfl,rfl,rfl,rfl,trivial⟩,rfl⟩ ?_
 rintro k ρ L ⟨hk,hkn,rfl⟩
 refine ok_regs hkn ?_
 cases t3:decide ((k:Int)<(s.size:Int))with
 |true=>
  have hkl:k<s.size:=by simp at t3;omega
  have hlen:k<s.data.toList.length:=by have h':=hkl;simp;exact h'
  have hc:s.data.toList[k]? =some s.data.toList[k]:=List.getElem?_eq_getElem hlen
  have hg:sumL s.data.toList (k+1)=sumT (sumT (sumX (sumL s.data.toList k) s.data.toList[k])):=by
   show(match s.data.toList[k]? with|some x=>sumT (sumT (sumX (sumL s.data.toList k) x))|none=>sumL s.data.toList k)=_
   rw[hc]
  generalize s.data.toList[k]=c at hc hg
  obtain⟨m1,e1,h1⟩:=and15 (bitsOf .xor .u32 (sumL s.data.toList k) (IntKind.u32.wrap (c.toNat:Int)))
  have g1:=tab16_get m1 h1
  obtain⟨m2,e2,h2⟩:=and15 (bitsOf .xor .u32 (shiftOf .shr .u32 (bitsOf .xor .u32 (sumL s.data.toList k) (IntKind.u32.wrap (c.toNat:Int))) 4) (hiter 4 (m1:Int)))
  have g2:=tab16_get m2 h2
  repeat'(first|(refine gY ?_;intros)|(refine hY ?_ ?_<;>intro hgd)|(refine jY ?_ ?_<;>intro _)|fail)
  refine cont_back (k+1) ⟨hkl,⟨rfl,rfl,by rw[hg];unfold sumT sumX;rw[e1,e2];rfl,rfl,rfl,trivial⟩,rfl⟩ (by omega)
 |false=>
  have hkl:k=s.size:=by simp at t3;omega
  subst hkl
  repeat'(first|(refine gY ?_;intros)|(refine hY ?_ ?_<;>intro hgd)|(refine jY ?_ ?_<;>intro _)|fail)
  (refine rt_Y (y:=()) (hrs:=Tryz.results189) (hv:=?_) (hφ:=?_))
  ·rfl
  ·trivial
theorem wfits_spec(v n bits:Int)(h:0≤n*bits)(h1:n*bits≤1000000):FSpec Tryz.prog 191 [.int .u64 v,.int .i64 n,.int .i64 bits] [] Unit (fun _=>True) (fun _=>.bool (fitsB v n bits)) (fun _=>[]):=by
 unfold fitsB
 cases t1:decide (64≤n*bits)with
 |true=>
  refine spec_intro [] _ Tryz.func191 rfl Tryz.ntmps191 (by rfl) (fun w0 R=>?_)
  repeat'(first|(refine gY ?_;intros)|(refine hY ?_ ?_<;>intro hgd)|(refine jY ?_ ?_<;>intro _)|fail)
  (refine rt_Y (y:=()) (hrs:=Tryz.results191) (hv:=?_) (hφ:=?_))
  ·rfl
  ·trivial
 |false=>
  refine spec_intro [] _ Tryz.func191 rfl Tryz.ntmps191 (by rfl) (fun w0 R=>?_)
  repeat'(first|(refine gY ?_;intros)|(refine hY ?_ ?_<;>intro hgd)|(refine jY ?_ ?_<;>intro _)|fail)
  (refine rt_Y (y:=()) (hrs:=Tryz.results191) (hv:=?_) (hφ:=?_))
  ·rfl
  ·trivial
theorem wput_spec(v:Nat)(n:Nat)(hv:v<18446744073709551616)(h1:1≤n)(h8:n≤8)(hf:fitsB v n 8=true):FSpec Tryz.prog 150 [.int .u64 v,.int .i64 n] [] Unit (fun _=>True) (fun _=>.tuple #[.string ⟨(putL v n).toArray⟩,.int .i64 0]) (fun _=>[]):=by
 have t1:decide ((n:Int)<1)=false:=by simp;omega
 have t2:decide ((8:Int)<(n:Int))=false:=by simp;omega
 refine spec_intro [183] _ Tryz.func150 rfl Tryz.ntmps150 (by rfl) (fun w0 R=>?_)
 repeat'(first|(refine gY ?_;intros)|(refine hY ?_ ?_<;>intro hgd)|(refine jY ?_ ?_<;>intro _)|fail)
 refine cl_Y (wfits_spec v n 8 (by omega) (by omega)) ?_
 intro _ _
 rw[hf]
 repeat'(first|(refine gY ?_;intros)|(refine hY ?_ ?_<;>intro hgd)|(refine jY ?_ ?_<;>intro _)|fail)
 rename_i b
 rw[← putR_0 v n]
 refine ok_loop' (γ:=Nat) (fun k ρ L=>k≤n∧Knows ρ [(0,.int .u64 v),(6,.slice (some ⟨b,0,none⟩) n n),(23,.int .i64 n),(24,.int .i64 k)]∧L=[row 5 1 (.slice (some ⟨b,0,none⟩) n n) (putR v n k)]++R) (fun k=>n-k) 0 ⟨by omega,⟨rfl,rfl,rfl,rfl,trivial⟩,rfl⟩ ?_
 rintro k ρ L ⟨hk,hkn,rfl⟩
 refine ok_regs hkn ?_
 cases t3:decide ((k:Int)<(n:Int))with
 |true=>
  have hkl:k<n:=by simp at t3;omega
  have hb:=byte_shift v k (by omega)
  repeat'(first|(refine gY ?_;intros)|(refine hY ?_ ?_<;>intro hgd)|(refine jY ?_ ?_<;>intro _)|fail)
  rw[putR_set v n k hkl]
  refine cont_back (k+1) ⟨hkl,⟨rfl,rfl,rfl,rfl,trivial⟩,rfl⟩ (by omega)
 |false=>
  have hkl:k=n:=by simp at t3;omega
  subst hkl
  rw[putR_n]
  repeat'(first|(refine gY ?_;intros)|(refine hY ?_ ?_<;>intro hgd)|(refine jY ?_ ?_<;>intro _)|fail)
  (refine rt_Y (y:=()) (hrs:=Tryz.results150) (hv:=?_) (hφ:=?_))
  ·rfl
  ·trivial
theorem wget_spec(s:ByteArray)(h1:1≤s.size)(h8:s.size≤8):FSpec Tryz.prog 159 [.string s] [] Unit (fun _=>True) (fun _=>.tuple #[.int .u64 (getL s.data.toList s.size),.int .i64 0]) (fun _=>[]):=by
 have t1:decide ((s.size:Int)<1)=false:=by simp;omega
 have t2:decide ((8:Int)<(s.size:Int))=false:=by simp;omega
 refine spec_intro [] _ Tryz.func159 rfl Tryz.ntmps159 (by rfl) (fun w0 R=>?_)
 repeat'(first|(refine gY ?_;intros)|(refine hY ?_ ?_<;>intro hgd)|(refine jY ?_ ?_<;>intro _)|fail)
 refine ok_loop' (γ:=Nat) (fun k ρ L=>k≤s.size∧Knows ρ [(0,.string s),(2,.int .u64 (getL s.data.toList k)),(14,.int .i64 s.size),(15,.int .i64 k)]∧L=[]++R) (fun k=>s.size-k) 0 ⟨by omega,⟨rfl,rfl,rfl,rfl,trivial⟩,rfl⟩ ?_
 rintro k ρ L ⟨hk,hkn,rfl⟩
 refine ok_regs hkn ?_
 cases t3:decide ((k:Int)<(s.size:Int))with
 |true=>
  have hkl:k<s.size:=by simp at t3;omega
  have hlen:k<s.data.toList.length:=by have h':=hkl;simp;exact h'
  have hc:s.data.toList[k]? =some s.data.toList[k]:=List.getElem?_eq_getElem hlen
  have hg:getL s.data.toList (k+1)=getStep (getL s.data.toList k) s.data.toList[k] k:=by
   show(match s.data.toList[k]? with|some c=>getStep (getL s.data.toList k) c k|none=>getL s.data.toList k)=_
   rw[hc]
  generalize s.data.toList[k]=c at hc hg
  repeat'(first|(refine gY ?_;intros)|(refine hY ?_ ?_<;>intro hgd)|(refine jY ?_ ?_<;>intro _)|fail)
  refine cont_back (k+1) ⟨hkl,⟨rfl,by rw[hg];rfl,rfl,rfl,trivial⟩,rfl⟩ (by omega)
 |false=>
  have hkl:k=s.size:=by simp at t3;omega
  subst hkl
  repeat'(first|(refine gY ?_;intros)|(refine hY ?_ ?_<;>intro hgd)|(refine jY ?_ ?_<;>intro _)|fail)
  (refine rt_Y (y:=()) (hrs:=Tryz.results159) (hv:=?_) (hφ:=?_))
  ·rfl
  ·trivial
theorem fits4(v:Nat)(h:v<4294967296):fitsB v 4 8=true:=by
 unfold fitsB
 have e:shiftOf .shr .u64 (v:Int) (4*8)=0:=by
  have e1:min (((4:Int)*8).toNat) IntKind.u64.bits=32:=by decide
  show(v:Int).fdiv (2 ^ (min ((4:Int)*8).toNat IntKind.u64.bits))=0
  rw[e1,Int.fdiv_eq_ediv_of_nonneg _ (by decide)]
  exact Int.ediv_eq_zero_of_lt (by omega) (by omega)
 rw[e];rfl
theorem wrap_u64(v:Nat)(h:v<18446744073709551616):IntKind.u64.wrap (v:Int)=(v:Int):=by
 have e4:(2:Int) ^ IntKind.u64.bits=18446744073709551616:=rfl
 unfold IntKind.wrap
 simp only[e4]
 rw[if_neg (by simp[IntKind.signed])]
 omega
theorem fput_spec(v:Nat)(h:v<4294967296):FSpec Tryz.prog 188 [.int .u32 v] [] Unit (fun _=>True) (fun _=>.string ⟨(putL v 4).toArray⟩) (fun _=>[]):=by
 have hw:=wrap_u64 v (by omega)
 refine spec_intro [] _ Tryz.func188 rfl Tryz.ntmps188 (by rfl) (fun w0 R=>?_)
 repeat'(first|(refine gY ?_;intros)|(refine hY ?_ ?_<;>intro hgd)|(refine jY ?_ ?_<;>intro _)|fail)
 refine cl_Y (put_spec v 4 (by omega) (by omega) (by omega) (fits4 v h)) ?_
 intro _ _
 repeat'(first|(refine gY ?_;intros)|(refine hY ?_ ?_<;>intro hgd)|(refine jY ?_ ?_<;>intro _)|fail)
 (refine rt_Y (y:=()) (hrs:=Tryz.results188) (hv:=?_) (hφ:=?_))
 ·rfl
 ·trivial
def put4(v:Nat):ByteArray:=⟨(putL v 4).toArray⟩
theorem put4_size(v:Nat):(put4 v).size=4:=by show(putL v 4).toArray.size=4;simp[putL]
theorem bits_nat(op:BinOp)(a b:Int):0≤bitsOf op .u32 a b∧bitsOf op .u32 a b<4294967296:=by
 have key:∀ n:Int,0≤IntKind.u32.wrap n∧IntKind.u32.wrap n<4294967296:=by
  intro n
  have e4:(2:Int) ^ IntKind.u32.bits=4294967296:=rfl
  unfold IntKind.wrap
  simp only[e4]
  rw[if_neg (by simp[IntKind.signed])]
  omega
 exact key _
def sumN(s:ByteArray):Nat:=(sumS s).toNat
theorem sumN_eq(s:ByteArray):sumS s=(sumN s:Int)∧sumN s<4294967296:=by
 have h:=bits_nat .xor (if IntKind.u32.signed then -1 else IntKind.u32.max) (sumL s.data.toList s.size)
 have h':0≤sumS s∧sumS s<4294967296:=h
 unfold sumN
 omega
theorem fput4_spec(v:Nat)(h:v<4294967296):FSpec Tryz.prog 188 [.int .u32 v] [] Unit (fun _=>True) (fun _=>.string (put4 v)) (fun _=>[]):=fput_spec v h
def frameOf(s:ByteArray):ByteArray:=put4 s.size++put4 (sumN (put4 s.size))++put4 (sumN s)++s
theorem fPut_spec(s:ByteArray)(h:s.size≤4194304):FSpec Tryz.prog 143 [.string s] [] Unit (fun _=>True) (fun _=>.tuple #[.string (frameOf s),.int .i64 0]) (fun _=>[]):=by
 have t1:decide ((4194304:Int)<(s.size:Int))=false:=by simp;omega
 have hw:IntKind.u32.wrap (s.size:Int)=(s.size:Int):=by
  have e4:(2:Int) ^ IntKind.u32.bits=4294967296:=rfl
  unfold IntKind.wrap
  simp only[e4]
  rw[if_neg (by simp[IntKind.signed])]
  omega
 have z0:=put4_size s.size
 have z1:=put4_size (sumN (put4 s.size))
 have z2:=put4_size (sumN s)
 have z3:(put4 s.size++put4 (sumN (put4 s.size))).size=8:=by rw[ByteArray.size_append,z0,z1]
 have z4:(put4 s.size++put4 (sumN (put4 s.size))++put4 (sumN s)).size=12:=by rw[ByteArray.size_append,z3,z2]
 refine spec_intro [] _ Tryz.func143 rfl Tryz.ntmps143 (by rfl) (fun w0 R=>?_)
 repeat'(first|(refine gY ?_;intros)|(refine hY ?_ ?_<;>intro hgd)|(refine jY ?_ ?_<;>intro _)|fail)
 refine cl_Y (fput4_spec s.size (by omega)) ?_
 intro _ _
 repeat'(first|(refine gY ?_;intros)|(refine hY ?_ ?_<;>intro hgd)|(refine jY ?_ ?_<;>intro _)|fail)
 refine cl_Y (sum_spec (put4 s.size) (by omega)) ?_
 intro _ _
 rw[(sumN_eq (put4 s.size)).1]
 repeat'(first|(refine gY ?_;intros)|(refine hY ?_ ?_<;>intro hgd)|(refine jY ?_ ?_<;>intro _)|fail)
 refine cl_Y (fput4_spec (sumN (put4 s.size)) (sumN_eq _).2) ?_
 intro _ _
 repeat'(first|(refine gY ?_;intros)|(refine hY ?_ ?_<;>intro hgd)|(refine jY ?_ ?_<;>intro _)|fail)
 refine cl_Y (sum_spec s (by omega)) ?_
 intro _ _
 rw[(sumN_eq s).1]
 repeat'(first|(refine gY ?_;intros)|(refine hY ?_ ?_<;>intro hgd)|(refine jY ?_ ?_<;>intro _)|fail)
 refine cl_Y (fput4_spec (sumN s) (sumN_eq _).2) ?_
 intro _ _
 repeat'(first|(refine gY ?_;intros)|(refine hY ?_ ?_<;>intro hgd)|(refine jY ?_ ?_<;>intro _)|fail)
 (refine rt_Y (y:=()) (hrs:=Tryz.results143) (hv:=?_) (hφ:=?_))
 ·rfl
 ·trivial
end Go.Proofs.YtmnafjonbeihiaaGreatDoor
namespace Go.Proofs.YtmnafjonbeihiaaGreatDoor
open Go Go.Fx Go.Proofs
instance noEsc:SameI Tryz.prog 232:=⟨fun x w=>by
 have h:=run_callFunc_extern (P:=Tryz.prog) (f:=232) (fn:=Tryz.f232) (e:=Extern.AbiNoEscape.same) (by kernel_rfl) (by kernel_rfl) (by kernel_rfl) (by kernel_rfl) (by kernel_rfl) #[x] w
 rw[h,Lib.run_noEscape];rfl⟩
theorem copyCheck_fresh(b:Nat)(v:Value):FSpec Tryz.prog 190 [.pointer (some ⟨b,0,none⟩)] [pts b (.cells [.pointer none,v].toArray 225)] Unit (fun _=>True) (fun _=>.tuple #[]) (fun _=>[pts b (.cells [.pointer (some ⟨b,0,none⟩),v].toArray 225)]):=by
 refine spec_intro [223] _ Tryz.func190 rfl Tryz.ntmps190 (by rfl) (fun w0 R=>?_)
 repeat'(first|(refine gY ?_;intros)|(refine hY ?_ ?_<;>intro hgd)|(refine jY ?_ ?_<;>intro _)|fail)
 refine ops_run (s_toUnsafe rfl rfl rfl memD (by simp) rfl rfl ?_)
 refine ops_run (s_same rfl rfl rfl ?_)
 refine ops_run (s_fromUnsafe rfl rfl memD (by kernel_rfl) rfl rfl ?_)
 repeat'(first|(refine gY ?_;intros)|(refine hY ?_ ?_<;>intro hgd)|(refine jY ?_ ?_<;>intro _)|fail)
 (refine rt_Y (y:=()) (hrs:=Tryz.results190) (hv:=?_) (hφ:=?_))
 ·rfl
 ·trivial
theorem copyCheck_used(b:Nat)(v:Value):FSpec Tryz.prog 190 [.pointer (some ⟨b,0,none⟩)] [pts b (.cells [.pointer (some ⟨b,0,none⟩),v].toArray 225)] Unit (fun _=>True) (fun _=>.tuple #[]) (fun _=>[pts b (.cells [.pointer (some ⟨b,0,none⟩),v].toArray 225)]):=by
 refine spec_intro [] _ Tryz.func190 rfl Tryz.ntmps190 (by rfl) (fun w0 R=>?_)
 repeat'(first|(refine gY ?_;intros)|(refine hY ?_ ?_<;>intro hgd)|(refine jY ?_ ?_<;>intro _)|fail)
 (refine rt_Y (y:=()) (hrs:=Tryz.results190) (hv:=?_) (hφ:=?_))
 ·rfl
 ·trivial
def bldM(b:Nat)(s:ByteArray)(x:Bool×{v:Value // v.oneCell'=true}):List HProp:=[pts b (.cells [.pointer (bif x.1 then some ⟨b,0,none⟩else none),x.2.1].toArray 225),row 5 1 x.2.1 (bytesV s)]
def bldP(b:Nat)(s:ByteArray):HProp:=exP (bldM b s)
theorem bld_new{b:Nat}{L:List HProp}{h:Frag}(s:SatL (pts b (.cells [.pointer none,.slice none 0 0].toArray 225)::L) h):SatL (bldP b ⟨#[]⟩::L) h:=
 ex_in (M:=bldM b ⟨#[]⟩) (false,⟨.slice none 0 0,rfl⟩) rfl
  (s.consMono fun _ k=>satL_emp (A:=row 5 1 (.slice none 0 0) []) ⟨fun _ hx=>by simp at hx,.inl ⟨rfl,rfl⟩⟩ k)
theorem bld_in{b:Nat}{s:ByteArray}{v:Value}(hv:v.oneCell'=true){L:List HProp}{h:Frag}(k:SatL (pts b (.cells [.pointer (some ⟨b,0,none⟩),v].toArray 225)::row 5 1 v (bytesV s)::L) h):SatL (bldP b s::L) h:=
 ex_in (M:=bldM b s) (true,⟨v,hv⟩) rfl k
theorem writeString_spec(b:Nat)(s u:ByteArray)(hs:s.size+u.size≤140737488355328):FSpec Tryz.prog 144 [.pointer (some ⟨b,0,none⟩),.string u] [bldP b s] Unit (fun _=>True) (fun _=>.tuple #[.int .i64 u.size,.nilIface]) (fun _=>[bldP b (s++u)]):=by
 have hl:=bytesV_len s
 refine spec_intro [] _ Tryz.func144 rfl Tryz.ntmps144 (by rfl) (fun w0 R=>?_)
 (refine ok_ex selD ?_)
 rintro⟨f,⟨v,hv⟩⟩
 cases f with
 |false=>
  dsimp only[bldM,cond_false]
  repeat'(first|(refine gY ?_;intros)|(refine hY ?_ ?_<;>intro hgd)|(refine jY ?_ ?_<;>intro _)|fail)
  refine cl_Y (copyCheck_fresh b v) ?_
  intro _ _
  repeat'(first|(refine gY ?_;intros)|(refine hY ?_ ?_<;>intro hgd)|(refine jY ?_ ?_<;>intro _)|fail)
  rename_i v' hv'
  rw[bytesV_app]
  refine cont_map (fun _ h=>bld_in hv' (Take.out2 takeD h)) ?_
  (refine rt_Y (y:=()) (hrs:=Tryz.results144) (hv:=?_) (hφ:=?_))
  ·rfl
  ·trivial
 |true=>
  dsimp only[bldM,cond_true]
  repeat'(first|(refine gY ?_;intros)|(refine hY ?_ ?_<;>intro hgd)|(refine jY ?_ ?_<;>intro _)|fail)
  refine cl_Y (copyCheck_used b v) ?_
  intro _ _
  repeat'(first|(refine gY ?_;intros)|(refine hY ?_ ?_<;>intro hgd)|(refine jY ?_ ?_<;>intro _)|fail)
  rename_i v' hv'
  rw[bytesV_app]
  refine cont_map (fun _ h=>bld_in hv' (Take.out2 takeD h)) ?_
  (refine rt_Y (y:=()) (hrs:=Tryz.results144) (hv:=?_) (hφ:=?_))
  ·rfl
  ·trivial
theorem row_cases{e:Nat}{v:Value}{xs:List (List Value)}{L R:List HProp}(t:Take L [row e 1 v xs] R)(h:Frag)(s:SatL L h):(v= .slice none 0 0∧xs=[])∨∃ g cap,v= .slice (some ⟨g,0,none⟩) xs.length cap∧xs.length≤cap:=by
 obtain⟨_,_,_,_,_,⟨g,hr⟩,_⟩:=t.out s
 rcases hr with hr|⟨b,cap,rest,rfl,hl,_⟩
 ·exact .inl hr
 ·refine .inr ⟨b,cap,rfl,?_⟩
  rw[List.length_append,g.flatten_length]at hl
  omega
theorem string_spec(b:Nat)(s:ByteArray)(hs:s.size≤9223372036854775807):FSpec Tryz.prog 145 [.pointer (some ⟨b,0,none⟩)] [bldP b s] Unit (fun _=>True) (fun _=>.string s) (fun _=>[]):=by
 have hl:=bytesV_len s
 refine spec_intro [] _ Tryz.func145 rfl Tryz.ntmps145 (by rfl) (fun w0 R=>?_)
 (refine ok_ex selD ?_)
 rintro⟨f,⟨v,hv⟩⟩
 dsimp only[bldM]
 generalize (Value.pointer (bif f then some ⟨b,0,none⟩else none))=p
 refine ok_learn (row_cases takeD) ?_
 rintro(⟨rfl,hn⟩|⟨g,cap,rfl,hcap⟩)
 ·have hs0:s=⟨#[]⟩:=by
   have:s.size=0:=by rw[← hl,hn];rfl
   exact ByteArray.ext (Array.eq_empty_of_size_eq_zero this)
  subst hs0
  repeat'(first|(refine gY ?_;intros)|(refine hY ?_ ?_<;>intro hgd)|(refine jY ?_ ?_<;>intro _)|fail)
  (apply ok_draw [4];(focus(kernel_rfl));(focus((conv=>lhs;whnf);first|done|rfl));(focus(decide +kernel));(focus(exact(fun _ h=>h))))
  repeat'(first|(refine gY ?_;intros)|(refine hY ?_ ?_<;>intro hgd)|(refine jY ?_ ?_<;>intro _)|fail)
  refine ops_run (s_sliceData_nil_nb rfl rfl (fun _ h=>h) ?_)
  repeat'(first|(refine gY ?_;intros)|(refine hY ?_ ?_<;>intro hgd)|(refine jY ?_ ?_<;>intro _)|fail)
  refine ops_run (s_unsafeString_none rfl rfl rfl rfl ?_)
  repeat'(first|(refine gY ?_;intros)|(refine hY ?_ ?_<;>intro hgd)|(refine jY ?_ ?_<;>intro _)|fail)
  (refine rt_Y (y:=()) (hrs:=Tryz.results145) (hv:=?_) (hφ:=?_))
  ·rfl
  ·trivial
 ·cases cap with
  |zero=>
   have hs0:s=⟨#[]⟩:=by
    have:s.size=0:=by omega
    exact ByteArray.ext (Array.eq_empty_of_size_eq_zero this)
   subst hs0
   repeat'(first|(refine gY ?_;intros)|(refine hY ?_ ?_<;>intro hgd)|(refine jY ?_ ?_<;>intro _)|fail)
   (apply ok_draw [4];(focus(kernel_rfl));(focus((conv=>lhs;whnf);first|done|rfl));(focus(decide +kernel));(focus(exact(fun _ h=>h))))
   repeat'(first|(refine gY ?_;intros)|(refine hY ?_ ?_<;>intro hgd)|(refine jY ?_ ?_<;>intro _)|fail)
   refine ops_run (s_sliceData_zero_nb rfl selD rfl (fun _ h=>h) ?_)
   intro b'
   repeat'(first|(refine gY ?_;intros)|(refine hY ?_ ?_<;>intro hgd)|(refine jY ?_ ?_<;>intro _)|fail)
   refine ops_run (s_unsafeString_none rfl rfl rfl rfl ?_)
   repeat'(first|(refine gY ?_;intros)|(refine hY ?_ ?_<;>intro hgd)|(refine jY ?_ ?_<;>intro _)|fail)
   (refine rt_Y (y:=()) (hrs:=Tryz.results145) (hv:=?_) (hφ:=?_))
   ·rfl
   ·trivial
  |succ c=>
   repeat'(first|(refine gY ?_;intros)|(refine hY ?_ ?_<;>intro hgd)|(refine jY ?_ ?_<;>intro _)|fail)
   (apply ok_draw [4];(focus(kernel_rfl));(focus((conv=>lhs;whnf);first|done|rfl));(focus(decide +kernel));(focus(exact(fun _ h=>h))))
   repeat'(first|(refine gY ?_;intros)|(refine hY ?_ ?_<;>intro hgd)|(refine jY ?_ ?_<;>intro _)|fail)
   refine ops_run (s_sliceData_row_nb rfl (by simp) rfl (fun _ h=>h) ?_)
   by_cases h0:s.size=0
   ·have hs0:s=⟨#[]⟩:=ByteArray.ext (Array.eq_empty_of_size_eq_zero h0)
    subst hs0
    repeat'(first|(refine gY ?_;intros)|(refine hY ?_ ?_<;>intro hgd)|(refine jY ?_ ?_<;>intro _)|fail)
    refine ops_run (s_unsafeString_none rfl rfl rfl rfl ?_)
    repeat'(first|(refine gY ?_;intros)|(refine hY ?_ ?_<;>intro hgd)|(refine jY ?_ ?_<;>intro _)|fail)
    (refine rt_Y (y:=()) (hrs:=Tryz.results145) (hv:=?_) (hφ:=?_))
    ·rfl
    ·trivial
   ·rw[hl]
    repeat'(first|(refine gY ?_;intros)|(refine hY ?_ ?_<;>intro hgd)|(refine jY ?_ ?_<;>intro _)|fail)
    refine ops_run (s_unsafeString_row (s:=s) rfl rfl rfl (by kernel_rfl) h0 hs selD rfl rfl ?_)
    repeat'(first|(refine gY ?_;intros)|(refine hY ?_ ?_<;>intro hgd)|(refine jY ?_ ?_<;>intro _)|fail)
    (refine rt_Y (y:=()) (hrs:=Tryz.results145) (hv:=?_) (hφ:=?_))
    ·rfl
    ·trivial
end Go.Proofs.YtmnafjonbeihiaaGreatDoor
