/- Texts merged: WdA WdB WdC. -/
import Derived.Test.YtgbmjoenbocfcaaGreatY
import Derived.Test.YtgbmjoenbocfcaaGreatWdP
set_option linter.unusedSimpArgs false
set_option linter.unusedVariables false
set_option maxRecDepth 100000
namespace Go.Proofs.YtgbmjoenbocfcaaGreat
open Go Go.Fx Go.Proofs Go.Pl
theorem fits_spec(v n bits:Int)(h:0≤n*bits)(h1:n*bits≤1000000):FSpec Tryz.prog 150 [.int .u64 v,.int .i64 n,.int .i64 bits] [] Unit (fun _=>True) (fun _=>.bool (fitsB v n bits)) (fun _=>[]):=by
 unfold fitsB
 cases t1:decide (64≤n*bits)with
 |true=>
  refine spec_intro [] _ Tryz.func150 rfl Tryz.ntmps150 (by rfl) (fun w0 R=>?_)
  repeat'(first|(refine gY ?_;intros)|(refine hY ?_ ?_<;>intro hgd)|(refine jY ?_ ?_<;>intro _)|fail)
  (refine rt_Y (y:=()) (hrs:=Tryz.results150) (hv:=?_) (hφ:=?_))
  ·rfl
  ·trivial
 |false=>
  refine spec_intro [] _ Tryz.func150 rfl Tryz.ntmps150 (by rfl) (fun w0 R=>?_)
  repeat'(first|(refine gY ?_;intros)|(refine hY ?_ ?_<;>intro hgd)|(refine jY ?_ ?_<;>intro _)|fail)
  (refine rt_Y (y:=()) (hrs:=Tryz.results150) (hv:=?_) (hφ:=?_))
  ·rfl
  ·trivial
theorem put_spec(v:Nat)(n:Nat)(hv:v<18446744073709551616)(h1:1≤n)(h8:n≤8)(hf:fitsB v n 8=true):FSpec Tryz.prog 102 [.int .u64 v,.int .i64 n] [] Unit (fun _=>True) (fun _=>.tuple #[.string ⟨(putL v n).toArray⟩,.int .i64 0]) (fun _=>[]):=by
 have t1:decide ((n:Int)<1)=false:=by simp;omega
 have t2:decide ((8:Int)<(n:Int))=false:=by simp;omega
 refine spec_intro [124] _ Tryz.func102 rfl Tryz.ntmps102 (by rfl) (fun w0 R=>?_)
 repeat'(first|(refine gY ?_;intros)|(refine hY ?_ ?_<;>intro hgd)|(refine jY ?_ ?_<;>intro _)|fail)
 refine cl_Y (fits_spec v n 8 (by omega) (by omega)) ?_
 intro _ _
 rw[hf]
 repeat'(first|(refine gY ?_;intros)|(refine hY ?_ ?_<;>intro hgd)|(refine jY ?_ ?_<;>intro _)|fail)
 rename_i b
 rw[← putR_0 v n]
 refine ok_loop' (γ:=Nat) (fun k ρ L=>k≤n∧Knows ρ [(0,.int .u64 v),(6,.slice (some ⟨b,0,none⟩) n n),(23,.int .i64 n),(24,.int .i64 k)]∧L=[row 5 1 (.slice (some ⟨b,0,none⟩) n n) (putR v n k)]++R) (fun k=>n-k) 0 ⟨by omega,⟨rfl,rfl,rfl,rfl,trivial⟩,rfl⟩ ?_
 rintro k ρ L ⟨hk,hkn,rfl⟩
 refine ok_regs hkn ?_
 cases t3:decide ((k:Int)<(n:Int))with
 |true=>
  have hkl:k<n:=by simp at t3;omega
  have hb:=byte_shift v k (by omega)
  repeat'(first|(refine gY ?_;intros)|(refine hY ?_ ?_<;>intro hgd)|(refine jY ?_ ?_<;>intro _)|fail)
  rw[putR_set v n k hkl]
  refine cont_back (k+1) ⟨hkl,⟨rfl,rfl,rfl,rfl,trivial⟩,rfl⟩ (by omega)
 |false=>
  have hkl:k=n:=by simp at t3;omega
  subst hkl
  rw[putR_n]
  repeat'(first|(refine gY ?_;intros)|(refine hY ?_ ?_<;>intro hgd)|(refine jY ?_ ?_<;>intro _)|fail)
  (refine rt_Y (y:=()) (hrs:=Tryz.results102) (hv:=?_) (hφ:=?_))
  ·rfl
  ·trivial
theorem get_spec(s:ByteArray)(h1:1≤s.size)(h8:s.size≤8):FSpec Tryz.prog 144 [.string s] [] Unit (fun _=>True) (fun _=>.tuple #[.int .u64 (getL s.data.toList s.size),.int .i64 0]) (fun _=>[]):=by
 have t1:decide ((s.size:Int)<1)=false:=by simp;omega
 have t2:decide ((8:Int)<(s.size:Int))=false:=by simp;omega
 refine spec_intro [] _ Tryz.func144 rfl Tryz.ntmps144 (by rfl) (fun w0 R=>?_)
 repeat'(first|(refine gY ?_;intros)|(refine hY ?_ ?_<;>intro hgd)|(refine jY ?_ ?_<;>intro _)|fail)
 refine ok_loop' (γ:=Nat) (fun k ρ L=>k≤s.size∧Knows ρ [(0,.string s),(2,.int .u64 (getL s.data.toList k)),(14,.int .i64 s.size),(15,.int .i64 k)]∧L=[]++R) (fun k=>s.size-k) 0 ⟨by omega,⟨rfl,rfl,rfl,rfl,trivial⟩,rfl⟩ ?_
 rintro k ρ L ⟨hk,hkn,rfl⟩
 refine ok_regs hkn ?_
 cases t3:decide ((k:Int)<(s.size:Int))with
 |true=>
  have hkl:k<s.size:=by simp at t3;omega
  have hlen:k<s.data.toList.length:=by have h':=hkl;simp;exact h'
  have hc:s.data.toList[k]? =some s.data.toList[k]:=List.getElem?_eq_getElem hlen
  have hg:getL s.data.toList (k+1)=getStep (getL s.data.toList k) s.data.toList[k] k:=by
   show(match s.data.toList[k]? with|some c=>getStep (getL s.data.toList k) c k|none=>getL s.data.toList k)=_
   rw[hc]
  generalize s.data.toList[k]=c at hc hg
  repeat'(first|(refine gY ?_;intros)|(refine hY ?_ ?_<;>intro hgd)|(refine jY ?_ ?_<;>intro _)|fail)
  refine cont_back (k+1) ⟨hkl,⟨rfl,by rw[hg];rfl,rfl,rfl,trivial⟩,rfl⟩ (by omega)
 |false=>
  have hkl:k=s.size:=by simp at t3;omega
  subst hkl
  repeat'(first|(refine gY ?_;intros)|(refine hY ?_ ?_<;>intro hgd)|(refine jY ?_ ?_<;>intro _)|fail)
  (refine rt_Y (y:=()) (hrs:=Tryz.results144) (hv:=?_) (hφ:=?_))
  ·rfl
  ·trivial
theorem half1_spec(c:Int):FSpec Tryz.prog 213 [.int .u32 c] [] Unit (fun _=>True) (fun _=>.int .u32 (hiter 4 c)) (fun _=>[]):=by
 refine spec_intro [] _ Tryz.func213 rfl Tryz.ntmps213 (by rfl) (fun w0 R=>?_)
 repeat'(first|(refine gY ?_;intros)|(refine hY ?_ ?_<;>intro hgd)|(refine jY ?_ ?_<;>intro _)|fail)
 refine ok_loop' (γ:=Nat) (fun k ρ L=>k≤4∧Knows ρ [(0,.int .u32 (hiter k c)),(3,.int .i64 k)]∧L=[]++R) (fun k=>4-k) 0 ⟨by omega,⟨rfl,rfl,trivial⟩,rfl⟩ ?_
 rintro k ρ L ⟨hk,hkn,rfl⟩
 refine ok_regs hkn ?_
 cases t3:decide ((k:Int)<4)with
 |true=>
  have hkl:k<4:=by simp at t3;omega
  repeat'(first|(refine gY ?_;intros)|(refine hY ?_ ?_<;>intro hgd)|(refine jY ?_ ?_<;>intro _)|fail)
  refine cont_back (k+1) ⟨hkl,⟨rfl,rfl,trivial⟩,rfl⟩ (by omega)
 |false=>
  have hkl:k=4:=by simp at t3;omega
  subst hkl
  repeat'(first|(refine gY ?_;intros)|(refine hY ?_ ?_<;>intro hgd)|(refine jY ?_ ?_<;>intro _)|fail)
  (refine rt_Y (y:=()) (hrs:=Tryz.results213) (hv:=?_) (hφ:=?_))
  ·rfl
  ·trivial
instance arrT:ArI Tryz.prog 250 16 234 1:=⟨Tryz.underlying250,by kernel_rfl⟩
theorem half_spec:FSpec Tryz.prog 202 [] [] Unit (fun _=>True) (fun _=>.agg (tabV 16).toArray) (fun _=>[]):=by
 refine spec_intro [] _ Tryz.func202 rfl Tryz.ntmps202 (by rfl) (fun w0 R=>?_)
 repeat'(first|(refine gY ?_;intros)|(refine hY ?_ ?_<;>intro hgd)|(refine jY ?_ ?_<;>intro _)|fail)
 rename_i b0 b2
 refine ok_map (L':=[pts b2 (.cells (tabV 0).toArray 250),pts b0 _]++R) entD ?_
 refine ok_loop' (γ:=Nat) (fun k ρ L=>k≤16∧Knows ρ [(0,.pointer (some ⟨b0,0,none⟩)),(1,.func (.func 213) #[] #[]),(2,.pointer (some ⟨b2,0,none⟩)),(6,.agg (tabV 0).toArray),(7,.int .i64 k)]∧L=[pts b2 (.cells (tabV k).toArray 250),pts b0 (.cells (List.replicate 16 (.int .u32 0)).toArray 250)]++R) (fun k=>16-k) 0 ⟨by omega,⟨rfl,rfl,rfl,rfl,rfl,trivial⟩,rfl⟩ ?_
 rintro k ρ L ⟨hk,hkn,rfl⟩
 refine ok_regs hkn ?_
 cases t3:decide ((k:Int)<16)with
 |true=>
  have hkl:k<16:=by simp at t3;omega
  have hg:=tab0_get k hkl
  have hv:=vspec_fn (half1_spec (k:Int))
  have hb:Nat.ble (0+k+1) (tabV k).length=true:=by rw[tabV_len];simp;omega
  repeat'(first|(refine gY ?_;intros)|(refine hY ?_ ?_<;>intro hgd)|(refine jY ?_ ?_<;>intro _)|fail)
  refine clV_Y (hv) ?_
  intro _ _
  repeat'(first|(refine gY ?_;intros)|(refine hY ?_ ?_<;>intro hgd)|(refine jY ?_ ?_<;>intro _)|fail)
  have hset:=tabV_set k hkl
  rw[List.append_assoc]at hset
  first|rw[hset]|(simp only[List.cons_append,List.nil_append]at hset;rw[hset])
  refine cont_map (L':=[pts b2 (.cells (tabV (k+1)).toArray 250),pts b0 (.cells (List.replicate 16 (.int .u32 0)).toArray 250)]++R) entD ?_
  refine cont_back (k+1) ⟨hkl,⟨rfl,rfl,rfl,rfl,rfl,trivial⟩,rfl⟩ (by omega)
 |false=>
  have hkl:k=16:=by simp at t3;omega
  subst hkl
  repeat'(first|(refine gY ?_;intros)|(refine hY ?_ ?_<;>intro hgd)|(refine jY ?_ ?_<;>intro _)|fail)
  (refine rt_Y (y:=()) (hrs:=Tryz.results202) (hv:=?_) (hφ:=?_))
  ·rfl
  ·trivial
theorem sum_spec(s:ByteArray)(hs:s.size≤4611686018427387904):FSpec Tryz.prog 181 [.string s] [] Unit (fun _=>True) (fun _=>.int .u32 (sumS s)) (fun _=>[]):=by
 refine spec_intro [] _ Tryz.func181 rfl Tryz.ntmps181 (by rfl) (fun w0 R=>?_)
 repeat'(first|(refine gY ?_;intros)|(refine hY ?_ ?_<;>intro hgd)|(refine jY ?_ ?_<;>intro _)|fail)
 refine cl_Y (half_spec) ?_
 intro _ _
 repeat'(first|(refine gY ?_;intros)|(refine hY ?_ ?_<;>intro hgd)|(refine jY ?_ ?_<;>intro _)|fail)
 rename_i b
 refine ok_loop' (γ:=Nat) (fun k ρ L=>k≤s.size∧Knows ρ [(0,.string s),(3,.pointer (some ⟨b,0,none⟩)),(4,.int .u32 (sumL s.data.toList k)),(8,.int .i64 s.size),(9,.int .i64 k)]∧L=[pts b (.cells (tabV 16).toArray 250)]++R) (fun k=>s.size-k) 0 ⟨by omega,⟨rfl,rfl,rfl,rfl,rfl,trivial⟩,rfl⟩ ?_
 rintro k ρ L ⟨hk,hkn,rfl⟩
 refine ok_regs hkn ?_
 cases t3:decide ((k:Int)<(s.size:Int))with
 |true=>
  have hkl:k<s.size:=by simp at t3;omega
  have hlen:k<s.data.toList.length:=by have h':=hkl;simp;exact h'
  have hc:s.data.toList[k]? =some s.data.toList[k]:=List.getElem?_eq_getElem hlen
  have hg:sumL s.data.toList (k+1)=sumT (sumT (sumX (sumL s.data.toList k) s.data.toList[k])):=by
   show(match s.data.toList[k]? with|some x=>sumT (sumT (sumX (sumL s.data.toList k) x))|none=>sumL s.data.toList k)=_
   rw[hc]
  generalize s.data.toList[k]=c at hc hg
  obtain⟨m1,e1,h1⟩:=and15 (bitsOf .xor .u32 (sumL s.data.toList k) (IntKind.u32.wrap (c.toNat:Int)))
  have g1:=tab16_get m1 h1
  obtain⟨m2,e2,h2⟩:=and15 (bitsOf .xor .u32 (shiftOf .shr .u32 (bitsOf .xor .u32 (sumL s.data.toList k) (IntKind.u32.wrap (c.toNat:Int))) 4) (hiter 4 (m1:Int)))
  have g2:=tab16_get m2 h2
  repeat'(first|(refine gY ?_;intros)|(refine hY ?_ ?_<;>intro hgd)|(refine jY ?_ ?_<;>intro _)|fail)
  refine cont_back (k+1) ⟨hkl,⟨rfl,rfl,by rw[hg];unfold sumT sumX;rw[e1,e2];rfl,rfl,rfl,trivial⟩,rfl⟩ (by omega)
 |false=>
  have hkl:k=s.size:=by simp at t3;omega
  subst hkl
  repeat'(first|(refine gY ?_;intros)|(refine hY ?_ ?_<;>intro hgd)|(refine jY ?_ ?_<;>intro _)|fail)
  (refine rt_Y (y:=()) (hrs:=Tryz.results181) (hv:=?_) (hφ:=?_))
  ·rfl
  ·trivial
end Go.Proofs.YtgbmjoenbocfcaaGreat
