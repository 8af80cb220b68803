import Derived.Test.YtgbmjoenbocfcaaGreatY
import Derived.Test.YtgbmjoenbocfcaaGreatTpP
import Derived.Test.YtgbmjoenbocfcaaGreatG2
import Derived.Test.YtgbmjoenbocfcaaGreatStr
import Derived.Test.YtgbmjoenbocfcaaGreatH32
set_option linter.unusedSimpArgs false
set_option linter.unusedVariables false
set_option maxRecDepth 100000
namespace Go.Proofs.YtgbmjoenbocfcaaGreat
open Go Go.Fx Go.Proofs Go.Pl
def ruV(n:Int):List Value:=[.int .i32 n]
set_option maxHeartbeats 4000000 in
theorem hex_spec(v n:Nat)(hv:v<16 ^ n)(h1:1≤n)(h16:n≤15):FSpec Tryz.prog 146 [.int .u64 (v:Int),.int .i64 (n:Int)] [] Unit (fun _=>True) (fun _=>.tuple #[.string (hexS v n),.int .i64 0]) (fun _=>[]):=by
 have hv64:v<18446744073709551616:=by
  have:(16:Nat) ^ n≤16 ^ 16:=Nat.pow_le_pow_right (by decide) (by omega)
  have e:(16:Nat) ^ 16=18446744073709551616:=by decide
  omega
 have t1:decide ((n:Int)<1)=false:=by simp;omega
 have t2:decide ((16:Int)<(n:Int))=false:=by simp;omega
 have hf:fitsB v n 4=true:=by
  unfold fitsB
  rw[Bool.or_eq_true]
  refine .inr ?_
  rw[decide_eq_true_eq]
  show(v:Int).fdiv (2 ^ (min ((n:Int)*4).toNat IntKind.u64.bits))=0
  have e1:min ((n:Int)*4).toNat IntKind.u64.bits=4*n:=by
   show min ((n:Int)*4).toNat 64=4*n
   omega
  rw[e1]
  have:((2:Int) ^ (4*n))=((16 ^ n:Nat):Int):=by rw[show(16:Nat) ^ n=2 ^ (4*n)by rw[Nat.pow_mul]];simp
  rw[this,Int.fdiv_eq_ediv_of_nonneg _ (Int.natCast_nonneg _),← Int.natCast_ediv,Nat.div_eq_of_lt hv]
  rfl
 refine spec_intro [230] _ Tryz.func146 rfl Tryz.ntmps146 (by rfl) (fun w0 R=>?_)
 repeat'(first|(refine gY ?_;intros)|(refine hY ?_ ?_<;>intro hgd)|(refine jY ?_ ?_<;>intro _)|fail)
 refine cl_Y (fits_spec v n 4 (by omega) (by omega)) ?_
 intro _ _
 rw[hf]
 repeat'(first|(refine gY ?_;intros)|(refine hY ?_ ?_<;>intro hgd)|(refine jY ?_ ?_<;>intro _)|fail)
 refine ok_map (fun _ h=>nilRow (e:=21) (n:=1) h) ?_
 refine ok_map (L':=[row 21 1 (.slice none 0 0) ((hexR v n 0).map ruV)]++R) entD ?_
 refine ok_loop' (γ:=Nat×V1s) (fun g ρ L=>g.1≤n∧Knows ρ [(0,.int .u64 (v:Int)),(6,g.2.1),(7,.int .i64 ((n:Int)-1-(g.1:Int)))]∧L=[row 21 1 g.2.1 ((hexR v n g.1).map ruV)]++R) (fun g=>n-g.1)
  (0,⟨.slice none 0 0,rfl⟩) ⟨by omega,⟨rfl,rfl,by show Value.int .i64 _=_;simp,trivial⟩,rfl⟩ ?_
 rintro⟨j,⟨u,hu⟩⟩ ρ L ⟨hj,hk,rfl⟩
 dsimp only at hj hk ⊢
 refine ok_regs hk ?_
 by_cases h0:j<n
 ·have hk0:((n:Int)-1-(j:Int))=((n-1-j:Nat):Int):=by omega
  rw[hk0]
  have t3:decide ((0:Int)≤((n-1-j:Nat):Int))=true:=by rw[decide_eq_true_eq];omega
  have hd:=dig_shift v n j hv64 h0 (by omega)
  have hlt:=digN_lt v n j
  have hsc:=hexR_succ v n j
  have hrl:=hexR_len v n j
  have hmi:((n-1-j:Nat):Int)-1=(n:Int)-1-((j+1:Nat):Int):=by omega
  unfold hexC at hsc
  generalize digN v n j=d at hd hlt hsc
  have hw1:IntKind.i32.wrap (arith BinOp.add (d:Int) 39)=(d:Int)+39:=i32_small (x:=(d:Int)+39) (by omega) (by omega)
  have hw2:IntKind.i32.wrap (arith BinOp.add 48 ((d:Int)+39))=87+(d:Int):=(i32_small (x:=48+((d:Int)+39)) (by omega) (by omega)).trans (by omega)
  have hw3:IntKind.i32.wrap (arith BinOp.add 48 (d:Int))=48+(d:Int):=i32_small (x:=48+(d:Int)) (by omega) (by omega)
  have hmap:(hexR v n (j+1)).map ruV=(hexR v n j).map ruV++[ruV (if 9<d then 87+(d:Int)else 48+(d:Int))]:=by rw[hsc,List.map_append];rfl
  cases t4:decide ((9:Int)<(d:Int))with
  |true=>
   rw[if_pos (by have:=of_decide_eq_true t4;omega)]at hmap
   repeat'(first|(refine gY ?_;intros)|(refine hY ?_ ?_<;>intro hgd)|(refine jY ?_ ?_<;>intro _)|fail)
   rename_i u1 hu1 u2 hu2
   rw[hw1,hw2]
   refine cont_map (L':=[row 21 1 u2 ((hexR v n (j+1)).map ruV)]++R) (by rw[hmap];exact entD) ?_
   refine cont_back (j+1,⟨u2,hu2⟩) ⟨h0,⟨rfl,rfl,by show Value.int .i64 _=_;rw[hmi],trivial⟩,rfl⟩ (by show n-(j+1)<n-j;omega)
  |false=>
   rw[if_neg (by have:=of_decide_eq_false t4;omega)]at hmap
   repeat'(first|(refine gY ?_;intros)|(refine hY ?_ ?_<;>intro hgd)|(refine jY ?_ ?_<;>intro _)|fail)
   rename_i u1 hu1 u2 hu2
   rw[hw3]
   refine cont_map (L':=[row 21 1 u2 ((hexR v n (j+1)).map ruV)]++R) (by rw[hmap];exact entD) ?_
   refine cont_back (j+1,⟨u2,hu2⟩) ⟨h0,⟨rfl,rfl,by show Value.int .i64 _=_;rw[hmi],trivial⟩,rfl⟩ (by show n-(j+1)<n-j;omega)
 ·have hje:j=n:=by omega
  subst hje
  have t3:decide ((0:Int)≤(j:Int)-1-(j:Int))=false:=by rw[decide_eq_false_iff_not];omega
  repeat'(first|(refine gY ?_;intros)|(refine hY ?_ ?_<;>intro hgd)|(refine jY ?_ ?_<;>intro _)|fail)
  refine ops_run (s_runes_string (e:=21) (l:=hexR v j j) rfl rfl (VwIn.here Vw.row) (by intro e;have:=congrArg List.length e;rw[hexR_len,List.length_nil]at this;omega) rfl rfl ?_)
  rw[runes_ascii _ (fun c hc=>by have:=hexR_rng hc;omega)]
  repeat'(first|(refine gY ?_;intros)|(refine hY ?_ ?_<;>intro hgd)|(refine jY ?_ ?_<;>intro _)|fail)
  (refine rt_Y (y:=()) (hrs:=Tryz.results146) (hv:=?_) (hφ:=?_))
  ·rfl
  ·trivial
theorem hasP_spec(s p:BA)(hs:s.size≤4611686018427387904)(hp:p.size≤4611686018427387904):FSpec Tryz.prog 200 [.string s,.string p] [] Unit (fun _=>True) (fun _=>.bool (hasP s p)) (fun _=>[]):=by
 unfold hasP
 cases t1:decide ((p.size:Int)≤(s.size:Int))with
 |true=>
  have hr:(0:Int)≤(p.size:Int)∧(p.size:Int)≤(s.size:Int):=⟨by omega,of_decide_eq_true t1⟩
  refine spec_intro [] _ Tryz.func200 rfl Tryz.ntmps200 (by rfl) (fun w0 R=>?_)
  repeat'(first|(refine gY ?_;intros)|(refine hY ?_ ?_<;>intro hgd)|(refine jY ?_ ?_<;>intro _)|fail)
  (refine rt_Y (y:=()) (hrs:=Tryz.results200) (hv:=?_) (hφ:=?_))
  ·rw[Bool.true_and];rfl
  ·trivial
 |false=>
  rw[Bool.false_and]
  refine spec_intro [] _ Tryz.func200 rfl Tryz.ntmps200 (by rfl) (fun w0 R=>?_)
  repeat'(first|(refine gY ?_;intros)|(refine hY ?_ ?_<;>intro hgd)|(refine jY ?_ ?_<;>intro _)|fail)
  (refine rt_Y (y:=()) (hrs:=Tryz.results200) (hv:=?_) (hφ:=?_))
  ·rfl
  ·trivial
theorem cutP1_spec(s p:BA)(hs:s.size≤4611686018427387904)(hp:p.size≤4611686018427387904):FSpec Tryz.prog 175 [.string s,.string p] [] Unit (fun _=>True) (fun _=>.tuple #[.string (cutP s p).1,.bool (cutP s p).2]) (fun _=>[]):=by
 have hh:=hasP_spec s p hs hp
 unfold cutP
 cases hc:hasP s p with
 |true=>
  have hle:(p.size:Int)≤(s.size:Int):=by
   unfold hasP at hc
   rw[Bool.and_eq_true]at hc
   exact of_decide_eq_true hc.1
  have hr:(0:Int)≤(p.size:Int)∧(p.size:Int)≤(s.size:Int):=⟨by omega,hle⟩
  rw[hc]at hh
  rw[if_pos rfl]
  refine spec_intro [] _ Tryz.func175 rfl Tryz.ntmps175 (by rfl) (fun w0 R=>?_)
  repeat'(first|(refine gY ?_;intros)|(refine hY ?_ ?_<;>intro hgd)|(refine jY ?_ ?_<;>intro _)|fail)
  refine cl_Y (hh) ?_
  intro _ _
  repeat'(first|(refine gY ?_;intros)|(refine hY ?_ ?_<;>intro hgd)|(refine jY ?_ ?_<;>intro _)|fail)
  (refine rt_Y (y:=()) (hrs:=Tryz.results175) (hv:=?_) (hφ:=?_))
  ·rfl
  ·trivial
 |false=>
  rw[hc]at hh
  rw[if_neg (by simp)]
  refine spec_intro [] _ Tryz.func175 rfl Tryz.ntmps175 (by rfl) (fun w0 R=>?_)
  repeat'(first|(refine gY ?_;intros)|(refine hY ?_ ?_<;>intro hgd)|(refine jY ?_ ?_<;>intro _)|fail)
  refine cl_Y (hh) ?_
  intro _ _
  repeat'(first|(refine gY ?_;intros)|(refine hY ?_ ?_<;>intro hgd)|(refine jY ?_ ?_<;>intro _)|fail)
  (refine rt_Y (y:=()) (hrs:=Tryz.results175) (hv:=?_) (hφ:=?_))
  ·rfl
  ·trivial
theorem cutP_spec(s p:BA)(hs:s.size≤4611686018427387904)(hp:p.size≤4611686018427387904):FSpec Tryz.prog 137 [.string s,.string p] [] Unit (fun _=>True) (fun _=>.tuple #[.string (cutP s p).1,.bool (cutP s p).2]) (fun _=>[]):=by
 have hh:=cutP1_spec s p hs hp
 refine spec_intro [] _ Tryz.func137 rfl Tryz.ntmps137 (by rfl) (fun w0 R=>?_)
 repeat'(first|(refine gY ?_;intros)|(refine hY ?_ ?_<;>intro hgd)|(refine jY ?_ ?_<;>intro _)|fail)
 refine cl_Y (hh) ?_
 intro _ _
 repeat'(first|(refine gY ?_;intros)|(refine hY ?_ ?_<;>intro hgd)|(refine jY ?_ ?_<;>intro _)|fail)
 (refine rt_Y (y:=()) (hrs:=Tryz.results137) (hv:=?_) (hφ:=?_))
 ·rfl
 ·trivial
set_option maxHeartbeats 4000000 in
theorem unhex_spec(s:BA)(hs:s.size≤4611686018427387904):FSpec Tryz.prog 139 [.string s] [] Unit (fun _=>True) (fun _=>.tuple #[.int .u64 (((unhexS s).getD 0:Nat):Int),.int .i64 (if(unhexS s).isSome then 0 else 2)]) (fun _=>[]):=by
 unfold unhexS
 cases t1:decide ((s.size:Int)<1)with
 |true=>
  rw[if_neg (by have:=of_decide_eq_true t1;omega)]
  refine spec_intro [124] _ Tryz.func139 rfl Tryz.ntmps139 (by rfl) (fun w0 R=>?_)
  repeat'(first|(refine gY ?_;intros)|(refine hY ?_ ?_<;>intro hgd)|(refine jY ?_ ?_<;>intro _)|fail)
  (refine rt_Y (y:=()) (hrs:=Tryz.results139) (hv:=?_) (hφ:=?_))
  ·rfl
  ·trivial
 |false=>
 cases t2:decide ((16:Int)<(s.size:Int))with
 |true=>
  rw[if_neg (by have:=of_decide_eq_true t2;omega)]
  refine spec_intro [124] _ Tryz.func139 rfl Tryz.ntmps139 (by rfl) (fun w0 R=>?_)
  repeat'(first|(refine gY ?_;intros)|(refine hY ?_ ?_<;>intro hgd)|(refine jY ?_ ?_<;>intro _)|fail)
  (refine rt_Y (y:=()) (hrs:=Tryz.results139) (hv:=?_) (hφ:=?_))
  ·rfl
  ·trivial
 |false=>
 have hz1:1≤s.size:=by have:=of_decide_eq_false t1;omega
 have hz16:s.size≤16:=by have:=of_decide_eq_false t2;omega
 rw[if_pos ⟨hz1,hz16⟩]
 refine spec_intro [124] _ Tryz.func139 rfl Tryz.ntmps139 (by rfl) (fun w0 R=>?_)
 repeat'(first|(refine gY ?_;intros)|(refine hY ?_ ?_<;>intro hgd)|(refine jY ?_ ?_<;>intro _)|fail)
 rename_i bb cap
 refine ok_loop' (γ:=Nat×Nat) (fun g ρ L=>g.1≤s.size∧g.2<16 ^ g.1∧unL (s.data.toList.drop g.1) g.2=unL s.data.toList 0∧Knows ρ [(0,.string s),(2,.int .u64 (g.2:Int)),(15,.slice (some ⟨bb,0,none⟩) s.size cap),(16,.int .i64 s.size),(17,.int .i64 g.1)]∧L=[bytesR 5 (.slice (some ⟨bb,0,none⟩) s.size cap) s]++R) (fun g=>s.size-g.1)
  (0,0) ⟨by omega,by simp,rfl,⟨rfl,rfl,rfl,rfl,rfl,trivial⟩,rfl⟩ ?_
 rintro⟨k,v⟩ ρ L ⟨hk0,hv,hun,hk,rfl⟩
 dsimp only at hk0 hv hun hk ⊢
 refine ok_regs hk ?_
 have hll:s.data.toList.length=s.size:=by rw[Array.length_toList];rfl
 cases t3:decide ((k:Int)<(s.size:Int))with
 |false=>
  have hke:k=s.size:=by have:=of_decide_eq_false t3;omega
  rw[hke,List.drop_of_length_le (by omega),unL]at hun
  rw[← hun]
  repeat'(first|(refine gY ?_;intros)|(refine hY ?_ ?_<;>intro hgd)|(refine jY ?_ ?_<;>intro _)|fail)
  (refine rt_Y (y:=()) (hrs:=Tryz.results139) (hv:=?_) (hφ:=?_))
  ·rfl
  ·trivial
 |true=>
  have h0:k<s.size:=by have:=of_decide_eq_true t3;omega
  have h:k<s.data.toList.length:=by omega
  have hx:(byteL s)[k]? =some [.int .u8 s.data.toList[k].toNat]:=by unfold byteL;rw[List.getElem?_map,List.getElem?_eq_getElem h];rfl
  have hdr:=List.drop_eq_getElem_cons h
  have hvb:v<1152921504606846976:=by
   have:(16:Nat) ^ k≤16 ^ 15:=Nat.pow_le_pow_right (by decide) (by omega)
   have e:(16:Nat) ^ 15=1152921504606846976:=by decide
   omega
  have hvn:∀ d,d<16→v*16+d<16 ^ (k+1):=fun d hd=>by rw[Nat.pow_succ];omega
  generalize s.data.toList[k]=c at hx hdr
  have hcl:=c.toNat_lt
  have hbad:unD c=none→(unL s.data.toList 0)=none:=fun hn=>by rw[← hun,hdr,unL,hn]
  cases q1:decide ((48:Int)≤(c.toNat:Int))with
  |false=>
   have q3:decide ((97:Int)≤(c.toNat:Int))=false:=by rw[decide_eq_false_iff_not];have:=of_decide_eq_false q1;omega
   have hN:=hbad (by unfold unD;rw[if_neg (by have:=of_decide_eq_false q1;omega),if_neg (by have:=of_decide_eq_false q1;omega)])
   repeat'(first|(refine gY ?_;intros)|(refine hY ?_ ?_<;>intro hgd)|(refine jY ?_ ?_<;>intro _)|fail)
   rw[hN]
   (refine rt_Y (y:=()) (hrs:=Tryz.results139) (hv:=?_) (hφ:=?_))
   ·rfl
   ·trivial
  |true=>
  cases q2:decide ((c.toNat:Int)≤57)with
  |true=>
   have h1:48≤c.toNat∧c.toNat≤57:=⟨by have:=of_decide_eq_true q1;omega,by have:=of_decide_eq_true q2;omega⟩
   have hud:unD c=some (c.toNat-48):=by unfold unD;rw[if_pos h1]
   have hu8:=unD_u8 c h1.1
   repeat'(first|(refine gY ?_;intros)|(refine hY ?_ ?_<;>intro hgd)|(refine jY ?_ ?_<;>intro _)|fail)
   rw[shl_or v (c.toNat-48) hvb (by omega)]
   refine cont_back (k+1,v*16+(c.toNat-48)) ⟨by omega,hvn (c.toNat-48) (by omega),by rw[← hun,hdr,unL,hud],⟨rfl,rfl,rfl,rfl,rfl,trivial⟩,rfl⟩ (by show s.size-(k+1)<s.size-k;omega)
  |false=>
  cases q3:decide ((97:Int)≤(c.toNat:Int))with
  |false=>
   have hN:=hbad (by unfold unD;rw[if_neg (by have:=of_decide_eq_false q2;omega),if_neg (by have:=of_decide_eq_false q3;omega)])
   repeat'(first|(refine gY ?_;intros)|(refine hY ?_ ?_<;>intro hgd)|(refine jY ?_ ?_<;>intro _)|fail)
   rw[hN]
   (refine rt_Y (y:=()) (hrs:=Tryz.results139) (hv:=?_) (hφ:=?_))
   ·rfl
   ·trivial
  |true=>
  cases q4:decide ((c.toNat:Int)≤102)with
  |true=>
   have h1:97≤c.toNat∧c.toNat≤102:=⟨by have:=of_decide_eq_true q3;omega,by have:=of_decide_eq_true q4;omega⟩
   have hud:unD c=some (c.toNat-97+10):=by unfold unD;rw[if_neg (by omega),if_pos h1]
   have hu8:=unD_u8' c h1.1 h1.2
   repeat'(first|(refine gY ?_;intros)|(refine hY ?_ ?_<;>intro hgd)|(refine jY ?_ ?_<;>intro _)|fail)
   rw[shl_or v (c.toNat-97+10) hvb (by omega)]
   refine cont_back (k+1,v*16+(c.toNat-97+10)) ⟨by omega,hvn (c.toNat-97+10) (by omega),by rw[← hun,hdr,unL,hud],⟨rfl,rfl,rfl,rfl,rfl,trivial⟩,rfl⟩ (by show s.size-(k+1)<s.size-k;omega)
  |false=>
   have hN:=hbad (by unfold unD;rw[if_neg (by have:=of_decide_eq_false q2;omega),if_neg (by have:=of_decide_eq_false q4;omega)])
   repeat'(first|(refine gY ?_;intros)|(refine hY ?_ ?_<;>intro hgd)|(refine jY ?_ ?_<;>intro _)|fail)
   rw[hN]
   (refine rt_Y (y:=()) (hrs:=Tryz.results139) (hv:=?_) (hφ:=?_))
   ·rfl
   ·trivial
end Go.Proofs.YtgbmjoenbocfcaaGreat
