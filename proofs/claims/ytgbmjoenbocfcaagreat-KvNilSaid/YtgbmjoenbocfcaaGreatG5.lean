/- Texts merged: DkA DkB DkC DkD. -/
import Derived.Test.YtgbmjoenbocfcaaGreatTy
import Derived.Test.YtgbmjoenbocfcaaGreatY
import Derived.Test.YtgbmjoenbocfcaaGreatG0
import Derived.Laws.Externs
set_option linter.unusedSimpArgs false
set_option linter.unusedVariables false
namespace Go.Proofs.YtgbmjoenbocfcaaGreat
open Go Go.Fx Go.Proofs Go.Pl
instance keyStr:KeyT Tryz.prog 9 KStr:=keyT_str Tryz.underlying9
def encF(F:FS):List (ByteArray×Value):=F.map fun x=>(x.1,.agg #[.string x.2])
theorem getK_encF(k:ByteArray):∀ F:FS,getK KStr k (encF F)=(fget k F).map fun s=>.agg #[.string s]
 | []=>rfl
 |(b,v)::l=>by
  show(if k=b then some (Value.agg #[.string v])else getK KStr k (encF l))=_
  unfold fget
  split
  ·rfl
  ·exact getK_encF k l
theorem putK_encF(k s:ByteArray):∀ F:FS,putK KStr k (.agg #[.string s]) (encF F)=encF (fput k s F)
 | []=>rfl
 |(b,v)::l=>by
  show(if k=b then(k,Value.agg #[.string s])::encF l else(b,Value.agg #[.string v])::putK KStr k (.agg #[.string s]) (encF l))=_
  unfold fput
  split
  ·rfl
  ·rw[putK_encF k s l];rfl
theorem delK_encF(k:ByteArray):∀ F:FS,delK KStr k (encF F)=encF (fdel k F)
 | []=>rfl
 |(b,v)::l=>by
  show(if k=b then encF l else(b,Value.agg #[.string v])::delK KStr k (encF l))=_
  unfold fdel
  split
  ·rfl
  ·rw[delK_encF k l];rfl
def clP:Cl→List Value→HProp
 | .app n s,v=>exP fun y:{y:Nat×Nat×Nat // v=[.func (.func 155) #[] [.pointer (some ⟨y.2.2,0,none⟩),.pointer (some ⟨y.2.1,0,none⟩)].toArray,.func (.func 154) #[] [.pointer (some ⟨y.1,0,none⟩),.pointer (some ⟨y.2.1,0,none⟩)].toArray]}=>
  [pts y.1.1 (.cells [.string n].toArray 9),pts y.1.2.1 (.cells [.string s].toArray 9),pts y.1.2.2 (.cells [.func (.func 154) #[] [.pointer (some ⟨y.1.1,0,none⟩),.pointer (some ⟨y.1.2.1,0,none⟩)].toArray].toArray 115)]
 | .trunc n k,v=>exP fun y:{y:Nat×Nat // v=[.func (.func 178) #[] [.pointer (some ⟨y.1,0,none⟩),.pointer (some ⟨y.2,0,none⟩)].toArray,.nilFunc]}=>[pts y.1.1 (.cells [.string n].toArray 9),pts y.1.2 (.cells [.int .i64 k].toArray 3)]
 | .ren a b,v=>exP fun y:{y:Nat×Nat // v=[.func (.func 163) #[] [.pointer (some ⟨y.1,0,none⟩),.pointer (some ⟨y.2,0,none⟩)].toArray,.nilFunc]}=>[pts y.1.1 (.cells [.string a].toArray 9),pts y.1.2 (.cells [.string b].toArray 9)]
 | .rem a,v=>exP fun y:{y:Nat // v=[.func (.func 142) #[] [.pointer (some ⟨y,0,none⟩)].toArray,.nilFunc]}=>[pts y.1 (.cells [.string a].toArray 9)]
def clsP:List Cl→List (List Value)→List HProp
 | [],_=>[]
 |_::_,[]=>[]
 |c::cs,v::vs=>clP c v::clsP cs vs
structure DA where
 m1:Nat
 m2:Nat
 v:Value
 vs:List (List Value)
def dkC(y:DA)(d:Dk):List Value:=[.map (some y.m1),.map (some y.m2),y.v,.int .i64 d.room,.int .i64 d.fuse,.bool d.still]
def diskL(b:Nat)(d:Dk)(y:{y:DA // y.v.oneCell'=true∧y.vs.length=d.loose.length}):List HProp:=
 [pts b (.cells (dkC y.1 d).toArray 96),mapK KStr y.1.m1 (encF d.files),mapK KStr y.1.m2 (encF d.sure),row 117 2 y.1.v y.1.vs,fun h=>SatL (clsP d.loose y.1.vs) h]
def diskP(b:Nat)(d:Dk):HProp:=exP (diskL b d)
theorem disk_in{b m1 m2:Nat}{d:Dk}{v:Value}{vs:List (List Value)}(hv:v.oneCell'=true)(hvs:vs.length=d.loose.length){L:List HProp}{h:Frag}
  (s:SatL ([pts b (.cells [.map (some m1),.map (some m2),v,.int .i64 d.room,.int .i64 d.fuse,.bool d.still].toArray 96),mapK KStr m1 (encF d.files),mapK KStr m2 (encF d.sure),row 117 2 v vs,fun h=>SatL (clsP d.loose vs) h]++L) h):SatL (diskP b d::L) h:=
 ex_in (M:=diskL b d) ⟨⟨m1,m2,v,vs⟩,hv,hvs⟩ rfl s
theorem burn_spec(b:Nat)(cs:List Value)(a0 a1 a2 a3:Value)(fuse:Int)(st:Bool)(h0: -1≤fuse)(hm:fuse≤9223372036854775807):FSpec Tryz.prog 143 [.pointer (some ⟨b,0,none⟩)] [pts b (.cells [a0,a1,a2,a3,.int .i64 fuse,.bool st].toArray 96)] Unit (fun _=>True)
  (fun _=>.int .i64 (if fuse=0 then 20 else 0)) (fun _=>[pts b (.cells [a0,a1,a2,a3,.int .i64 (if fuse=0 then fuse else if(-1:Int)>fuse-1 then -1 else fuse-1),.bool (if fuse=0 then true else st)].toArray 96)]):=by
 by_cases hf:fuse=0
 ·have t1:decide (fuse=0)=true:=by simpa using hf
  refine spec_intro [] _ Tryz.func143 rfl Tryz.ntmps143 (by rfl) (fun w0 R=>?_)
  repeat'(first|(refine gY ?_;intros)|(refine hY ?_ ?_<;>intro hgd)|(refine jY ?_ ?_<;>intro _)|fail)
  rw[if_pos hf,if_pos hf,if_pos hf]
  subst hf
  (refine rt_Y (y:=()) (hrs:=Tryz.results143) (hv:=?_) (hφ:=?_))
  ·rfl
  ·trivial
 ·have t1:decide (fuse=0)=false:=by simpa using hf
  refine spec_intro [] _ Tryz.func143 rfl Tryz.ntmps143 (by rfl) (fun w0 R=>?_)
  repeat'(first|(refine gY ?_;intros)|(refine hY ?_ ?_<;>intro hgd)|(refine jY ?_ ?_<;>intro _)|fail)
  rw[if_neg hf,if_neg hf,if_neg hf]
  (refine rt_Y (y:=()) (hrs:=Tryz.results143) (hv:=?_) (hφ:=?_))
  ·rfl
  ·trivial
theorem may_spec(s:ByteArray)(hs:s.size≤4611686018427387904):FSpec Tryz.prog 130 [.string s] [] Unit (fun _=>True) (fun _=>.bool (mayN s)) (fun _=>[]):=by
 refine spec_intro [124] _ Tryz.func130 rfl Tryz.ntmps130 (by rfl) (fun w0 R=>?_)
 repeat'(first|(refine gY ?_;intros)|(refine hY ?_ ?_<;>intro hgd)|(refine jY ?_ ?_<;>intro _)|fail)
 rename_i bb cap
 refine ok_loop' (γ:=Nat) (fun n ρ L=>n≤s.size∧(s.data.toList.take n).all mayC=true∧Knows ρ [(0,.string s),(6,.slice (some ⟨bb,0,none⟩) s.size cap),(7,.int .i64 s.size),(8,.int .i64 n)]∧L=[bytesR 5 (.slice (some ⟨bb,0,none⟩) s.size cap) s]++R) (fun n=>s.size-n) 0 ⟨by omega,rfl,⟨rfl,rfl,rfl,rfl,trivial⟩,rfl⟩ ?_
 rintro n ρ L ⟨hn,hall,hk,rfl⟩
 refine ok_regs hk ?_
 cases t1:decide ((n:Int)<(s.size:Int))with
 |false=>
  have hn':n=s.size:=by simp at t1;omega
  have hfull:s.data.toList.all mayC=true:=by rw[hn',List.take_of_length_le (by simp)]at hall;exact hall
  repeat'(first|(refine gY ?_;intros)|(refine hY ?_ ?_<;>intro hgd)|(refine jY ?_ ?_<;>intro _)|fail)
  all_goals(refine rt_Y (y:=()) (hrs:=Tryz.results130) (hv:=?_) (hφ:=?_))
  all_goals first|exact trivial|skip
  all_goals(simp only[decide_eq_true_eq,decide_eq_false_iff_not]at hgd;show Value.bool _=Value.bool _;congr 1;simp only[mayN,hfull,Bool.true_and];rw[Bool.eq_iff_iff];simp;try omega)
 |true=>
  have h:n<s.data.toList.length:=by simp at t1;simpa using t1
  have hx:(byteL s)[n]? =some [.int .u8 s.data.toList[n].toNat]:=by unfold byteL;rw[List.getElem?_map,List.getElem?_eq_getElem h];rfl
  have hnt:n+1≤s.size:=by have h':=h;simp at h';omega
  have hin:s.data.toList[n]∈s.data.toList:=List.getElem_mem h
  have htk:s.data.toList.take (n+1)=s.data.toList.take n++[s.data.toList[n]]:=List.take_succ_eq_append_getElem h
  generalize hc:s.data.toList[n]=c at hx htk hin
  clear hk hc
  repeat'(first|(refine gY ?_;intros)|(refine hY ?_ ?_<;>intro hgd)|(refine jY ?_ ?_<;>intro _)|fail)
  all_goals first
   |(
    have hm:mayC c=true:=by(simp only[mayC, *,Bool.or_self,Bool.false_and,Bool.not_false,Bool.true_and,Bool.and_true,Bool.and_false,Bool.or_true,Bool.true_or,Bool.false_or,Bool.or_false,Bool.not_true];first|done|rfl)
    refine cont_back (n+1) ⟨hnt,by rw[htk,List.all_append,hall];simp[hm],⟨rfl,rfl,rfl,rfl,trivial⟩,rfl⟩ (by omega))
   |(
    have hm:mayC c=false:=by(simp only[mayC, *,Bool.or_self,Bool.false_and,Bool.not_false,Bool.true_and,Bool.and_true,Bool.and_false,Bool.or_true,Bool.true_or,Bool.false_or,Bool.or_false,Bool.not_true];first|done|rfl)
    have hN:mayN s=false:=by
     have:s.data.toList.all mayC=false:=List.all_eq_false.2 ⟨c,hin,by simp[hm]⟩
     simp only[mayN,this,Bool.false_and]
    rw[hN]
    (refine rt_Y (y:=()) (hrs:=Tryz.results130) (hv:=?_) (hφ:=?_))
    ·rfl
    ·trivial)
end Go.Proofs.YtgbmjoenbocfcaaGreat
set_option maxRecDepth 100000
namespace Go.Proofs.YtgbmjoenbocfcaaGreat
open Go Go.Fx Go.Proofs Go.Pl
def strL(l:List ByteArray):List (List Value):=l.map fun s=>[.string s]
theorem live1_spec(s:ByteArray)(hs:s.size≤4611686018427387904):FSpec Tryz.prog 129 [.string s] [] Unit (fun _=>True) (fun _=>.bool (!mayN s)) (fun _=>[]):=by
 refine spec_intro [] _ Tryz.func129 rfl Tryz.ntmps129 (by rfl) (fun w0 R=>?_)
 repeat'(first|(refine gY ?_;intros)|(refine hY ?_ ?_<;>intro hgd)|(refine jY ?_ ?_<;>intro _)|fail)
 refine cl_Y (may_spec s hs) ?_
 intro _ _
 repeat'(first|(refine gY ?_;intros)|(refine hY ?_ ?_<;>intro hgd)|(refine jY ?_ ?_<;>intro _)|fail)
 (refine rt_Y (y:=()) (hrs:=Tryz.results129) (hv:=?_) (hφ:=?_))
 ·rfl
 ·trivial
theorem live1_v(s:ByteArray)(hs:s.size≤4611686018427387904):VSpec Tryz.prog (.func (.func 129) #[] #[]) [.string s] [] Unit (fun _=>True) (fun _=>.bool (!mayN s)) (fun _=>[]):=
 vspec_fn (live1_spec s hs)
theorem indexFunc_spec(fv u:Value)(A:HProp)(p:ByteArray→Bool)(l:List ByteArray)(hA:Vw A 1 u (strL l))(hf:∀ s∈l,VSpec Tryz.prog fv [.string s] [] Unit (fun _=>True) (fun _=>.bool (p s)) (fun _=>[]))(hl:l.length≤4611686018427387904):
  FSpec Tryz.prog 169 [u,fv] [A] Int (fun y=>decide (0≤y)=l.any p) (fun y=>.int .i64 y) (fun _=>[A]):=by
 refine spec_intro [] _ Tryz.func169 rfl Tryz.ntmps169 (by rfl) (fun w0 R=>?_)
 refine ok_learn (VwIn.slice (VwIn.here hA)) ?_
 rintro⟨pu,cu,rfl⟩
 repeat'(first|(refine gY ?_;intros)|(refine hY ?_ ?_<;>intro hgd)|(refine jY ?_ ?_<;>intro _)|fail)
 refine ok_loop' (γ:=Nat) (fun n ρ L=>n≤l.length∧(l.take n).any p=false∧Knows ρ [(0,.slice pu (strL l).length cu),(1,fv),(7,.int .i64 (strL l).length),(8,.int .i64 n)]∧L=[A]++R) (fun n=>l.length-n) 0 ⟨by omega,rfl,⟨rfl,rfl,rfl,rfl,trivial⟩,rfl⟩ ?_
 rintro n ρ L ⟨hn,hall,hk,rfl⟩
 refine ok_regs hk ?_
 have hlen:(strL l).length=l.length:=by simp[strL]
 cases t1:decide ((n:Int)<((strL l).length:Int))with
 |false=>
  have hn':n=l.length:=by simp at t1;omega
  have hfull:l.any p=false:=by rw[hn',List.take_of_length_le (Nat.le_refl _)]at hall;exact hall
  repeat'(first|(refine gY ?_;intros)|(refine hY ?_ ?_<;>intro hgd)|(refine jY ?_ ?_<;>intro _)|fail)
  (refine rt_Y (y:=(-1)) (hrs:=Tryz.results169) (hv:=?_) (hφ:=?_))
  ·rfl
  ·rw[hfull];rfl
 |true=>
  have h:n<l.length:=by simp at t1;omega
  have hx:(strL l)[n]? =some [.string l[n]]:=by unfold strL;rw[List.getElem?_map,List.getElem?_eq_getElem h];rfl
  have hn1:n<(strL l).length:=by omega
  have htk:l.take (n+1)=l.take n++[l[n]]:=List.take_succ_eq_append_getElem h
  have hin:l[n]∈l:=List.getElem_mem h
  have hfs:=hf l[n] hin
  refine ok_learn (VwIn.base (VwIn.here hA) (by intro e;rw[e]at hn1;simp at hn1)) ?_
  rintro⟨bu,ou,rfl⟩
  generalize hc:l[n]=c at hx htk hin hfs
  repeat'(first|(refine gY ?_;intros)|(refine hY ?_ ?_<;>intro hgd)|(refine jY ?_ ?_<;>intro _)|fail)
  refine clV_Y (hfs) ?_
  intro _ _
  cases hp:p c with
  |true=>
   repeat'(first|(refine gY ?_;intros)|(refine hY ?_ ?_<;>intro hgd)|(refine jY ?_ ?_<;>intro _)|fail)
   (refine rt_Y (y:=(n:Int)) (hrs:=Tryz.results169) (hv:=?_) (hφ:=?_))
   ·rfl
   ·rw[List.any_eq_true.2 ⟨c,hin,hp⟩];simp
  |false=>
   repeat'(first|(refine gY ?_;intros)|(refine hY ?_ ?_<;>intro hgd)|(refine jY ?_ ?_<;>intro _)|fail)
   refine cont_back (n+1) ⟨h,by rw[htk,List.any_append,hall];simp[hp],⟨rfl,rfl,rfl,rfl,trivial⟩,rfl⟩ (by omega)
theorem containsFunc_spec(fv u:Value)(A:HProp)(p:ByteArray→Bool)(l:List ByteArray)(hA:Vw A 1 u (strL l))(hf:∀ s∈l,VSpec Tryz.prog fv [.string s] [] Unit (fun _=>True) (fun _=>.bool (p s)) (fun _=>[]))(hl:l.length≤4611686018427387904):
  FSpec Tryz.prog 128 [u,fv] [A] Unit (fun _=>True) (fun _=>.bool (l.any p)) (fun _=>[A]):=by
 refine spec_intro [] _ Tryz.func128 rfl Tryz.ntmps128 (by rfl) (fun w0 R=>?_)
 repeat'(first|(refine gY ?_;intros)|(refine hY ?_ ?_<;>intro hgd)|(refine jY ?_ ?_<;>intro _)|fail)
 refine cl_Y (indexFunc_spec fv u A p l hA hf hl) ?_
 intro y hy
 repeat'(first|(refine gY ?_;intros)|(refine hY ?_ ?_<;>intro hgd)|(refine jY ?_ ?_<;>intro _)|fail)
 rw[← hy]
 (refine rt_Y (y:=()) (hrs:=Tryz.results128) (hv:=?_) (hφ:=?_))
 ·rfl
 ·trivial
theorem live_spec(b:Nat)(cs:List Value)(a0 a1 a2 a3 a4:Value)(d:Dk)(u:Value)(A:HProp)(l:List ByteArray)(hA:Vw A 1 u (strL l))(hs:∀ s∈l,s.size≤4611686018427387904)(hl:l.length≤4611686018427387904):
  FSpec Tryz.prog 84 [.pointer (some ⟨b,0,none⟩),u] [pts b (.cells [a0,a1,a2,a3,a4,.bool d.still].toArray 96),A] Unit (fun _=>True) (fun _=>.int .i64 (d.live l)) (fun _=>[pts b (.cells [a0,a1,a2,a3,a4,.bool d.still].toArray 96),A]):=by
 unfold Dk.live
 cases hst:d.still with
 |true=>
  refine spec_intro [] _ Tryz.func84 rfl Tryz.ntmps84 (by rfl) (fun w0 R=>?_)
  repeat'(first|(refine gY ?_;intros)|(refine hY ?_ ?_<;>intro hgd)|(refine jY ?_ ?_<;>intro _)|fail)
  (refine rt_Y (y:=()) (hrs:=Tryz.results84) (hv:=?_) (hφ:=?_))
  ·rfl
  ·trivial
 |false=>
  refine spec_intro [] _ Tryz.func84 rfl Tryz.ntmps84 (by rfl) (fun w0 R=>?_)
  repeat'(first|(refine gY ?_;intros)|(refine hY ?_ ?_<;>intro hgd)|(refine jY ?_ ?_<;>intro _)|fail)
  refine cl_Y (containsFunc_spec (.func (.func 129) #[] #[]) u A (fun s=> !mayN s) l hA (fun s hx=>live1_v s (hs s hx)) hl) ?_
  intro _ _
  cases hp:l.any (fun s=> !mayN s)with
  |true=>
   repeat'(first|(refine gY ?_;intros)|(refine hY ?_ ?_<;>intro hgd)|(refine jY ?_ ?_<;>intro _)|fail)
   (refine rt_Y (y:=()) (hrs:=Tryz.results84) (hv:=?_) (hφ:=?_))
   ·rfl
   ·trivial
  |false=>
   repeat'(first|(refine gY ?_;intros)|(refine hY ?_ ?_<;>intro hgd)|(refine jY ?_ ?_<;>intro _)|fail)
   (refine rt_Y (y:=()) (hrs:=Tryz.results84) (hv:=?_) (hφ:=?_))
   ·rfl
   ·trivial
theorem encF_split{F:FS}{pre post:List (ByteArray×Value)}{x:ByteArray×Value}(h:encF F=pre++x::post):∃ pre' k s post',F=pre'++(k,s)::post'∧pre=encF pre'∧x=(k,.agg #[.string s])∧post=encF post':=by
 obtain⟨pre',rest,rfl,h1,h2⟩:=List.map_eq_append_iff.1 h
 obtain⟨y,post',rfl,h3,h4⟩:=List.map_eq_cons_iff.1 h2
 exact⟨pre',y.1,y.2,post',rfl,h1.symm,h3.symm,h4.symm⟩
theorem encF_append(a b:FS):encF (a++b)=encF a++encF b:=List.map_append
theorem fused_append(a b:FS):fused (a++b)=fused a+fused b:=by simp[fused]
theorem encF_nil{F:FS}(h:encF F=[]):F=[]:=List.map_eq_nil_iff.1 h
theorem used_spec(b m:Nat)(F:FS)(a1 a2 a3 a4 a5:Value)(hF:fused F≤4611686018427387904):FSpec Tryz.prog 153 [.pointer (some ⟨b,0,none⟩)] [pts b (.cells [.map (some m),a1,a2,a3,a4,a5].toArray 96),mapK KStr m (encF F)] Unit (fun _=>True)
  (fun _=>.int .i64 (fused F)) (fun _=>[pts b (.cells [.map (some m),a1,a2,a3,a4,a5].toArray 96),mapK KStr m (encF F)]):=by
 refine spec_intro [] _ Tryz.func153 rfl Tryz.ntmps153 (by rfl) (fun w0 R=>?_)
 repeat'(first|(refine gY ?_;intros)|(refine hY ?_ ?_<;>intro hgd)|(refine jY ?_ ?_<;>intro _)|fail)
 rename_i it
 refine ok_loop' (γ:=FS) (fun rem ρ L=>∃ (cur:Option (ByteArray×Value)) (n:Nat),n+fused rem=fused F∧Knows ρ [(2,.int .i64 n),(9,.pointer (some ⟨it,0,none⟩))]∧L=[rangeK KStr it m (encF F) (encF rem) cur,pts b (.cells [.map (some m),a1,a2,a3,a4,a5].toArray 96)]++R) (fun rem=>rem.length) F ⟨none,0,by simp,⟨rfl,rfl,trivial⟩,rfl⟩ ?_
 rintro rem ρ L ⟨cur,n,hn,hk,rfl⟩
 refine ok_regs hk ?_
 repeat'(first|(refine gY ?_;intros)|(refine hY ?_ ?_<;>intro hgd)|(refine jY ?_ ?_<;>intro _)|fail)
 refine nx_Y ?_ ?_
 ·intro hrem
  have hrem':=encF_nil hrem
  subst hrem'
  have hn':n=fused F:=by simpa [fused]using hn
  subst hn'
  repeat'(first|(refine gY ?_;intros)|(refine hY ?_ ?_<;>intro hgd)|(refine jY ?_ ?_<;>intro _)|fail)
  refine cont_map (fun _ h=>(Take.out1 (A:=rangeK KStr it m (encF F) (encF []) cur) takeD h).headMono fun _ h=>rangeK.map h) ?_
  (refine rt_Y (y:=()) (hrs:=Tryz.results153) (hv:=?_) (hφ:=?_))
  ·rfl
  ·trivial
 ·intro x pre post hrem
  obtain⟨pre',k,s,post',rfl,rfl,rfl,rfl⟩:=encF_split hrem
  rw[← encF_append]
  have hs:fused (pre'++(k,s)::post')=fused (pre'++post')+s.size:=by simp[fused_append,fused];omega
  repeat'(first|(refine gY ?_;intros)|(refine hY ?_ ?_<;>intro hgd)|(refine jY ?_ ?_<;>intro _)|fail)
  refine cont_map (L':=[rangeK KStr it m (encF F) (encF (pre'++post')) (some (k,.agg #[.string s])),pts b (.cells [.map (some m),a1,a2,a3,a4,a5].toArray 96)]++R) entD ?_
  refine cont_back (pre'++post') ⟨_,n+s.size,by omega,⟨rfl,rfl,trivial⟩,rfl⟩ (by simp)
theorem has_spec(b m:Nat)(F:FS)(name:ByteArray)(a1 a2 a3 a4 a5:Value):FSpec Tryz.prog 85 [.pointer (some ⟨b,0,none⟩),.string name] [pts b (.cells [.map (some m),a1,a2,a3,a4,a5].toArray 96),mapK KStr m (encF F)] Unit (fun _=>True)
  (fun _=>.bool (fget name F).isSome) (fun _=>[pts b (.cells [.map (some m),a1,a2,a3,a4,a5].toArray 96),mapK KStr m (encF F)]):=by
 have hg:=getK_encF name F
 cases hx:fget name F with
 |none=>
  rw[hx]at hg
  simp only[Option.map_none]at hg
  refine spec_intro [] _ Tryz.func85 rfl Tryz.ntmps85 (by rfl) (fun w0 R=>?_)
  repeat'(first|(refine gY ?_;intros)|(refine hY ?_ ?_<;>intro hgd)|(refine jY ?_ ?_<;>intro _)|fail)
  (refine rt_Y (y:=()) (hrs:=Tryz.results85) (hv:=?_) (hφ:=?_))
  ·rfl
  ·trivial
 |some s=>
  rw[hx]at hg
  simp only[Option.map_some]at hg
  refine spec_intro [] _ Tryz.func85 rfl Tryz.ntmps85 (by rfl) (fun w0 R=>?_)
  repeat'(first|(refine gY ?_;intros)|(refine hY ?_ ?_<;>intro hgd)|(refine jY ?_ ?_<;>intro _)|fail)
  (refine rt_Y (y:=()) (hrs:=Tryz.results85) (hv:=?_) (hφ:=?_))
  ·rfl
  ·trivial
theorem clone_call(args:Array Value)(w:World):(callFunc 124 args).run Tryz.prog w=((Extern.MapsClone.clone args).run Tryz.prog w).andThen fun v w'=>.ok (.value v) w':=
 run_callFunc_extern Tryz.func124 (by kernel_rfl) (by kernel_rfl) (by kernel_rfl) (by kernel_rfl) args w
theorem clone_spec(m:Nat)(l:List (ByteArray×Value)):FSpec Tryz.prog 77 [.map (some m)] [mapK KStr m l] Nat (fun _=>True) (fun b=>.map (some b)) (fun b=>[mapK KStr b l,mapK KStr m l]):=by
 refine spec_intro [] _ Tryz.func77 rfl Tryz.ntmps77 (by rfl) (fun w0 R=>?_)
 repeat'(first|(refine gY ?_;intros)|(refine hY ?_ ?_<;>intro hgd)|(refine jY ?_ ?_<;>intro _)|fail)
 refine clV_Y (vspec_clone clone_call KStr 93 m l) ?_
 intro y _
 repeat'(first|(refine gY ?_;intros)|(refine hY ?_ ?_<;>intro hgd)|(refine jY ?_ ?_<;>intro _)|fail)
 (refine rt_Y (y:=y) (hrs:=Tryz.results77) (hv:=?_) (hφ:=?_))
 ·rfl
 ·trivial
theorem settle_spec(b:Nat)(F S:FS)(m1 m2:Nat)(v a3 a4 a5:Value)(L:HProp):FSpec Tryz.prog 78 [.pointer (some ⟨b,0,none⟩)] [pts b (.cells [.map (some m1),.map (some m2),v,a3,a4,a5].toArray 96),mapK KStr m1 (encF F),mapK KStr m2 (encF S),L] Nat (fun _=>True)
  (fun _=>.tuple #[]) (fun m=>[pts b (.cells [.map (some m1),.map (some m),.slice none 0 0,a3,a4,a5].toArray 96),mapK KStr m1 (encF F),mapK KStr m (encF F)]):=by
 refine spec_intro [] _ Tryz.func78 rfl Tryz.ntmps78 (by rfl) (fun w0 R=>?_)
 repeat'(first|(refine gY ?_;intros)|(refine hY ?_ ?_<;>intro hgd)|(refine jY ?_ ?_<;>intro _)|fail)
 refine cl_Y (clone_spec m1 (encF F)) ?_
 intro y _
 repeat'(first|(refine gY ?_;intros)|(refine hY ?_ ?_<;>intro hgd)|(refine jY ?_ ?_<;>intro _)|fail)
 (refine rt_Y (y:=y) (hrs:=Tryz.results78) (hv:=?_) (hφ:=?_))
 ·rfl
 ·trivial
end Go.Proofs.YtgbmjoenbocfcaaGreat
