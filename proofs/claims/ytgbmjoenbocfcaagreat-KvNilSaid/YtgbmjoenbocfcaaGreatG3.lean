/- Texts merged: FrB FrC FrD. -/
import Derived.Test.YtgbmjoenbocfcaaGreatH31
import Derived.Test.YtgbmjoenbocfcaaGreatFrP
set_option linter.unusedSimpArgs false
set_option linter.unusedVariables false
set_option maxRecDepth 100000
namespace Go.Proofs.YtgbmjoenbocfcaaGreat
open Go Go.Fx Go.Proofs Go.Pl
theorem fPut_long(s:ByteArray)(h:4194304<s.size)(h2:s.size≤4611686018427387904):FSpec Tryz.prog 152 [.string s] [] Unit (fun _=>True) (fun _=>.tuple #[.string ⟨#[]⟩,.int .i64 5]) (fun _=>[]):=by
 have t1:decide ((4194304:Int)<(s.size:Int))=true:=by simp;omega
 refine spec_intro [] _ Tryz.func152 rfl Tryz.ntmps152 (by rfl) (fun w0 R=>?_)
 repeat'(first|(refine gY ?_;intros)|(refine hY ?_ ?_<;>intro hgd)|(refine jY ?_ ?_<;>intro _)|fail)
 (refine rt_Y (y:=()) (hrs:=Tryz.results152) (hv:=?_) (hφ:=?_))
 ·rfl
 ·trivial
theorem fget_spec(s:ByteArray)(h1:1≤s.size)(h8:s.size≤8):FSpec Tryz.prog 208 [.string s] [] Unit (fun _=>True) (fun _=>.int .u32 (getU s)) (fun _=>[]):=by
 refine spec_intro [] _ Tryz.func208 rfl Tryz.ntmps208 (by rfl) (fun w0 R=>?_)
 repeat'(first|(refine gY ?_;intros)|(refine hY ?_ ?_<;>intro hgd)|(refine jY ?_ ?_<;>intro _)|fail)
 refine cl_Y (get_spec s h1 h8) ?_
 intro _ _
 repeat'(first|(refine gY ?_;intros)|(refine hY ?_ ?_<;>intro hgd)|(refine jY ?_ ?_<;>intro _)|fail)
 (refine rt_Y (y:=()) (hrs:=Tryz.results208) (hv:=?_) (hφ:=?_))
 ·rfl
 ·trivial
theorem wrap_u32{v:Int}(h0:0≤v)(h1:v<4294967296):IntKind.i64.wrap v=v:=wrap_i64 (by omega) (by omega)
theorem next_spec(b:ByteArray)(hb:b.size≤4611686018427387904):FSpec Tryz.prog 199 [.string b] [] Unit (fun _=>True) (fun _=>.tuple #[.string (nextF b).1,.int .i64 (nextF b).2]) (fun _=>[]):=by
 unfold nextF
 by_cases h1:b.size<8
 ·have t1:decide ((b.size:Int)<8)=true:=by simp;omega
  rw[if_pos h1]
  refine spec_intro [] _ Tryz.func199 rfl Tryz.ntmps199 (by rfl) (fun w0 R=>?_)
  repeat'(first|(refine gY ?_;intros)|(refine hY ?_ ?_<;>intro hgd)|(refine jY ?_ ?_<;>intro _)|fail)
  (refine rt_Y (y:=()) (hrs:=Tryz.results199) (hv:=?_) (hφ:=?_))
  ·rfl
  ·trivial
 ·have t1:decide ((b.size:Int)<8)=false:=by simp;omega
  rw[if_neg h1]
  have z0:(b.extract 0 4).size=4:=by rw[ByteArray.size_extract];omega
  have z1:(b.extract 4 8).size=4:=by rw[ByteArray.size_extract];omega
  have hr:=getU_range (b.extract 0 4)
  have hw:=wrap_u32 hr.1 hr.2
  generalize hn:getU (b.extract 0 4)=n at hr hw
  have z2:(b.extract 8 12).size=4∨b.size<12:=by rw[ByteArray.size_extract];omega
  cases h2:(!decide (sumS (b.extract 0 4)=getU (b.extract 4 8)))with
  |true=>
   rw[if_pos (.inl (by simpa using h2))]
   refine spec_intro [] _ Tryz.func199 rfl Tryz.ntmps199 (by rfl) (fun w0 R=>?_)
   repeat'(first|(refine gY ?_;intros)|(refine hY ?_ ?_<;>intro hgd)|(refine jY ?_ ?_<;>intro _)|fail)
   refine cl_Y (fget_spec (b.extract 0 4) (by omega) (by omega)) ?_
   intro _ _
   rw[hn]
   repeat'(first|(refine gY ?_;intros)|(refine hY ?_ ?_<;>intro hgd)|(refine jY ?_ ?_<;>intro _)|fail)
   refine cl_Y (sum_spec (b.extract 0 4) (by omega)) ?_
   intro _ _
   repeat'(first|(refine gY ?_;intros)|(refine hY ?_ ?_<;>intro hgd)|(refine jY ?_ ?_<;>intro _)|fail)
   refine cl_Y (fget_spec (b.extract 4 8) (by omega) (by omega)) ?_
   intro _ _
   repeat'(first|(refine gY ?_;intros)|(refine hY ?_ ?_<;>intro hgd)|(refine jY ?_ ?_<;>intro _)|fail)
   (refine rt_Y (y:=()) (hrs:=Tryz.results199) (hv:=?_) (hφ:=?_))
   ·rfl
   ·trivial
  |false=>
   have h2':¬ sumS (b.extract 0 4)≠getU (b.extract 4 8):=by simpa using h2
   cases h3:decide ((4194304:Int)<n)with
   |true=>
    rw[if_pos (.inr (by simpa using h3))]
    refine spec_intro [] _ Tryz.func199 rfl Tryz.ntmps199 (by rfl) (fun w0 R=>?_)
    repeat'(first|(refine gY ?_;intros)|(refine hY ?_ ?_<;>intro hgd)|(refine jY ?_ ?_<;>intro _)|fail)
    refine cl_Y (fget_spec (b.extract 0 4) (by omega) (by omega)) ?_
    intro _ _
    rw[hn]
    repeat'(first|(refine gY ?_;intros)|(refine hY ?_ ?_<;>intro hgd)|(refine jY ?_ ?_<;>intro _)|fail)
    refine cl_Y (sum_spec (b.extract 0 4) (by omega)) ?_
    intro _ _
    repeat'(first|(refine gY ?_;intros)|(refine hY ?_ ?_<;>intro hgd)|(refine jY ?_ ?_<;>intro _)|fail)
    refine cl_Y (fget_spec (b.extract 4 8) (by omega) (by omega)) ?_
    intro _ _
    repeat'(first|(refine gY ?_;intros)|(refine hY ?_ ?_<;>intro hgd)|(refine jY ?_ ?_<;>intro _)|fail)
    (refine rt_Y (y:=()) (hrs:=Tryz.results199) (hv:=?_) (hφ:=?_))
    ·rfl
    ·trivial
   |false=>
    have h3':n≤4194304:=by simpa using h3
    rw[if_neg (not_or.2 ⟨h2',by omega⟩)]
    cases h4:decide ((b.size:Int)<12+n)with
    |true=>
     rw[if_pos (by simpa using h4)]
     refine spec_intro [] _ Tryz.func199 rfl Tryz.ntmps199 (by rfl) (fun w0 R=>?_)
     repeat'(first|(refine gY ?_;intros)|(refine hY ?_ ?_<;>intro hgd)|(refine jY ?_ ?_<;>intro _)|fail)
     refine cl_Y (fget_spec (b.extract 0 4) (by omega) (by omega)) ?_
     intro _ _
     rw[hn]
     repeat'(first|(refine gY ?_;intros)|(refine hY ?_ ?_<;>intro hgd)|(refine jY ?_ ?_<;>intro _)|fail)
     refine cl_Y (sum_spec (b.extract 0 4) (by omega)) ?_
     intro _ _
     repeat'(first|(refine gY ?_;intros)|(refine hY ?_ ?_<;>intro hgd)|(refine jY ?_ ?_<;>intro _)|fail)
     refine cl_Y (fget_spec (b.extract 4 8) (by omega) (by omega)) ?_
     intro _ _
     repeat'(first|(refine gY ?_;intros)|(refine hY ?_ ?_<;>intro hgd)|(refine jY ?_ ?_<;>intro _)|fail)
     (refine rt_Y (y:=()) (hrs:=Tryz.results199) (hv:=?_) (hφ:=?_))
     ·rfl
     ·trivial
    |false=>
     have h4':12+n≤b.size:=by simpa using h4
     rw[if_neg (by omega)]
     have z3:(b.extract 12 (12+n).toNat).size≤b.size:=by rw[ByteArray.size_extract];omega
     have z4:(b.extract 8 12).size=4:=by omega
     cases h5:(!decide (sumS (b.extract 12 (12+n).toNat)=getU (b.extract 8 12)))with
     |true=>
      rw[if_pos (by simpa using h5)]
      refine spec_intro [] _ Tryz.func199 rfl Tryz.ntmps199 (by rfl) (fun w0 R=>?_)
      repeat'(first|(refine gY ?_;intros)|(refine hY ?_ ?_<;>intro hgd)|(refine jY ?_ ?_<;>intro _)|fail)
      refine cl_Y (fget_spec (b.extract 0 4) (by omega) (by omega)) ?_
      intro _ _
      rw[hn]
      repeat'(first|(refine gY ?_;intros)|(refine hY ?_ ?_<;>intro hgd)|(refine jY ?_ ?_<;>intro _)|fail)
      refine cl_Y (sum_spec (b.extract 0 4) (by omega)) ?_
      intro _ _
      repeat'(first|(refine gY ?_;intros)|(refine hY ?_ ?_<;>intro hgd)|(refine jY ?_ ?_<;>intro _)|fail)
      refine cl_Y (fget_spec (b.extract 4 8) (by omega) (by omega)) ?_
      intro _ _
      repeat'(first|(refine gY ?_;intros)|(refine hY ?_ ?_<;>intro hgd)|(refine jY ?_ ?_<;>intro _)|fail)
      refine cl_Y (sum_spec (b.extract 12 (12+n).toNat) (by omega)) ?_
      intro _ _
      repeat'(first|(refine gY ?_;intros)|(refine hY ?_ ?_<;>intro hgd)|(refine jY ?_ ?_<;>intro _)|fail)
      refine cl_Y (fget_spec (b.extract 8 12) (by omega) (by omega)) ?_
      intro _ _
      repeat'(first|(refine gY ?_;intros)|(refine hY ?_ ?_<;>intro hgd)|(refine jY ?_ ?_<;>intro _)|fail)
      (refine rt_Y (y:=()) (hrs:=Tryz.results199) (hv:=?_) (hφ:=?_))
      ·rfl
      ·trivial
     |false=>
      rw[if_neg (by simpa using h5)]
      refine spec_intro [] _ Tryz.func199 rfl Tryz.ntmps199 (by rfl) (fun w0 R=>?_)
      repeat'(first|(refine gY ?_;intros)|(refine hY ?_ ?_<;>intro hgd)|(refine jY ?_ ?_<;>intro _)|fail)
      refine cl_Y (fget_spec (b.extract 0 4) (by omega) (by omega)) ?_
      intro _ _
      rw[hn]
      repeat'(first|(refine gY ?_;intros)|(refine hY ?_ ?_<;>intro hgd)|(refine jY ?_ ?_<;>intro _)|fail)
      refine cl_Y (sum_spec (b.extract 0 4) (by omega)) ?_
      intro _ _
      repeat'(first|(refine gY ?_;intros)|(refine hY ?_ ?_<;>intro hgd)|(refine jY ?_ ?_<;>intro _)|fail)
      refine cl_Y (fget_spec (b.extract 4 8) (by omega) (by omega)) ?_
      intro _ _
      repeat'(first|(refine gY ?_;intros)|(refine hY ?_ ?_<;>intro hgd)|(refine jY ?_ ?_<;>intro _)|fail)
      refine cl_Y (sum_spec (b.extract 12 (12+n).toNat) (by omega)) ?_
      intro _ _
      repeat'(first|(refine gY ?_;intros)|(refine hY ?_ ?_<;>intro hgd)|(refine jY ?_ ?_<;>intro _)|fail)
      refine cl_Y (fget_spec (b.extract 8 12) (by omega) (by omega)) ?_
      intro _ _
      repeat'(first|(refine gY ?_;intros)|(refine hY ?_ ?_<;>intro hgd)|(refine jY ?_ ?_<;>intro _)|fail)
      (refine rt_Y (y:=()) (hrs:=Tryz.results199) (hv:=?_) (hφ:=?_))
      ·rfl
      ·trivial
theorem frames_spec(b:ByteArray):FSpec Tryz.prog 173 [.string b] [] Nat (fun _=>True) (fun y=>.func (.func 198) #[] [.pointer (some ⟨y,0,none⟩)].toArray) (fun y=>[pts y (.cells [.string b].toArray 9)]):=by
 refine spec_intro [] _ Tryz.func173 rfl Tryz.ntmps173 (by rfl) (fun w0 R=>?_)
 repeat'(first|(refine gY ?_;intros)|(refine hY ?_ ?_<;>intro hgd)|(refine jY ?_ ?_<;>intro _)|fail)
 rename_i p
 (refine rt_Y (y:=p) (hrs:=Tryz.results173) (hv:=?_) (hφ:=?_))
 ·rfl
 ·trivial
def yV(y:BA×Int):List Value:=[.string y.1,.int .i64 y.2]
theorem empty_ne(b:BA):(!(b.toList==(⟨#[]⟩:BA).toList))=decide (b.size≠0):=by
 by_cases h:b.size=0
 ·have:b=⟨#[]⟩:=ByteArray.ext (Array.eq_empty_of_size_eq_zero h)
  subst this;simp;rfl
 ·have h1:b.toList≠(⟨#[]⟩:BA).toList:=by
   intro e
   have e2:=congrArg List.length e
   simp[ByteArray.toList_eq]at e2
   exact h (by rw[e2];rfl)
  have h2:(b.toList==(⟨#[]⟩:BA).toList)=false:=by simpa using h1
  rw[h2];simp[h]
theorem frames1_spec(p:Nat)(b:ByteArray)(hb:b.size≤4611686018427387904):
  IterSpecX Tryz.prog 198 [.pointer (some ⟨p,0,none⟩)] [pts p (.cells [.string b].toArray 9)] [] (yieldsOf b) yV:=by
 intro yv St Sp go hy
 refine spec_intro [] _ Tryz.func198 rfl Tryz.ntmps198 (by rfl) (fun w0 R=>?_)
 repeat'(first|(refine gY ?_;intros)|(refine hY ?_ ?_<;>intro hgd)|(refine jY ?_ ?_<;>intro _)|fail)
 refine ok_loop' (γ:=Nat×BA×List (BA×Int)) (fun g ρ L=>g.2.2++yieldsF g.1 g.2.1=yieldsOf b∧eat go [] (yieldsOf b)=eat go g.2.2 (yieldsF g.1 g.2.1)∧g.2.1.size≤g.1∧g.1≤b.size∧Knows ρ [(0,yv),(1,.pointer (some ⟨p,0,none⟩))]∧L=[pts p (.cells [.string g.2.1].toArray 9),St g.2.2]++R) (fun g=>g.1) (b.size,b,[]) ⟨rfl,rfl,Nat.le_refl _,Nat.le_refl _,⟨rfl,rfl,trivial⟩,rfl⟩ ?_
 rintro⟨k,rest,pre⟩ ρ L ⟨h1,h2,h3,h4,hk,rfl⟩
 dsimp only at h1 h2 h3 h4 hk ⊢
 refine ok_regs hk ?_
 have he:=empty_ne rest
 by_cases h0:rest.size=0
 ·have t1:(!(rest.toList==(⟨#[]⟩:BA).toList))=false:=by rw[he];simp[h0]
  have hx:yieldsF k rest=[]:=by cases k<;>simp[yieldsF,h0]
  rw[hx]at h2
  rw[h2]
  repeat'(first|(refine gY ?_;intros)|(refine hY ?_ ?_<;>intro hgd)|(refine jY ?_ ?_<;>intro _)|fail)
  (refine rt_Y (y:=()) (hrs:=Tryz.results198) (hv:=?_) (hφ:=?_))
  ·rfl
  ·trivial
 ·have t1:(!(rest.toList==(⟨#[]⟩:BA).toList))=true:=by rw[he];simp[h0]
  obtain⟨k,rfl⟩:∃ j,k=j+1:=⟨k-1,by omega⟩
  have hsz:=nextF_size (b:=rest)
  have hyf:yieldsF (k+1) rest=if(nextF rest).2≠0 then [nextF rest]else nextF rest::yieldsF k (rest.extract (12+(nextF rest).1.size) rest.size):=by rw[yieldsF,if_neg h0]
  have hpre:pre++[nextF rest] <+:yieldsOf b:=by
   rw[← h1,hyf]
   split
   ·exact List.prefix_rfl
   ·exact⟨_,by rw[List.append_assoc];rfl⟩
  have hv:=hy pre (nextF rest) hpre
  repeat'(first|(refine gY ?_;intros)|(refine hY ?_ ?_<;>intro hgd)|(refine jY ?_ ?_<;>intro _)|fail)
  refine cl_Y (next_spec rest (by omega)) ?_
  intro _ _
  generalize hn:nextF rest=x at hsz hyf hpre hv
  obtain⟨s,e⟩:=x
  dsimp only at hsz hyf hpre hv ⊢
  cases hg:go (pre++[(s,e)])with
  |false=>
   rw[hg]at hv
   have hx:eat go pre (yieldsF (k+1) rest)=(pre++[(s,e)],false):=by
    rw[hyf]
    split<;>simp[eat,hg]
   rw[h2,hx]
   repeat'(first|(refine gY ?_;intros)|(refine hY ?_ ?_<;>intro hgd)|(refine jY ?_ ?_<;>intro _)|fail)
   refine clV_Y (hv) ?_
   intro _ _
   repeat'(first|(refine gY ?_;intros)|(refine hY ?_ ?_<;>intro hgd)|(refine jY ?_ ?_<;>intro _)|fail)
   (refine rt_Y (y:=()) (hrs:=Tryz.results198) (hv:=?_) (hφ:=?_))
   ·rfl
   ·trivial
  |true=>
   rw[hg]at hv
   cases u1:(!decide (e=0))with
   |true=>
    have u2:e≠0:=by simpa using u1
    have hx:eat go pre (yieldsF (k+1) rest)=(pre++[(s,e)],true):=by
     rw[hyf,if_pos u2];simp[eat,hg]
    rw[h2,hx]
    repeat'(first|(refine gY ?_;intros)|(refine hY ?_ ?_<;>intro hgd)|(refine jY ?_ ?_<;>intro _)|fail)
    refine clV_Y (hv) ?_
    intro _ _
    repeat'(first|(refine gY ?_;intros)|(refine hY ?_ ?_<;>intro hgd)|(refine jY ?_ ?_<;>intro _)|fail)
    (refine rt_Y (y:=()) (hrs:=Tryz.results198) (hv:=?_) (hφ:=?_))
    ·rfl
    ·trivial
   |false=>
    have u2:e=0:=by simpa using u1
    subst u2
    have hs:=hsz rfl
    rw[if_neg (by simp)]at hyf
    repeat'(first|(refine gY ?_;intros)|(refine hY ?_ ?_<;>intro hgd)|(refine jY ?_ ?_<;>intro _)|fail)
    refine clV_Y (hv) ?_
    intro _ _
    repeat'(first|(refine gY ?_;intros)|(refine hY ?_ ?_<;>intro hgd)|(refine jY ?_ ?_<;>intro _)|fail)
    have hn12:(12+(s.size:Int)).toNat=12+s.size:=by omega
    rw[hn12,if_pos rfl]
    refine cont_map (L':=[pts p (.cells [.string (rest.extract (12+s.size) rest.size)].toArray 9),St (pre++[(s,0)])]++R) entD ?_
    refine cont_back (k,rest.extract (12+s.size) rest.size,pre++[(s,0)]) ⟨by rw[← h1,hyf];simp,by rw[h2,hyf];simp[eat,hg],by show(rest.extract (12+s.size) rest.size).size≤k;rw[ByteArray.size_extract];omega,by show k≤b.size;omega,⟨rfl,rfl,trivial⟩,rfl⟩ (by show k<k+1;omega)
def slS(b:Nat)(xs:List BA):HProp:=exP fun v:{v:Value // v.oneCell'=true}=>[pts b (.cells [v.1].toArray 57),row 9 1 v.1 (xs.map strV)]
theorem slS_in{b:Nat}{v:Value}{xs:List BA}(hv:v.oneCell'=true){L:List HProp}{h:Frag}(s:SatL (pts b (.cells [v].toArray 57)::row 9 1 v (xs.map strV)::L) h):SatL (slS b xs::L) h:=
 ex_in (M:=fun v:{v:Value // v.oneCell'=true}=>[pts b (.cells [v.1].toArray 57),row 9 1 v.1 (xs.map strV)]) ⟨v,hv⟩ rfl s
theorem rowNil{e n:Nat}{L:List HProp}{h:Frag}(s:SatL L h):SatL (row e n (.slice none 0 0) []::L) h:=satL_emp (A:=row e n (.slice none 0 0) []) ⟨fun _ hx=>by simp at hx,.inl ⟨rfl,rfl⟩⟩ s
theorem Scan_spec(b:ByteArray)(hb:b.size≤1099511627776):FSpec Tryz.prog 133 [.string b] [] {v:Value // v.oneCell'=true} (fun _=>True) (fun v=>.tuple #[v.1,.int .i64 (scanOf b).2.1,.int .i64 (scanOf b).2.2]) (fun v=>[row 9 1 v.1 ((scanOf b).1.map strV)]):=by
 refine spec_intro [] _ Tryz.func133 rfl Tryz.ntmps133 (by rfl) (fun w0 R=>?_)
 repeat'(first|(refine gY ?_;intros)|(refine hY ?_ ?_<;>intro hgd)|(refine jY ?_ ?_<;>intro _)|fail)
 rename_i b2 b3 b4
 refine cl_Y (frames_spec b) ?_
 intro p _
 repeat'(first|(refine gY ?_;intros)|(refine hY ?_ ?_<;>intro hgd)|(refine jY ?_ ?_<;>intro _)|fail)
 refine ok_map (fun _ h=>slS_in (xs:=[]) (v:=.slice none 0 0) (b:=b2) rfl (Take.out2 takeD (rowNil (e:=9) (n:=1) h))) ?_
 have hlen:=scanF_len b.size b
 have hcnt:=scanF_cnt b.size b
 have hok:=yields_okT b.size b
 refine ok_rangeX goF (fun q=>[slS b2 (okT q),pts b3 (.cells [.int .i64 (lenT (okT q))].toArray 3),pts b4 (.cells [.int .i64 (errA q)].toArray 29)]) (fun _=>.ret) (frames1_spec p b (by omega)) rfl rfl takeD (R':=R) entD (fun _=>rfl) (by rfl) ?_ ?_ ?_
 ·intro l pre y hp w1 R1 LP0 LP1 QB QE hB hN hE hR
  have hgo:=goF_snoc pre y
  dsimp only
  obtain⟨s,e⟩:=y
  dsimp only at hgo
  have h1:=okT_pre hp
  rw[show okT (yieldsOf b)=(scanF b.size b).1 from hok]at h1
  have h2:=lenT_pre h1
  have h3:=h1.length_le
  cases u1:(!decide (e=0))with
  |true=>
   have u2:e≠0:=by simpa using u1
   have hk:=okT_bad pre (s,e) u2
   have he:=errA_bad pre (s,e) u2
   have hgo':goF (pre++[(s,e)])=false:=by rw[hgo];simpa using u2
   rw[hk,he]at hR
   repeat'(first|(refine gY ?_;intros)|(refine hY ?_ ?_<;>intro hgd)|(refine jY ?_ ?_<;>intro _)|fail)
   (refine hB takeD ?_)
   (refine ok_ex selD ?_)
   rintro⟨v,hv⟩
   dsimp only
   repeat'(first|(refine gY ?_;intros)|(refine hY ?_ ?_<;>intro hgd)|(refine jY ?_ ?_<;>intro _)|fail)
   (apply ok_draw [3];(focus(kernel_rfl));(focus((conv=>lhs;whnf);first|done|rfl));(focus(decide +kernel));(focus(exact(fun _ h=>h))))
   repeat'(first|(refine gY ?_;intros)|(refine hY ?_ ?_<;>intro hgd)|(refine jY ?_ ?_<;>intro _)|fail)
   refine cont_map (fun _ h=>slS_in hv (Take.out2 takeD h)) ?_
   refine hR hgo' rfl takeD entD
  |false=>
   have u2:e=0:=by simpa using u1
   subst u2
   have hk:=okT_ok pre s
   have hgo':goF (pre++[(s,0)])=true:=hgo
   rw[hk,lenT_snoc]at h2
   rw[hk,List.length_append]at h3
   rw[hk,errA_ok,lenT_snoc]at hN
   repeat'(first|(refine gY ?_;intros)|(refine hY ?_ ?_<;>intro hgd)|(refine jY ?_ ?_<;>intro _)|fail)
   (refine hB takeD ?_)
   (refine ok_ex selD ?_)
   rintro⟨v,hv⟩
   dsimp only
   repeat'(first|(refine gY ?_;intros)|(refine hY ?_ ?_<;>intro hgd)|(refine jY ?_ ?_<;>intro _)|fail)
   refine cont_map (fun _ h=>slS_in (xs:=okT pre++[s]) (by assumption) (by rw[List.map_append];exact Take.out2 takeD h)) ?_
   refine hN hgo' takeD ?_
   have e1:((lenT (okT pre):Int)+(12+(s.size:Int)))=((lenT (okT pre)+(12+s.size):Nat):Int):=by omega
   rw[e1]
   exact entD
 ·intro dk hb
  have he:=yields_eat b.size b []
  rw[show yieldsF b.size b=yieldsOf b from rfl]at he
  rw[he]at hb
  have h0:(scanOf b).2.2=0:=of_decide_eq_true hb
  rw[show yieldsF b.size b=yieldsOf b from rfl]at hok
  rw[h0,hok,hlen.1]
  (refine cont_ex selD ?_)
  rintro⟨v,hv⟩
  dsimp only
  repeat'(first|(refine gY ?_;intros)|(refine hY ?_ ?_<;>intro hgd)|(refine jY ?_ ?_<;>intro _)|fail)
  (apply ok_draw [2];(focus(kernel_rfl));(focus((conv=>lhs;whnf);first|done|rfl));(focus(decide +kernel));(focus(exact(fun _ h=>h))))
  repeat'(first|(refine gY ?_;intros)|(refine hY ?_ ?_<;>intro hgd)|(refine jY ?_ ?_<;>intro _)|fail)
  refine rtM_Y (y:=⟨v,hv⟩) (hrs:=Tryz.results133) (hv:=?_) (hφ:=?_)
  ·rfl
  ·trivial
 ·intro dk q hq
  have he:=yields_eat b.size b []
  rw[show yieldsF b.size b=yieldsOf b from rfl,hq]at he
  rw[show yieldsF b.size b=yieldsOf b from rfl]at hok
  simp only[List.nil_append,Prod.mk.injEq]at he
  obtain⟨rfl,h0⟩:=he
  have h1:=yields_errA b.size b [] (of_decide_eq_false h0.symm)
  rw[List.nil_append,show yieldsF b.size b=yieldsOf b from rfl]at h1
  rw[hok,hlen.1,h1]
  (refine ok_ex selD ?_)
  rintro⟨v,hv⟩
  dsimp only
  repeat'(first|(refine gY ?_;intros)|(refine hY ?_ ?_<;>intro hgd)|(refine jY ?_ ?_<;>intro _)|fail)
  refine rtM_Y (y:=⟨v,hv⟩) (hrs:=Tryz.results133) (hv:=?_) (hφ:=?_)
  ·rfl
  ·trivial
def framesOf:List BA→BA
 | []=>⟨#[]⟩
 |s::l=>frameOf s++framesOf l
theorem frameOf_size(s:BA):(frameOf s).size=12+s.size:=by
 unfold frameOf
 rw[ByteArray.size_append,ByteArray.size_append,ByteArray.size_append,put4_size,put4_size,put4_size]
theorem framesOf_size:∀ l:List BA,(framesOf l).size=lenT l
 | []=>rfl
 |s::l=>by
  show(frameOf s++framesOf l).size=_
  rw[ByteArray.size_append,frameOf_size,framesOf_size l];simp[lenT]
theorem framesOf_append:∀ (l m:List BA),framesOf (l++m)=framesOf l++framesOf m
 | [],m=>(ByteArray.empty_append).symm
 |s::l,m=>by
  show frameOf s++framesOf (l++m)=frameOf s++framesOf l++framesOf m
  rw[framesOf_append l m,ByteArray.append_assoc]
theorem framesOf_snoc(l:List BA)(s:BA):framesOf (l++[s])=framesOf l++frameOf s:=by
 rw[framesOf_append]
 show framesOf l++(frameOf s++⟨#[]⟩)=_
 congr 1
 exact ByteArray.append_empty
def allOk(l:List BA):Bool:=l.all fun s=>decide (s.size≤4194304)
def allF(l:List BA):BA:=bif allOk l then framesOf l else⟨#[]⟩
theorem All_spec(u:Value)(A:HProp)(xs:List BA)(hA:Vw A 1 u (xs.map strV))(hz:lenT xs≤1099511627776):
  FSpec Tryz.prog 106 [u] [A] Unit (fun _=>True) (fun _=>.tuple #[.string (allF xs),.int .i64 (bif allOk xs then 0 else 5)]) (fun _=>[A]):=by
 have hcnt:xs.length≤lenT xs:=by
  clear hA hz
  induction xs with
  |nil=>simp
  |cons s l ih=>simp only[lenT,List.map_cons,List.sum_cons,List.length_cons]at ih ⊢;omega
 refine spec_intro [] _ Tryz.func106 rfl Tryz.ntmps106 (by rfl) (fun w0 R=>?_)
 refine ok_learn (VwIn.slice (VwIn.here hA)) ?_
 rintro⟨pu,cu,rfl⟩
 repeat'(first|(refine gY ?_;intros)|(refine hY ?_ ?_<;>intro hgd)|(refine jY ?_ ?_<;>intro _)|fail)
 rename_i bb
 refine ok_map (fun _ h=>bld_new h) ?_
 have hlen:(xs.map strV).length=xs.length:=by simp
 refine ok_loop' (γ:=Nat) (fun i ρ L=>i≤xs.length∧allOk (xs.take i)=true∧Knows ρ [(4,.pointer (some ⟨bb,0,none⟩)),(9,.slice pu (xs.map strV).length cu),(10,.int .i64 (xs.map strV).length),(11,.int .i64 i)]∧L=[bldP bb (framesOf (xs.take i)),A]++R) (fun i=>xs.length-i) 0 ⟨by simp,rfl,⟨rfl,rfl,rfl,rfl,trivial⟩,rfl⟩ ?_
 rintro i ρ L ⟨hi,hok,hk,rfl⟩
 refine ok_regs hk ?_
 cases t1:decide ((i:Int)<((xs.map strV).length:Int))with
 |true=>
  have h:i<xs.length:=by simp at t1;omega
  have hn1:i<(xs.map strV).length:=by omega
  have hx:(xs.map strV)[i]? =some (strV xs[i]):=by rw[List.getElem?_map,List.getElem?_eq_getElem h];rfl
  have htk:xs.take (i+1)=xs.take i++[xs[i]]:=by rw[List.take_add_one,List.getElem?_eq_getElem h];rfl
  have hle:lenT (xs.take i++[xs[i]])≤lenT xs:=by rw[← htk];exact lenT_pre (List.take_prefix ..)
  rw[lenT_snoc]at hle
  have hall:allOk (xs.take (i+1))=(allOk (xs.take i)&&decide (xs[i].size≤4194304)):=by rw[htk];simp only[allOk,List.all_append,List.all_cons,List.all_nil,Bool.and_true]
  have hmem:xs[i]∈xs:=List.getElem_mem h
  refine ok_learn (VwIn.base (VwIn.there (VwIn.here hA)) (by intro e;rw[e]at hn1;simp at hn1)) ?_
  rintro⟨bu,ou,rfl⟩
  generalize xs[i]=x at hx htk hle hall hmem
  have hfs:=framesOf_size (xs.take i)
  by_cases hlong:x.size≤4194304
  ·repeat'(first|(refine gY ?_;intros)|(refine hY ?_ ?_<;>intro hgd)|(refine jY ?_ ?_<;>intro _)|fail)
   refine cl_Y (fPut_spec x hlong) ?_
   intro _ _
   repeat'(first|(refine gY ?_;intros)|(refine hY ?_ ?_<;>intro hgd)|(refine jY ?_ ?_<;>intro _)|fail)
   refine cl_Y (writeString_spec bb (framesOf (xs.take i)) (frameOf x) (by rw[hfs,frameOf_size];omega)) ?_
   intro _ _
   repeat'(first|(refine gY ?_;intros)|(refine hY ?_ ?_<;>intro hgd)|(refine jY ?_ ?_<;>intro _)|fail)
   rw[← framesOf_snoc,← htk]
   refine cont_map (L':=[bldP bb (framesOf (xs.take (i+1))),A]++R) entD ?_
   refine cont_back (i+1) ⟨h,by rw[hall,hok];simpa using hlong,⟨rfl,rfl,rfl,rfl,trivial⟩,rfl⟩ (by omega)
  ·have hno:allOk xs=false:=by
    simp only[allOk,List.all_eq_false]
    exact⟨x,hmem,by simpa using hlong⟩
   rw[show allF xs=⟨#[]⟩by unfold allF;rw[hno];rfl,hno]
   repeat'(first|(refine gY ?_;intros)|(refine hY ?_ ?_<;>intro hgd)|(refine jY ?_ ?_<;>intro _)|fail)
   refine cl_Y (fPut_long x (by omega) (by omega)) ?_
   intro _ _
   repeat'(first|(refine gY ?_;intros)|(refine hY ?_ ?_<;>intro hgd)|(refine jY ?_ ?_<;>intro _)|fail)
   (refine rt_Y (y:=()) (hrs:=Tryz.results106) (hv:=?_) (hφ:=?_))
   ·rfl
   ·trivial
 |false=>
  have hie:i=xs.length:=by simp at t1;omega
  subst hie
  rw[List.take_length]at hok ⊢
  rw[show allF xs=framesOf xs by unfold allF;rw[hok];rfl,hok]
  have hfs:=framesOf_size xs
  repeat'(first|(refine gY ?_;intros)|(refine hY ?_ ?_<;>intro hgd)|(refine jY ?_ ?_<;>intro _)|fail)
  refine cl_Y (string_spec bb (framesOf xs) (by omega)) ?_
  intro _ _
  repeat'(first|(refine gY ?_;intros)|(refine hY ?_ ?_<;>intro hgd)|(refine jY ?_ ?_<;>intro _)|fail)
  (refine rt_Y (y:=()) (hrs:=Tryz.results106) (hv:=?_) (hφ:=?_))
  ·rfl
  ·trivial
end Go.Proofs.YtgbmjoenbocfcaaGreat
