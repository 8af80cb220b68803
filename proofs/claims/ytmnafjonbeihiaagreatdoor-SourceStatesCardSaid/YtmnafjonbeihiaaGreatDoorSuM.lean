import Derived.Test.YtmnafjonbeihiaaGreatDoorG32
set_option linter.unusedSimpArgs false
set_option linter.unusedVariables false
set_option maxRecDepth 100000
namespace Go.Proofs.YtmnafjonbeihiaaGreatDoor
open Go Go.Fx Go.Proofs Go.Pl
theorem opP_ext{P P':HProp}(a:Ext P P'){rb tb:Nat}{t:Option Tx}{L:List HProp}{h:Frag}(s:SatL (opP P rb tb t::L) h):SatL (opP P' rb tb t::L) h:=by
 cases t with
 |none=>exact s
 |some x=>exact txP_ext a s
set_option maxHeartbeats 4000000 in
theorem sAt_spec(xb b:Nat)(S:Src)(r:Rl)(n:Nat)(P:HProp)(hU:UT P)(hc:checkS S.r.s=true)(hn:n≤S.l.length)(hfew:S.l.length≤300)(hh:hist ⟨S.r.s,[],0⟩ (S.l.take n)=some r):
  FSpec Tryz.prog 10 [.pointer (some ⟨xb,0,none⟩),.int .u64 (n:Int)] [srP P xb b S,P] (Nat×HProp) (fun y=>Ext P y.2) (fun y=>.tuple #[.pointer (some ⟨y.1,0,none⟩),.int .i64 0])
   (fun y=>[srP y.2 xb b S,relP y.2 y.1 r,y.2]):=by
 refine fspec_ex ?_
 rintro⟨⟨vs,ts,wb,rb,lv,ls,tb⟩,hy⟩
 unfold srL
 dsimp only
 have hvc:=hy.vc
 have hsv:=hy.sv
 have hts:=hy.ts
 have hcm:=hy.cm
 have hl:=hy.l
 dsimp only at hvc hsv hts hcm hl
 have hll:ls.length=S.l.length:=by have:=congrArg List.length hl;rw[List.length_map]at this;exact this
 have htc:(txV17 tb S.t).oneCell'=true:=by cases S.t<;>rfl
 have h:=sAtO xb wb rb vs ts lv ls (txV17 tb S.t) (S.l.take n) r n P hvc htc hU hsv (by rw[hts];exact hc) hcm (by rw[hl]) (by omega) (by omega) (by rw[hts];exact hh)
 refine(fspec_frame' h [walP wb b nC S.w,relP P rb S.r,opP P rb tb S.t]).conseq (fun _=>entD) (fun y hE=>⟨y,hE,rfl,fun R g s=>?_⟩)
 have hy2:SrOK y.2 S ⟨vs,ts,wb,rb,lv,ls,tb⟩:=hy.ext hE
 have s1:=relP_ext hE (b:=rb) (r:=S.r) (Take.out1 (A:=relP P rb S.r) takeD s)
 have s2:=opP_ext hE (rb:=rb) (tb:=tb) (t:=S.t) (Take.out1 (A:=opP P rb tb S.t) takeD s1)
 have s3:=sr_in (P:=y.2) (xb:=xb) (b:=b) hy2 (Take.out takeD s2)
 refine(?_:∀ h,SatL _ h→SatL _ h) g s3
 exact entD
set_option maxHeartbeats 4000000 in
theorem sChanges_spec(xb b:Nat)(S:Src)(kl:Nat)(cs:List Chg)(P:HProp)(hfew:S.l.length≤300)(hk:S.l[kl]? =some cs):
  FSpec Tryz.prog 9 [.pointer (some ⟨xb,0,none⟩),.int .u64 ((kl+1:Nat):Int)] [srP P xb b S,P] (V1s×List Cm×HProp)
   (fun y=>Ext P y.2.2∧(∀ c∈y.2.1,CmR y.2.2 c)∧y.2.1.map Cm.c=cs) (fun y=>.tuple #[y.1.1,.int .i64 0])
   (fun y=>[row 61 4 y.1.1 (y.2.1.map cmV),srP y.2.2 xb b S,y.2.2]):=by
 refine fspec_ex ?_
 rintro⟨⟨vs,ts,wb,rb,lv,ls,tb⟩,hy⟩
 unfold srL
 dsimp only
 have hvc:=hy.vc
 have hcm:=hy.cm
 have hl:=hy.l
 dsimp only at hvc hcm hl
 have hll:ls.length=S.l.length:=by have:=congrArg List.length hl;rw[List.length_map]at this;exact this
 have htc:(txV17 tb S.t).oneCell'=true:=by cases S.t<;>rfl
 rw[← hl,List.getElem?_map]at hk
 cases hx:ls[kl]? with
 |none=>rw[hx]at hk;cases hk
 |some x=>
  rw[hx]at hk
  obtain rfl:x.2.map Cm.c=cs:=Option.some.inj hk
  have h:=sChangesO xb wb rb vs lv ls (txV17 tb S.t) kl x P hvc htc hx (hcm x (List.mem_of_getElem? hx)) (by omega)
  refine(fspec_frame' h [walP wb b nC S.w,relP P rb S.r,opP P rb tb S.t]).conseq (fun _=>entD) (fun y hE=>⟨y,hE,rfl,fun R g s=>?_⟩)
  have hy2:SrOK y.2.2 S ⟨vs,ts,wb,rb,lv,ls,tb⟩:=hy.ext hE.1
  have s1:=relP_ext hE.1 (b:=rb) (r:=S.r) (Take.out1 (A:=relP P rb S.r) takeD s)
  have s2:=opP_ext hE.1 (rb:=rb) (tb:=tb) (t:=S.t) (Take.out1 (A:=opP P rb tb S.t) takeD s1)
  have s3:=sr_in (P:=y.2.2) (xb:=xb) (b:=b) hy2 (Take.out takeD s2)
  refine(?_:∀ h,SatL _ h→SatL _ h) g s3
  exact entD
end Go.Proofs.YtmnafjonbeihiaaGreatDoor
