/- Texts merged: TwA QcL. -/
import Derived.Test.YtmnafjonbeihiaaGreatDoorG12
import Derived.Test.YtmnafjonbeihiaaGreatDoorK3
import Derived.Test.YtmnafjonbeihiaaGreatDoorG10
import Derived.Test.YtmnafjonbeihiaaGreatDoorK2
set_option linter.unusedSimpArgs false
set_option linter.unusedVariables false
set_option maxRecDepth 100000
set_option pp.deepTerms true
set_option pp.maxSteps 200000
namespace Go.Proofs.YtmnafjonbeihiaaGreatDoor
open Go Go.Fx Go.Proofs Go.Pl
abbrev Lm:=V1s×List Om
def lmV(x:Lm):List Value:=[x.1.1]
def blV(x:Bool):List Value:=[.bool x]
theorem doOp_wf{r:Rl}(h:Rl.Wf r){o:Opr}(hw:∀ v∈o.row,v.wf):Rl.Wf (r.doOp o).1:=by
 rcases doOp_did r o with⟨_,e,_⟩|⟨_,p,d⟩
 ·rw[e];exact h
 ·intro x hx
  rcases d.kind with⟨_,_,e,_⟩|⟨_,_,e,_⟩|⟨_,_,e,_⟩
  ·rw[e]at hx
   rcases aput_mem _ _ _ x hx with rfl|hx
   ·exact hw
   ·exact h x hx
  ·rw[e]at hx
   rcases aput_mem _ _ _ x hx with rfl|hx
   ·exact hw
   ·exact h x hx
  ·rw[e]at hx
   exact h x (adel_sub _ _ x hx)
theorem new_wf{s:Sc}:Rl.Wf ⟨s,[],0⟩:=fun x hx=>by simp at hx
abbrev GW(ts:List Tb)(P1:HProp):={x:Rl×HProp // x.1.Ok∧Rl.Wf x.1∧x.1.s=ts.map Tb.c∧x.1.whole=true∧Ext P1 x.2}
abbrev GX(r:Rl)(P1:HProp):={g:Tx×HProp // g.1.Ok∧g.1.over=false∧g.1.t0=r.turns∧g.1.own=r.play g.1.redo∧Rl.Wf g.1.own∧Ext P1 g.2}
abbrev GE(P1:HProp):={Q:HProp // Ext P1 Q}
def ofF(b bx bt bk:Nat)(t:Int)(k:Vl):List HProp:=[pts bx (.cells [.pointer (some ⟨b,0,none⟩)].toArray 37),pts bt (.cells [.int .i64 t].toArray 3),pts bk (.cells (valV k).toArray 93)]
theorem relSchema_spec(b:Nat)(r:Rl)(P:HProp)(hok:r.Ok):
  FSpec Tryz.prog 55 [.pointer (some ⟨b,0,none⟩)] [relP P b r,P] (V1s×List Tb×HProp) (fun y=>SV y.2.2 y.1.1 y.2.1∧y.2.1.map Tb.c=r.s∧Ext P y.2.2) (fun y=>.agg #[y.1.1]) (fun y=>[relP y.2.2 b r,y.2.2]):=by
 refine fspec_ex ?_
 rintro⟨⟨vs,ts,m,es⟩,hy⟩
 have hy':=hy
 obtain⟨hvc,hsv,hss,hes⟩:=hy
 dsimp only at hvc hsv hss hes
 unfold relL
 dsimp only
 have hvw:=hsv.vw
 obtain⟨ds,_,hah,h1,h12⟩:=checkS_ok hok.sch
 have hcl:=relClone_spec vs ts P hsv (by rw[← hss,List.length_map]at h1;exact h1) (by rw[← hss,List.length_map]at h12;omega) (fun t ht=>by have:=(hah.tab t (by rw[← hss];exact ht)).len;omega)
 refine spec_intro [] _ Tryz.func55 rfl Tryz.ntmps55 (by rfl) (fun w0 R=>?_)
 refine ok_learn (VwIn.slice (VwIn.there (VwIn.there (VwIn.here hvw)))) ?_
 rintro⟨pv,cv,rfl⟩
 repeat'(first|(refine gY ?_;intros)|(refine hY ?_ ?_<;>intro hgd)|(refine jY ?_ ?_<;>intro _)|fail)
 refine cl_Y (hcl) ?_
 rintro⟨⟨v,hv⟩,ts',P1⟩ ⟨hsv',hmap',hE⟩
 dsimp only at hsv' hmap' hE ⊢
 refine ops_learn (VwIn.slice (n:=5) (v:=v) (xs:=ts'.map tbV) (VwIn.here hsv'.vw)) ?_
 rintro⟨pv',cv',rfl⟩
 repeat'(first|(refine gY ?_;intros)|(refine hY ?_ ?_<;>intro hgd)|(refine jY ?_ ?_<;>intro _)|fail)
 refine cont_map (fun _ h=>rel_in (b:=b) (r:=r) (P:=P1) (RlOK.ext hE hy') (Take.out takeD h)) ?_
 (refine rt_Y (y:=(⟨.slice pv' (ts'.map tbV).length cv',rfl⟩,ts',P1)) (hrs:=Tryz.results55) (hv:=?_) (hφ:=?_))
 ·rfl
 ·exact⟨hsv',hmap'.trans hss,hE⟩
end Go.Proofs.YtmnafjonbeihiaaGreatDoor
