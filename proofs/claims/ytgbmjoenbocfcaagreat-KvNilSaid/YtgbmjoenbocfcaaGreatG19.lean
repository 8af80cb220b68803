/- Texts merged: WlC WlD WlE. -/
import Derived.Test.YtgbmjoenbocfcaaGreatG10
set_option linter.unusedSimpArgs false
set_option linter.unusedVariables false
set_option maxRecDepth 100000
namespace Go.Proofs.YtgbmjoenbocfcaaGreat
open Go Go.Fx Go.Proofs Go.Pl
theorem down_0(w:Wv):w.down 0=w:=rfl
theorem down_4(w:Wv):w.down 4=w:=rfl
theorem down_ne(w:Wv){e:Int}(h:e≠0)(h4:e≠4):w.down e={w with fault:=e}:=by unfold Wv.down;rw[if_pos ⟨h,h4⟩]
theorem steps_1(wb b:Nat)(nm:BA)(w:Wv)(u f g:Value)(D0 D1:HProp)(e1:Int)(hne:e1≠0)
  (hf:VSpec Tryz.prog f [] [walP wb b nm w,D0] Unit (fun _=>True) (fun _=>.int .i64 e1) (fun _=>[walP wb b nm w,D1])):
  FSpec Tryz.prog 107 [.pointer (some ⟨wb,0,none⟩),u] [walP wb b nm w,row 41 1 u [[f],[g]],D0] Unit (fun _=>True) (fun _=>.int .i64 e1) (fun _=>[walP wb b nm (w.down e1),D1]):=by
 have hx0:([[f],[g]]:List (List Value))[0]? =some [f]:=rfl
 have hlt0:0<([[f],[g]]:List (List Value)).length:=by simp
 have u1:(!decide (e1=0))=true:=by simpa using hne
 have t0:decide (((0:Nat):Int)<(([[f],[g]]:List (List Value)).length:Int))=true:=rfl
 refine spec_intro [] _ Tryz.func107 rfl Tryz.ntmps107 (by rfl) (fun w0 R=>?_)
 refine ok_learn (row_cases (xs:=[[f],[g]]) takeD) ?_
 rintro(⟨rfl,hn⟩|⟨gb,c,rfl,hgc⟩)
 ·cases hn
 repeat'(first|(refine gY ?_;intros)|(refine hY ?_ ?_<;>intro hgd)|(refine jY ?_ ?_<;>intro _)|fail)
 refine ok_loop' (γ:=Unit) (fun _ ρ L=>Knows ρ [(0,.pointer (some ⟨wb,0,none⟩)),(8,.slice (some ⟨gb,0,none⟩) ([[f],[g]]:List (List Value)).length c),(9,.int .i64 ([[f],[g]]:List (List Value)).length),(10,.int .i64 ((0:Nat):Int))]∧L=[walP wb b nm w,row 41 1 (.slice (some ⟨gb,0,none⟩) ([[f],[g]]:List (List Value)).length c) [[f],[g]],D0]++R) (fun _=>0) () ⟨⟨rfl,rfl,rfl,rfl,trivial⟩,rfl⟩ ?_
 rintro _ ρ L ⟨hk,rfl⟩
 refine ok_regs hk ?_
 cases u2:(!decide (e1=4))with
 |true=>
  rw[down_ne w hne (by simpa using u2)]
  repeat'(first|(refine gY ?_;intros)|(refine hY ?_ ?_<;>intro hgd)|(refine jY ?_ ?_<;>intro _)|fail)
  refine clV_Y (hf) ?_
  intro _ _
  repeat'(first|(refine gY ?_;intros)|(refine hY ?_ ?_<;>intro hgd)|(refine jY ?_ ?_<;>intro _)|fail)
  unfold walP
  repeat'(first|(refine gY ?_;intros)|(refine hY ?_ ?_<;>intro hgd)|(refine jY ?_ ?_<;>intro _)|fail)
  (refine rt_Y (y:=()) (hrs:=Tryz.results107) (hv:=?_) (hφ:=?_))
  ·rfl
  ·trivial
 |false=>
  have h4:e1=4:=by simpa using u2
  subst h4
  rw[down_4]
  repeat'(first|(refine gY ?_;intros)|(refine hY ?_ ?_<;>intro hgd)|(refine jY ?_ ?_<;>intro _)|fail)
  refine clV_Y (hf) ?_
  intro _ _
  repeat'(first|(refine gY ?_;intros)|(refine hY ?_ ?_<;>intro hgd)|(refine jY ?_ ?_<;>intro _)|fail)
  (refine rt_Y (y:=()) (hrs:=Tryz.results107) (hv:=?_) (hφ:=?_))
  ·rfl
  ·trivial
theorem steps_2(wb b:Nat)(nm:BA)(w:Wv)(u f g:Value)(D0 D1 D2:HProp)(e2:Int)
  (hf:VSpec Tryz.prog f [] [walP wb b nm w,D0] Unit (fun _=>True) (fun _=>.int .i64 0) (fun _=>[walP wb b nm w,D1]))
  (hg:VSpec Tryz.prog g [] [walP wb b nm w,D1] Unit (fun _=>True) (fun _=>.int .i64 e2) (fun _=>[walP wb b nm w,D2])):
  FSpec Tryz.prog 107 [.pointer (some ⟨wb,0,none⟩),u] [walP wb b nm w,row 41 1 u [[f],[g]],D0] Unit (fun _=>True) (fun _=>.int .i64 e2) (fun _=>[walP wb b nm (w.down e2),D2]):=by
 have hx0:([[f],[g]]:List (List Value))[0]? =some [f]:=rfl
 have hx1:([[f],[g]]:List (List Value))[1]? =some [g]:=rfl
 have hlt0:0<([[f],[g]]:List (List Value)).length:=by simp
 have hlt1:1<([[f],[g]]:List (List Value)).length:=by simp
 refine spec_intro [] _ Tryz.func107 rfl Tryz.ntmps107 (by rfl) (fun w0 R=>?_)
 refine ok_learn (row_cases (xs:=[[f],[g]]) takeD) ?_
 rintro(⟨rfl,hn⟩|⟨gb,c,rfl,hgc⟩)
 ·cases hn
 repeat'(first|(refine gY ?_;intros)|(refine hY ?_ ?_<;>intro hgd)|(refine jY ?_ ?_<;>intro _)|fail)
 refine ok_loop' (γ:=Nat×HProp) (fun q ρ L=>(q=(0,D0)∨q=(1,D1)∨q=(2,D2)∧e2=0)∧Knows ρ [(0,.pointer (some ⟨wb,0,none⟩)),(8,.slice (some ⟨gb,0,none⟩) ([[f],[g]]:List (List Value)).length c),(9,.int .i64 ([[f],[g]]:List (List Value)).length),(10,.int .i64 (q.1:Int))]∧L=[walP wb b nm w,row 41 1 (.slice (some ⟨gb,0,none⟩) ([[f],[g]]:List (List Value)).length c) [[f],[g]],q.2]++R) (fun q=>2-q.1) (0,D0) ⟨.inl rfl,⟨rfl,rfl,rfl,rfl,trivial⟩,rfl⟩ ?_
 rintro⟨i,D⟩ ρ L ⟨hi,hk,rfl⟩
 dsimp only at hk ⊢
 refine ok_regs hk ?_
 rcases hi with e|e|⟨e,rfl⟩
 ·cases e
  have t0:decide (((0:Nat):Int)<(([[f],[g]]:List (List Value)).length:Int))=true:=rfl
  repeat'(first|(refine gY ?_;intros)|(refine hY ?_ ?_<;>intro hgd)|(refine jY ?_ ?_<;>intro _)|fail)
  refine clV_Y (hf) ?_
  intro _ _
  repeat'(first|(refine gY ?_;intros)|(refine hY ?_ ?_<;>intro hgd)|(refine jY ?_ ?_<;>intro _)|fail)
  refine cont_map (L':=[walP wb b nm w,row 41 1 (.slice (some ⟨gb,0,none⟩) ([[f],[g]]:List (List Value)).length c) [[f],[g]],D1]++R) entD ?_
  refine cont_back (1,D1) ⟨.inr (.inl rfl),⟨rfl,rfl,rfl,rfl,trivial⟩,rfl⟩ (by simp)
 ·cases e
  have t0:decide (((1:Nat):Int)<(([[f],[g]]:List (List Value)).length:Int))=true:=rfl
  cases u1:(!decide (e2=0))with
  |false=>
   have h0:e2=0:=by simpa using u1
   subst h0
   rw[down_0]
   repeat'(first|(refine gY ?_;intros)|(refine hY ?_ ?_<;>intro hgd)|(refine jY ?_ ?_<;>intro _)|fail)
   refine clV_Y (hg) ?_
   intro _ _
   repeat'(first|(refine gY ?_;intros)|(refine hY ?_ ?_<;>intro hgd)|(refine jY ?_ ?_<;>intro _)|fail)
   refine cont_map (L':=[walP wb b nm w,row 41 1 (.slice (some ⟨gb,0,none⟩) ([[f],[g]]:List (List Value)).length c) [[f],[g]],D2]++R) entD ?_
   refine cont_back (2,D2) ⟨.inr (.inr ⟨rfl,rfl⟩),⟨rfl,rfl,rfl,rfl,trivial⟩,rfl⟩ (by simp)
  |true=>
   have h0:e2≠0:=by simpa using u1
   cases u2:(!decide (e2=4))with
   |true=>
    rw[down_ne w h0 (by simpa using u2)]
    repeat'(first|(refine gY ?_;intros)|(refine hY ?_ ?_<;>intro hgd)|(refine jY ?_ ?_<;>intro _)|fail)
    refine clV_Y (hg) ?_
    intro _ _
    repeat'(first|(refine gY ?_;intros)|(refine hY ?_ ?_<;>intro hgd)|(refine jY ?_ ?_<;>intro _)|fail)
    unfold walP
    repeat'(first|(refine gY ?_;intros)|(refine hY ?_ ?_<;>intro hgd)|(refine jY ?_ ?_<;>intro _)|fail)
    (refine rt_Y (y:=()) (hrs:=Tryz.results107) (hv:=?_) (hφ:=?_))
    ·rfl
    ·trivial
   |false=>
    have h4:e2=4:=by simpa using u2
    subst h4
    rw[down_4]
    repeat'(first|(refine gY ?_;intros)|(refine hY ?_ ?_<;>intro hgd)|(refine jY ?_ ?_<;>intro _)|fail)
    refine clV_Y (hg) ?_
    intro _ _
    repeat'(first|(refine gY ?_;intros)|(refine hY ?_ ?_<;>intro hgd)|(refine jY ?_ ?_<;>intro _)|fail)
    (refine rt_Y (y:=()) (hrs:=Tryz.results107) (hv:=?_) (hφ:=?_))
    ·rfl
    ·trivial
 ·cases e
  have t0:decide (((2:Nat):Int)<(([[f],[g]]:List (List Value)).length:Int))=false:=rfl
  rw[down_0]
  repeat'(first|(refine gY ?_;intros)|(refine hY ?_ ?_<;>intro hgd)|(refine jY ?_ ?_<;>intro _)|fail)
  (refine rt_Y (y:=()) (hrs:=Tryz.results107) (hv:=?_) (hφ:=?_))
  ·rfl
  ·trivial
theorem App1_spec(wb b b2 b6:Nat)(nm s:BA)(w:Wv)(d:Dk)(hd:d.Ok)(hl:d.loose.length≤1099511627776)(hn:nm.size≤4611686018427387904)(hz:s.size≤549755813888):
  FSpec Tryz.prog 108 [.pointer (some ⟨b2,0,none⟩),.pointer (some ⟨b6,0,none⟩)] [pts b2 (.cells [.pointer (some ⟨wb,0,none⟩)].toArray 74),pts b6 (.cells [.string s].toArray 9),diskP b d,walP wb b nm w] Unit (fun _=>True)
   (fun _=>.int .i64 (d.append nm s).2) (fun _=>[pts b2 (.cells [.pointer (some ⟨wb,0,none⟩)].toArray 74),pts b6 (.cells [.string s].toArray 9),diskP b (d.append nm s).1,walP wb b nm w]):=by
 unfold walP
 refine spec_intro [] _ Tryz.func108 rfl Tryz.ntmps108 (by rfl) (fun w0 R=>?_)
 repeat'(first|(refine gY ?_;intros)|(refine hY ?_ ?_<;>intro hgd)|(refine jY ?_ ?_<;>intro _)|fail)
 refine cl_Y (append_spec b d nm s hd hl hn hz) ?_
 intro _ _
 repeat'(first|(refine gY ?_;intros)|(refine hY ?_ ?_<;>intro hgd)|(refine jY ?_ ?_<;>intro _)|fail)
 (refine rt_Y (y:=()) (hrs:=Tryz.results108) (hv:=?_) (hφ:=?_))
 ·rfl
 ·trivial
abbrev pkL(wb b b2 b6:Nat)(s:BA)(d:Dk):List HProp:=[pts b2 (.cells [.pointer (some ⟨wb,0,none⟩)].toArray 74),pts b6 (.cells [.string s].toArray 9),diskP b d]
def pkA(wb b b2 b6:Nat)(s:BA)(d:Dk):HProp:=fun h=>SatL (pkL wb b b2 b6 s d) h
theorem pkA_out{wb b b2 b6:Nat}{s:BA}{d:Dk}{W:HProp}{R:List HProp}{h:Frag}(k:SatL ([W,pkA wb b b2 b6 s d]++R) h):SatL ((pkL wb b b2 b6 s d++[W])++R) h:=by
 have k':SatL (pkA wb b b2 b6 s d::W::R) h:=SatL.swap k
 rw[List.append_assoc]
 exact SatL.flat (M:=pkL wb b b2 b6 s d) k'
theorem pkA_in{wb b b2 b6:Nat}{s:BA}{d:Dk}{W:HProp}{R:List HProp}{h:Frag}(k:SatL ((pkL wb b b2 b6 s d++[W])++R) h):SatL ([W,pkA wb b b2 b6 s d]++R) h:=by
 rw[List.append_assoc]at k
 have k':SatL (pkA wb b b2 b6 s d::W::R) h:=SatL.unflat (M:=pkL wb b b2 b6 s d) k
 exact SatL.swap k'
theorem App1_v(wb b b2 b6:Nat)(nm s:BA)(w:Wv)(d:Dk)(hd:d.Ok)(hl:d.loose.length≤1099511627776)(hn:nm.size≤4611686018427387904)(hz:s.size≤549755813888):
  VSpec Tryz.prog (.func (.func 108) #[] [.pointer (some ⟨b2,0,none⟩),.pointer (some ⟨b6,0,none⟩)].toArray) [] [walP wb b nm w,pkA wb b b2 b6 s d] Unit (fun _=>True) (fun _=>.int .i64 (d.append nm s).2) (fun _=>[walP wb b nm w,pkA wb b b2 b6 s (d.append nm s).1]):=
 VSpec.conseq (vspec_func (args:=[]) (cap:=[.pointer (some ⟨b2,0,none⟩),.pointer (some ⟨b6,0,none⟩)]) (App1_spec wb b b2 b6 nm s w d hd hl hn hz)) (fun _ _ k=>pkA_out k) (fun y _=>⟨y,trivial,rfl,fun _ _ k=>pkA_in k⟩)
theorem Sync_v(b:Nat)(d:Dk)(hd:d.Ok):VSpec Tryz.prog (.func (.func 95) #[.pointer (some ⟨b,0,none⟩)] #[]) [] [diskP b d] Unit (fun _=>True) (fun _=>.int .i64 d.sync.2) (fun _=>[diskP b d.sync.1]):=vspec_bound (args:=[]) (sync_spec b d hd)
theorem pkA_turn{A B D W:HProp}{R:List HProp}{h:Frag}(k:SatL ([A,B,D,W]++R) h):SatL (([D]++[A,B,W])++R) h:=(entD:∀ h,SatL ([A,B,D,W]++R) h→SatL ([D,A,B,W]++R) h) h k
theorem pkA_back{A B D W:HProp}{R:List HProp}{h:Frag}(k:SatL (([D]++[A,B,W])++R) h):SatL ([A,B,D,W]++R) h:=(entD:∀ h,SatL ([D,A,B,W]++R) h→SatL ([A,B,D,W]++R) h) h k
theorem AppS_v(wb b b2 b6:Nat)(nm s:BA)(w:Wv)(d:Dk)(hd:d.Ok):
  VSpec Tryz.prog (.func (.func 95) #[.pointer (some ⟨b,0,none⟩)] #[]) [] [walP wb b nm w,pkA wb b b2 b6 s d] Unit (fun _=>True) (fun _=>.int .i64 d.sync.2) (fun _=>[walP wb b nm w,pkA wb b b2 b6 s d.sync.1]):=
 VSpec.conseq (vspec_frameD (Sync_v b d hd) [pts b2 (.cells [.pointer (some ⟨wb,0,none⟩)].toArray 74),pts b6 (.cells [.string s].toArray 9),walP wb b nm w]) (fun _ _ k=>pkA_turn (A:=pts b2 (.cells [.pointer (some ⟨wb,0,none⟩)].toArray 74)) (B:=pts b6 (.cells [.string s].toArray 9)) (pkA_out k)) (fun y _=>⟨y,trivial,rfl,fun _ _ k=>pkA_in (pkA_back (A:=pts b2 (.cells [.pointer (some ⟨wb,0,none⟩)].toArray 74)) (B:=pts b6 (.cells [.string s].toArray 9)) k)⟩)
theorem lenT_ge:∀ l:List BA,l.length≤lenT l
 | []=>Nat.le_refl _
 |s::l=>by have:=lenT_ge l;simp[lenT]at this ⊢;omega
theorem Append_spec(wb b:Nat)(nm:BA)(w:Wv)(d:Dk)(u:Value)(A:HProp)(l:List BA)(hd:d.Ok)(hl:d.loose.length≤1000000000)(hn:nm.size≤4611686018427387904)(hA:Vw A 1 u (l.map strV))(hz:lenT l≤549755813888)
  (hw0:w.fault=0→0≤w.n∧w.n≤1099511627776∧0≤w.size∧w.size≤1099511627776):
  FSpec Tryz.prog 50 [.pointer (some ⟨wb,0,none⟩),u] [walP wb b nm w,diskP b d,A] Unit (fun _=>True) (fun _=>.int .i64 (appendW w d nm l).2.2) (fun _=>[walP wb b nm (appendW w d nm l).1,diskP b (appendW w d nm l).2.1,A]):=by
 have hall:=All_spec u A l hA (by omega)
 unfold appendW
 by_cases h0:w.fault≠0
 ·have u0:(!decide (w.fault=0))=true:=by simpa using h0
  rw[if_pos h0]
  refine spec_intro [] _ Tryz.func50 rfl Tryz.ntmps50 (by rfl) (fun w0 R=>?_)
  repeat'(first|(refine gY ?_;intros)|(refine hY ?_ ?_<;>intro hgd)|(refine jY ?_ ?_<;>intro _)|fail)
  refine cl_Y (Fault_spec wb b nm w) ?_
  intro _ _
  repeat'(first|(refine gY ?_;intros)|(refine hY ?_ ?_<;>intro hgd)|(refine jY ?_ ?_<;>intro _)|fail)
  (refine rt_Y (y:=()) (hrs:=Tryz.results50) (hv:=?_) (hφ:=?_))
  ·rfl
  ·trivial
 ·have u0:(!decide (w.fault=0))=false:=by simpa using h0
  have hw:=hw0 (by simpa using h0)
  rw[if_neg h0]
  by_cases h1:allOk l=false
  ·rw[if_pos h1]
   rw[h1]at hall
   dsimp only[cond_false]at hall
   refine spec_intro [] _ Tryz.func50 rfl Tryz.ntmps50 (by rfl) (fun w0 R=>?_)
   repeat'(first|(refine gY ?_;intros)|(refine hY ?_ ?_<;>intro hgd)|(refine jY ?_ ?_<;>intro _)|fail)
   refine cl_Y (Fault_spec wb b nm w) ?_
   intro _ _
   repeat'(first|(refine gY ?_;intros)|(refine hY ?_ ?_<;>intro hgd)|(refine jY ?_ ?_<;>intro _)|fail)
   refine cl_Y (hall) ?_
   intro _ _
   repeat'(first|(refine gY ?_;intros)|(refine hY ?_ ?_<;>intro hgd)|(refine jY ?_ ?_<;>intro _)|fail)
   (refine rt_Y (y:=()) (hrs:=Tryz.results50) (hv:=?_) (hφ:=?_))
   ·rfl
   ·trivial
  ·rw[if_neg h1]
   have h1':allOk l=true:=by simpa using h1
   rw[h1']at hall
   dsimp only[cond_true]at hall
   rw[show allF l=framesOf l by unfold allF;rw[h1'];rfl]at hall
   by_cases h2:l.length=0
   ·rw[if_pos h2]
    have u2:decide (((l.map strV).length:Int)=0)=true:=by simp;exact List.length_eq_zero_iff.1 h2
    refine spec_intro [] _ Tryz.func50 rfl Tryz.ntmps50 (by rfl) (fun w0 R=>?_)
    refine ok_learn (VwIn.slice (VwIn.there (VwIn.there (VwIn.here hA)))) ?_
    rintro⟨pu,cu,rfl⟩
    repeat'(first|(refine gY ?_;intros)|(refine hY ?_ ?_<;>intro hgd)|(refine jY ?_ ?_<;>intro _)|fail)
    refine cl_Y (Fault_spec wb b nm w) ?_
    intro _ _
    repeat'(first|(refine gY ?_;intros)|(refine hY ?_ ?_<;>intro hgd)|(refine jY ?_ ?_<;>intro _)|fail)
    refine cl_Y (hall) ?_
    intro _ _
    repeat'(first|(refine gY ?_;intros)|(refine hY ?_ ?_<;>intro hgd)|(refine jY ?_ ?_<;>intro _)|fail)
    (refine rt_Y (y:=()) (hrs:=Tryz.results50) (hv:=?_) (hφ:=?_))
    ·rfl
    ·trivial
   ·rw[if_neg h2]
    have u2:decide (((l.map strV).length:Int)=0)=false:=by simp;intro e;exact h2 (by rw[e];rfl)
    refine spec_intro [] _ Tryz.func50 rfl Tryz.ntmps50 (by rfl) (fun w0 R=>?_)
    refine ok_learn (VwIn.slice (VwIn.there (VwIn.there (VwIn.here hA)))) ?_
    rintro⟨pu,cu,rfl⟩
    repeat'(first|(refine gY ?_;intros)|(refine hY ?_ ?_<;>intro hgd)|(refine jY ?_ ?_<;>intro _)|fail)
    refine cl_Y (Fault_spec wb b nm w) ?_
    intro _ _
    repeat'(first|(refine gY ?_;intros)|(refine hY ?_ ?_<;>intro hgd)|(refine jY ?_ ?_<;>intro _)|fail)
    refine cl_Y (hall) ?_
    intro _ _
    repeat'(first|(refine gY ?_;intros)|(refine hY ?_ ?_<;>intro hgd)|(refine jY ?_ ?_<;>intro _)|fail)
    rename_i b2 _ _ _ _ b6
    refine ok_map (L':=[pts b2 (.cells [.pointer (some ⟨wb,0,none⟩)].toArray 74),pts b6 (.cells [.string (framesOf l)].toArray 9),diskP b d,walP wb b nm w,A]++R) entD ?_
    have hfs:=framesOf_size l
    have hsz:(framesOf l).size≤549755813888:=by omega
    have hf:=App1_v wb b b2 b6 nm (framesOf l) w d hd (by omega) hn hsz
    have hok:(d.append nm (framesOf l)).1.Ok:=hd.append hsz
    generalize d.append nm (framesOf l)=r at hf hok
    obtain⟨d1,e1⟩:=r
    have hg:=AppS_v wb b b2 b6 nm (framesOf l) w d1 hok
    dsimp only at hf hok hg ⊢
    generalize d1.sync=r2 at hg
    obtain⟨d2,e2⟩:=r2
    dsimp only at hg ⊢
    unfold walP
    refine ok_drawL (cv:=[]) [7] ([pts b2 _,pts wb _]) (takeD) (by kernel_rfl) rfl (by decide +kernel) ?_
    repeat'(first|(refine gY ?_;intros)|(refine hY ?_ ?_<;>intro hgd)|(refine jY ?_ ?_<;>intro _)|fail)
    rename_i v' hv'
    refine ops_mapL (L':=[pts b2 (.cells [.pointer (some ⟨wb,0,none⟩)].toArray 74),pts b6 (.cells [.string (framesOf l)].toArray 9),diskP b d,walP wb b nm w,row 41 1 v' [[.func (.func 108) #[] #[.pointer (some ⟨b2,0,none⟩),.pointer (some ⟨b6,0,none⟩)]],[.func (.func 95) #[.pointer (some ⟨b,0,none⟩)] #[]]],A]++R) entD ?_
    refine ops_mapL (L':=[pkA wb b b2 b6 (framesOf l) d,walP wb b nm w,row 41 1 v' [[.func (.func 108) #[] #[.pointer (some ⟨b2,0,none⟩),.pointer (some ⟨b6,0,none⟩)]],[.func (.func 95) #[.pointer (some ⟨b,0,none⟩)] #[]]],A]++R) (fun _ h=>SatL.unflat (M:=pkL wb b b2 b6 (framesOf l) d) (L:=[walP wb b nm w,row 41 1 v' [[.func (.func 108) #[] #[.pointer (some ⟨b2,0,none⟩),.pointer (some ⟨b6,0,none⟩)]],[.func (.func 95) #[.pointer (some ⟨b,0,none⟩)] #[]]],A]++R) h) ?_
    by_cases he1:e1≠0
    ·have u7:decide (e1=0)=false:=by simpa using he1
     have hst:=steps_1 wb b nm w v' (.func (.func 108) #[] #[.pointer (some ⟨b2,0,none⟩),.pointer (some ⟨b6,0,none⟩)]) (.func (.func 95) #[.pointer (some ⟨b,0,none⟩)] #[]) (pkA wb b b2 b6 (framesOf l) d) (pkA wb b b2 b6 (framesOf l) d1) e1 he1 hf
     rw[if_pos he1]
     refine cl_Y (hst) ?_
     intro _ _
     repeat'(first|(refine gY ?_;intros)|(refine hY ?_ ?_<;>intro hgd)|(refine jY ?_ ?_<;>intro _)|fail)
     refine cont_map (fun _ h=>pkA_out (R:=[A]++R) h) ?_
     dsimp only
     (refine rt_Y (y:=()) (hrs:=Tryz.results50) (hv:=?_) (hφ:=?_))
     ·rfl
     ·trivial
    ·have he0:e1=0:=by simpa using he1
     subst he0
     rw[if_neg (by simp)]
     have hst:=steps_2 wb b nm w v' (.func (.func 108) #[] #[.pointer (some ⟨b2,0,none⟩),.pointer (some ⟨b6,0,none⟩)]) (.func (.func 95) #[.pointer (some ⟨b,0,none⟩)] #[]) (pkA wb b b2 b6 (framesOf l) d) (pkA wb b b2 b6 (framesOf l) d1) (pkA wb b b2 b6 (framesOf l) d2) e2 hf hg
     by_cases he2:e2≠0
     ·have u7:decide (e2=0)=false:=by simpa using he2
      rw[if_pos he2]
      refine cl_Y (hst) ?_
      intro _ _
      repeat'(first|(refine gY ?_;intros)|(refine hY ?_ ?_<;>intro hgd)|(refine jY ?_ ?_<;>intro _)|fail)
      refine cont_map (fun _ h=>pkA_out (R:=[A]++R) h) ?_
      dsimp only
      (refine rt_Y (y:=()) (hrs:=Tryz.results50) (hv:=?_) (hφ:=?_))
      ·rfl
      ·trivial
     ·have he0:e2=0:=by simpa using he2
      subst he0
      rw[if_neg (by simp)]
      rw[down_0]at hst
      refine cl_Y (hst) ?_
      intro _ _
      repeat'(first|(refine gY ?_;intros)|(refine hY ?_ ?_<;>intro hgd)|(refine jY ?_ ?_<;>intro _)|fail)
      refine ok_map (fun _ h=>pkA_out (R:=[A]++R) h) ?_
      have hll:(l.map strV).length=l.length:=by simp
      have hlz:l.length≤lenT l:=lenT_ge l
      unfold walP walV
      refine ok_drawS (cv:=[]) [] [1,9,13,14] ([pts b2 (.cells [.pointer (some ⟨wb,0,none⟩)].toArray 74),pts b6 (.cells [.string (framesOf l)].toArray 9)]) _ (by kernel_rfl) rfl (by decide +kernel) (fun _ h=>h) (takeS) ?_
      repeat'(first|(refine gY ?_;intros)|(refine hY ?_ ?_<;>intro hgd)|(refine jY ?_ ?_<;>intro _)|fail)
      rw[hll,hfs]
      (refine rt_Y (y:=()) (hrs:=Tryz.results50) (hv:=?_) (hφ:=?_))
      ·rfl
      ·trivial
theorem Res1_spec(wb b b1 b4:Nat)(nm:BA)(w:Wv)(d:Dk)(hd:d.Ok)(hl:d.loose.length≤1099511627776)(hn:nm.size≤4611686018427387904):
  FSpec Tryz.prog 119 [.pointer (some ⟨b1,0,none⟩),.pointer (some ⟨b4,0,none⟩)] [pts b1 (.cells [.pointer (some ⟨wb,0,none⟩)].toArray 74),pts b4 (.cells [.bool true].toArray 4),diskP b d,walP wb b nm w] Unit (fun _=>True)
   (fun _=>.int .i64 (rem3 d nm)) (fun _=>[pts b1 (.cells [.pointer (some ⟨wb,0,none⟩)].toArray 74),pts b4 (.cells [.bool (!decide ((d.remove nm).2=3))].toArray 4),diskP b (d.remove nm).1,walP wb b nm w]):=by
 have hr:=remove_spec b d nm hd hl hn
 unfold walP rem3
 generalize d.remove nm=r at hr
 obtain⟨d1,e⟩:=r
 dsimp only at hr ⊢
 cases t1:decide (e=3)with
 |true=>
  have h3:e=3:=by simpa using t1
  subst h3
  refine spec_intro [] _ Tryz.func119 rfl Tryz.ntmps119 (by rfl) (fun w0 R=>?_)
  repeat'(first|(refine gY ?_;intros)|(refine hY ?_ ?_<;>intro hgd)|(refine jY ?_ ?_<;>intro _)|fail)
  refine cl_Y (hr) ?_
  intro _ _
  repeat'(first|(refine gY ?_;intros)|(refine hY ?_ ?_<;>intro hgd)|(refine jY ?_ ?_<;>intro _)|fail)
  (refine rt_Y (y:=()) (hrs:=Tryz.results119) (hv:=?_) (hφ:=?_))
  ·rfl
  ·trivial
 |false=>
  have h3:¬ e=3:=by simpa using t1
  rw[if_neg h3]
  refine spec_intro [] _ Tryz.func119 rfl Tryz.ntmps119 (by rfl) (fun w0 R=>?_)
  repeat'(first|(refine gY ?_;intros)|(refine hY ?_ ?_<;>intro hgd)|(refine jY ?_ ?_<;>intro _)|fail)
  refine cl_Y (hr) ?_
  intro _ _
  repeat'(first|(refine gY ?_;intros)|(refine hY ?_ ?_<;>intro hgd)|(refine jY ?_ ?_<;>intro _)|fail)
  (refine rt_Y (y:=()) (hrs:=Tryz.results119) (hv:=?_) (hφ:=?_))
  ·rfl
  ·trivial
def resT(th:Bool)(d:Dk):Dk×Int:=if th then d.sync else(d,0)
theorem Res2_spec(wb b b1 b4:Nat)(nm:BA)(w:Wv)(d:Dk)(th:Bool)(hd:d.Ok):
  FSpec Tryz.prog 120 [.pointer (some ⟨b4,0,none⟩),.pointer (some ⟨b1,0,none⟩)] [pts b1 (.cells [.pointer (some ⟨wb,0,none⟩)].toArray 74),pts b4 (.cells [.bool th].toArray 4),diskP b d,walP wb b nm w] Unit (fun _=>True)
   (fun _=>.int .i64 (resT th d).2) (fun _=>[pts b1 (.cells [.pointer (some ⟨wb,0,none⟩)].toArray 74),pts b4 (.cells [.bool th].toArray 4),diskP b (resT th d).1,walP wb b nm w]):=by
 have hs:=sync_spec b d hd
 unfold walP resT
 cases th with
 |true=>
  simp only[if_true]
  refine spec_intro [] _ Tryz.func120 rfl Tryz.ntmps120 (by rfl) (fun w0 R=>?_)
  repeat'(first|(refine gY ?_;intros)|(refine hY ?_ ?_<;>intro hgd)|(refine jY ?_ ?_<;>intro _)|fail)
  refine cl_Y (hs) ?_
  intro _ _
  repeat'(first|(refine gY ?_;intros)|(refine hY ?_ ?_<;>intro hgd)|(refine jY ?_ ?_<;>intro _)|fail)
  (refine rt_Y (y:=()) (hrs:=Tryz.results120) (hv:=?_) (hφ:=?_))
  ·rfl
  ·trivial
 |false=>
  simp only[Bool.false_eq_true,if_false]
  refine spec_intro [] _ Tryz.func120 rfl Tryz.ntmps120 (by rfl) (fun w0 R=>?_)
  repeat'(first|(refine gY ?_;intros)|(refine hY ?_ ?_<;>intro hgd)|(refine jY ?_ ?_<;>intro _)|fail)
  (refine rt_Y (y:=()) (hrs:=Tryz.results120) (hv:=?_) (hφ:=?_))
  ·rfl
  ·trivial
abbrev pkRL(wb b b1 b4:Nat)(th:Bool)(d:Dk):List HProp:=[pts b1 (.cells [.pointer (some ⟨wb,0,none⟩)].toArray 74),pts b4 (.cells [.bool th].toArray 4),diskP b d]
def pkR(wb b b1 b4:Nat)(th:Bool)(d:Dk):HProp:=fun h=>SatL (pkRL wb b b1 b4 th d) h
theorem pkR_out{wb b b1 b4:Nat}{th:Bool}{d:Dk}{W:HProp}{R:List HProp}{h:Frag}(k:SatL ([W,pkR wb b b1 b4 th d]++R) h):SatL ((pkRL wb b b1 b4 th d++[W])++R) h:=by
 have k':SatL (pkR wb b b1 b4 th d::W::R) h:=SatL.swap k
 rw[List.append_assoc]
 exact SatL.flat (M:=pkRL wb b b1 b4 th d) k'
theorem pkR_in{wb b b1 b4:Nat}{th:Bool}{d:Dk}{W:HProp}{R:List HProp}{h:Frag}(k:SatL ((pkRL wb b b1 b4 th d++[W])++R) h):SatL ([W,pkR wb b b1 b4 th d]++R) h:=by
 rw[List.append_assoc]at k
 have k':SatL (pkR wb b b1 b4 th d::W::R) h:=SatL.unflat (M:=pkRL wb b b1 b4 th d) k
 exact SatL.swap k'
theorem Res1_v(wb b b1 b4:Nat)(nm:BA)(w:Wv)(d:Dk)(hd:d.Ok)(hl:d.loose.length≤1099511627776)(hn:nm.size≤4611686018427387904):
  VSpec Tryz.prog (.func (.func 119) #[] [.pointer (some ⟨b1,0,none⟩),.pointer (some ⟨b4,0,none⟩)].toArray) [] [walP wb b nm w,pkR wb b b1 b4 true d] Unit (fun _=>True) (fun _=>.int .i64 (rem3 d nm)) (fun _=>[walP wb b nm w,pkR wb b b1 b4 (!decide ((d.remove nm).2=3)) (d.remove nm).1]):=
 VSpec.conseq (vspec_func (args:=[]) (cap:=[.pointer (some ⟨b1,0,none⟩),.pointer (some ⟨b4,0,none⟩)]) (Res1_spec wb b b1 b4 nm w d hd hl hn)) (fun _ _ k=>pkR_out k) (fun y _=>⟨y,trivial,rfl,fun _ _ k=>pkR_in k⟩)
theorem Res2_v(wb b b1 b4:Nat)(nm:BA)(w:Wv)(d:Dk)(th:Bool)(hd:d.Ok):
  VSpec Tryz.prog (.func (.func 120) #[] [.pointer (some ⟨b4,0,none⟩),.pointer (some ⟨b1,0,none⟩)].toArray) [] [walP wb b nm w,pkR wb b b1 b4 th d] Unit (fun _=>True) (fun _=>.int .i64 (resT th d).2) (fun _=>[walP wb b nm w,pkR wb b b1 b4 th (resT th d).1]):=
 VSpec.conseq (vspec_func (args:=[]) (cap:=[.pointer (some ⟨b4,0,none⟩),.pointer (some ⟨b1,0,none⟩)]) (Res2_spec wb b b1 b4 nm w d th hd)) (fun _ _ k=>pkR_out k) (fun y _=>⟨y,trivial,rfl,fun _ _ k=>pkR_in k⟩)
theorem remS_eq(d:Dk)(nm:BA):remS d nm=resT (!decide ((d.remove nm).2=3)) (d.remove nm).1:=by
 unfold remS resT
 by_cases h:(d.remove nm).2=3
 ·simp[h]
 ·simp[h]
theorem Reset_spec(wb b:Nat)(nm:BA)(w:Wv)(d:Dk)(hd:d.Ok)(hl:d.loose.length≤1000000000)(hn:nm.size≤4611686018427387904):
  FSpec Tryz.prog 63 [.pointer (some ⟨wb,0,none⟩)] [walP wb b nm w,diskP b d] Unit (fun _=>True) (fun _=>.int .i64 (resetW w d nm).2.2) (fun _=>[walP wb b nm (resetW w d nm).1,diskP b (resetW w d nm).2.1]):=by
 unfold resetW
 by_cases h0:w.fault≠0
 ·have u0:(!decide (w.fault=0))=true:=by simpa using h0
  rw[if_pos h0]
  refine spec_intro [] _ Tryz.func63 rfl Tryz.ntmps63 (by rfl) (fun w0 R=>?_)
  repeat'(first|(refine gY ?_;intros)|(refine hY ?_ ?_<;>intro hgd)|(refine jY ?_ ?_<;>intro _)|fail)
  refine cl_Y (Fault_spec wb b nm w) ?_
  intro _ _
  repeat'(first|(refine gY ?_;intros)|(refine hY ?_ ?_<;>intro hgd)|(refine jY ?_ ?_<;>intro _)|fail)
  (refine rt_Y (y:=()) (hrs:=Tryz.results63) (hv:=?_) (hφ:=?_))
  ·rfl
  ·trivial
 ·have u0:(!decide (w.fault=0))=false:=by simpa using h0
  rw[if_neg h0,remS_eq]
  refine spec_intro [] _ Tryz.func63 rfl Tryz.ntmps63 (by rfl) (fun w0 R=>?_)
  repeat'(first|(refine gY ?_;intros)|(refine hY ?_ ?_<;>intro hgd)|(refine jY ?_ ?_<;>intro _)|fail)
  refine cl_Y (Fault_spec wb b nm w) ?_
  intro _ _
  repeat'(first|(refine gY ?_;intros)|(refine hY ?_ ?_<;>intro hgd)|(refine jY ?_ ?_<;>intro _)|fail)
  rename_i b1 _ _ b4 v' hv'
  have hf:=Res1_v wb b b1 b4 nm w d hd (by omega) hn
  have hok:(d.remove nm).1.Ok:=hd.remove
  generalize (!decide ((d.remove nm).2=3))=th at hf
  generalize rem3 d nm=e1 at hf
  generalize (d.remove nm).1=d1 at hf hok
  have hg:=Res2_v wb b b1 b4 nm w d1 th hok
  generalize resT th d1=r2 at hg
  obtain⟨d2,e2⟩:=r2
  dsimp only at hg ⊢
  refine opsL_map (L':=[pts b1 (.cells [.pointer (some ⟨wb,0,none⟩)].toArray 74),pts b4 (.cells [.bool true].toArray 4),diskP b d,walP wb b nm w,row 41 1 v' [[.func (.func 119) #[] #[.pointer (some ⟨b1,0,none⟩),.pointer (some ⟨b4,0,none⟩)]],[.func (.func 120) #[] #[.pointer (some ⟨b4,0,none⟩),.pointer (some ⟨b1,0,none⟩)]]]]++R) entD ?_
  refine opsL_map (L':=[pkR wb b b1 b4 true d,walP wb b nm w,row 41 1 v' [[.func (.func 119) #[] #[.pointer (some ⟨b1,0,none⟩),.pointer (some ⟨b4,0,none⟩)]],[.func (.func 120) #[] #[.pointer (some ⟨b4,0,none⟩),.pointer (some ⟨b1,0,none⟩)]]]]++R) (fun _ h=>SatL.unflat (M:=pkRL wb b b1 b4 true d) (L:=[walP wb b nm w,row 41 1 v' [[.func (.func 119) #[] #[.pointer (some ⟨b1,0,none⟩),.pointer (some ⟨b4,0,none⟩)]],[.func (.func 120) #[] #[.pointer (some ⟨b4,0,none⟩),.pointer (some ⟨b1,0,none⟩)]]]]++R) h) ?_
  by_cases he1:e1≠0
  ·have u7:decide (e1=0)=false:=by simpa using he1
   have hst:=steps_1 wb b nm w v' (.func (.func 119) #[] #[.pointer (some ⟨b1,0,none⟩),.pointer (some ⟨b4,0,none⟩)]) (.func (.func 120) #[] #[.pointer (some ⟨b4,0,none⟩),.pointer (some ⟨b1,0,none⟩)]) (pkR wb b b1 b4 true d) (pkR wb b b1 b4 th d1) e1 he1 hf
   rw[if_pos he1]
   refine cl_Y (hst) ?_
   intro _ _
   repeat'(first|(refine gY ?_;intros)|(refine hY ?_ ?_<;>intro hgd)|(refine jY ?_ ?_<;>intro _)|fail)
   refine cont_map (fun _ h=>pkR_out (R:=R) h) ?_
   dsimp only
   (refine rt_Y (y:=()) (hrs:=Tryz.results63) (hv:=?_) (hφ:=?_))
   ·rfl
   ·trivial
  ·have he0:e1=0:=by simpa using he1
   subst he0
   rw[if_neg (by simp)]
   have hst:=steps_2 wb b nm w v' (.func (.func 119) #[] #[.pointer (some ⟨b1,0,none⟩),.pointer (some ⟨b4,0,none⟩)]) (.func (.func 120) #[] #[.pointer (some ⟨b4,0,none⟩),.pointer (some ⟨b1,0,none⟩)]) (pkR wb b b1 b4 true d) (pkR wb b b1 b4 th d1) (pkR wb b b1 b4 th d2) e2 hf hg
   by_cases he2:e2≠0
   ·have u7:decide (e2=0)=false:=by simpa using he2
    rw[if_pos he2]
    refine cl_Y (hst) ?_
    intro _ _
    repeat'(first|(refine gY ?_;intros)|(refine hY ?_ ?_<;>intro hgd)|(refine jY ?_ ?_<;>intro _)|fail)
    refine cont_map (fun _ h=>pkR_out (R:=R) h) ?_
    dsimp only
    (refine rt_Y (y:=()) (hrs:=Tryz.results63) (hv:=?_) (hφ:=?_))
    ·rfl
    ·trivial
   ·have he0:e2=0:=by simpa using he2
    subst he0
    rw[if_neg (by simp)]
    rw[down_0]at hst
    refine cl_Y (hst) ?_
    intro _ _
    repeat'(first|(refine gY ?_;intros)|(refine hY ?_ ?_<;>intro hgd)|(refine jY ?_ ?_<;>intro _)|fail)
    refine ok_map (fun _ h=>pkR_out (R:=R) h) ?_
    unfold walP walV
    refine ok_drawS (cv:=[]) [] [1] ([pts b1 (.cells [.pointer (some ⟨wb,0,none⟩)].toArray 74)]) _ (by kernel_rfl) rfl (by decide +kernel) (fun _ h=>h) (takeS) ?_
    repeat'(first|(refine gY ?_;intros)|(refine hY ?_ ?_<;>intro hgd)|(refine jY ?_ ?_<;>intro _)|fail)
    (refine rt_Y (y:=()) (hrs:=Tryz.results63) (hv:=?_) (hφ:=?_))
    ·rfl
    ·trivial
end Go.Proofs.YtgbmjoenbocfcaaGreat
