/- Texts merged: KvF KvG KvH KvI. -/
import Derived.Test.YtgbmjoenbocfcaaGreatKvE
import Derived.Test.YtgbmjoenbocfcaaGreatG4
import Derived.Test.YtgbmjoenbocfcaaGreatG15
import Derived.Test.YtgbmjoenbocfcaaGreatG17
import Derived.Test.YtgbmjoenbocfcaaGreatG10
set_option linter.unusedSimpArgs false
set_option linter.unusedVariables false
set_option maxRecDepth 100000
namespace Go.Proofs.YtgbmjoenbocfcaaGreat
open Go Go.Fx Go.Proofs Go.Pl
set_option maxHeartbeats 4000000 in
theorem kload_spec(kb b:Nat)(nm:BA)(m:Mn)(mv wp:Value)(mb:Nat)(rv:Value)(ft:Int)(d:Dk)(hmv:mv.oneCell'=true)(hwp:wp.oneCell'=true)(hrv:rv.oneCell'=true)(hn:nm.size≤1000000)(hd:d.Ok)(hl:d.loose.length≤1000000000):
  FSpec Tryz.prog 41 [.pointer (some ⟨kb,0,none⟩)] [kvP kb b nm m mv wp mb rv ft,diskP b d] V1s (fun _=>True) (fun _=>.int .i64 (loadK nm d).2.2)
   (fun y=>[kvP kb b nm (loadK nm d).1 y.1 wp mb rv ft,row 70 1 y.1 ((loadK nm d).1.runs.map uV),diskP b (loadK nm d).2.1]):=by
 have hz:=manK_size nm
 have hM:=kman_spec kb b nm m mv wp mb rv ft (by omega)
 have hM1:=kman_spec kb b nm mn1K (.slice none 0 0) wp mb rv ft (by omega)
 have hL:=Load_spec b d (manK nm) hd (by omega)
 have hS:=Save_spec b d (manK nm) mn1K (.slice none 0 0) (row 70 1 (.slice none 0 0) []) hd hl (by omega) Vw.row ⟨none,0,0,rfl,by simp⟩ (by decide) mn1K_chk mn1K_wf
 unfold loadK
 generalize saveD (manK nm) (mBytes mn1K) d=sv at hS
 generalize loadD (manK nm) d=r at hL
 generalize manK nm=mk at hM hM1 hL hS
 obtain⟨m2,e⟩:=r
 dsimp only[manV,mn1K]at hL hM1 hS ⊢
 cases q:decide (e=3)with
 |true=>
  rw[if_pos (of_decide_eq_true q)]
  dsimp only
  unfold kvP kvC at hM hM1 ⊢
  refine spec_intro [] _ Tryz.func41 rfl Tryz.ntmps41 (by rfl) (fun w0 R=>?_)
  repeat'(first|(refine gY ?_;intros)|(refine hY ?_ ?_<;>intro hgd)|(refine jY ?_ ?_<;>intro _)|fail)
  refine ok_drawL (cv:=[]) [6] ([kvP kb b nm m mv wp mb rv ft]) (takeD) (by kernel_rfl) rfl (by decide +kernel) ?_
  repeat'(first|(refine gY ?_;intros)|(refine hY ?_ ?_<;>intro hgd)|(refine jY ?_ ?_<;>intro _)|fail)
  refine clN_Y (hM) ?_
  intro _ _
  repeat'(first|(refine gY ?_;intros)|(refine hY ?_ ?_<;>intro hgd)|(refine jY ?_ ?_<;>intro _)|fail)
  refine cl_Y (hL) ?_
  rintro⟨v,hv⟩ _
  dsimp only
  repeat'(first|(refine gY ?_;intros)|(refine hY ?_ ?_<;>intro hgd)|(refine jY ?_ ?_<;>intro _)|fail)
  refine ok_map (fun _ h=>nilRow (e:=70) (n:=1) h) ?_
  refine ok_map (L':=[kvP kb b nm ⟨1,[],2⟩ (.slice none 0 0) wp mb rv ft,row 70 1 (.slice none 0 0) [],diskP b d]++R) entD ?_
  unfold kvP kvC
  refine ok_drawL (cv:=[]) [5] ([kvP kb b nm ⟨1,[],2⟩ (.slice none 0 0) wp mb rv ft]) (takeD) (by kernel_rfl) rfl (by decide +kernel) ?_
  repeat'(first|(refine gY ?_;intros)|(refine hY ?_ ?_<;>intro hgd)|(refine jY ?_ ?_<;>intro _)|fail)
  refine clN_Y (hM1) ?_
  intro _ _
  repeat'(first|(refine gY ?_;intros)|(refine hY ?_ ?_<;>intro hgd)|(refine jY ?_ ?_<;>intro _)|fail)
  refine cl_Y (hS) ?_
  intro _ _
  repeat'(first|(refine gY ?_;intros)|(refine hY ?_ ?_<;>intro hgd)|(refine jY ?_ ?_<;>intro _)|fail)
  (refine rt_Y (y:=⟨.slice none 0 0,rfl⟩) (hrs:=Tryz.results41) (hv:=?_) (hφ:=?_))
  ·rfl
  ·trivial
 |false=>
  rw[if_neg (of_decide_eq_false q)]
  dsimp only
  unfold kvP kvC at hM hM1 ⊢
  refine spec_intro [] _ Tryz.func41 rfl Tryz.ntmps41 (by rfl) (fun w0 R=>?_)
  repeat'(first|(refine gY ?_;intros)|(refine hY ?_ ?_<;>intro hgd)|(refine jY ?_ ?_<;>intro _)|fail)
  refine ok_drawL (cv:=[]) [6] ([kvP kb b nm m mv wp mb rv ft]) (takeD) (by kernel_rfl) rfl (by decide +kernel) ?_
  repeat'(first|(refine gY ?_;intros)|(refine hY ?_ ?_<;>intro hgd)|(refine jY ?_ ?_<;>intro _)|fail)
  refine clN_Y (hM) ?_
  intro _ _
  repeat'(first|(refine gY ?_;intros)|(refine hY ?_ ?_<;>intro hgd)|(refine jY ?_ ?_<;>intro _)|fail)
  refine cl_Y (hL) ?_
  rintro⟨v,hv⟩ _
  dsimp only
  repeat'(first|(refine gY ?_;intros)|(refine hY ?_ ?_<;>intro hgd)|(refine jY ?_ ?_<;>intro _)|fail)
  (refine rt_Y (y:=⟨v,hv⟩) (hrs:=Tryz.results41) (hv:=?_) (hφ:=?_))
  ·rfl
  ·trivial
theorem sweepL_cons(nm:BA)(m:Mn)(f:BA)(l:List BA)(d:Dk)(s:Bool):sweepL nm m (f::l) d s=if strayB nm m f then(if(d.remove f).2≠0 then((d.remove f).1,(d.remove f).2,s)else sweepL nm m l (d.remove f).1 true)else sweepL nm m l d s:=rfl
def swK(r:Dk×Int×Bool):Dk×Int:=if r.2.1≠0 then(r.1,r.2.1)else if r.2.2 then r.1.sync else(r.1,0)
def sweepK(nm:BA)(m:Mn)(d:Dk):Dk×Int:=swK (sweepL nm m (sortN (d.files.map (·.1))) d false)
theorem remove_loose(d:Dk)(x:BA):(d.remove x).1.loose.length≤d.loose.length+1:=by
 unfold Dk.remove
 split
 ·show d.loose.length≤_;omega
 split
 ·show d.loose.length≤_;omega
 ·unfold Dk.doC
  split
  ·show d.loose.length≤_;omega
  ·show(d.loose++[_]).length≤_;simp
set_option maxHeartbeats 4000000 in
theorem ksweep_spec(kb b:Nat)(nm:BA)(m:Mn)(mv wp:Value)(mb:Nat)(rv:Value)(ft:Int)(d:Dk)(A:HProp)(hA:Vw A 1 mv (m.runs.map uV))(hz:m.runs.length≤1000000)(hmv:mv.oneCell'=true)(hwp:wp.oneCell'=true)(hrv:rv.oneCell'=true)(hn:nm.size≤1000000)(hd:d.Ok)
  (hl:d.loose.length≤1000000)(hnm:∀ x∈d.files.map (·.1),mayN x=true)(hc:d.files.length≤1000000):
  FSpec Tryz.prog 42 [.pointer (some ⟨kb,0,none⟩)] [kvP kb b nm m mv wp mb rv ft,diskP b d,A] Unit (fun _=>True) (fun _=>.int .i64 (sweepK nm m d).2) (fun _=>[kvP kb b nm m mv wp mb rv ft,diskP b (sweepK nm m d).1,A]):=by
 have hN:=Names_spec b d hnm (by omega)
 have hps:=sortN_perm (d.files.map (·.1))
 have hK:sweepK nm m d=swK (sweepL nm m (sortN (d.files.map (·.1))) d false):=rfl
 generalize sweepK nm m d=W at hK ⊢
 have hfl:∀ x∈sortN (d.files.map (·.1)),x.size≤64:=fun x hx=>by
  have:=hnm x (hps.subset hx)
  simp only[mayN,Bool.and_eq_true,decide_eq_true_eq]at this
  exact this.2
 have hcl:(sortN (d.files.map (·.1))).length≤1000000:=by rw[hps.length_eq,List.length_map];exact hc
 generalize sortN (d.files.map (·.1))=fs at hN hfl hcl hK
 clear hps hnm hc
 refine spec_intro [] _ Tryz.func42 rfl Tryz.ntmps42 (by rfl) (fun w0 R=>?_)
 unfold kvP kvC
 repeat'(first|(refine gY ?_;intros)|(refine hY ?_ ?_<;>intro hgd)|(refine jY ?_ ?_<;>intro _)|fail)
 refine cl_Y (hN) ?_
 rintro⟨v,hv⟩ _
 dsimp only
 refine ops_learn (rowShapeS (e:=9) (n:=1) (v:=v) (xs:=fs.map fun s=>[.string s]) (by decide) takeD) ?_
 rintro⟨pv,cv,rfl,_,_⟩
 have lf:(fs.map fun s=>[Value.string s]).length=fs.length:=by simp
 repeat'(first|(refine gY ?_;intros)|(refine hY ?_ ?_<;>intro hgd)|(refine jY ?_ ?_<;>intro _)|fail)
 refine ok_map (L':=[row 9 1 (.slice pv (fs.map fun s=>[Value.string s]).length cv) (fs.map fun s=>[.string s]),kvP kb b nm m mv wp mb rv ft,diskP b d,A]++R) entD ?_
 refine ok_loop' (γ:=Nat×Dk×Bool) (fun g ρ L=>g.1≤fs.length∧g.2.1.Ok∧g.2.1.loose.length≤d.loose.length+g.1∧sweepL nm m fs d false=sweepL nm m (fs.drop g.1) g.2.1 g.2.2∧
   Knows ρ [(0,.pointer (some ⟨kb,0,none⟩)),(3,.bool g.2.2),(11,.slice pv (fs.map fun s=>[Value.string s]).length cv),(12,.int .i64 ((fs.map fun s=>[Value.string s]).length:Int)),(13,.int .i64 (g.1:Int))]∧
   L=[row 9 1 (.slice pv (fs.map fun s=>[Value.string s]).length cv) (fs.map fun s=>[.string s]),kvP kb b nm m mv wp mb rv ft,diskP b g.2.1,A]++R)
  (fun g=>fs.length-g.1) (0,d,false) ⟨Nat.zero_le _,hd,by simp,rfl,⟨rfl,rfl,rfl,rfl,rfl,trivial⟩,rfl⟩ ?_
 rintro⟨i,d1,sm⟩ ρ L ⟨hi,hd1,hl1,hE,hk,rfl⟩
 dsimp only at hi hd1 hl1 hE hk ⊢
 refine ok_regs hk ?_
 rw[hE]at hK
 unfold kvP kvC
 cases t1:decide ((i:Int)<((fs.map fun s=>[Value.string s]).length:Int))with
 |false=>
  have hie:i=fs.length:=by have:=of_decide_eq_false t1;omega
  rw[show fs.drop i=[]by rw[hie,List.drop_length]]at hK
  have hK2:W=if sm then d1.sync else(d1,0):=hK
  clear hK hE
  have hsy:=sync_spec b d1 hd1
  generalize d1.sync=sy at hsy hK2
  cases sm with
  |true=>
   rw[if_pos rfl]at hK2
   subst hK2
   repeat'(first|(refine gY ?_;intros)|(refine hY ?_ ?_<;>intro hgd)|(refine jY ?_ ?_<;>intro _)|fail)
   refine cl_Y (hsy) ?_
   intro _ _
   repeat'(first|(refine gY ?_;intros)|(refine hY ?_ ?_<;>intro hgd)|(refine jY ?_ ?_<;>intro _)|fail)
   (refine rt_Y (y:=()) (hrs:=Tryz.results42) (hv:=?_) (hφ:=?_))
   ·rfl
   ·trivial
  |false=>
   rw[if_neg (by decide)]at hK2
   subst hK2
   repeat'(first|(refine gY ?_;intros)|(refine hY ?_ ?_<;>intro hgd)|(refine jY ?_ ?_<;>intro _)|fail)
   (refine rt_Y (y:=()) (hrs:=Tryz.results42) (hv:=?_) (hφ:=?_))
   ·rfl
   ·trivial
 |true=>
  have h0:i<fs.length:=by have:=of_decide_eq_true t1;omega
  have hx:(fs.map fun s=>[Value.string s])[i]? =some [.string fs[i]]:=by rw[List.getElem?_map,List.getElem?_eq_getElem h0];rfl
  have hn1:i<(fs.map fun s=>[Value.string s]).length:=by omega
  have hfz:=hfl _ (List.getElem_mem h0)
  rw[List.drop_eq_getElem_cons h0,sweepL_cons]at hK hE
  generalize fs[i]=f at hx hfz hK hE
  have hSt:=stray_spec kb b nm m mv wp mb rv ft f A hA (by omega) (by omega) (by omega)
  unfold kvP kvC at hSt
  generalize strayB nm m f=st at hSt hK hE
  have hRm:=remove_spec b d1 f hd1 (by omega) (by omega)
  have hRo:(d1.remove f).1.Ok:=hd1.remove
  have hRl:=remove_loose d1 f
  refine ok_learn (VwIn.base (n:=1) (xs:=fs.map fun s=>[Value.string s]) (VwIn.here Vw.row) (by intro e;rw[e]at hn1;simp at hn1)) ?_
  rintro⟨bu,ou,rfl⟩
  cases st with
  |false=>
   rw[if_neg (by decide)]at hE
   repeat'(first|(refine gY ?_;intros)|(refine hY ?_ ?_<;>intro hgd)|(refine jY ?_ ?_<;>intro _)|fail)
   refine cl_Y (hSt) ?_
   intro _ _
   repeat'(first|(refine gY ?_;intros)|(refine hY ?_ ?_<;>intro hgd)|(refine jY ?_ ?_<;>intro _)|fail)
   refine cont_map (L':=[row 9 1 (.slice (some ⟨bu,ou,none⟩) (fs.map fun s=>[Value.string s]).length cv) (fs.map fun s=>[.string s]),kvP kb b nm m mv wp mb rv ft,diskP b d1,A]++R) entD ?_
   exact cont_back (i+1,d1,sm) ⟨h0,hd1,by dsimp only;omega,hE,⟨rfl,rfl,rfl,rfl,rfl,trivial⟩,rfl⟩ (by dsimp only;omega)
  |true=>
   rw[if_pos rfl]at hE hK
   generalize d1.remove f=rm at hRm hRo hRl hE hK
   obtain⟨d2,e⟩:=rm
   dsimp only at hRm hRo hRl hE hK
   cases q:(!decide (e=0))with
   |true=>
    have he:e≠0:=by simpa using q
    rw[if_pos he]at hK
    have hK2:W=(d2,e):=by rw[hK];unfold swK;rw[if_pos he]
    subst hK2
    repeat'(first|(refine gY ?_;intros)|(refine hY ?_ ?_<;>intro hgd)|(refine jY ?_ ?_<;>intro _)|fail)
    refine cl_Y (hSt) ?_
    intro _ _
    repeat'(first|(refine gY ?_;intros)|(refine hY ?_ ?_<;>intro hgd)|(refine jY ?_ ?_<;>intro _)|fail)
    refine cl_Y (hRm) ?_
    intro _ _
    repeat'(first|(refine gY ?_;intros)|(refine hY ?_ ?_<;>intro hgd)|(refine jY ?_ ?_<;>intro _)|fail)
    (refine rt_Y (y:=()) (hrs:=Tryz.results42) (hv:=?_) (hφ:=?_))
    ·rfl
    ·trivial
   |false=>
    have he:e=0:=by simpa using q
    rw[if_neg (by simpa using he)]at hE
    repeat'(first|(refine gY ?_;intros)|(refine hY ?_ ?_<;>intro hgd)|(refine jY ?_ ?_<;>intro _)|fail)
    refine cl_Y (hSt) ?_
    intro _ _
    repeat'(first|(refine gY ?_;intros)|(refine hY ?_ ?_<;>intro hgd)|(refine jY ?_ ?_<;>intro _)|fail)
    refine cl_Y (hRm) ?_
    intro _ _
    repeat'(first|(refine gY ?_;intros)|(refine hY ?_ ?_<;>intro hgd)|(refine jY ?_ ?_<;>intro _)|fail)
    refine cont_map (L':=[row 9 1 (.slice (some ⟨bu,ou,none⟩) (fs.map fun s=>[Value.string s]).length cv) (fs.map fun s=>[.string s]),kvP kb b nm m mv wp mb rv ft,diskP b d2,A]++R) entD ?_
    exact cont_back (i+1,d2,true) ⟨h0,hRo,by dsimp only;omega,hE,⟨rfl,rfl,rfl,rfl,rfl,trivial⟩,rfl⟩ (by dsimp only;omega)
structure Ru where
 rb:Nat
 n:Nat
 l:List Pr
def runM(b:Nat)(nm:BA)(x:Ru)(v:V1s):List HProp:=[rnP x.rb b (fileK nm runK x.n) v.1 (runB x.l).size,enP v.1 (ents x.l)]
def runX(b:Nat)(nm:BA)(x:Ru):HProp:=exP (runM b nm x)
theorem runX_in{b:Nat}{nm:BA}{x:Ru}{v:Value}(hv:v.oneCell'=true){L:List HProp}{h:Frag}(s:SatL (rnP x.rb b (fileK nm runK x.n) v (runB x.l).size::enP v (ents x.l)::L) h):SatL (runX b nm x::L) h:=ex_in (M:=runM b nm x) ⟨v,hv⟩ rfl s
def runsX(b:Nat)(nm:BA)(rs:List Ru):HProp:=fun h=>SatL (rs.map (runX b nm)) h
def krV(x:Ru):List Value:=[.pointer (some ⟨x.rb,0,none⟩)]
theorem runsX_nil{b:Nat}{nm:BA}{L:List HProp}{h:Frag}(s:SatL L h):SatL (runsX b nm []::L) h:=satL_emp (A:=runsX b nm []) trivial s
theorem runsX_add{b:Nat}{nm:BA}{rs:List Ru}{x:Ru}{L:List HProp}{h:Frag}(s:SatL (runsX b nm rs::runX b nm x::L) h):SatL (runsX b nm (rs++[x])::L) h:=by
 have s1:SatL (rs.map (runX b nm)++(runX b nm x::L)) h:=SatL.flat s
 refine SatL.unflat (M:=(rs++[x]).map (runX b nm)) ?_
 rw[List.map_append,List.append_assoc]
 exact s1
structure NumK(m:Mn):Prop where
 w:0≤m.wal∧m.wal<281474976710656
 r:∀ n∈m.runs,0≤n∧n<281474976710656
 len:m.runs.length≤256
def RunsOn(nm:BA)(d:Dk)(z:List (Int×List Pr)):Prop:=∀ x∈z,d.read (fileK nm runK x.1.toNat) 0 16777216=(runB x.2,0)∧(∀ p∈x.2,okP p=true)∧riseB x.2=true
def putAllB(bl:List (List Pr))(m:List Pr):List Pr:=bl.foldl (fun m l=>putAll l m) m
structure YO where
 wb:Nat
 rv:V1s
 rs:List Ru
def wpO(e:Int)(y:YO):Value:=if e=0 then .pointer (some ⟨y.wb,0,none⟩)else .pointer none
set_option maxHeartbeats 16000000 in
theorem kopen_spec(kb b:Nat)(nm:BA)(m:Mn)(mv:Value)(mb:Nat)(ft:Int)(d:Dk)(A:HProp)(ls:List (List Pr))(bl:List (List Pr))(hA:Vw A 1 mv (m.runs.map uV))(hmv:mv.oneCell'=true)(hnk:NumK m)(hn:nm.size≤1000000)(hd:d.Ok)(hl:d.loose.length≤1000000)
  (hz:(m.runs.zip ls).map (·.1)=m.runs)(hr:RunsOn nm d (m.runs.zip ls))
  (hw:(openW d (fileK nm walK m.wal.toNat)).2.1=0→(openW d (fileK nm walK m.wal.toNat)).2.2.1=bl.map batchK)(hbl:bl.length≤1000000)(hb1:∀ l∈bl,(∀ p∈l,okP p=true)∧l.length≤4096)
  (hmm:∀ j l,bl[j]? =some l→∀ i,i<l.length→MemOk (putAll (l.take i) (putAllB (bl.take j) []))):
  FSpec Tryz.prog 43 [.pointer (some ⟨kb,0,none⟩)] [kvP kb b nm m mv (.pointer none) mb (.slice none 0 0) ft,diskP b d,A,memX mb []] YO (fun y=>(y.rs.map fun x=>((x.n:Int),x.l))=m.runs.zip ls) (fun _=>.int .i64 (openW d (fileK nm walK m.wal.toNat)).2.1)
   (fun y=>[kvP kb b nm m mv (wpO (openW d (fileK nm walK m.wal.toNat)).2.1 y) mb y.rv.1 ft,row 83 1 y.rv.1 (y.rs.map krV),runsX b nm y.rs,diskP b (openW d (fileK nm walK m.wal.toNat)).1,A]++
    (if(openW d (fileK nm walK m.wal.toNat)).2.1=0 then [walP y.wb b (fileK nm walK m.wal.toNat) ⟨bl.length,(openW d (fileK nm walK m.wal.toNat)).2.2.2,0⟩,memX mb (putAllB bl [])]else [memX mb []])):=by
 have lu:(m.runs.map uV).length=m.runs.length:=by simp
 have lz:(m.runs.zip ls).length=m.runs.length:=by rw[← List.length_map (f:=(·.1)),hz]
 have h256:=hnk.len
 refine spec_intro [] _ Tryz.func43 rfl Tryz.ntmps43 (by rfl) (fun w0 R=>?_)
 unfold kvP kvC
 refine ok_learn (VwIn.slice (VwIn.there (VwIn.there (VwIn.here hA)))) ?_
 rintro⟨pa,ca,rfl⟩
 repeat'(first|(refine gY ?_;intros)|(refine hY ?_ ?_<;>intro hgd)|(refine jY ?_ ?_<;>intro _)|fail)
 refine ok_map (fun _ h=>nilRow (e:=83) (n:=1) h) ?_
 refine ok_map (fun _ h=>runsX_nil (b:=b) (nm:=nm) h) ?_
 refine ok_map (L':=[kvP kb b nm m (.slice pa (m.runs.map uV).length ca) (.pointer none) mb (.slice none 0 0) ft,row 83 1 (.slice none 0 0) (([]:List Ru).map krV),runsX b nm [],diskP b d,A,memX mb []]++R) entD ?_
 refine ok_loop' (γ:=Nat×V1s×List Ru) (fun g ρ L=>g.1≤m.runs.length∧(g.2.2.map fun x=>((x.n:Int),x.l))=(m.runs.zip ls).take g.1∧
   Knows ρ [(0,.pointer (some ⟨kb,0,none⟩)),(18,.slice pa (m.runs.map uV).length ca),(19,.int .i64 ((m.runs.map uV).length:Int)),(20,.int .i64 (g.1:Int))]∧
   L=[kvP kb b nm m (.slice pa (m.runs.map uV).length ca) (.pointer none) mb g.2.1.1 ft,row 83 1 g.2.1.1 (g.2.2.map krV),runsX b nm g.2.2,diskP b d,A,memX mb []]++R)
  (fun g=>m.runs.length-g.1) (0,⟨.slice none 0 0,rfl⟩,[]) ⟨Nat.zero_le _,rfl,⟨rfl,rfl,rfl,rfl,trivial⟩,rfl⟩ ?_
 rintro⟨i,⟨rv,hrv⟩,rs⟩ ρ L ⟨hi,hrs,hk,rfl⟩
 dsimp only at hi hrs hk ⊢
 refine ok_regs hk ?_
 have hrl:rs.length=i:=by have:=congrArg List.length hrs;rw[List.length_map,List.length_take,lz]at this;omega
 have hrm:(rs.map krV).length=i:=by rw[List.length_map,hrl]
 refine ok_learn (rowShapeS (e:=83) (n:=1) (v:=rv) (xs:=rs.map krV) (by decide) takeD) ?_
 rintro⟨pr,cr,rfl,hcr,hsr⟩
 unfold kvP kvC
 cases t1:decide ((i:Int)<((m.runs.map uV).length:Int))with
 |true=>
  have h0:i<m.runs.length:=by have:=of_decide_eq_true t1;omega
  have hx:(m.runs.map uV)[i]? =some (uV m.runs[i]):=by rw[List.getElem?_map,List.getElem?_eq_getElem h0];rfl
  have hn1:i<(m.runs.map uV).length:=by omega
  have h0z:i<(m.runs.zip ls).length:=by omega
  obtain⟨l,hl1⟩:∃ l,(m.runs.zip ls)[i]=(m.runs[i],l):=by
   refine⟨((m.runs.zip ls)[i]).2,?_⟩
   have h1:((m.runs.zip ls).map (·.1))[i]? =m.runs[i]? :=by rw[hz]
   rw[List.getElem?_map,List.getElem?_eq_getElem h0z,List.getElem?_eq_getElem h0]at h1
   exact Prod.ext (Option.some.inj h1) rfl
  obtain⟨r1,r2,r3⟩:=hr _ (List.getElem_mem h0z)
  have hst:(m.runs.zip ls).take (i+1)=(m.runs.zip ls).take i++[(m.runs[i],l)]:=by rw[List.take_succ_eq_append_getElem h0z,hl1]
  rw[hl1]at r1 r2 r3
  obtain⟨n0,n1⟩:=hnk.r _ (List.getElem_mem h0)
  generalize m.runs[i]=n at hx r1 hst n0 n1
  obtain⟨n,rfl⟩:=Int.eq_ofNat_of_zero_le n0
  dsimp only[uV]at hx r1 r2 r3
  have h12:n<16 ^ 12:=by
   have:(16:Nat) ^ 12=281474976710656:=by decide
   omega
  have hk3:runK.size=3:=rfl
  have hF:=kfile_spec kb b nm m (.slice pa (m.runs.map uV).length ca) (.pointer none) mb (.slice pr (rs.map krV).length cr) ft runK n h12 (by omega) (by decide)
  have hO:=rOpen_spec b d (fileK nm runK n) l (by rw[fileK_size,hk3];omega) r1 r2 r3
  refine ok_learn (VwIn.base (n:=1) (xs:=m.runs.map uV) (VwIn.there (VwIn.there (VwIn.there (VwIn.there (VwIn.here hA))))) (by intro e;rw[e]at hn1;simp at hn1)) ?_
  rintro⟨bu,ou,rfl⟩
  repeat'(first|(refine gY ?_;intros)|(refine hY ?_ ?_<;>intro hgd)|(refine jY ?_ ?_<;>intro _)|fail)
  refine ok_drawL (cv:=[]) [6] ([kvP kb b nm m (.slice (some ⟨bu,ou,none⟩) (m.runs.map uV).length ca) (.pointer none) mb (.slice pr (rs.map krV).length cr) ft]) (takeD) (by kernel_rfl) rfl (by decide +kernel) ?_
  repeat'(first|(refine gY ?_;intros)|(refine hY ?_ ?_<;>intro hgd)|(refine jY ?_ ?_<;>intro _)|fail)
  refine clN_Y (hF) ?_
  intro _ _
  repeat'(first|(refine gY ?_;intros)|(refine hY ?_ ?_<;>intro hgd)|(refine jY ?_ ?_<;>intro _)|fail)
  refine cl_Y (hO) ?_
  rintro⟨rb,⟨v,hv⟩⟩ _
  dsimp only
  refine opsL_mapL (fun _ h=>runX_in (b:=b) (nm:=nm) (x:=⟨rb,n,l⟩) hv (Take.out2 (A:=rnP rb b (fileK nm runK n) v (runB l).size) (B:=enP v (ents l)) takeD h)) ?_
  repeat'(first|(refine gY ?_;intros)|(refine hY ?_ ?_<;>intro hgd)|(refine jY ?_ ?_<;>intro _)|fail)
  rename_i v1 hv1 v2 hv2
  refine cont_map (fun _ h=>runsX_add (b:=b) (nm:=nm) (rs:=rs) (x:=⟨rb,n,l⟩) (Take.out2 (A:=runsX b nm rs) (B:=runX b nm ⟨rb,n,l⟩) takeD h)) ?_
  refine cont_map (L':=[kvP kb b nm m (.slice (some ⟨bu,ou,none⟩) (m.runs.map uV).length ca) (.pointer none) mb v2 ft,row 83 1 v2 ((rs++[Ru.mk rb n l]).map krV),runsX b nm (rs++[Ru.mk rb n l]),diskP b d,A,memX mb []]++R) (by rw[List.map_append];exact entD) ?_
  exact cont_back (i+1,⟨v2,hv2⟩,rs++[Ru.mk rb n l]) ⟨h0,by dsimp only;rw[List.map_append,hrs,hst];rfl,⟨rfl,rfl,rfl,rfl,trivial⟩,rfl⟩ (by dsimp only;omega)
 |false=>
  have hie:i=m.runs.length:=by have:=of_decide_eq_false t1;omega
  have hrs2:(rs.map fun x=>((x.n:Int),x.l))=m.runs.zip ls:=by rw[hrs,hie,← lz,List.take_length]
  clear hrs hr hz lz
  obtain⟨w0',w1'⟩:=hnk.w
  obtain⟨wn,hwn⟩:=Int.eq_ofNat_of_zero_le w0'
  have h12:wn<16 ^ 12:=by
   have:(16:Nat) ^ 12=281474976710656:=by decide
   omega
  have hk3:walK.size=3:=rfl
  have hF:=kfile_spec kb b nm m (.slice pa (m.runs.map uV).length ca) (.pointer none) mb (.slice pr (rs.map krV).length cr) ft walK wn h12 (by omega) (by decide)
  rw[← hwn]at hF
  rw[show m.wal.toNat=wn by omega]at hw ⊢
  have hfz:(fileK nm walK wn).size≤4611686018427387904:=by rw[fileK_size,hk3];omega
  have hOb:=Open_bad b d (fileK nm walK wn) hd (by omega) hfz
  have hOg:=Open_good b d (fileK nm walK wn) hd (by omega) hfz
  generalize openW d (fileK nm walK wn)=ow at hw hOb hOg ⊢
  obtain⟨d1,e,recs,sz⟩:=ow
  dsimp only at hw hOb hOg ⊢
  generalize hfw:fileK nm walK wn=fw at hF hOb hOg ⊢
  unfold kvP kvC at hF
  cases q:(!decide (e=0))with
  |true=>
   have he:e≠0:=by simpa using q
   have hOb':=hOb he
   simp only[wpO,if_neg he]
   repeat'(first|(refine gY ?_;intros)|(refine hY ?_ ?_<;>intro hgd)|(refine jY ?_ ?_<;>intro _)|fail)
   refine ok_drawL (cv:=[]) [10] ([kvP kb b nm m (.slice pa (m.runs.map uV).length ca) (.pointer none) mb (.slice pr (rs.map krV).length cr) ft]) (takeD) (by kernel_rfl) rfl (by decide +kernel) ?_
   repeat'(first|(refine gY ?_;intros)|(refine hY ?_ ?_<;>intro hgd)|(refine jY ?_ ?_<;>intro _)|fail)
   refine clN_Y (hF) ?_
   intro _ _
   repeat'(first|(refine gY ?_;intros)|(refine hY ?_ ?_<;>intro hgd)|(refine jY ?_ ?_<;>intro _)|fail)
   refine cl_Y (hOb') ?_
   intro _ _
   repeat'(first|(refine gY ?_;intros)|(refine hY ?_ ?_<;>intro hgd)|(refine jY ?_ ?_<;>intro _)|fail)
   (refine rt_Y (y:=⟨0,⟨.slice pr (rs.map krV).length cr,rfl⟩,rs⟩) (hrs:=Tryz.results43) (hv:=?_) (hφ:=?_))
   ·rfl
   ·exact hrs2
  |false=>
   have he:e=0:=by simpa using q
   have hrc:=hw he
   subst he hrc
   have hOg':=hOg rfl
   clear hOg hOb hw
   simp only[wpO,if_true]
   rw[List.length_map]at hOg'
   repeat'(first|(refine gY ?_;intros)|(refine hY ?_ ?_<;>intro hgd)|(refine jY ?_ ?_<;>intro _)|fail)
   refine ok_drawL (cv:=[]) [10] ([kvP kb b nm m (.slice pa (m.runs.map uV).length ca) (.pointer none) mb (.slice pr (rs.map krV).length cr) ft]) (takeD) (by kernel_rfl) rfl (by decide +kernel) ?_
   repeat'(first|(refine gY ?_;intros)|(refine hY ?_ ?_<;>intro hgd)|(refine jY ?_ ?_<;>intro _)|fail)
   refine clN_Y (hF) ?_
   intro _ _
   repeat'(first|(refine gY ?_;intros)|(refine hY ?_ ?_<;>intro hgd)|(refine jY ?_ ?_<;>intro _)|fail)
   refine cl_Y (hOg') ?_
   rintro⟨wb,⟨sv,hsv⟩⟩ _
   dsimp only
   refine ops_learn (rowShapeS (e:=9) (n:=1) (v:=sv) (xs:=(bl.map batchK).map strV) (by decide) takeD) ?_
   rintro⟨ps,cs,rfl,_,_⟩
   have lbl:((bl.map batchK).map strV).length=bl.length:=by simp
   repeat'(first|(refine gY ?_;intros)|(refine hY ?_ ?_<;>intro hgd)|(refine jY ?_ ?_<;>intro _)|fail)
   refine ok_map (L':=[kvP kb b nm m (.slice pa (m.runs.map uV).length ca) (.pointer (some ⟨wb,0,none⟩)) mb (.slice pr (rs.map krV).length cr) ft,walP wb b fw ⟨bl.length,sz,0⟩,row 9 1 (.slice ps ((bl.map batchK).map strV).length cs) ((bl.map batchK).map strV),row 83 1 (.slice pr (rs.map krV).length cr) (rs.map krV),runsX b nm rs,diskP b d1,A,memX mb (putAllB (bl.take 0) [])]++R) entD ?_
   refine ok_loop' (γ:=Nat) (fun j ρ L=>j≤bl.length∧Knows ρ [(0,.pointer (some ⟨kb,0,none⟩)),(72,.slice ps ((bl.map batchK).map strV).length cs),(73,.int .i64 (((bl.map batchK).map strV).length:Int)),(74,.int .i64 (j:Int))]∧
     L=[kvP kb b nm m (.slice pa (m.runs.map uV).length ca) (.pointer (some ⟨wb,0,none⟩)) mb (.slice pr (rs.map krV).length cr) ft,walP wb b fw ⟨bl.length,sz,0⟩,row 9 1 (.slice ps ((bl.map batchK).map strV).length cs) ((bl.map batchK).map strV),row 83 1 (.slice pr (rs.map krV).length cr) (rs.map krV),runsX b nm rs,diskP b d1,A,memX mb (putAllB (bl.take j) [])]++R) (fun j=>bl.length-j) 0 ⟨Nat.zero_le _,⟨rfl,rfl,rfl,rfl,trivial⟩,rfl⟩ ?_
   rintro j ρ L ⟨hj,hk2,rfl⟩
   refine ok_regs hk2 ?_
   cases t2:decide ((j:Int)<(((bl.map batchK).map strV).length:Int))with
   |false=>
    have hje:j=bl.length:=by have:=of_decide_eq_false t2;omega
    rw[show bl.take j=bl by rw[hje,List.take_length]]
    repeat'(first|(refine gY ?_;intros)|(refine hY ?_ ?_<;>intro hgd)|(refine jY ?_ ?_<;>intro _)|fail)
    (refine rt_Y (y:=⟨wb,⟨.slice pr (rs.map krV).length cr,rfl⟩,rs⟩) (hrs:=Tryz.results43) (hv:=?_) (hφ:=?_))
    ·rfl
    ·exact hrs2
   |true=>
    have h0:j<bl.length:=by have:=of_decide_eq_true t2;omega
    have hx:((bl.map batchK).map strV)[j]? =some [.string (batchK bl[j])]:=by rw[List.getElem?_map,List.getElem?_map,List.getElem?_eq_getElem h0];rfl
    have hn1:j<((bl.map batchK).map strV).length:=by omega
    obtain⟨b1,b2⟩:=hb1 _ (List.getElem_mem h0)
    have hmj:=hmm j _ (List.getElem?_eq_getElem h0)
    have hst:putAllB (bl.take (j+1)) []=putAll bl[j] (putAllB (bl.take j) []):=by
     unfold putAllB
     rw[List.take_succ_eq_append_getElem h0,List.foldl_append];rfl
    generalize bl[j]=l at hx b1 b2 hmj hst
    have hUb:=unbatch_spec l b1 b2
    have hPt:=fun(u:Value)=>kput_spec kb b nm m (.slice pa (m.runs.map uV).length ca) (.pointer (some ⟨wb,0,none⟩)) mb (.slice pr (rs.map krV).length cr) ft u (row 65 3 u (l.map prV)) l (putAllB (bl.take j) []) Vw.row b1 (by omega) hmj
    rw[← hst]at hPt
    clear hst hmj
    generalize batchK l=bt at hx hUb
    refine ok_learn (VwIn.base (n:=1) (xs:=(bl.map batchK).map strV) (VwIn.there (VwIn.there (VwIn.here Vw.row))) (by intro e;rw[e]at hn1;simp at hn1)) ?_
    rintro⟨bq,oq,rfl⟩
    repeat'(first|(refine gY ?_;intros)|(refine hY ?_ ?_<;>intro hgd)|(refine jY ?_ ?_<;>intro _)|fail)
    refine cl_Y (hUb) ?_
    rintro⟨u,hu⟩ _
    dsimp only
    repeat'(first|(refine gY ?_;intros)|(refine hY ?_ ?_<;>intro hgd)|(refine jY ?_ ?_<;>intro _)|fail)
    refine cl_Y (hPt u) ?_
    intro _ _
    repeat'(first|(refine gY ?_;intros)|(refine hY ?_ ?_<;>intro hgd)|(refine jY ?_ ?_<;>intro _)|fail)
    refine cont_map (L':=[kvP kb b nm m (.slice pa (m.runs.map uV).length ca) (.pointer (some ⟨wb,0,none⟩)) mb (.slice pr (rs.map krV).length cr) ft,walP wb b fw ⟨bl.length,sz,0⟩,row 9 1 (.slice (some ⟨bq,oq,none⟩) ((bl.map batchK).map strV).length cs) ((bl.map batchK).map strV),row 83 1 (.slice pr (rs.map krV).length cr) (rs.map krV),runsX b nm rs,diskP b d1,A,memX mb (putAllB (bl.take (j+1)) [])]++R) entD ?_
    exact cont_back (j+1) ⟨h0,⟨rfl,rfl,rfl,rfl,trivial⟩,rfl⟩ (by omega)
structure KG where
 m:Mn
 mv:V1s
 wp:V1s
 rv:V1s
def stM(kb b:Nat)(nm:BA)(mb:Nat)(ft:Int)(D:KG→HProp)(g:KG):List HProp:=[D g,kvP kb b nm g.m g.mv.1 g.wp.1 mb g.rv.1 ft]
def stP(kb b:Nat)(nm:BA)(mb:Nat)(ft:Int)(D:KG→HProp):HProp:=exP (stM kb b nm mb ft D)
theorem st_in{kb b:Nat}{nm:BA}{mb:Nat}{ft:Int}{D:KG→HProp}(g:KG){L:List HProp}{h:Frag}(s:SatL (D g::kvP kb b nm g.m g.mv.1 g.wp.1 mb g.rv.1 ft::L) h):SatL (stP kb b nm mb ft D::L) h:=ex_in (M:=stM kb b nm mb ft D) g rfl s
theorem kFault_spec(kb b:Nat)(nm:BA)(mb:Nat)(ft:Int)(D:KG→HProp):FSpec Tryz.prog 19 [.pointer (some ⟨kb,0,none⟩)] [stP kb b nm mb ft D] Unit (fun _=>True) (fun _=>.int .i64 ft) (fun _=>[stP kb b nm mb ft D]):=by
 refine fspec_ex ?_
 rintro⟨m,⟨mv,hmv⟩,⟨wp,hwp⟩,⟨rv,hrv⟩⟩
 unfold stM kvP kvC
 dsimp only
 refine spec_intro [] _ Tryz.func19 rfl Tryz.ntmps19 (by rfl) (fun w0 R=>?_)
 repeat'(first|(refine gY ?_;intros)|(refine hY ?_ ?_<;>intro hgd)|(refine jY ?_ ?_<;>intro _)|fail)
 refine cont_map (fun _ h=>st_in (kb:=kb) (b:=b) (nm:=nm) (mb:=mb) (ft:=ft) (D:=D) ⟨m,⟨mv,hmv⟩,⟨wp,hwp⟩,⟨rv,hrv⟩⟩ (Take.out2 (A:=D ⟨m,⟨mv,hmv⟩,⟨wp,hwp⟩,⟨rv,hrv⟩⟩) (B:=kvP kb b nm m mv wp mb rv ft) takeD h)) ?_
 (refine rt_Y (y:=()) (hrs:=Tryz.results19) (hv:=?_) (hφ:=?_))
 ·rfl
 ·trivial
inductive Steps(kb b:Nat)(nm:BA)(mb:Nat)(ft:Int):List Value→(KG→HProp)→Int→(KG→HProp)→Prop
 |nil (D):Steps kb b nm mb ft [] D 0 D
 |ok {f fs D D1 e D2} (h:VSpec Tryz.prog f [] [stP kb b nm mb ft D] Unit (fun _=>True) (fun _=>.int .i64 0) (fun _=>[stP kb b nm mb ft D1])) (k:Steps kb b nm mb ft fs D1 e D2):Steps kb b nm mb ft (f::fs) D e D2
 |bad {f fs D e D2} (h:VSpec Tryz.prog f [] [stP kb b nm mb ft D] Unit (fun _=>True) (fun _=>.int .i64 e) (fun _=>[stP kb b nm mb ft D2])) (he:e≠0):Steps kb b nm mb ft (f::fs) D e D2
def ftK(e ft:Int):Int:=if e≠0∧e≠4 then e else ft
set_option maxHeartbeats 4000000 in
theorem steps_spec(kb b:Nat)(nm:BA)(mb:Nat)(ft:Int)(u:Value)(A:HProp)(fs:List Value)(D D2:KG→HProp)(e:Int)(hA:Vw A 1 u (fs.map fun f=>[f]))(hz:fs.length≤1000)(hS:Steps kb b nm mb ft fs D e D2):
  FSpec Tryz.prog 40 [.pointer (some ⟨kb,0,none⟩),u] [stP kb b nm mb ft D,A] Unit (fun _=>True) (fun _=>.int .i64 e) (fun _=>[stP kb b nm mb (ftK e ft) D2,A]):=by
 have lf:(fs.map fun f=>[f]).length=fs.length:=by simp
 refine spec_intro [] _ Tryz.func40 rfl Tryz.ntmps40 (by rfl) (fun w0 R=>?_)
 refine ok_learn (VwIn.slice (VwIn.there (VwIn.here hA))) ?_
 rintro⟨pa,ca,rfl⟩
 repeat'(first|(refine gY ?_;intros)|(refine hY ?_ ?_<;>intro hgd)|(refine jY ?_ ?_<;>intro _)|fail)
 refine ok_map (L':=[stP kb b nm mb ft D,A]++R) entD ?_
 refine ok_loop' (γ:=Nat×(KG→HProp)) (fun g ρ L=>g.1≤fs.length∧Steps kb b nm mb ft (fs.drop g.1) g.2 e D2∧Knows ρ [(0,.pointer (some ⟨kb,0,none⟩)),(8,.slice pa (fs.map fun f=>[f]).length ca),(9,.int .i64 ((fs.map fun f=>[f]).length:Int)),(10,.int .i64 (g.1:Int))]∧
   L=[stP kb b nm mb ft g.2,A]++R) (fun g=>fs.length-g.1) (0,D) ⟨Nat.zero_le _,hS,⟨rfl,rfl,rfl,rfl,trivial⟩,rfl⟩ ?_
 rintro⟨i,D1⟩ ρ L ⟨hi,hS1,hk,rfl⟩
 dsimp only at hi hS1 hk ⊢
 refine ok_regs hk ?_
 cases t1:decide ((i:Int)<((fs.map fun f=>[f]).length:Int))with
 |false=>
  have hie:i=fs.length:=by have:=of_decide_eq_false t1;omega
  rw[show fs.drop i=[]by rw[hie,List.drop_length]]at hS1
  cases hS1
  repeat'(first|(refine gY ?_;intros)|(refine hY ?_ ?_<;>intro hgd)|(refine jY ?_ ?_<;>intro _)|fail)
  (refine rt_Y (y:=()) (hrs:=Tryz.results40) (hv:=?_) (hφ:=?_))
  ·rfl
  ·trivial
 |true=>
  have h0:i<fs.length:=by have:=of_decide_eq_true t1;omega
  have hx:(fs.map fun f=>[f])[i]? =some [fs[i]]:=by rw[List.getElem?_map,List.getElem?_eq_getElem h0];rfl
  have hn1:i<(fs.map fun f=>[f]).length:=by omega
  rw[List.drop_eq_getElem_cons h0]at hS1
  generalize fs[i]=f at hx hS1
  refine ok_learn (VwIn.base (n:=1) (xs:=fs.map fun f=>[f]) (VwIn.there (VwIn.here hA)) (by intro e;rw[e]at hn1;simp at hn1)) ?_
  rintro⟨bu,ou,rfl⟩
  cases hS1 with
  |ok hv hk1=>
   rename_i D3
   repeat'(first|(refine gY ?_;intros)|(refine hY ?_ ?_<;>intro hgd)|(refine jY ?_ ?_<;>intro _)|fail)
   refine clV_Y (hv) ?_
   intro _ _
   repeat'(first|(refine gY ?_;intros)|(refine hY ?_ ?_<;>intro hgd)|(refine jY ?_ ?_<;>intro _)|fail)
   exact cont_back (i+1,D3) ⟨h0,hk1,⟨rfl,rfl,rfl,rfl,trivial⟩,rfl⟩ (by dsimp only;omega)
  |bad hv he=>
   have q1:(!decide (e=0))=true:=by rw[decide_eq_false he];rfl
   cases q2:(!decide (e=4))with
   |false=>
    have h4:e=4:=by simpa using q2
    have hf:ftK e ft=ft:=by unfold ftK;rw[if_neg (fun h=>h.2 h4)]
    rw[hf]
    repeat'(first|(refine gY ?_;intros)|(refine hY ?_ ?_<;>intro hgd)|(refine jY ?_ ?_<;>intro _)|fail)
    refine clV_Y (hv) ?_
    intro _ _
    repeat'(first|(refine gY ?_;intros)|(refine hY ?_ ?_<;>intro hgd)|(refine jY ?_ ?_<;>intro _)|fail)
    (refine rt_Y (y:=()) (hrs:=Tryz.results40) (hv:=?_) (hφ:=?_))
    ·rfl
    ·trivial
   |true=>
    have h4:e≠4:=by simpa using q2
    have hf:ftK e ft=e:=by unfold ftK;rw[if_pos ⟨he,h4⟩]
    rw[hf]
    repeat'(first|(refine gY ?_;intros)|(refine hY ?_ ?_<;>intro hgd)|(refine jY ?_ ?_<;>intro _)|fail)
    refine clV_Y (hv) ?_
    intro _ _
    repeat'(first|(refine ro_Y ?_;intros)|fail)
    refine cont_then ?_
    refine ok_ex (M:=stM kb b nm mb ft D2) Sel.here ?_
    rintro⟨m,⟨mv,hmv⟩,⟨wp,hwp⟩,⟨rv,hrv⟩⟩
    unfold stM kvP kvC
    dsimp only
    repeat'(first|(refine gY ?_;intros)|(refine hY ?_ ?_<;>intro hgd)|(refine jY ?_ ?_<;>intro _)|fail)
    refine cont_map (fun _ h=>st_in (kb:=kb) (b:=b) (nm:=nm) (mb:=mb) (ft:=e) (D:=D2) ⟨m,⟨mv,hmv⟩,⟨wp,hwp⟩,⟨rv,hrv⟩⟩ (Take.out2 (A:=D2 ⟨m,⟨mv,hmv⟩,⟨wp,hwp⟩,⟨rv,hrv⟩⟩) (B:=kvP kb b nm m mv wp mb rv e) takeD h)) ?_
    (refine rt_Y (y:=()) (hrs:=Tryz.results40) (hv:=?_) (hφ:=?_))
    ·rfl
    ·trivial
theorem fspec_frameK{P:Program}{f:FuncId}{args:List Value}{pre:List HProp}{Y:Type}{φ:Y→Prop}{ret:Y→Value}{post:Y→List HProp}(s:FSpec P f args pre Y φ ret post)(F:List HProp):FSpec P f args (pre++F) Y φ ret (fun y=>post y++F):=by
 intro w0 w R hs
 rw[List.append_assoc]at hs
 refine(s w0 w (F++R) hs).mono ?_
 rintro e w' ⟨y,hy,he,hw⟩
 exact⟨y,hy,he,by rw[List.append_assoc];exact hw⟩
def pcM(c:Prop)(L:List HProp)(_:{u:Unit // c}):List HProp:=L
def pcP(c:Prop)(L:List HProp):HProp:=exP (pcM c L)
theorem pc_in{c:Prop}(hc:c){L R:List HProp}{h:Frag}(s:SatL (L++R) h):SatL (pcP c L::R) h:=ex_in (M:=pcM c L) ⟨(),hc⟩ rfl s
def kD0(b mb:Nat)(d:Dk)(g:KG):HProp:=pcP (g.m=mn0∧g.mv.1= .slice none 0 0∧g.wp.1= .pointer none∧g.rv.1= .slice none 0 0) [diskP b d,memX mb []]
def kD1(b mb:Nat)(d:Dk)(m:Mn)(g:KG):HProp:=pcP (g.m=m∧g.wp.1= .pointer none∧g.rv.1= .slice none 0 0) [row 70 1 g.mv.1 (m.runs.map uV),diskP b d,memX mb []]
def kDX(b:Nat)(d:Dk)(_:KG):HProp:=diskP b d
abbrev kFn(f kb:Nat):Value:=.func (.func f) #[.pointer (some ⟨kb,0,none⟩)] #[]
abbrev kOpenFs(kb:Nat):List Value:=[kFn 41 kb,kFn 42 kb,kFn 43 kb]
set_option maxHeartbeats 4000000 in
theorem kOpen_good(b:Nat)(nm:BA)(d:Dk)(DG:Nat→Nat→KG→HProp)(h1:1≤nm.size)(h32:nm.size≤32)(hS:∀ kb mb,Steps kb b nm mb 0 (kOpenFs kb) (kD0 b mb d) 0 (DG kb mb)):
  FSpec Tryz.prog 12 [.pointer (some ⟨b,0,none⟩),.string nm] [diskP b d] (Nat×Nat) (fun _=>True) (fun y=>.tuple #[.pointer (some ⟨y.1,0,none⟩),.int .i64 0]) (fun y=>[stP y.1 b nm y.2 0 (DG y.1 y.2)]):=by
 have f1:decide ((nm.size:Int)<1)=false:=decide_eq_false (by omega)
 have f2:decide ((32:Int)<(nm.size:Int))=false:=decide_eq_false (by omega)
 refine spec_intro [] _ Tryz.func12 rfl Tryz.ntmps12 (by rfl) (fun w0 R=>?_)
 repeat'(first|(refine gY ?_;intros)|(refine hY ?_ ?_<;>intro hgd)|(refine jY ?_ ?_<;>intro _)|fail)
 refine cl_Y (mNewX) ?_
 intro mb _
 repeat'(first|(refine gY ?_;intros)|(refine hY ?_ ?_<;>intro hgd)|(refine jY ?_ ?_<;>intro _)|fail)
 rename_i kb v hv
 have hSt:=steps_spec kb b nm mb 0 v (row 41 1 v ((kOpenFs kb).map fun f=>[f])) (kOpenFs kb) (kD0 b mb d) (DG kb mb) 0 Vw.row (by show 3≤1000;decide) (hS kb mb)
 refine opsL_mapL (fun _ h=>pc_in (L:=[diskP b d,memX mb []]) (c:=mn0=mn0∧Value.slice none 0 0= .slice none 0 0∧Value.pointer none= .pointer none∧Value.slice none 0 0= .slice none 0 0) ⟨rfl,rfl,rfl,rfl⟩ (Take.out2 (A:=diskP b d) (B:=memX mb []) takeD h)) ?_
 refine opsL_mapL (fun _ h=>st_in (kb:=kb) (b:=b) (nm:=nm) (mb:=mb) (ft:=0) (D:=kD0 b mb d) ⟨mn0,⟨.slice none 0 0,rfl⟩,⟨.pointer none,rfl⟩,⟨.slice none 0 0,rfl⟩⟩ (Take.out2 (A:=kD0 b mb d ⟨mn0,⟨.slice none 0 0,rfl⟩,⟨.pointer none,rfl⟩,⟨.slice none 0 0,rfl⟩⟩) (B:=kvP kb b nm mn0 (.slice none 0 0) (.pointer none) mb (.slice none 0 0) 0) takeD h)) ?_
 refine opsL_mapL (L':=[row 41 1 v ((kOpenFs kb).map fun f=>[f]),stP kb b nm mb 0 (kD0 b mb d)]++R) entD ?_
 repeat'(first|(refine gY ?_;intros)|(refine hY ?_ ?_<;>intro hgd)|(refine jY ?_ ?_<;>intro _)|fail)
 refine cl_Y (hSt) ?_
 intro _ _
 repeat'(first|(refine gY ?_;intros)|(refine hY ?_ ?_<;>intro hgd)|(refine jY ?_ ?_<;>intro _)|fail)
 (refine rt_Y (y:=(kb,mb)) (hrs:=Tryz.results12) (hv:=?_) (hφ:=?_))
 ·rfl
 ·trivial
set_option maxHeartbeats 4000000 in
theorem kOpen_fail(b:Nat)(nm:BA)(d d2:Dk)(e:Int)(h1:1≤nm.size)(h32:nm.size≤32)(he:e≠0)(hS:∀ kb mb,Steps kb b nm mb 0 (kOpenFs kb) (kD0 b mb d) e (kDX b d2)):
  FSpec Tryz.prog 12 [.pointer (some ⟨b,0,none⟩),.string nm] [diskP b d] Unit (fun _=>True) (fun _=>.tuple #[.pointer none,.int .i64 e]) (fun _=>[diskP b d2]):=by
 have f1:decide ((nm.size:Int)<1)=false:=decide_eq_false (by omega)
 have f2:decide ((32:Int)<(nm.size:Int))=false:=decide_eq_false (by omega)
 have f3:(!decide (e=0))=true:=by rw[decide_eq_false he];rfl
 refine spec_intro [] _ Tryz.func12 rfl Tryz.ntmps12 (by rfl) (fun w0 R=>?_)
 repeat'(first|(refine gY ?_;intros)|(refine hY ?_ ?_<;>intro hgd)|(refine jY ?_ ?_<;>intro _)|fail)
 refine cl_Y (mNewX) ?_
 intro mb _
 repeat'(first|(refine gY ?_;intros)|(refine hY ?_ ?_<;>intro hgd)|(refine jY ?_ ?_<;>intro _)|fail)
 rename_i kb v hv
 have hSt:=steps_spec kb b nm mb 0 v (row 41 1 v ((kOpenFs kb).map fun f=>[f])) (kOpenFs kb) (kD0 b mb d) (kDX b d2) e Vw.row (by show 3≤1000;decide) (hS kb mb)
 refine opsL_mapL (fun _ h=>pc_in (L:=[diskP b d,memX mb []]) (c:=mn0=mn0∧Value.slice none 0 0= .slice none 0 0∧Value.pointer none= .pointer none∧Value.slice none 0 0= .slice none 0 0) ⟨rfl,rfl,rfl,rfl⟩ (Take.out2 (A:=diskP b d) (B:=memX mb []) takeD h)) ?_
 refine opsL_mapL (fun _ h=>st_in (kb:=kb) (b:=b) (nm:=nm) (mb:=mb) (ft:=0) (D:=kD0 b mb d) ⟨mn0,⟨.slice none 0 0,rfl⟩,⟨.pointer none,rfl⟩,⟨.slice none 0 0,rfl⟩⟩ (Take.out2 (A:=kD0 b mb d ⟨mn0,⟨.slice none 0 0,rfl⟩,⟨.pointer none,rfl⟩,⟨.slice none 0 0,rfl⟩⟩) (B:=kvP kb b nm mn0 (.slice none 0 0) (.pointer none) mb (.slice none 0 0) 0) takeD h)) ?_
 refine opsL_mapL (L':=[row 41 1 v ((kOpenFs kb).map fun f=>[f]),stP kb b nm mb 0 (kD0 b mb d)]++R) entD ?_
 repeat'(first|(refine gY ?_;intros)|(refine hY ?_ ?_<;>intro hgd)|(refine jY ?_ ?_<;>intro _)|fail)
 refine cl_Y (hSt) ?_
 intro _ _
 repeat'(first|(refine ro_Y ?_;intros)|fail)
 refine cont_then ?_
 refine ok_ex (M:=stM kb b nm mb (ftK e 0) (kDX b d2)) Sel.here ?_
 rintro⟨m,⟨mv,hmv⟩,⟨wp,hwp⟩,⟨rv,hrv⟩⟩
 unfold stM kDX
 dsimp only
 repeat'(first|(refine gY ?_;intros)|(refine hY ?_ ?_<;>intro hgd)|(refine jY ?_ ?_<;>intro _)|fail)
 (refine rt_Y (y:=()) (hrs:=Tryz.results12) (hv:=?_) (hφ:=?_))
 ·rfl
 ·trivial
theorem kOpen_arg(b:Nat)(nm:BA)(h:nm.size<1∨32<nm.size)(hz:nm.size≤140737488355328):FSpec Tryz.prog 12 [.pointer (some ⟨b,0,none⟩),.string nm] [] Unit (fun _=>True) (fun _=>.tuple #[.pointer none,.int .i64 2]) (fun _=>[]):=by
 cases f1:decide ((nm.size:Int)<1)with
 |true=>
  refine spec_intro [] _ Tryz.func12 rfl Tryz.ntmps12 (by rfl) (fun w0 R=>?_)
  repeat'(first|(refine gY ?_;intros)|(refine hY ?_ ?_<;>intro hgd)|(refine jY ?_ ?_<;>intro _)|fail)
  refine cl_Y (mNewX) ?_
  intro mb _
  repeat'(first|(refine gY ?_;intros)|(refine hY ?_ ?_<;>intro hgd)|(refine jY ?_ ?_<;>intro _)|fail)
  (refine rt_Y (y:=()) (hrs:=Tryz.results12) (hv:=?_) (hφ:=?_))
  ·rfl
  ·trivial
 |false=>
  have f2:decide ((32:Int)<(nm.size:Int))=true:=by
   have:=of_decide_eq_false f1
   exact decide_eq_true (by omega)
  refine spec_intro [] _ Tryz.func12 rfl Tryz.ntmps12 (by rfl) (fun w0 R=>?_)
  repeat'(first|(refine gY ?_;intros)|(refine hY ?_ ?_<;>intro hgd)|(refine jY ?_ ?_<;>intro _)|fail)
  refine cl_Y (mNewX) ?_
  intro mb _
  repeat'(first|(refine gY ?_;intros)|(refine hY ?_ ?_<;>intro hgd)|(refine jY ?_ ?_<;>intro _)|fail)
  (refine rt_Y (y:=()) (hrs:=Tryz.results12) (hv:=?_) (hφ:=?_))
  ·rfl
  ·trivial
theorem kOpen_nil(nm:BA):FSpec Tryz.prog 12 [.pointer none,.string nm] [] Unit (fun _=>True) (fun _=>.tuple #[.pointer none,.int .i64 1]) (fun _=>[]):=by
 refine spec_intro [] _ Tryz.func12 rfl Tryz.ntmps12 (by rfl) (fun w0 R=>?_)
 repeat'(first|(refine gY ?_;intros)|(refine hY ?_ ?_<;>intro hgd)|(refine jY ?_ ?_<;>intro _)|fail)
 (refine rt_Y (y:=()) (hrs:=Tryz.results12) (hv:=?_) (hφ:=?_))
 ·rfl
 ·trivial
end Go.Proofs.YtgbmjoenbocfcaaGreat
