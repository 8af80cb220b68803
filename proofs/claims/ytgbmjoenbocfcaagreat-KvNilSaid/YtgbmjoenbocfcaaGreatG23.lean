/- Texts merged: KpB KpC KpD KpE. -/
import Derived.Test.YtgbmjoenbocfcaaGreatH33
import Derived.Test.YtgbmjoenbocfcaaGreatG22
import Derived.Test.YtgbmjoenbocfcaaGreatG25
import Derived.Test.YtgbmjoenbocfcaaGreatG15
set_option linter.unusedSimpArgs false
set_option linter.unusedVariables false
namespace Go.Proofs.YtgbmjoenbocfcaaGreat
open Go Go.Fx Go.Pl
structure CInv(C:FS→Prop)(d:Dk):Prop where
 ok:d.Ok
 cr:∀ k t,C (d.torn k t)
theorem CInv.mono{C C':FS→Prop}{d:Dk}(h:CInv C d)(k:∀ F,C F→C' F):CInv C' d:=⟨h.ok,fun i t=>k _ (h.cr i t)⟩
theorem CInv.still{C:FS→Prop}{d:Dk}(h:CInv C d):CInv C {d with still:=true}:=⟨{h.ok with},h.cr⟩
theorem CInv.crash{C:FS→Prop}{d:Dk}(h:CInv C d)(keep torn:Int):C (d.crash keep torn).files:=h.cr _ _
theorem CInv.doC{C:FS→Prop}{d:Dk}{c:Cl}(h:CInv C d)(hok:(d.doC c).1.Ok)(hp:∀ t,C (runO (c.piece t) d.files))(hr:C (c.run d.files)):CInv C (d.doC c).1:=by
 refine⟨hok,?_⟩
 unfold Dk.doC
 split
 ·exact h.cr
 ·intro k t
  show C (runO ((d.loose++[c])[k]?.bind (·.piece t)) (play d.sure ((d.loose++[c]).take k)))
  rcases Nat.lt_trichotomy k d.loose.length with hk|hk|hk
  ·rw[List.getElem?_append_left hk,List.take_append_of_le_length (Nat.le_of_lt hk)]
   exact h.cr k t
  ·subst hk
   rw[List.getElem?_append_right (Nat.le_refl _),Nat.sub_self,List.take_append_of_le_length (Nat.le_refl _),List.take_length,h.ok.play]
   exact hp t
  ·rw[List.getElem?_eq_none (by simp;omega),List.take_of_length_le (by simp;omega),play_snoc,h.ok.play]
   exact hr
theorem sync_20{d:Dk}(hs:d.still=false):(d.fuse=0∧d.sync=({d with still:=true},20))∨(d.fuse≠0∧d.sync.2=0∧d.sync.1.files=d.files∧d.sync.1.sure=d.files∧d.sync.1.loose=[]∧d.sync.1.still=false∧d.sync.1.room=d.room∧(d.fuse= -1→d.sync.1.fuse= -1)):=by
 unfold Dk.sync Dk.settle
 rw[live0,hs,if_neg (by decide)]
 by_cases hf:d.fuse=0
 ·rw[if_pos hf];exact .inl ⟨hf,rfl⟩
 ·rw[if_neg hf]
  refine .inr ⟨hf,rfl,rfl,rfl,rfl,rfl,rfl,fun h=>?_⟩
  dsimp only
  rw[h];decide
theorem doC_20(d:Dk)(c:Cl):(d.fuse=0∧d.doC c=({d with still:=true},20))∨(d.fuse≠0∧(d.doC c).2=0∧(d.doC c).1.files=c.run d.files∧(d.doC c).1.still=d.still∧(d.doC c).1.room=d.room∧(d.doC c).1.sure=d.sure∧(d.doC c).1.loose=d.loose++[c]∧(d.fuse= -1→(d.doC c).1.fuse= -1)):=by
 unfold Dk.doC
 by_cases hf:d.fuse=0
 ·rw[if_pos hf];exact .inl ⟨hf,rfl⟩
 ·rw[if_neg hf]
  refine .inr ⟨hf,rfl,rfl,rfl,rfl,rfl,rfl,fun h=>?_⟩
  dsimp only
  rw[h];decide
theorem CInv.here{C:FS→Prop}{d:Dk}(h:CInv C d):C d.files:=by
 have:=h.cr d.loose.length 0
 unfold Dk.torn at this
 rw[List.getElem?_eq_none (Nat.le_refl _),List.take_length,h.ok.play]at this
 exact this
theorem CInv.set{C:FS→Prop}{d:Dk}(hd:d.Ok)(hl:d.loose=[])(hC:C d.files):CInv C d:=⟨hd,fun k t=>by
 have:d.sure=d.files:=by have:=hd.play;rw[hl]at this;exact this
 rw[torn_none hl,this];exact hC⟩
theorem liveN{d:Dk}(hs:d.still=false){l:List BA}(h:∀ x∈l,mayN x=true):d.live l=0:=by
 unfold Dk.live
 rw[hs]
 have:l.any (fun s=> !mayN s)=false:=by
  rw[List.any_eq_false];intro x hx;rw[h x hx];decide
 simp[this]
theorem live1N{d:Dk}(hs:d.still=false){a:BA}(h:mayN a=true):d.live [a]=0:=liveN hs fun x hx=>by rw[List.mem_singleton.1 hx];exact h
inductive StR(d:Dk)(C0 CW C1:FS→Prop)(full:Prop)(r:Dk×Int):Prop
 |ok (e:r.2=0) (h:CInv C1 r.1) (s:r.1.still=false) (m:r.1.room=d.room) (f:d.fuse= -1→r.1.fuse= -1)
 |down (e:r.2=20) (h:CInv CW r.1) (m:r.1.room=d.room) (f:d.fuse≠ -1)
 |full (e:r.2=4) (h:CInv C0 r.1) (s:r.1.still=false) (m:r.1.room=d.room) (f:d.fuse= -1→r.1.fuse= -1) (k:full)
theorem StR.weak{d:Dk}{C0 CW C1 C0' CW' C1':FS→Prop}{full full':Prop}{r:Dk×Int}(h:StR d C0 CW C1 full r)(h0:∀ F,C0 F→C0' F)(hw:∀ F,CW F→CW' F)(h1:∀ F,C1 F→C1' F)(hf:full→full'):StR d C0' CW' C1' full' r:=by
 cases h with
 |ok e h s m f=>exact .ok e (h.mono h1) s m f
 |down e h m f=>exact .down e (h.mono hw) m f
 |full e h s m f k=>exact .full e (h.mono h0) s m f (hf k)
theorem rem_step{d:Dk}{C:FS→Prop}{a:BA}(h:CInv C d)(hs:d.still=false)(ha:mayN a=true)(hC:∀ F,C F→C (fdel a F)):
  ((d.remove a).2=3∧(d.remove a).1=d∧fget a d.files=none)∨(StR d C C C False (d.remove a)∧((d.remove a).2=0→(d.remove a).1.files=fdel a d.files)):=by
 have hok:=h.ok.remove (a:=a)
 unfold Dk.remove at hok ⊢
 rw[live1N hs ha,if_neg (by decide)]at hok ⊢
 cases hh:d.has a with
 |false=>
  rw[if_pos (by rfl)]
  refine .inl ⟨rfl,rfl,?_⟩
  unfold Dk.has at hh
  cases e:fget a d.files with
  |none=>rfl
  |some v=>rw[e]at hh;cases hh
 |true=>
  rw[hh,if_neg (by simp)]at hok
  rw[if_neg (by simp)]
  have hci:=h.doC (c:=.rem a) hok (fun t=>h.here) (hC _ h.here)
  refine .inr ⟨?_,?_⟩
  ·rcases doC_20 d (.rem a)with⟨hf,e⟩|⟨hf,e1,e2,e3,e4,e5,e6,e7⟩
   ·rw[e];exact .down rfl h.still rfl (by omega)
   ·exact .ok e1 hci (e3.trans hs) e4 e7
  ·intro h0
   rcases doC_20 d (.rem a)with⟨hf,e⟩|⟨hf,e1,e2,e3,e4,e5,e6,e7⟩
   ·rw[e]at h0;cases h0
   ·exact e2
theorem app_step{d:Dk}{C CW:FS→Prop}{a s:BA}(h:CInv C d)(hs:d.still=false)(ha:mayN a=true)(hz:s.size≤549755813888)(hw:∀ F,C F→CW F)(hp:∀ j,j≤s.size→CW (fput a (ftext a d.files++s.extract 0 j) d.files)):
  StR d C C CW (d.room<(fused d.files:Int)+s.size) (d.append a s)∧((d.append a s).2=0→(d.append a s).1.files=fput a (ftext a d.files++s) d.files)∧((d.append a s).2=4→(d.append a s).1=d):=by
 have hok:=h.ok.append (name:=a) hz
 unfold Dk.append at hok ⊢
 rw[live1N hs ha,if_neg (by decide)]at hok ⊢
 split
 ·rename_i hh
  refine⟨.full rfl h hs rfl id ?_,fun e=>(by cases e),fun _=>rfl⟩
  rw[Bool.and_eq_true]at hh
  exact of_decide_eq_true hh.2
 ·rename_i hh
  rw[if_neg hh]at hok
  have hci:=(h.mono hw).doC (c:=.app a s) hok (fun t=>by
   by_cases ht:(0:Int)<t
   ·rw[show(Cl.app a s).piece t=some (.app a (s.extract 0 (if(s.size:Int)<t then(s.size:Int)else t).toNat))from if_pos ht]
    show CW (fput a (ftext a d.files++s.extract 0 _) d.files)
    refine hp _ ?_
    split<;>omega
   ·rw[show(Cl.app a s).piece t=none from if_neg ht];exact hw _ h.here) (by
   have:=hp s.size (Nat.le_refl _)
   rw[ext_all]at this
   exact this)
  rcases doC_20 d (.app a s)with⟨hf,e⟩|⟨hf,e1,e2,e3,e4,e5,e6,e7⟩
  ·rw[e];exact⟨.down rfl h.still rfl (by omega),fun e=>(by cases e),fun e=>(by cases e)⟩
  ·exact⟨.ok e1 hci (e3.trans hs) e4 e7,fun _=>e2,fun e=>by rw[e1]at e;cases e⟩
theorem sync_step{d:Dk}{CW C1:FS→Prop}(h:CInv CW d)(hs:d.still=false)(h1:C1 d.files):StR d CW CW C1 False d.sync∧(d.sync.2=0→d.sync.1.files=d.files∧d.sync.1.loose=[]):=by
 rcases sync_20 hs with⟨hf,e⟩|⟨hf,e1,e2,e3,e4,e5,e6,e7⟩
 ·rw[e];exact⟨.down rfl h.still rfl (by omega),fun e=>by cases e⟩
 ·exact⟨.ok e1 (CInv.set h.ok.sync e4 (by rw[e2];exact h1)) e5 e6 e7,fun _=>⟨e2,e4⟩⟩
theorem ren_step{d:Dk}{C C1:FS→Prop}{a b:BA}(h:CInv C d)(hs:d.still=false)(ha:mayN a=true)(hb:mayN b=true)(hne:a≠b)(hh:(fget a d.files).isSome=true)(h1:C1 (fdel a (fput b (ftext a d.files) d.files))):
  StR d C C (fun F=>C F∨C1 F) False (d.rename a b)∧((d.rename a b).2=0→(d.rename a b).1.files=fdel a (fput b (ftext a d.files) d.files)):=by
 have hok:=h.ok.rename (a:=a) (b:=b)
 unfold Dk.rename at hok ⊢
 have e0:(a.toList==b.toList)=false:=by
  cases e:(a.toList==b.toList)with
  |false=>rfl
  |true=>exact absurd (eqS_iff.1 e) hne
 have e9:d.has a=true:=hh
 rw[liveN hs (l:=[a,b]) (fun x hx=>by
  rcases List.mem_cons.1 hx with rfl|hx
  ·exact ha
  ·rw[List.mem_singleton.1 hx];exact hb),if_neg (by decide),e0,if_neg (by decide),e9,if_neg (by decide)]at hok ⊢
 have hci:=(h.mono (fun F k=>Or.inl k:∀ F,C F→C F∨C1 F)).doC (c:=.ren a b) hok (fun t=>.inl h.here) (.inr h1)
 rcases doC_20 d (.ren a b)with⟨hf,e⟩|⟨hf,e1,e2,e3,e4,e5,e6,e7⟩
 ·rw[e];exact⟨.down rfl h.still rfl (by omega),fun e=>by cases e⟩
 ·exact⟨.ok e1 hci (e3.trans hs) e4 e7,fun _=>e2⟩
structure GFS(nm:BA)(m:Mn)(ls:List (List Pr))(T:BA→Prop)(U:Nat)(F:FS):Prop where
 man:fget (manK nm) F=some (mBytes m)
 wal:T (ftext (fileK nm walK m.wal.toNat) F)
 run:∀ x∈m.runs.zip ls,fget (fileK nm runK x.1.toNat) F=some (runB x.2)
 hi:∀ k:Nat,m.next≤(k:Int)→k<281474976710656→fget (fileK nm walK k) F=none
 nms:∀ k v,fget k F=some v→mayN k=true
 use:fused F≤U
 nd:(F.map (·.1)).Nodup
 cnt:F.length≤U
theorem fput_len(k v:BA):∀ F:FS,(fput k v F).length≤F.length+1
 | []=>by simp[fput]
 |(b,u)::F=>by
  unfold fput
  split
  ·simp
  ·have:=fput_len k v F;simp;omega
theorem fput_len_has{k v:BA}:∀ {F:FS},(fget k F).isSome=true→(fput k v F).length=F.length
 | [],h=>by cases h
 |(b,u)::F,h=>by
  unfold fput
  split
  ·simp
  ·rename_i hne
   rw[fget,if_neg hne]at h
   simp[fput_len_has h]
theorem fdel_len(k:BA):∀ F:FS,(fdel k F).length≤F.length
 | []=>Nat.le_refl _
 |(b,u)::F=>by
  unfold fdel
  split
  ·simp
  ·have:=fdel_len k F;simp;omega
structure Oth(nm:BA)(m:Mn)(k:BA):Prop where
 may:mayN k=true
 man:k≠manK nm
 wal:∀ a:Nat,a<281474976710656→k≠fileK nm walK a
 run:∀ n∈m.runs,k≠fileK nm runK n.toNat
theorem GFS.mono{nm:BA}{m:Mn}{ls:List (List Pr)}{T T':BA→Prop}{U U':Nat}{F:FS}(h:GFS nm m ls T U F)(ht:∀ t,T t→T' t)(hu:U≤U'):GFS nm m ls T' U' F:={h with wal:=ht _ h.wal,use:=Nat.le_trans h.use hu,cnt:=Nat.le_trans h.cnt hu}
theorem zip_mem1{α β:Type}{x:α×β}{l:List α}{k:List β}(h:x∈l.zip k):x.1∈l:=(List.of_mem_zip (a:=x.1) (b:=x.2) h).1
theorem GFS.put{nm:BA}{m:Mn}{ls:List (List Pr)}{T:BA→Prop}{U U':Nat}{F:FS}{k v:BA}(h:GFS nm m ls T U F)(hk:Oth nm m k)(hw:m.wal.toNat<281474976710656)(hu:fused (fput k v F)≤U')(hc:U+1≤U'):GFS nm m ls T U' (fput k v F) where
 man:=by rw[fget_put,if_neg (Ne.symm hk.man)];exact h.man
 wal:=by rw[ftext_put,if_neg (Ne.symm (hk.wal _ hw))];exact h.wal
 run:=fun x hx=>by rw[fget_put,if_neg (Ne.symm (hk.run _ (zip_mem1 hx)))];exact h.run x hx
 hi:=fun j h1 h2=>by rw[fget_put,if_neg (Ne.symm (hk.wal _ h2))];exact h.hi j h1 h2
 nms:=fun j w e=>by
  rw[fget_put]at e
  split at e
  ·rename_i e';rw[e'];exact hk.may
  ·exact h.nms j w e
 use:=hu
 nd:=fput_nodup k v h.nd
 cnt:=by have:=fput_len k v F;have:=h.cnt;omega
theorem ftext_del{k j:BA}(h:k≠j)(F:FS):ftext k (fdel j F)=ftext k F:=by unfold ftext;rw[fget_del k j h]
theorem fused_del_le(k:BA)(F:FS):fused (fdel k F)≤fused F:=by have:=fused_del k F;omega
theorem GFS.del{nm:BA}{m:Mn}{ls:List (List Pr)}{T:BA→Prop}{U:Nat}{F:FS}{k:BA}(h:GFS nm m ls T U F)(hk:Oth nm m k)(hw:m.wal.toNat<281474976710656):GFS nm m ls T U (fdel k F) where
 man:=by rw[fget_del _ _ (Ne.symm hk.man)];exact h.man
 wal:=by rw[ftext_del (Ne.symm (hk.wal _ hw))];exact h.wal
 run:=fun x hx=>by rw[fget_del _ _ (Ne.symm (hk.run _ (zip_mem1 hx)))];exact h.run x hx
 hi:=fun j h1 h2=>by rw[fget_del _ _ (Ne.symm (hk.wal _ h2))];exact h.hi j h1 h2
 nms:=fun j w e=>by
  by_cases e':j=k
  ·rw[e'];exact hk.may
  ·rw[fget_del _ _ e']at e;exact h.nms j w e
 use:=Nat.le_trans (fused_del_le k F) h.use
 nd:=fdel_nodup k h.nd
 cnt:=Nat.le_trans (fdel_len k F) h.cnt
theorem GFS.delG{nm:BA}{m:Mn}{ls:List (List Pr)}{T:BA→Prop}{U:Nat}{F:FS}{k:BA}(h:GFS nm m ls T U F)(h1:k≠manK nm)(h2:k≠fileK nm walK m.wal.toNat)(h3:∀ n∈m.runs,k≠fileK nm runK n.toNat):GFS nm m ls T U (fdel k F) where
 man:=by rw[fget_del _ _ (Ne.symm h1)];exact h.man
 wal:=by rw[ftext_del (Ne.symm h2)];exact h.wal
 run:=fun x hx=>by rw[fget_del _ _ (Ne.symm (h3 _ (zip_mem1 hx)))];exact h.run x hx
 hi:=fun j a b=>by
  by_cases e:fileK nm walK j=k
  ·rw[e];exact fget_del_self _ h.nd
  ·rw[fget_del _ _ e];exact h.hi j a b
 nms:=fun j w e=>by
  by_cases e':j=k
  ·rw[e',fget_del_self _ h.nd]at e;cases e
  ·rw[fget_del _ _ e']at e;exact h.nms j w e
 use:=Nat.le_trans (fused_del_le k F) h.use
 nd:=fdel_nodup k h.nd
 cnt:=Nat.le_trans (fdel_len k F) h.cnt
theorem fused_app(k s:BA)(F:FS):fused (fput k (ftext k F++s) F)=fused F+s.size:=by
 have:=fused_put k (ftext k F++s) F
 rw[ByteArray.size_append]at this
 omega
theorem ext_le(s:BA)(j:Nat):(s.extract 0 j).size≤s.size:=by rw[ByteArray.size_extract];omega
theorem wr_step{nm:BA}{m:Mn}{ls:List (List Pr)}{T:BA→Prop}{U:Nat}{d:Dk}{f:BA}{l:List Pr}(h:CInv (GFS nm m ls T U) d)(hs:d.still=false)(hk:Oth nm m f)(hw:m.wal.toNat<281474976710656)(hok:∀ p∈l,okP p=true)(hso:Sorted l)(hz:(runB l).size≤549755813888):
  StR d (GFS nm m ls T U) (GFS nm m ls T (U+(runB l).size)) (GFS nm m ls T (U+(runB l).size)) (d.room<((U+(runB l).size:Nat):Int)) (wrK d f l)∧
  ((wrK d f l).2=0→fget f (wrK d f l).1.files=some (runB l)∧(wrK d f l).1.loose=[]∧∀ k,k≠f→fget k (wrK d f l).1.files=fget k d.files):=by
 have hc:chkR l=0:=by unfold chkR;rw[List.all_eq_true.2 hok,sorted_rise hso];rfl
 have hin:∀ d1:Dk,CInv (GFS nm m ls T U) d1→d1.still=false→d1.room=d.room→(d.fuse= -1→d1.fuse= -1)→fget f d1.files=none→(∀ k,k≠f→fget k d1.files=fget k d.files)→
   StR d (GFS nm m ls T U) (GFS nm m ls T (U+(runB l).size)) (GFS nm m ls T (U+(runB l).size)) (d.room<((U+(runB l).size:Nat):Int)) (writeR d1 f l)∧
   ((writeR d1 f l).2=0→fget f (writeR d1 f l).1.files=some (runB l)∧(writeR d1 f l).1.loose=[]∧∀ k,k≠f→fget k (writeR d1 f l).1.files=fget k d.files):=by
  intro d1 h1 s1 r1 f1 n1 same
  have hr:(d1.read f 0 0).2=3:=by
   unfold Dk.read
   have hh:d1.has f=false:=by unfold Dk.has;rw[n1];rfl
   rw[live1N s1 hk.may,if_neg (by decide),if_neg (by decide),hh,if_pos (by rfl)]
  obtain⟨hst,hfl,h4⟩:=app_step (CW:=GFS nm m ls T (U+(runB l).size)) h1 s1 hk.may hz (fun F k=>k.mono (fun _ t=>t) (by omega)) (fun j hj=>h1.here.put hk hw (by
   rw[fused_app]
   have:=h1.here.use
   have:=ext_le (runB l) j
   omega) (by rw[runB_size];omega))
  unfold writeR
  rw[if_neg (by rw[hc];decide),if_neg (by rw[hr];decide),if_neg (by rw[hr];decide)]
  cases hst with
  |down e hh mm ff=>
   rw[if_pos (by rw[e];decide)]
   exact⟨.down e (hh.mono fun F k=>k.mono (fun _ t=>t) (by omega)) (mm.trans r1) (fun q=>ff (f1 q)),fun e'=>by rw[show((d1.append f (runB l)).1,(d1.append f (runB l)).2).2=(d1.append f (runB l)).2 from rfl,e]at e';cases e'⟩
  |full e hh ss mm ff kk=>
   rw[if_pos (by rw[e];decide)]
   refine⟨.full e hh ss (mm.trans r1) (fun q=>ff (f1 q)) ?_,fun e'=>by rw[show((d1.append f (runB l)).1,(d1.append f (runB l)).2).2=(d1.append f (runB l)).2 from rfl,e]at e';cases e'⟩
   have:=h1.here.use
   rw[← r1];omega
  |ok e hh ss mm ff=>
   rw[if_neg (by rw[e];decide)]
   have hfl:=hfl e
   have hget:fget f (d1.append f (runB l)).1.files=some (runB l):=by
    rw[hfl,fget_put,if_pos rfl]
    have:ftext f d1.files=⟨#[]⟩:=by unfold ftext;rw[n1];rfl
    rw[this,ba_nil0]
   have hsm:∀ k,k≠f→fget k (d1.append f (runB l)).1.files=fget k d.files:=fun k hkf=>by
    rw[hfl,fget_put,if_neg hkf];exact same k hkf
   obtain⟨h2,h3⟩:=sync_step hh ss hh.here
   cases h2 with
   |down e' hh' mm' ff'=>exact⟨.down e' hh' ((mm'.trans mm).trans r1) (fun q=>ff' (ff (f1 q))),fun e2=>by rw[e']at e2;cases e2⟩
   |full e' _ _ _ _ k=>exact k.elim
   |ok e' hh' ss' mm' ff'=>
    obtain⟨h5,h6⟩:=h3 e'
    exact⟨.ok e' hh' ss' ((mm'.trans mm).trans r1) (fun q=>ff' (ff (f1 q))),fun _=>⟨by rw[h5];exact hget,h6,fun k hkf=>by rw[h5];exact hsm k hkf⟩⟩
 unfold wrK
 rcases rem_step h hs hk.may (fun F k=>k.del hk hw)with⟨e,e1,e2⟩|⟨hst,hfl⟩
 ·rw[e]
  have:(!decide ((3:Int)=0)&& !decide ((3:Int)=3))=false:=by decide
  rw[this,cond_false,e1]
  exact hin d h hs rfl id e2 (fun _ _=>rfl)
 ·cases hst with
  |down e hh mm ff=>
   rw[e]
   have:(!decide ((20:Int)=0)&& !decide ((20:Int)=3))=true:=by decide
   rw[this,cond_true]
   exact⟨.down e (hh.mono fun F k=>k.mono (fun _ t=>t) (by omega)) mm ff,fun e'=>by rw[e]at e';cases e'⟩
  |full e _ _ _ _ k=>exact k.elim
  |ok e hh ss mm ff=>
   have hfl:=hfl e
   rw[e]
   have:(!decide ((0:Int)=0)&& !decide ((0:Int)=3))=false:=by decide
   rw[this,cond_false]
   exact hin _ hh ss mm ff (by rw[hfl];exact fget_del_self _ h.here.nd) (fun k hkf=>by rw[hfl,fget_del _ _ hkf])
theorem save_step{nm s:BA}{d:Dk}{C0 CW C1:FS→Prop}(hnm:NmK nm)(h:CInv C0 d)(hs:d.still=false)(hz:s.size≤549755813888)(hnd:∀ F,C0 F→(F.map (·.1)).Nodup)(hdel:∀ F,C0 F→C0 (fdel (newK nm) F))(hw:∀ F,C0 F→CW F)
  (hput:∀ F j,j≤s.size→C0 F→CW (fput (newK nm) (ftext (newK nm) F++s.extract 0 j) F))
  (hren:∀ F,C0 F→(∀ k,k≠newK nm→fget k F=fget k d.files)→C1 (fdel (newK nm) (fput (manK nm) s (fput (newK nm) s F)))):
  StR d C0 (fun F=>CW F∨C1 F) C1 (∃ F,C0 F∧d.room<(fused F:Int)+s.size) (saveD (manK nm) s d)∧((saveD (manK nm) s d).2=0→(saveD (manK nm) s d).1.loose=[]∧∀ k,k≠manK nm→k≠newK nm→fget k (saveD (manK nm) s d).1.files=fget k d.files):=by
 rw[← save_run,show(5-0:Nat)=4+1 from rfl]
 have hnw:manK nm++dotNew=newK nm:=rfl
 have hor:∀ F,CW F→CW F∨C1 F:=fun F k=>.inl k
 have r0:((stepD (manK nm) s 0 d).2=20∧CInv C0 (stepD (manK nm) s 0 d).1∧(stepD (manK nm) s 0 d).1.room=d.room∧d.fuse≠ -1)∨((stepD (manK nm) s 0 d).2=0∧CInv C0 (stepD (manK nm) s 0 d).1∧(stepD (manK nm) s 0 d).1.still=false∧(stepD (manK nm) s 0 d).1.room=d.room∧(d.fuse= -1→(stepD (manK nm) s 0 d).1.fuse= -1)∧fget (newK nm) (stepD (manK nm) s 0 d).1.files=none∧∀ k,k≠newK nm→fget k (stepD (manK nm) s 0 d).1.files=fget k d.files):=by
  rw[step0,hnw]
  rcases rem_step h hs hnm.new hdel with⟨e,e1,e2⟩|⟨hst,hfl⟩
  ·dsimp only
   rw[e,if_pos rfl,e1]
   exact .inr ⟨rfl,h,hs,rfl,id,e2,fun _ _=>rfl⟩
  ·cases hst with
   |down e hh mm ff=>dsimp only;rw[e,if_neg (by decide)];exact .inl ⟨rfl,hh,mm,ff⟩
   |full e _ _ _ _ k=>exact k.elim
   |ok e hh ss mm ff=>
    dsimp only
    rw[e,if_neg (by decide),hfl e]
    exact .inr ⟨rfl,hh,ss,mm,ff,fget_del_self _ (hnd _ h.here),fun k hk=>fget_del _ _ hk _⟩
 rcases r0 with⟨e0,c0,m0,f0⟩|⟨e0,c0,s0,m0,f0,n0,same0⟩
 ·rw[run_bad (k:=4) (by rw[show(4-4:Nat)=0 from rfl,e0];decide),show(4-4:Nat)=0 from rfl]
  exact⟨.down e0 (c0.mono fun F k=>.inl (hw F k)) m0 f0,fun e=>by rw[e0]at e;cases e⟩
 rw[run_good (k:=4) (by rw[show(4-4:Nat)=0 from rfl,e0]),show(4-4:Nat)=0 from rfl]
 generalize (stepD (manK nm) s 0 d).1=x1 at c0 s0 m0 f0 n0 same0
 obtain⟨a1,a2,a3⟩:=app_step (CW:=CW) (a:=newK nm) (s:=s) c0 s0 hnm.new hz hw (fun j hj=>hput _ j hj c0.here)
 rw[show(4:Nat)=3+1 from rfl]
 have e1:=step1 (manK nm) s x1
 rw[hnw]at e1
 cases a1 with
 |down e hh mm ff=>
  rw[run_bad (k:=3) (by rw[show(4-3:Nat)=1 from rfl,e1,e];decide),show(4-3:Nat)=1 from rfl,e1]
  exact⟨.down e (hh.mono fun F k=>.inl (hw F k)) (mm.trans m0) (fun q=>ff (f0 q)),fun e'=>by rw[e]at e';cases e'⟩
 |full e hh ss mm ff kk=>
  rw[run_bad (k:=3) (by rw[show(4-3:Nat)=1 from rfl,e1,e];decide),show(4-3:Nat)=1 from rfl,e1]
  exact⟨.full e hh ss (mm.trans m0) (fun q=>ff (f0 q)) ⟨x1.files,c0.here,by rw[← m0];exact kk⟩,fun e'=>by rw[e]at e';cases e'⟩
 |ok e hh ss mm ff=>
 have hfl:=a2 e
 have hx1:ftext (newK nm) x1.files=⟨#[]⟩:=by unfold ftext;rw[n0];rfl
 rw[hx1,ba_nil0]at hfl
 have hren1:=hren x1.files c0.here same0
 rw[run_good (k:=3) (by rw[show(4-3:Nat)=1 from rfl,e1,e]),show(4-3:Nat)=1 from rfl,e1]
 generalize (x1.append (newK nm) s).1=x2 at hh ss mm ff hfl
 obtain⟨b1,b2⟩:=sync_step hh ss (C1:=fun F=>F=x2.files∧CW F) ⟨rfl,hh.here⟩
 rw[show(3:Nat)=2+1 from rfl]
 have e2:=step2 (manK nm) s x2
 cases b1 with
 |full e _ _ _ _ k=>exact k.elim
 |down e' hh' mm' ff'=>
  rw[run_bad (k:=2) (by rw[show(4-2:Nat)=2 from rfl,e2,e'];decide),show(4-2:Nat)=2 from rfl,e2]
  exact⟨.down e' (hh'.mono hor) ((mm'.trans mm).trans m0) (fun q=>ff' (ff (f0 q))),fun q=>by rw[e']at q;cases q⟩
 |ok e' hh' ss' mm' ff'=>
 obtain⟨g1,g2⟩:=b2 e'
 rw[run_good (k:=2) (by rw[show(4-2:Nat)=2 from rfl,e2,e']),show(4-2:Nat)=2 from rfl,e2]
 have mm3:=(mm'.trans mm).trans m0
 have ff3:d.fuse= -1→x2.sync.1.fuse= -1:=fun q=>ff' (ff (f0 q))
 generalize x2.sync.1=x3 at hh' ss' mm3 ff3 g1 g2
 have e3:=step3 (manK nm) s x3
 rw[hnw]at e3
 have hx3:x3.files=fput (newK nm) s x1.files:=by rw[g1,hfl]
 have hgn:fget (newK nm) x3.files=some s:=by rw[hx3,fget_put,if_pos rfl]
 have htn:ftext (newK nm) x3.files=s:=by unfold ftext;rw[hgn];rfl
 obtain⟨p1,p2⟩:=ren_step (C:=CW) (C1:=C1) (a:=newK nm) (b:=manK nm) (hh'.mono fun F k=>k.2) ss' hnm.new hnm.man (new_ne_man nm) (by rw[hgn];rfl) (by rw[htn,hx3];exact hren1)
 rw[show(2:Nat)=1+1 from rfl]
 cases p1 with
 |full e _ _ _ _ k=>exact k.elim
 |down e4 hh4 mm4 ff4=>
  rw[run_bad (k:=1) (by rw[show(4-1:Nat)=3 from rfl,e3,e4];decide),show(4-1:Nat)=3 from rfl,e3]
  exact⟨.down e4 (hh4.mono hor) (mm4.trans mm3) (fun q=>ff4 (ff3 q)),fun q=>by rw[e4]at q;cases q⟩
 |ok e4 hh4 ss4 mm4 ff4=>
 have hfl4:=p2 e4
 rw[htn,hx3]at hfl4
 rw[run_good (k:=1) (by rw[show(4-1:Nat)=3 from rfl,e3,e4]),show(4-1:Nat)=3 from rfl,e3]
 have mm5:=mm4.trans mm3
 have ff5:d.fuse= -1→(x3.rename (newK nm) (manK nm)).1.fuse= -1:=fun q=>ff4 (ff3 q)
 generalize (x3.rename (newK nm) (manK nm)).1=x4 at hh4 ss4 mm5 ff5 hfl4
 obtain⟨q1,q2⟩:=sync_step hh4 ss4 (C1:=C1) (by rw[hfl4];exact hren1)
 have e5:=step4 (manK nm) s x4
 rw[show(1:Nat)=0+1 from rfl]
 cases q1 with
 |full e _ _ _ _ k=>exact k.elim
 |down e6 hh6 mm6 ff6=>
  rw[run_bad (k:=0) (by rw[show(4-0:Nat)=4 from rfl,e5,e6];decide),show(4-0:Nat)=4 from rfl,e5]
  exact⟨.down e6 hh6 (mm6.trans mm5) (fun q=>ff6 (ff5 q)),fun q=>by rw[e6]at q;cases q⟩
 |ok e6 hh6 ss6 mm6 ff6=>
  obtain⟨g3,g4⟩:=q2 e6
  rw[run_good (k:=0) (by rw[show(4-0:Nat)=4 from rfl,e5,e6]),show(4-0:Nat)=4 from rfl,e5,run_zero]
  refine⟨.ok rfl hh6 ss6 (mm6.trans mm5) (fun q=>ff6 (ff5 q)),fun _=>⟨g4,fun k h1 h2=>?_⟩⟩
  show fget k x4.sync.1.files=_
  rw[g3,hfl4,fget_del _ _ h2,fget_put,if_neg h1,fget_put,if_neg h2]
  exact same0 k h2
def TX(H l:List BA)(t:BA):Prop:=∃ k,t=framesOf H++(framesOf l).extract 0 k
def TE(H:List BA)(t:BA):Prop:=t=framesOf H
theorem TE.tx{H:List BA}(l:List BA){t:BA}(h:TE H t):TX H l t:=⟨0,by rw[h,ext_zero,ba_nil]⟩
theorem TX.whole{H l:List BA}:TX H l (framesOf (H++l)):=⟨(framesOf l).size,by rw[ext_all,framesOf_append]⟩
theorem GFS.putW{nm:BA}{m:Mn}{ls:List (List Pr)}{T T':BA→Prop}{U U':Nat}{F:FS}{v:BA}(h:GFS nm m ls T U F)(hnm:NmK nm)(hw:m.wal.toNat<281474976710656)(hwn:(m.wal.toNat:Int)<m.next)(hr:∀ n∈m.runs,n.toNat<281474976710656)(ht:T' v)(hu:fused (fput (fileK nm walK m.wal.toNat) v F)≤U')(hc:(fput (fileK nm walK m.wal.toNat) v F).length≤U'):GFS nm m ls T' U' (fput (fileK nm walK m.wal.toNat) v F) where
 man:=by rw[fget_put,if_neg (man_ne_wal nm _)];exact h.man
 wal:=by rw[ftext_put,if_pos rfl];exact ht
 run:=fun x hx=>by rw[fget_put,if_neg (run_ne_wal nm (hr _ (zip_mem1 hx)) hw)];exact h.run x hx
 hi:=fun j h1 h2=>by
  rw[fget_put,if_neg (wal_ne nm h2 hw (by omega))];exact h.hi j h1 h2
 nms:=fun j w e=>by
  rw[fget_put]at e
  split at e
  ·rename_i e';rw[e'];exact hnm.wal _
  ·exact h.nms j w e
 use:=hu
 nd:=fput_nodup _ v h.nd
 cnt:=hc
structure MnG(m:Mn)(ls:List (List Pr)):Prop where
 chk:m.chk=true
 wf:m.wf
 w0:1≤m.wal
 wn:m.wal<m.next
 nx:m.next≤1000000
 rn:∀ n∈m.runs,1≤n∧n<m.next
 rw:∀ n∈m.runs,n≠m.wal
 nd:m.runs.Nodup
 len:ls.length=m.runs.length
 ok:∀ l∈ls,(∀ p∈l,okP p=true)∧Sorted l∧(runB l).size≤16777216∧l.length≤1000000
theorem MnG.w48{m:Mn}{ls:List (List Pr)}(h:MnG m ls):m.wal.toNat<281474976710656:=by have:=h.wn;have:=h.nx;omega
theorem MnG.wn'{m:Mn}{ls:List (List Pr)}(h:MnG m ls):(m.wal.toNat:Int)<m.next:=by have:=h.wn;have:=h.w0;omega
theorem MnG.r48{m:Mn}{ls:List (List Pr)}(h:MnG m ls):∀ n∈m.runs,n.toNat<281474976710656:=fun n hn=>by have:=h.rn n hn;have:=h.nx;omega
theorem walLive{d:Dk}{nm:BA}{n:Nat}(hnm:NmK nm)(hs:d.still=false):(d.read (fileK nm walK n) 0 16777216=(cut (ftext (fileK nm walK n) d.files) 0 16777216,0)∧d.has (fileK nm walK n)=true)∨(d.read (fileK nm walK n) 0 16777216=(⟨#[]⟩,3)∧d.has (fileK nm walK n)=false):=by
 unfold Dk.read
 rw[live1N hs (hnm.wal n),if_neg (by decide),if_neg (by decide)]
 cases h:d.has (fileK nm walK n)with
 |true=>rw[if_neg (by simp)];exact .inl ⟨rfl,rfl⟩
 |false=>rw[if_pos (by rfl)];exact .inr ⟨rfl,rfl⟩
theorem open_step{nm:BA}{m:Mn}{ls:List (List Pr)}{H l:List BA}{U:Nat}{d:Dk}(hnm:NmK nm)(hm:MnG m ls)(h:CInv (GFS nm m ls (TX H l) U) d)(hs:d.still=false)(hH:allOk H=true)(hl:allOk l=true):
  ((openW d (fileK nm walK m.wal.toNat)).2.1=0∧∃ j,(openW d (fileK nm walK m.wal.toNat)).2.2=(H++l.take j,lenT (H++l.take j))∧CInv (GFS nm m ls (TE (H++l.take j)) U) (openW d (fileK nm walK m.wal.toNat)).1∧(openW d (fileK nm walK m.wal.toNat)).1.loose=[]∧(openW d (fileK nm walK m.wal.toNat)).1.still=false∧(openW d (fileK nm walK m.wal.toNat)).1.room=d.room∧(d.fuse= -1→(openW d (fileK nm walK m.wal.toNat)).1.fuse= -1))∨
  ((openW d (fileK nm walK m.wal.toNat)).2.1=20∧CInv (GFS nm m ls (TX H l) U) (openW d (fileK nm walK m.wal.toNat)).1∧d.fuse≠ -1∧(openW d (fileK nm walK m.wal.toNat)).1.room=d.room):=by
 have hg:=h.here
 obtain⟨k,hk⟩:=hg.wal
 obtain⟨j,e,h1,h2,h3,h4⟩:=scan_text H l hH hl k
 rw[← hk]at h1 h2 h3 h4
 have hlv:=walLive (n:=m.wal.toNat) hnm hs
 have hrd:(d.read (fileK nm walK m.wal.toNat) 0 16777216).1=ftext (fileK nm walK m.wal.toNat) d.files∧((d.read (fileK nm walK m.wal.toNat) 0 16777216).2=0∨(d.read (fileK nm walK m.wal.toNat) 0 16777216).2=3)∧(d.has (fileK nm walK m.wal.toNat)=false→ftext (fileK nm walK m.wal.toNat) d.files=⟨#[]⟩):=by
  rcases hlv with⟨q1,q2⟩|⟨q1,q2⟩
  ·rw[q1]
   refine⟨cut_all _ _ ?_,.inl rfl,fun q=>by rw[q2]at q;cases q⟩
   have:=ftext_le (fileK nm walK m.wal.toNat) d.files
   have:=h.ok.used
   omega
  ·rw[q1]
   have:=has_false q2
   exact⟨this.symm,.inr rfl,fun _=>this⟩
 obtain⟨r1,r2,r3⟩:=hrd
 generalize hf:fileK nm walK m.wal.toNat=f at*
 have hout:∀ x:Dk,CInv (GFS nm m ls (TX H l) U) x→x.still=false→x.room=d.room→(d.fuse= -1→x.fuse= -1)→ftext f x.files=framesOf (H++l.take j)→
   ((openS x).2=0∧CInv (GFS nm m ls (TE (H++l.take j)) U) (openS x).1∧(openS x).1.loose=[]∧(openS x).1.still=false∧(openS x).1.room=d.room∧(d.fuse= -1→(openS x).1.fuse= -1))∨
   ((openS x).2=20∧CInv (GFS nm m ls (TX H l) U) (openS x).1∧d.fuse≠ -1∧(openS x).1.room=d.room):=by
  intro x hx sx rx fx tx
  have hE:GFS nm m ls (TE (H++l.take j)) U x.files:={hx.here with wal:=by rw[hf];exact tx}
  unfold openS
  by_cases hlo:0<x.loose.length
  ·rw[if_pos hlo]
   obtain⟨q1,q2⟩:=sync_step hx sx hE
   cases q1 with
   |ok e hh ss mm ff=>exact .inl ⟨e,hh,(q2 e).2,ss,mm.trans rx,fun q=>ff (fx q)⟩
   |down e hh mm ff=>exact .inr ⟨e,hh,fun q=>ff (fx q),mm.trans rx⟩
   |full e _ _ _ _ k=>exact k.elim
  ·rw[if_neg hlo]
   have hl0:x.loose=[]:=List.eq_nil_of_length_eq_zero (by omega)
   exact .inl ⟨rfl,CInv.set hx.ok hl0 hE,hl0,sx,rx,fx⟩
 unfold openW openT
 rw[if_neg (fun q=>by rcases r2 with r2|r2;exact q.1 r2;exact q.2 r2),r1,h1]
 dsimp only
 rcases h2 with⟨rfl,h5⟩|rfl
 ·rw[if_neg (show ¬ (0:Int)=71 by decide),show(if(0:Int)=70 then d.truncate f (lenT (H++l.take j):Int)else(d,0))=(d,0)from if_neg (by decide),if_neg (fun q=>q rfl)]
  rcases hout d h hs rfl id h5 with⟨q,a⟩|⟨q,a⟩
  ·rw[if_neg (fun q'=>q' q)]
   exact .inl ⟨rfl,j,rfl,a⟩
  ·rw[if_pos (fun q'=>absurd (q.symm.trans q') (by decide))]
   exact .inr ⟨q,a⟩
 ·rw[if_neg (show ¬ (70:Int)=71 by decide),if_pos rfl]
  have hhas:d.has f=true:=by
   cases hh:d.has f with
   |true=>rfl
   |false=>
    rw[r3 hh,scanOf_nil]at h1
    simp at h1
  have htr:d.truncate f (lenT (H++l.take j):Int)=d.doC (.trunc f (lenT (H++l.take j):Int)):=by
   unfold Dk.truncate
   rw[live1N hs (by rw[← hf];exact hnm.wal _),if_neg (by decide),if_neg (by omega),hhas,if_neg (by simp),if_neg (by omega)]
  have hok1:=h.ok.truncate (name:=f) (n:=(lenT (H++l.take j):Int))
  rw[htr]at hok1 ⊢
  have htx:ftext f ((Cl.trunc f (lenT (H++l.take j):Int)).run d.files)=framesOf (H++l.take j):=by
   show ftext f (fput f ((ftext f d.files).extract 0 ((lenT (H++l.take j):Nat):Int).toNat) d.files)=_
   rw[ftext_put,if_pos rfl,Int.toNat_natCast,h3]
  have hsz:fused ((Cl.trunc f (lenT (H++l.take j):Int)).run d.files)≤U:=by
   show fused (fput f ((ftext f d.files).extract 0 ((lenT (H++l.take j):Nat):Int).toNat) d.files)≤U
   have q1:=fused_put f ((ftext f d.files).extract 0 ((lenT (H++l.take j):Nat):Int).toNat) d.files
   have q2:=ext_le (ftext f d.files) ((lenT (H++l.take j):Nat):Int).toNat
   have q3:=hg.use
   omega
  have hTX:TX H l (framesOf (H++l.take j)):=⟨(framesOf (l.take j)).size,by
   rw[framesOf_append]
   congr 1
   have q:framesOf l=framesOf (l.take j)++framesOf (l.drop j):=by rw[← framesOf_append,List.take_append_drop]
   rw[q];exact(ext_left _ _ rfl).symm⟩
  have hci:=h.doC (c:=.trunc f (lenT (H++l.take j):Int)) hok1 (fun t=>hg) (by
   have:=hg.putW (T':=TX H l) (v:=(ftext f d.files).extract 0 ((lenT (H++l.take j):Nat):Int).toNat) hnm hm.w48 hm.wn' hm.r48 (by rw[Int.toNat_natCast,h3];exact hTX) (by rw[hf];exact hsz) (by rw[hf,fput_len_has (by unfold Dk.has at hhas;exact hhas)];exact hg.cnt)
   rw[hf]at this
   exact this)
  rcases doC_20 d (.trunc f (lenT (H++l.take j):Int))with⟨hfu,e⟩|⟨hfu,e1,e2,e3,e4,e5,e6,e7⟩
  ·rw[e]
   rw[if_pos (show(20:Int)≠0 by decide)]
   exact .inr ⟨rfl,h.still,by omega,rfl⟩
  ·rw[if_neg (fun q'=>q' e1)]
   rcases hout _ hci (e3.trans hs) e4 e7 (by rw[e2];exact htx)with⟨q,a⟩|⟨q,a⟩
   ·rw[if_neg (fun q'=>q' q)]
    exact .inl ⟨rfl,j,rfl,a⟩
   ·rw[if_pos (fun q'=>absurd (q.symm.trans q') (by decide))]
    exact .inr ⟨q,a⟩
theorem apd_step{nm:BA}{m:Mn}{ls:List (List Pr)}{H:List BA}{U:Nat}{d:Dk}{w:Wv}{b:BA}(hnm:NmK nm)(hm:MnG m ls)(h:CInv (GFS nm m ls (TE H) U) d)(hs:d.still=false)(hw:w.fault=0)(hb:b.size≤4194304):
  StR d (GFS nm m ls (TE H) U) (GFS nm m ls (TX H [b]) (U+12+b.size)) (GFS nm m ls (TE (H++[b])) (U+12+b.size)) (d.room<((U+12+b.size:Nat):Int)) ((appendW w d (fileK nm walK m.wal.toNat) [b]).2.1,(appendW w d (fileK nm walK m.wal.toNat) [b]).2.2)∧
  ((appendW w d (fileK nm walK m.wal.toNat) [b]).2.2=0→(appendW w d (fileK nm walK m.wal.toNat) [b]).1=⟨w.n+1,w.size+lenT [b],0⟩∧(appendW w d (fileK nm walK m.wal.toNat) [b]).2.1.loose=[])∧
  ((appendW w d (fileK nm walK m.wal.toNat) [b]).2.2=4→(appendW w d (fileK nm walK m.wal.toNat) [b]).1=w∧(appendW w d (fileK nm walK m.wal.toNat) [b]).2.1=d):=by
 have hok:allOk [b]=true:=by unfold allOk;simpa using hb
 have hfz:(framesOf [b]).size=12+b.size:=by rw[framesOf_size];simp[lenT]
 have hg:=h.here
 have hgt:ftext (fileK nm walK m.wal.toNat) d.files=framesOf H:=hg.wal
 obtain⟨a1,a2,a3⟩:=app_step (CW:=GFS nm m ls (TX H [b]) (U+12+b.size)) (a:=fileK nm walK m.wal.toNat) (s:=framesOf [b]) h hs (hnm.wal _) (by omega) (fun F k=>k.mono (fun _ t=>TE.tx [b] t) (by omega)) (fun j hj=>
  hg.putW hnm hm.w48 hm.wn' hm.r48 (by rw[hgt];exact⟨j,rfl⟩) (by
   rw[fused_app]
   have:=hg.use
   have:=ext_le (framesOf [b]) j
   omega) (by have:=fput_len (fileK nm walK m.wal.toNat) (ftext (fileK nm walK m.wal.toNat) d.files++(framesOf [b]).extract 0 j) d.files;have:=hg.cnt;omega))
 unfold appendW
 rw[if_neg (fun q=>q hw),if_neg (by rw[hok];decide),if_neg (by simp)]
 cases a1 with
 |down e hh mm ff=>
  rw[if_pos (by rw[e];decide)]
  exact⟨.down e (hh.mono fun F k=>k.mono (fun _ t=>TE.tx [b] t) (by omega)) mm ff,fun q=>absurd (e.symm.trans q) (by decide),fun q=>absurd (e.symm.trans q) (by decide)⟩
 |full e hh ss mm ff kk=>
  rw[if_pos (by rw[e];decide)]
  refine⟨.full e hh ss mm ff (by have:=hg.use;omega),fun q=>absurd (e.symm.trans q) (by decide),fun _=>⟨?_,a3 e⟩⟩
  show w.down (d.append (fileK nm walK m.wal.toNat) (framesOf [b])).2=w
  rw[e];rfl
 |ok e hh ss mm ff=>
  rw[if_neg (by rw[e];decide)]
  have hfl:=a2 e
  have hE:GFS nm m ls (TE (H++[b])) (U+12+b.size) (d.append (fileK nm walK m.wal.toNat) (framesOf [b])).1.files:=by
   rw[hfl]
   exact hg.putW hnm hm.w48 hm.wn' hm.r48 (by rw[hgt,← framesOf_append];rfl) (by rw[fused_app];have:=hg.use;omega) (by have:=fput_len (fileK nm walK m.wal.toNat) (ftext (fileK nm walK m.wal.toNat) d.files++framesOf [b]) d.files;have:=hg.cnt;omega)
  obtain⟨q1,q2⟩:=sync_step hh ss hE
  cases q1 with
  |down e' hh' mm' ff'=>
   rw[if_pos (by rw[e'];decide)]
   refine⟨.down e' hh' (mm'.trans mm) (fun q=>ff' (ff q)),fun q=>?_,fun q=>?_⟩
   ·exact absurd (e'.symm.trans q) (by decide)
   ·exact absurd (e'.symm.trans q) (by decide)
  |full e' _ _ _ _ k=>exact k.elim
  |ok e' hh' ss' mm' ff'=>
   rw[if_neg (by rw[e'];decide)]
   refine⟨.ok rfl hh' ss' (mm'.trans mm) (fun q=>ff' (ff q)),fun _=>⟨?_,(q2 e').2⟩,fun q=>absurd (show(0:Int)=4 from q) (by decide)⟩
   show(⟨w.n+(([b]:List BA).length:Int),w.size+lenT [b],w.fault⟩:Wv)=_
   rw[hw];rfl
theorem rst_step{nm:BA}{m:Mn}{ls:List (List Pr)}{T:BA→Prop}{U:Nat}{d:Dk}{w:Wv}{a:Nat}(hnm:NmK nm)(hm:MnG m ls)(h:CInv (GFS nm m ls T U) d)(hs:d.still=false)(hlo:d.loose=[])(hw:w.fault=0)(ha:a<281474976710656)(hne:(a:Int)≠m.wal):
  StR d (GFS nm m ls T U) (GFS nm m ls T U) (GFS nm m ls T U) False ((resetW w d (fileK nm walK a)).2.1,(resetW w d (fileK nm walK a)).2.2)∧((resetW w d (fileK nm walK a)).2.2=0→(resetW w d (fileK nm walK a)).2.1.loose=[]):=by
 have hne':fileK nm walK a≠fileK nm walK m.wal.toNat:=wal_ne nm ha hm.w48 (by have:=hm.w0;omega)
 have hrm:=rem_step h hs (hnm.wal a) (fun F k=>k.delG (Ne.symm (man_ne_wal nm a)) hne' (fun n hn=>wal_ne_run nm ha (hm.r48 n hn)))
 generalize fileK nm walK a=f at hrm ⊢
 unfold resetW
 rw[if_neg (fun q=>q hw)]
 rcases hrm with⟨e,e1,e2⟩|⟨hst,hfl⟩
 ·have h3:rem3 d f=0:=by unfold rem3;rw[if_pos e]
  have hS:remS d f=(d,0):=by unfold remS;rw[if_pos e,e1]
  rw[h3,hS,if_neg (fun q=>q rfl),if_neg (fun q=>q rfl)]
  exact⟨.ok rfl h hs rfl id,fun _=>hlo⟩
 ·cases hst with
  |full e _ _ _ _ k=>exact k.elim
  |down e hh mm ff=>
   have h3:rem3 d f=20:=by unfold rem3;rw[e];rfl
   rw[h3,if_pos (by decide)]
   exact⟨.down rfl hh mm ff,fun q=>absurd (show(20:Int)=0 from q) (by decide)⟩
  |ok e hh ss mm ff=>
   have h3:rem3 d f=0:=by unfold rem3;rw[e];rfl
   have hS:remS d f=(d.remove f).1.sync:=by unfold remS;rw[if_neg (by rw[e];decide)]
   rw[h3,hS,if_neg (fun q=>q rfl)]
   obtain⟨q1,q2⟩:=sync_step hh ss hh.here
   cases q1 with
   |full e' _ _ _ _ k=>exact k.elim
   |down e' hh' mm' ff'=>
    rw[if_pos (by rw[e'];decide)]
    exact⟨.down e' hh' (mm'.trans mm) (fun q=>ff' (ff q)),fun q=>absurd (e'.symm.trans q) (by decide)⟩
   |ok e' hh' ss' mm' ff'=>
    rw[if_neg (fun q=>q e')]
    exact⟨.ok rfl hh' ss' (mm'.trans mm) (fun q=>ff' (ff q)),fun _=>(q2 e').2⟩
theorem drop_step{nm:BA}{m:Mn}{ls:List (List Pr)}{T:BA→Prop}{U:Nat}(hnm:NmK nm)(hm:MnG m ls):∀ (old:List Int) (d:Dk),CInv (GFS nm m ls T U) d→d.still=false→old.Nodup→(∀ n∈old,1≤n∧n<281474976710656∧n∉m.runs∧(fget (fileK nm runK n.toNat) d.files).isSome=true)→
  StR d (GFS nm m ls T U) (GFS nm m ls T U) (GFS nm m ls T U) False (dropL nm old d)∧((dropL nm old d).2=0→(dropL nm old d).1.loose=[]∧∀ k,(∀ n∈old,k≠fileK nm runK n.toNat)→fget k (dropL nm old d).1.files=fget k d.files)
 | [],d,h,hs,_,_=>by
  obtain⟨q1,q2⟩:=sync_step h hs h.here
  exact⟨q1,fun e=>⟨(q2 e).2,fun k _=>by rw[show(dropL nm [] d).1.files=d.sync.1.files from rfl,(q2 e).1]⟩⟩
 |n::old,d,h,hs,hnd,ho=>by
  obtain⟨n1,n2,n3,n4⟩:=ho n (List.mem_cons_self ..)
  have hr48:n.toNat<281474976710656:=by omega
  show StR d _ _ _ False (bif !decide ((d.remove (fileK nm runK n.toNat)).2=0)then d.remove (fileK nm runK n.toNat)else dropL nm old (d.remove (fileK nm runK n.toNat)).1)∧((bif !decide ((d.remove (fileK nm runK n.toNat)).2=0)then d.remove (fileK nm runK n.toNat)else dropL nm old (d.remove (fileK nm runK n.toNat)).1).2=0→(bif !decide ((d.remove (fileK nm runK n.toNat)).2=0)then d.remove (fileK nm runK n.toNat)else dropL nm old (d.remove (fileK nm runK n.toNat)).1).1.loose=[]∧∀ k,(∀ x∈n::old,k≠fileK nm runK x.toNat)→fget k (bif !decide ((d.remove (fileK nm runK n.toNat)).2=0)then d.remove (fileK nm runK n.toNat)else dropL nm old (d.remove (fileK nm runK n.toNat)).1).1.files=fget k d.files)
  rcases rem_step h hs (hnm.run n.toNat) (fun F k=>k.delG (Ne.symm (man_ne_run nm _)) (run_ne_wal nm hr48 hm.w48) (fun x hx=>run_ne nm hr48 (hm.r48 x hx) (fun q=>n3 (by
   have:=(hm.rn x hx).1
   have:n=x:=by omega
   rw[this];exact hx))))with⟨e,e1,e2⟩|⟨hst,hfl⟩
  ·rw[e2]at n4;cases n4
  ·cases hst with
   |full e _ _ _ _ k=>exact k.elim
   |down e hh mm ff=>
    have:(!decide ((20:Int)=0))=true:=by decide
    rw[e,this,cond_true]
    exact⟨.down e hh mm ff,fun q=>by rw[e]at q;cases q⟩
   |ok e hh ss mm ff=>
    have:(!decide ((0:Int)=0))=false:=by decide
    rw[e,this,cond_false]
    have hfl:=hfl e
    obtain⟨q1,q2⟩:=drop_step hnm hm old (d.remove (fileK nm runK n.toNat)).1 hh ss (List.nodup_cons.1 hnd).2 (fun x hx=>by
     obtain⟨x1,x2,x3,x4⟩:=ho x (List.mem_cons_of_mem _ hx)
     refine⟨x1,x2,x3,?_⟩
     rw[hfl,fget_del _ _ (run_ne nm (by omega) hr48 (fun q=>(List.nodup_cons.1 hnd).1 (by
      have:n=x:=by omega
      rw[this];exact hx)))]
     exact x4)
    refine⟨?_,fun e'=>⟨(q2 e').1,fun k hk=>?_⟩⟩
    ·cases q1 with
     |ok e' h' s' m' f'=>exact .ok e' h' s' (m'.trans mm) (fun q=>f' (ff q))
     |down e' h' m' f'=>exact .down e' h' (m'.trans mm) (fun q=>f' (ff q))
     |full e' _ _ _ _ k=>exact k.elim
    ·rw[(q2 e').2 k (fun x hx=>hk x (List.mem_cons_of_mem _ hx)),hfl,fget_del _ _ (hk n (List.mem_cons_self ..))]
theorem stray_ne{nm:BA}{m:Mn}{ls:List (List Pr)}(hm:MnG m ls){f:BA}(h:strayB nm m f=true):f≠manK nm∧f≠fileK nm walK m.wal.toNat∧∀ n∈m.runs,f≠fileK nm runK n.toNat:=by
 refine⟨fun e=>?_,fun e=>?_,fun n hn e=>?_⟩
 ·rw[e,stray_man]at h;cases h
 ·rw[e,stray_wal nm m _ hm.w48 (by have:=hm.w0;omega)]at h;cases h
 ·rw[e,stray_run nm m _ (hm.r48 n hn) (by have:=(hm.rn n hn).1;rw[show((n.toNat:Nat):Int)=n by omega];exact hn)]at h;cases h
theorem sweep_steps{nm:BA}{m:Mn}{ls:List (List Pr)}{T:BA→Prop}{U:Nat}(hm:MnG m ls):∀ (l:List BA) (d:Dk) (s:Bool),CInv (GFS nm m ls T U) d→d.still=false→l.Nodup→(∀ x∈l,(fget x d.files).isSome=true)→(s=false→d.loose.length≤0∨True)→
  ((sweepL nm m l d s).2.1=0∧CInv (GFS nm m ls T U) (sweepL nm m l d s).1∧(sweepL nm m l d s).1.still=false∧(sweepL nm m l d s).1.room=d.room∧(d.fuse= -1→(sweepL nm m l d s).1.fuse= -1))∨
  ((sweepL nm m l d s).2.1=20∧CInv (GFS nm m ls T U) (sweepL nm m l d s).1∧(sweepL nm m l d s).1.room=d.room∧d.fuse≠ -1)
 | [],d,s,h,hs,_,_,_=>.inl ⟨rfl,h,hs,rfl,id⟩
 |f::l,d,s,h,hs,hnd,hin,_=>by
  unfold sweepL
  cases hb:strayB nm m f with
  |false=>
   rw[if_neg (by decide)]
   exact sweep_steps hm l d s h hs (List.nodup_cons.1 hnd).2 (fun x hx=>hin x (List.mem_cons_of_mem _ hx)) (fun _=>.inr trivial)
  |true=>
   rw[if_pos rfl]
   obtain⟨n1,n2,n3⟩:=stray_ne hm hb
   have hfi:=hin f (List.mem_cons_self ..)
   have hmay:mayN f=true:=by
    cases e:fget f d.files with
    |none=>rw[e]at hfi;cases hfi
    |some v=>exact h.here.nms f v e
   rcases rem_step h hs hmay (fun F k=>k.delG n1 n2 n3)with⟨e,e1,e2⟩|⟨hst,hfl⟩
   ·rw[e2]at hfi;cases hfi
   ·cases hst with
    |full e _ _ _ _ k=>exact k.elim
    |down e hh mm ff=>
     rw[if_pos (by rw[e];decide)]
     exact .inr ⟨e,hh,mm,ff⟩
    |ok e hh ss mm ff=>
     rw[if_neg (fun q=>q e)]
     rcases sweep_steps hm l (d.remove f).1 true hh ss (List.nodup_cons.1 hnd).2 (fun x hx=>by
      rw[hfl e,fget_del _ _ (fun q=>(List.nodup_cons.1 hnd).1 (by rw[← q];exact hx))]
      exact hin x (List.mem_cons_of_mem _ hx)) (fun _=>.inr trivial)with⟨a,b,c,g,k⟩|⟨a,b,g,k⟩
     ·exact .inl ⟨a,b,c,g.trans mm,fun q=>k (ff q)⟩
     ·exact .inr ⟨a,b,g.trans mm,fun q=>k (ff q)⟩
theorem sweep_step{nm:BA}{m:Mn}{ls:List (List Pr)}{T:BA→Prop}{U:Nat}{d:Dk}(hm:MnG m ls)(h:CInv (GFS nm m ls T U) d)(hs:d.still=false):StR d (GFS nm m ls T U) (GFS nm m ls T U) (GFS nm m ls T U) False (sweepK nm m d):=by
 have hnd:(sortN (d.files.map (·.1))).Nodup:=(sortN_perm _).nodup_iff.2 h.here.nd
 have hin:∀ x∈sortN (d.files.map (·.1)),(fget x d.files).isSome=true:=fun x hx=>by
  cases e:fget x d.files with
  |some v=>rfl
  |none=>exact absurd (sortN_mem hx) (fget_none e)
 unfold sweepK swK
 rcases sweep_steps hm (sortN (d.files.map (·.1))) d false h hs hnd hin (fun _=>.inr trivial)with⟨a,b,c,g,k⟩|⟨a,b,g,k⟩
 ·rw[if_neg (fun q=>q a)]
  cases hsb:(sweepL nm m (sortN (d.files.map (·.1))) d false).2.2 with
  |false=>rw[if_neg (by decide)];exact .ok rfl b c g k
  |true=>
   rw[if_pos rfl]
   obtain⟨q1,q2⟩:=sync_step b c b.here
   cases q1 with
   |ok e h' s' m' f'=>exact .ok e h' s' (m'.trans g) (fun q=>f' (k q))
   |down e h' m' f'=>exact .down e h' (m'.trans g) (fun q=>f' (k q))
   |full e _ _ _ _ k=>exact k.elim
 ·rw[if_pos (by rw[a];decide)]
  exact .down a b g k
theorem sweepL_loose(nm:BA)(m:Mn):∀ (l:List BA) (d:Dk) (s:Bool),(sweepL nm m l d s).1.loose.length≤d.loose.length+l.length
 | [],d,s=>Nat.le_refl _
 |f::l,d,s=>by
  unfold sweepL
  have h1:=remove_loose d f
  rw[List.length_cons]
  split
  ·split
   ·show(d.remove f).1.loose.length≤_;omega
   ·have:=sweepL_loose nm m l (d.remove f).1 true;omega
  ·have:=sweepL_loose nm m l d s;omega
theorem sync_loose(d:Dk):d.sync.1.loose.length≤d.loose.length:=by
 unfold Dk.sync
 split
 ·exact Nat.le_refl _
 ·split
  ·exact Nat.le_refl _
  ·show([]:List Cl).length≤_;simp
theorem sweep_loose(nm:BA)(m:Mn)(d:Dk):(sweepK nm m d).1.loose.length≤d.loose.length+d.files.length:=by
 have h1:=sweepL_loose nm m (sortN (d.files.map (·.1))) d false
 rw[sortN_len,List.length_map]at h1
 unfold sweepK swK
 split
 ·exact h1
 ·split
  ·have:=sync_loose (sweepL nm m (sortN (d.files.map (·.1))) d false).1;omega
  ·exact h1
theorem load_step{nm:BA}{m:Mn}{ls:List (List Pr)}{T:BA→Prop}{U:Nat}{d:Dk}(hnm:NmK nm)(hm:MnG m ls)(h:CInv (GFS nm m ls T U) d)(hs:d.still=false):loadK nm d=(m,d,0):=by
 have hg:=h.here.man
 have hl:loadD (manK nm) d=(m,0):=by
  have hr:=(FileAt.mk hs hnm.man hg).read 0 16777216
  have hz:=ftext_le (manK nm) d.files
  have ht:ftext (manK nm) d.files=mBytes m:=by unfold ftext;rw[hg];rfl
  rw[ht]at hz
  have hu:=h.ok.used
  rw[show((0:Nat):Int)=0 from rfl,show((16777216:Nat):Int)=16777216 from rfl,cut_all _ _ (by omega)]at hr
  unfold loadD
  rw[hr,if_neg (fun q=>q rfl)]
  exact getM_put hm.chk hm.wf
 unfold loadK
 rw[hl,if_neg (show ¬ (0:Int)=3 by decide)]
structure KS(nm:BA)(K:Kv)(ls bl:List (List Pr))(U:Nat):Prop where
 g:MnG K.m ls
 rs:K.rs=K.m.runs.zip ls
 mem:K.mem=putAllB bl []
 bat:∀ l∈bl,(∀ p∈l,okP p=true)∧l.length≤4096∧(batchK l).size≤4194304
 few:(bl.map List.length).sum≤100000
 num:bl.length≤100000
 d:CInv (GFS nm K.m ls (TE (bl.map batchK)) U) K.d
 st:K.d.still=false
 w:K.w=⟨bl.length,lenT (bl.map batchK),0⟩
theorem putAll_len:∀ (l:List Pr) {m:List Pr},Sorted m→(putAll l m).length≤m.length+l.length
 | [],m,_=>Nat.le_refl _
 |p::l,m,h=>by
  have h1:=putAll_len l (m:=ins p m) (ins_sorted h)
  have h2:=ins_length p m h
  have:(ins p m).length≤m.length+1:=by rw[h2];split<;>omega
  show(putAll l (ins p m)).length≤_
  rw[List.length_cons];omega
theorem putAllB_len:∀ (bl:List (List Pr)) {m:List Pr},Sorted m→(putAllB bl m).length≤m.length+(bl.map List.length).sum
 | [],m,_=>by simp[putAllB]
 |l::bl,m,h=>by
  have h1:=putAllB_len bl (m:=putAll l m) (putAll_sorted l h)
  have h2:=putAll_len l h
  show(putAllB bl (putAll l m)).length≤_
  rw[List.map_cons,List.sum_cons];omega
theorem sizeL_le:∀ {l:List Pr},(∀ p∈l,okP p=true)→sizeL l≤l.length*262656
 | [],_=>Nat.zero_le _
 |p::l,h=>by
  have h1:=mayB_sizes (p:=p) (h p (List.mem_cons_self ..))
  have h2:=sizeL_le (l:=l) fun q hq=>h q (List.mem_cons_of_mem _ hq)
  rw[sizeL_cons,List.length_cons];omega
theorem memOk_of{l:List Pr}(hs:Sorted l)(ho:∀ p∈l,okP p=true)(hz:l.length≤1000000):MemOk l:=⟨hs,ho,hz,by have:=sizeL_le ho;have:l.length*262656≤1000000*262656:=Nat.mul_le_mul_right _ hz;omega⟩
theorem bat_ok{bl:List (List Pr)}(h:∀ l∈bl,∀ p∈l,okP p=true):∀ p∈putAllB bl [],okP p=true:=fun p hp=>by
 rcases mem_putAllB hp with⟨l,hl,hp⟩|hp
 ·exact h l hl p hp
 ·cases hp
theorem KS.memOk{nm:BA}{K:Kv}{ls bl:List (List Pr)}{U:Nat}(h:KS nm K ls bl U):MemOk K.mem:=by
 rw[h.mem]
 refine memOk_of (putAllB_sorted _ List.Pairwise.nil) (bat_ok fun l hl=>(h.bat l hl).1) ?_
 have:=putAllB_len bl (m:=[]) List.Pairwise.nil
 have:=h.few
 simp at*
 omega
theorem lenT_batch:∀ {bl:List (List Pr)},(∀ l∈bl,(batchK l).size≤4194304)→lenT (bl.map batchK)≤bl.length*4194316
 | [],_=>Nat.zero_le _
 |l::bl,h=>by
  have h1:=h l (List.mem_cons_self ..)
  have h2:=lenT_batch (bl:=bl) fun x hx=>h x (List.mem_cons_of_mem _ hx)
  rw[List.map_cons,List.length_cons]
  have:lenT (batchK l::bl.map batchK)=12+(batchK l).size+lenT (bl.map batchK):=by simp[lenT]
  rw[this];omega
theorem KS.kvI{nm:BA}{K:Kv}{ls bl:List (List Pr)}{U:Nat}(h:KS nm K ls bl U)(hl:K.d.loose.length≤1000000):KvI K where
 ok:=h.d.ok
 lo:=hl
 nk:=⟨by have:=h.g.w0;have:=h.g.wn;have:=h.g.nx;omega,fun n hn=>by have:=h.g.rn n hn;have:=h.g.nx;omega,by
  have:=Mn.chk_head h.g.chk
  simp only[Mn.head,Bool.or_eq_false_iff,decide_eq_false_iff_not]at this
  omega⟩
 w:=fun _=>by
  rw[h.w]
  have h1:=lenT_batch (bl:=bl) fun x hx=>(h.bat x hx).2.2
  have h2:=h.num
  have h3:bl.length*4194316≤100000*4194316:=Nat.mul_le_mul_right _ h2
  dsimp only
  omega
theorem KS.readable{nm:BA}{K:Kv}{ls bl:List (List Pr)}{U:Nat}(hnm:NmK nm)(h:KS nm K ls bl U)(BAD:Prop):KvR nm K (fun _=>rdG) BAD:=by
 have hle:=hnm.le
 have hmem:∀ x∈K.rs,x∈K.m.runs.zip ls:=fun x hx=>by rw[← h.rs];exact hx
 have hl:∀ x∈K.rs,x.2∈ls:=fun x hx=>(List.of_mem_zip (a:=x.1) (b:=x.2) (hmem x hx)).2
 refine⟨fun x hx=>?_,fun x hx e he=>.inl rfl,fun x hx=>(h.g.ok _ (hl x hx)).2.1,fun x hx=>(h.g.ok _ (hl x hx)).1,fun x hx=>(h.g.ok _ (hl x hx)).2.2.2,h.memOk,?_⟩
 ·exact rdF_good (by omega) ⟨h.st,hnm.run _,h.d.here.run x (hmem x hx)⟩ (h.g.ok _ (hl x hx)).1
 ·have:=Mn.chk_head h.g.chk
  simp only[Mn.head,Bool.or_eq_false_iff,decide_eq_false_iff_not]at this
  rw[h.rs,List.length_zip];omega
end Go.Proofs.YtgbmjoenbocfcaaGreat
