/- Texts merged: KpF KpG KpH KpI. -/
import Derived.Test.YtgbmjoenbocfcaaGreatG23
import Derived.Test.YtgbmjoenbocfcaaGreatG27
import Derived.Test.YtgbmjoenbocfcaaGreatG26
set_option linter.unusedSimpArgs false
set_option linter.unusedVariables false
namespace Go.Proofs.YtgbmjoenbocfcaaGreat
open Go Go.Fx Go.Pl
structure Fre(d d':Dk):Prop where
 room:d'.room=d.room
 fuse:d.fuse= -1→d'.fuse= -1
theorem putAllB_snoc(bl:List (List Pr))(l m:List Pr):putAllB (bl++[l]) m=putAll l (putAllB bl m):=by unfold putAllB;rw[List.foldl_append];rfl
theorem app_ks{nm:BA}{K:Kv}{ls bl:List (List Pr)}{U:Nat}{l:List Pr}(hnm:NmK nm)(h:KS nm K ls bl U)(hm0:mayK l=0)(hfew:(bl.map List.length).sum+l.length≤100000)(hnum:bl.length+1≤100000):
  (K.appE nm l=0∧KS nm {K.app nm l with mem:=putAll l K.mem} ls (bl++[l]) (U+12+(batchK l).size)∧(K.app nm l).d.loose=[]∧Fre K.d (K.app nm l).d)∨
  (K.appE nm l=20∧CInv (GFS nm K.m ls (TX (bl.map batchK) [batchK l]) (U+12+(batchK l).size)) (K.app nm l).d∧K.d.fuse≠ -1∧(K.app nm l).d.room=K.d.room)∨
  (K.appE nm l=4∧K.app nm l=K∧K.d.room<((U+12+(batchK l).size:Nat):Int)):=by
 obtain⟨hz,hok,hbz⟩:=mayK_0 hm0
 have hbz':(batchK l).size≤4194304:=by have:=of_decide_eq_false hbz;omega
 have hwf:K.w.fault=0:=by rw[h.w]
 obtain⟨h1,h2,h3⟩:=apd_step hnm h.g h.d h.st hwf hbz'
 unfold Kv.appE Kv.app
 cases h1 with
 |ok e hh ss mm ff=>
  obtain⟨a1,a2⟩:=h2 e
  refine .inl ⟨e,⟨h.g,h.rs,?_,?_,?_,?_,?_,ss,?_⟩,a2,⟨mm,ff⟩⟩
  ·show putAll l K.mem=_
   rw[putAllB_snoc,h.mem]
  ·intro x hx
   rcases List.mem_append.1 hx with hx|hx
   ·exact h.bat x hx
   ·rw[List.mem_singleton.1 hx];exact⟨hok,hz,hbz'⟩
  ·rw[List.map_append,List.sum_append];simpa using hfew
  ·rw[List.length_append];exact hnum
  ·rw[List.map_append];exact hh
  ·show(appendW K.w K.d (fileK nm walK K.m.wal.toNat) [batchK l]).1=_
   rw[a1,h.w]
   simp only[List.length_append,List.length_singleton,List.map_append,List.map_singleton,lenT_app,Wv.mk.injEq]
   refine⟨by omega,by omega,trivial⟩
 |down e hh mm ff=>exact .inr (.inl ⟨e,hh,ff,mm⟩)
 |full e hh ss mm ff kk=>
  obtain⟨a1,a2⟩:=h3 e
  refine .inr (.inr ⟨e,?_,kk⟩)
  rw[a1,a2]
theorem chk_ok{m:Mn}(hh:m.head=false)(hr:∀ n∈m.runs,1≤n∧n<m.next∧n≠m.wal)(hnd:m.runs.Nodup):m.chk=true:=by
 unfold Mn.chk
 rw[hh,Bool.not_false,Bool.true_and,List.all_eq_true]
 intro k hk
 have hk':=List.mem_range.1 hk
 unfold Mn.okAt
 rw[List.getElem?_eq_getElem hk']
 obtain⟨h1,h2,h3⟩:=hr _ (List.getElem_mem hk')
 have e1:m.bad m.runs[k]=false:=by unfold Mn.bad;simp;omega
 have e2:(m.runs.take k).contains m.runs[k]=false:=by
  cases e:(m.runs.take k).contains m.runs[k]with
  |false=>rfl
  |true=>
   have hmem:=List.contains_iff_mem.1 e
   obtain⟨i,hi,he⟩:=List.getElem_of_mem hmem
   rw[List.length_take]at hi
   rw[List.getElem_take]at he
   have:=(List.getElem_inj hnd).1 he
   omega
 have e3:decide (m.runs[k]=m.wal)=false:=decide_eq_false h3
 simp only[e1,e2,e3,Bool.or_self,Bool.not_false]
theorem MnG.len256{m:Mn}{ls:List (List Pr)}(h:MnG m ls):m.runs.length≤256:=by
 have:=Mn.chk_head h.chk
 simp only[Mn.head,Bool.or_eq_false_iff,decide_eq_false_iff_not]at this
 omega
theorem mnG_flush{K:Kv}{ls:List (List Pr)}(h:MnG K.m ls)(hr:K.m.runs.length<256)(hn:K.m.next+2≤1000000){l:List Pr}(hok:∀ p∈l,okP p=true)(hs:Sorted l)(hz:(runB l).size≤16777216)(hlz:l.length≤1000000):MnG K.nxF (ls++[l]):=by
 have h1:=h.wn
 have h0:=h.w0
 have hrn:∀ n∈K.nxF.runs,1≤n∧n<K.nxF.next∧n≠K.nxF.wal:=fun n hn'=>by
  show 1≤n∧n<K.m.next+2∧n≠K.m.next+1
  rcases List.mem_append.1 (show n∈K.m.runs++[K.m.next]from hn')with h2|h2
  ·have:=h.rn n h2;omega
  ·rw[List.mem_singleton.1 h2];omega
 have hnd:K.nxF.runs.Nodup:=by
  show(K.m.runs++[K.m.next]).Nodup
  rw[List.nodup_append]
  refine⟨h.nd,by simp,fun a ha b hb=>?_⟩
  rw[List.mem_singleton.1 hb]
  have:=h.rn a ha;omega
 refine⟨chk_ok ?_ hrn hnd,?_,?_,?_,hn,fun n hn'=>⟨(hrn n hn').1,(hrn n hn').2.1⟩,fun n hn'=>(hrn n hn').2.2,hnd,?_,?_⟩
 ·have q1:decide (256<K.nxF.runs.length)=false:=decide_eq_false (by show ¬ 256<(K.m.runs++[K.m.next]).length;rw[List.length_append,List.length_singleton];omega)
  have q2:decide ((1099511627776:Int)<K.nxF.next)=false:=decide_eq_false (by show ¬ (1099511627776:Int)<K.m.next+2;omega)
  have q3:K.nxF.bad K.nxF.wal=false:=by
   show(decide (K.m.next+1<1)||decide (K.m.next+2≤K.m.next+1))=false
   rw[decide_eq_false (by omega),decide_eq_false (by omega)];rfl
  unfold Mn.head
  rw[q1,q2,q3];rfl
 ·refine⟨?_,?_,fun n hn'=>?_⟩
  ·show 0≤K.m.next+1∧K.m.next+1≤_;omega
  ·show 0≤K.m.next+2∧K.m.next+2≤_;omega
  ·have:=hrn n hn'
   have h3:K.nxF.next=K.m.next+2:=rfl
   omega
 ·show 1≤K.m.next+1;omega
 ·show K.m.next+1<K.m.next+2;omega
 ·show(ls++[l]).length=(K.m.runs++[K.m.next]).length
  rw[List.length_append,List.length_append,h.len];rfl
 ·intro x hx
  rcases List.mem_append.1 hx with hx|hx
  ·exact h.ok x hx
  ·rw[List.mem_singleton.1 hx];exact⟨hok,hs,hz,hlz⟩
theorem mnG_comp{K:Kv}{ls:List (List Pr)}(h:MnG K.m ls)(hn:K.m.next+1≤1000000){l:List Pr}(hok:∀ p∈l,okP p=true)(hs:Sorted l)(hz:(runB l).size≤16777216)(hlz:l.length≤1000000):MnG K.nxC [l]:=by
 have h1:=h.wn
 have h0:=h.w0
 have hrn:∀ n∈K.nxC.runs,1≤n∧n<K.nxC.next∧n≠K.nxC.wal:=fun n hn'=>by
  show 1≤n∧n<K.m.next+1∧n≠K.m.wal
  rw[List.mem_singleton.1 (show n∈[K.m.next]from hn')];omega
 have hnd:K.nxC.runs.Nodup:=by show [K.m.next].Nodup;simp
 refine⟨chk_ok ?_ hrn hnd,?_,h0,?_,hn,fun n hn'=>⟨(hrn n hn').1,(hrn n hn').2.1⟩,fun n hn'=>(hrn n hn').2.2,hnd,rfl,?_⟩
 ·have q1:decide (256<K.nxC.runs.length)=false:=decide_eq_false (by show ¬ 256<[K.m.next].length;simp)
  have q2:decide ((1099511627776:Int)<K.nxC.next)=false:=decide_eq_false (by show ¬ (1099511627776:Int)<K.m.next+1;omega)
  have q3:K.nxC.bad K.nxC.wal=false:=by
   show(decide (K.m.wal<1)||decide (K.m.next+1≤K.m.wal))=false
   rw[decide_eq_false (by omega),decide_eq_false (by omega)];rfl
  unfold Mn.head
  rw[q1,q2,q3];rfl
 ·refine⟨?_,?_,fun n hn'=>?_⟩
  ·show 0≤K.m.wal∧K.m.wal≤_;omega
  ·show 0≤K.m.next+1∧K.m.next+1≤_;omega
  ·have:=hrn n hn'
   have h3:K.nxC.next=K.m.next+1:=rfl
   omega
 ·show K.m.wal<K.m.next+1;omega
 ·intro x hx
  rw[List.mem_singleton.1 hx];exact⟨hok,hs,hz,hlz⟩
theorem oth_run{nm:BA}{m:Mn}{ls:List (List Pr)}(hnm:NmK nm)(hm:MnG m ls){n:Nat}(hn:m.next≤(n:Int))(h48:n<281474976710656):Oth nm m (fileK nm runK n):=
 ⟨hnm.run n,Ne.symm (man_ne_run nm n),fun a ha=>run_ne_wal nm h48 ha,fun x hx=>run_ne nm h48 (hm.r48 x hx) (by have:=hm.rn x hx;omega)⟩
theorem oth_new{nm:BA}{m:Mn}(hnm:NmK nm):Oth nm m (newK nm):=⟨hnm.new,new_ne_man nm,fun a _=>new_ne_wal nm a,fun n _=>new_ne_run nm _⟩
theorem runs_grow(d:Dk)(f:BA)(l:List Pr):(wrK d f l).1.loose.length≤d.loose.length+2:=by
 have h1:=remove_loose d f
 unfold wrK
 cases (!decide ((d.remove f).2=0)&& !decide ((d.remove f).2=3))with
 |true=>rw[cond_true];omega
 |false=>
  rw[cond_false]
  have h2:=append_loose (d.remove f).1 f (runB l)
  have h3:=sync_loose ((d.remove f).1.append f (runB l)).1
  unfold writeR
  split
  ·show(d.remove f).1.loose.length≤_;omega
  ·split
   ·show(d.remove f).1.loose.length≤_;omega
   ·split
    ·show(d.remove f).1.loose.length≤_;omega
    ·split
     ·show((d.remove f).1.append f (runB l)).1.loose.length≤_;omega
     ·omega
theorem man_step{nm:BA}{m m2:Mn}{ls ls2:List (List Pr)}{T T2:BA→Prop}{U:Nat}{d:Dk}(hnm:NmK nm)(hm:MnG m ls)(hm2:MnG m2 ls2)(h:CInv (GFS nm m ls T U) d)(hs:d.still=false)(hnx:m.next≤m2.next)
  (hr:∀ x∈m2.runs.zip ls2,fget (fileK nm runK x.1.toNat) d.files=some (runB x.2))(hT:T2 (ftext (fileK nm walK m2.wal.toNat) d.files)):
  StR d (GFS nm m ls T U) (fun F=>GFS nm m ls T (U+(mBytes m2).size) F∨GFS nm m2 ls2 T2 (U+(mBytes m2).size+(mBytes m2).size) F) (GFS nm m2 ls2 T2 (U+(mBytes m2).size+(mBytes m2).size)) (d.room<((U+(mBytes m2).size:Nat):Int)) (saveD (manK nm) (mBytes m2) d)∧
   ((saveD (manK nm) (mBytes m2) d).2=0→(saveD (manK nm) (mBytes m2) d).1.loose=[]∧∀ k,k≠manK nm→k≠newK nm→fget k (saveD (manK nm) (mBytes m2) d).1.files=fget k d.files):=by
 have hz:(mBytes m2).size≤10000:=by
  have:=hm2.len256
  unfold mBytes mBody
  rw[frameOf_size,put8s_size]
  simp[mNums];omega
 obtain⟨h1,h2⟩:=save_step (nm:=nm) (s:=mBytes m2) (d:=d) (C0:=GFS nm m ls T U) (CW:=GFS nm m ls T (U+(mBytes m2).size)) (C1:=GFS nm m2 ls2 T2 (U+(mBytes m2).size+(mBytes m2).size)) hnm h hs (by omega) (fun F k=>k.nd) (fun F k=>k.del (oth_new hnm) hm.w48) (fun F k=>k.mono (fun _ t=>t) (by omega))
  (fun F j hj k=>k.put (oth_new hnm) hm.w48 (by
   rw[fused_app]
   have:=k.use
   have:=ext_le (mBytes m2) j
   omega) (by unfold mBytes;rw[frameOf_size];omega))
  (fun F k same=>by
   have hu:fused (fdel (newK nm) (fput (manK nm) (mBytes m2) (fput (newK nm) (mBytes m2) F)))≤U+(mBytes m2).size+(mBytes m2).size:=by
    have a1:=fused_del_le (newK nm) (fput (manK nm) (mBytes m2) (fput (newK nm) (mBytes m2) F))
    have a2:=fused_put (manK nm) (mBytes m2) (fput (newK nm) (mBytes m2) F)
    have a3:=fused_put (newK nm) (mBytes m2) F
    have:=k.use
    omega
   have hgo:∀ x,x≠newK nm→x≠manK nm→fget x (fdel (newK nm) (fput (manK nm) (mBytes m2) (fput (newK nm) (mBytes m2) F)))=fget x d.files:=fun x h1 h2=>by
    rw[fget_del _ _ h1,fget_put,if_neg h2,fget_put,if_neg h1];exact same x h1
   refine⟨?_,?_,fun x hx=>?_,fun j h1 h2=>?_,fun x v e=>?_,hu,fdel_nodup _ (fput_nodup _ _ (fput_nodup _ _ k.nd)),?_⟩
   ·rw[fget_del _ _ (Ne.symm (new_ne_man nm)),fget_put,if_pos rfl]
   ·have:ftext (fileK nm walK m2.wal.toNat) (fdel (newK nm) (fput (manK nm) (mBytes m2) (fput (newK nm) (mBytes m2) F)))=ftext (fileK nm walK m2.wal.toNat) d.files:=by
     unfold ftext;rw[hgo _ (Ne.symm (new_ne_wal nm _)) (Ne.symm (man_ne_wal nm _))]
    rw[this];exact hT
   ·rw[hgo _ (Ne.symm (new_ne_run nm _)) (Ne.symm (man_ne_run nm _))];exact hr x hx
   ·rw[hgo _ (Ne.symm (new_ne_wal nm _)) (Ne.symm (man_ne_wal nm _)),← same _ (Ne.symm (new_ne_wal nm _))]
    exact k.hi j (by omega) h2
   ·by_cases e1:x=newK nm
    ·rw[e1,fget_del_self _ (fput_nodup _ _ (fput_nodup _ _ k.nd))]at e;cases e
    ·by_cases e2:x=manK nm
     ·rw[e2];exact hnm.man
     ·rw[hgo x e1 e2]at e;exact h.here.nms x v e
   ·have b1:=fdel_len (newK nm) (fput (manK nm) (mBytes m2) (fput (newK nm) (mBytes m2) F))
    have b2:=fput_len (manK nm) (mBytes m2) (fput (newK nm) (mBytes m2) F)
    have b3:=fput_len (newK nm) (mBytes m2) F
    have b4:1≤(mBytes m2).size:=by unfold mBytes;rw[frameOf_size];omega
    have:=k.cnt
    omega)
 exact⟨h1.weak (fun _ k=>k) (fun _ k=>k) (fun _ k=>k) (fun⟨F,k,hk⟩=>by have:=k.use;omega),h2⟩
theorem KS.setD{nm:BA}{K:Kv}{ls bl:List (List Pr)}{U U':Nat}{d:Dk}(h:KS nm K ls bl U)(hd:CInv (GFS nm K.m ls (TE (bl.map batchK)) U') d)(hs:d.still=false):KS nm {K with d:=d} ls bl U':=
 ⟨h.g,h.rs,h.mem,h.bat,h.few,h.num,hd,hs,h.w⟩
theorem save_loose{nm s:BA}{d:Dk}(h:d.Ok)(hz:s.size≤549755813888):(saveD nm s d).1.loose.length≤d.loose.length+5:=(save_ok h hz).2
theorem reset_loose(w:Wv)(d:Dk)(f:BA):(resetW w d f).2.1.loose.length≤d.loose.length+1:=by
 have h1:=remove_loose d f
 have h2:(remS d f).1.loose.length≤d.loose.length+1:=by
  unfold remS
  split
  ·exact h1
  ·have:=sync_loose (d.remove f).1;omega
 unfold resetW
 split
 ·show d.loose.length≤_;omega
 ·split
  ·exact h1
  ·split
   ·exact h2
   ·exact h2
theorem fget_text{k:BA}{F:FS}(h:fget k F=none):ftext k F=⟨#[]⟩:=by unfold ftext;rw[h];rfl
theorem openW_none{d:Dk}{nm:BA}{n:Nat}(hnm:NmK nm)(hs:d.still=false)(hl:d.loose=[])(hn:fget (fileK nm walK n) d.files=none):openW d (fileK nm walK n)=(d,0,[],0):=by
 have hr:d.read (fileK nm walK n) 0 16777216=(⟨#[]⟩,3):=by
  unfold Dk.read
  have hh:d.has (fileK nm walK n)=false:=by unfold Dk.has;rw[hn];rfl
  rw[live1N hs (hnm.wal n),if_neg (by decide),if_neg (by decide),hh,if_pos (by rfl)]
 have hT:openT d (fileK nm walK n)=(d,0):=by unfold openT;rw[hr,scanOf_nil];rfl
 have hS:openS d=(d,0):=by unfold openS;rw[hl];rfl
 unfold openW
 rw[hr,hT,if_neg (by simp),scanOf_nil,if_neg (show ¬ (0:Int)=71 by decide),if_neg (fun q=>q rfl),hS,if_neg (fun q=>q rfl)]
def KS.U2(U:Nat)(l:List Pr)(m:Mn):Nat:=U+(runB l).size+(mBytes m).size+(mBytes m).size
theorem flush_ks{nm:BA}{K:Kv}{ls bl:List (List Pr)}{U:Nat}(hnm:NmK nm)(h:KS nm K ls bl U)(hr:K.m.runs.length<256)(hn:K.m.next+2≤1000000)(hz:(runB K.mem).size≤16777216)(hlo:K.d.loose.length≤900000):
  MnG K.nxF (ls++[K.mem])∧((K.fl1 nm).1.Ok∧(K.fl1 nm).1.loose.length≤1000000)∧((K.fl2 nm).1.Ok∧(K.fl2 nm).1.loose.length≤1000000)∧
  ((K.fl1 nm).2=0→(K.fl2 nm).2=0→(K.fl2 nm).1.read (fileK nm runK K.m.next.toNat) 0 16777216=(runB K.mem,0)∧openW (K.fl2 nm).1 (fileK nm walK (K.m.next.toNat+1))=((K.fl2 nm).1,0,[],0))∧
  (
   ((K.fl nm).2=0∧KS nm (K.fl nm).1 (ls++[K.mem]) [] (KS.U2 U K.mem K.nxF)∧(K.fl nm).1.d.loose=[]∧Fre K.d (K.fl nm).1.d∧(K.fl nm).1.m=K.nxF∧(K.fl nm).1.rs=K.rs++[(K.m.next,K.mem)]∧(K.fl nm).1.mem=[])∨
   ((K.fl nm).2=20∧CInv (fun F=>GFS nm K.m ls (TE (bl.map batchK)) (KS.U2 U K.mem K.nxF) F∨GFS nm K.nxF (ls++[K.mem]) (TE []) (KS.U2 U K.mem K.nxF) F) (K.fl nm).1.d∧K.d.fuse≠ -1∧(K.fl nm).1.d.room=K.d.room∧(K.fl nm).1.d.loose.length≤K.d.loose.length+8)∨
   ((K.fl nm).2=4∧KS nm (K.fl nm).1 ls bl (KS.U2 U K.mem K.nxF)∧Fre K.d (K.fl nm).1.d∧(K.fl nm).1.m=K.m∧(K.fl nm).1.mem=K.mem∧(K.fl nm).1.rs=K.rs∧K.d.room<((KS.U2 U K.mem K.nxF:Nat):Int)∧(K.fl nm).1.d.loose.length≤K.d.loose.length+8)):=by
 have hmo:=h.memOk
 have h0:=h.g.w0
 have h1:=h.g.wn
 have hg2:=mnG_flush h.g hr hn (l:=K.mem) (fun p hp=>hmo.may p hp) hmo.sorted hz hmo.len
 have hn48:K.m.next.toNat<281474976710656:=by omega
 have hnI:((K.m.next.toNat:Nat):Int)=K.m.next:=by omega
 have hoth:=oth_run hnm h.g (n:=K.m.next.toNat) (by omega) hn48
 obtain⟨w1,w2⟩:=wr_step (l:=K.mem) h.d h.st hoth h.g.w48 (fun p hp=>hmo.may p hp) hmo.sorted (by omega)
 have hl1:=runs_grow K.d (fileK nm runK K.m.next.toNat) K.mem
 have hmz:(mBytes K.nxF).size≤549755813888:=by
  have:=hg2.len256
  unfold mBytes mBody
  rw[frameOf_size,put8s_size]
  simp[mNums];omega
 have e1:K.fl1 nm=wrK K.d (fileK nm runK K.m.next.toNat) K.mem:=rfl
 rw[← e1]at w1 w2 hl1
 have hU:KS.U2 U K.mem K.nxF=U+(runB K.mem).size+(mBytes K.nxF).size+(mBytes K.nxF).size:=rfl
 generalize hUU:KS.U2 U K.mem K.nxF=UU at hU ⊢
 have hok1:(K.fl1 nm).1.Ok:=by
  cases w1 with
  |ok e hh _ _ _=>exact hh.ok
  |down e hh _ _=>exact hh.ok
  |full e hh _ _ _ _=>exact hh.ok
 have hl2:(K.fl2 nm).1.loose.length≤(K.fl1 nm).1.loose.length+5:=save_loose hok1 hmz
 have hok2:(K.fl2 nm).1.Ok:=(save_ok hok1 hmz).1
 have hl3:(K.fl3 nm).2.1.loose.length≤(K.fl2 nm).1.loose.length+1:=reset_loose K.w (K.fl2 nm).1 _
 refine⟨hg2,⟨hok1,by omega⟩,⟨hok2,by omega⟩,?_⟩
 by_cases q1:(K.fl1 nm).2=0
 ·
  have hst1:CInv (GFS nm K.m ls (TE (bl.map batchK)) (U+(runB K.mem).size)) (K.fl1 nm).1∧(K.fl1 nm).1.still=false∧(K.fl1 nm).1.room=K.d.room∧(K.d.fuse= -1→(K.fl1 nm).1.fuse= -1):=by
    cases w1 with
    |ok e hh ss mm ff=>exact⟨hh,ss,mm,ff⟩
    |down e _ _ _=>rw[q1]at e;cases e
    |full e _ _ _ _ _=>rw[q1]at e;cases e
  obtain⟨c1,s1,m1,f1⟩:=hst1
  obtain⟨p1,p2,p3⟩:=w2 q1
  have hzip:K.nxF.runs.zip (ls++[K.mem])=K.m.runs.zip ls++[(K.m.next,K.mem)]:=by
    show(K.m.runs++[K.m.next]).zip (ls++[K.mem])=_
    rw[List.zip_append h.g.len.symm];rfl
  have hwn:fget (fileK nm walK (K.m.next.toNat+1)) (K.fl1 nm).1.files=none:=c1.here.hi _ (by omega) (by omega)
  have hw1:K.nxF.wal.toNat=K.m.next.toNat+1:=by show(K.m.next+1).toNat=_;omega
  obtain⟨t1,t2⟩:=man_step (T2:=TE []) (m2:=K.nxF) (ls2:=ls++[K.mem]) hnm h.g hg2 c1 s1 (by show K.m.next≤K.m.next+2;omega) (fun x hx=>by
    rw[hzip]at hx
    rcases List.mem_append.1 hx with hx|hx
    ·exact c1.here.run x hx
    ·rw[List.mem_singleton.1 hx];exact p1) (by rw[hw1,fget_text hwn];rfl)
  have e2:K.fl2 nm=saveD (manK nm) (mBytes K.nxF) (K.fl1 nm).1:=rfl
  rw[← e2,← hU]at t1
  rw[← e2]at t2
  by_cases q2:(K.fl2 nm).2=0
  · have hst2:CInv (GFS nm K.nxF (ls++[K.mem]) (TE []) UU) (K.fl2 nm).1∧(K.fl2 nm).1.still=false∧(K.fl2 nm).1.room=(K.fl1 nm).1.room∧((K.fl1 nm).1.fuse= -1→(K.fl2 nm).1.fuse= -1):=by
     cases t1 with
     |ok e hh ss mm ff=>exact⟨hh,ss,mm,ff⟩
     |down e _ _ _=>rw[q2]at e;cases e
     |full e _ _ _ _ _=>rw[q2]at e;cases e
    obtain⟨c2,s2,m2,f2⟩:=hst2
    obtain⟨r1,r2⟩:=t2 q2
    refine⟨fun _ _=>⟨(FileAt.mk s2 (hnm.run _) (by rw[r2 _ (Ne.symm (man_ne_run nm _)) (Ne.symm (new_ne_run nm _))];exact p1)).whole hz,openW_none hnm s2 r1 (by rw[r2 _ (Ne.symm (man_ne_wal nm _)) (Ne.symm (new_ne_wal nm _))];exact hwn)⟩,?_⟩
    obtain⟨v1,v2⟩:=rst_step (w:=K.w) (a:=K.m.wal.toNat) hnm hg2 c2 s2 r1 (by rw[h.w]) h.g.w48 (by show((K.m.wal.toNat:Nat):Int)≠K.m.next+1;omega)
    have e3:K.fl3 nm=resetW K.w (K.fl2 nm).1 (fileK nm walK K.m.wal.toNat):=rfl
    rw[← e3]at v1 v2
    have hfl:K.fl nm=(⟨(K.fl3 nm).2.1,K.nxF,⟨0,0,0⟩,[],K.rs++[(K.m.next,K.mem)]⟩,(K.fl3 nm).2.2):=by unfold Kv.fl;rw[if_neg (fun q=>q q1),if_neg (fun q=>q q2)]
    rw[hfl]
    cases v1 with
    |full e _ _ _ _ k=>exact k.elim
    |ok e hh ss mm ff=>
     refine .inl ⟨e,⟨hg2,?_,rfl,(fun l hl=>by cases hl),(by decide),(by decide),hh,ss,rfl⟩,v2 e,⟨(mm.trans m2).trans m1,fun q=>ff (f2 (f1 q))⟩,rfl,rfl,rfl⟩
     show K.rs++[(K.m.next,K.mem)]=K.nxF.runs.zip (ls++[K.mem])
     rw[hzip,h.rs]
    |down e hh mm ff=>exact .inr (.inl ⟨e,hh.mono fun F k=>.inr k,fun q=>ff (f2 (f1 q)),(mm.trans m2).trans m1,by show(K.fl3 nm).2.1.loose.length≤_;omega⟩)
  · refine⟨fun _ q=>absurd q q2,?_⟩
    have hfl:K.fl nm=({K with d:=(K.fl2 nm).1},(K.fl2 nm).2):=by unfold Kv.fl;rw[if_neg (fun q=>q q1),if_pos q2]
    rw[hfl]
    cases t1 with
    |ok e _ _ _ _=>exact absurd e q2
    |down e hh mm ff=>exact .inr (.inl ⟨e,hh.mono (fun F k=>k.imp (fun k=>k.mono (fun _ t=>t) (by omega)) id),fun q=>ff (f1 q),mm.trans m1,by show(K.fl2 nm).1.loose.length≤_;omega⟩)
    |full e hh ss mm ff kk=>exact .inr (.inr ⟨e,h.setD (hh.mono fun F k=>k.mono (fun _ t=>t) (by omega)) ss,⟨mm.trans m1,fun q=>ff (f1 q)⟩,rfl,rfl,rfl,by omega,by show(K.fl2 nm).1.loose.length≤_;omega⟩)
 ·refine⟨fun q=>absurd q q1,?_⟩
  have hfl:K.fl nm=({K with d:=(K.fl1 nm).1},(K.fl1 nm).2):=by unfold Kv.fl;rw[if_pos q1]
  rw[hfl]
  cases w1 with
  |ok e _ _ _ _=>exact absurd e q1
  |down e hh mm ff=>exact .inr (.inl ⟨e,hh.mono (fun F k=>.inl (k.mono (fun _ t=>t) (by omega))),ff,mm,by show(K.fl1 nm).1.loose.length≤_;omega⟩)
  |full e hh ss mm ff kk=>exact .inr (.inr ⟨e,h.setD (hh.mono fun F k=>k.mono (fun _ t=>t) (by omega)) ss,⟨mm,ff⟩,rfl,rfl,rfl,by omega,by show(K.fl1 nm).1.loose.length≤_;omega⟩)
theorem drop_loose(nm:BA):∀ (l:List Int) (d:Dk),(dropL nm l d).1.loose.length≤d.loose.length+l.length
 | [],d=>sync_loose d
 |n::l,d=>by
  have h1:=remove_loose d (fileK nm runK n.toNat)
  have h2:=drop_loose nm l (d.remove (fileK nm runK n.toNat)).1
  rw[List.length_cons]
  show(bif !decide ((d.remove (fileK nm runK n.toNat)).2=0)then d.remove (fileK nm runK n.toNat)else dropL nm l (d.remove (fileK nm runK n.toNat)).1).1.loose.length≤_
  cases (!decide ((d.remove (fileK nm runK n.toNat)).2=0))with
  |true=>rw[cond_true];omega
  |false=>rw[cond_false];omega
theorem comp_ks{nm:BA}{K:Kv}{ls bl:List (List Pr)}{U:Nat}(hnm:NmK nm)(h:KS nm K ls bl U)(hn:K.m.next+1≤1000000)(hok:∀ p∈K.outC,okP p=true)(hso:Sorted K.outC)(hoz:K.outC.length≤1000000)(hz:(runB K.outC).size≤16777216)(hlo:K.d.loose.length≤900000):
  MnG K.nxC [K.outC]∧((K.c1 nm).1.Ok∧(K.c1 nm).1.loose.length≤1000000)∧((K.c2 nm).1.Ok∧(K.c2 nm).1.loose.length≤1000000)∧
  ((K.c1 nm).2=0→(K.c2 nm).2=0→(K.c2 nm).1.read (fileK nm runK K.m.next.toNat) 0 16777216=(runB K.outC,0))∧
  (
   ((K.cmp nm).2=0∧KS nm (K.cmp nm).1 [K.outC] bl (KS.U2 U K.outC K.nxC)∧(K.cmp nm).1.d.loose=[]∧Fre K.d (K.cmp nm).1.d∧(K.cmp nm).1.m=K.nxC∧(K.cmp nm).1.rs=[(K.m.next,K.outC)]∧(K.cmp nm).1.mem=K.mem)∨
   ((K.cmp nm).2=20∧CInv (fun F=>GFS nm K.m ls (TE (bl.map batchK)) (KS.U2 U K.outC K.nxC) F∨GFS nm K.nxC [K.outC] (TE (bl.map batchK)) (KS.U2 U K.outC K.nxC) F) (K.cmp nm).1.d∧K.d.fuse≠ -1∧(K.cmp nm).1.d.room=K.d.room∧(K.cmp nm).1.d.loose.length≤K.d.loose.length+300)∨
   ((K.cmp nm).2=4∧KS nm (K.cmp nm).1 ls bl (KS.U2 U K.outC K.nxC)∧Fre K.d (K.cmp nm).1.d∧(K.cmp nm).1.m=K.m∧(K.cmp nm).1.mem=K.mem∧(K.cmp nm).1.rs=K.rs∧K.d.room<((KS.U2 U K.outC K.nxC:Nat):Int)∧(K.cmp nm).1.d.loose.length≤K.d.loose.length+300)):=by
 have h0:=h.g.w0
 have h1:=h.g.wn
 have hg2:=mnG_comp h.g hn (l:=K.outC) hok hso hz hoz
 have hn48:K.m.next.toNat<281474976710656:=by omega
 have hnI:((K.m.next.toNat:Nat):Int)=K.m.next:=by omega
 have hoth:=oth_run hnm h.g (n:=K.m.next.toNat) (by omega) hn48
 obtain⟨w1,w2⟩:=wr_step (l:=K.outC) h.d h.st hoth h.g.w48 hok hso (by omega)
 have hl1:=runs_grow K.d (fileK nm runK K.m.next.toNat) K.outC
 have hmz:(mBytes K.nxC).size≤549755813888:=by
  have:=hg2.len256
  unfold mBytes mBody
  rw[frameOf_size,put8s_size]
  simp[mNums];omega
 have e1:K.c1 nm=wrK K.d (fileK nm runK K.m.next.toNat) K.outC:=rfl
 rw[← e1]at w1 w2 hl1
 have hU:KS.U2 U K.outC K.nxC=U+(runB K.outC).size+(mBytes K.nxC).size+(mBytes K.nxC).size:=rfl
 generalize hUU:KS.U2 U K.outC K.nxC=UU at hU ⊢
 have hok1:(K.c1 nm).1.Ok:=by
  cases w1 with
  |ok e hh _ _ _=>exact hh.ok
  |down e hh _ _=>exact hh.ok
  |full e hh _ _ _ _=>exact hh.ok
 have hl2:(K.c2 nm).1.loose.length≤(K.c1 nm).1.loose.length+5:=save_loose hok1 hmz
 have hok2:(K.c2 nm).1.Ok:=(save_ok hok1 hmz).1
 have h256:=h.g.len256
 have hl3:(K.c4 nm).1.loose.length≤(K.c2 nm).1.loose.length+K.m.runs.length:=drop_loose nm K.m.runs (K.c2 nm).1
 refine⟨hg2,⟨hok1,by omega⟩,⟨hok2,by omega⟩,?_⟩
 by_cases q1:(K.c1 nm).2=0
 ·have hst1:CInv (GFS nm K.m ls (TE (bl.map batchK)) (U+(runB K.outC).size)) (K.c1 nm).1∧(K.c1 nm).1.still=false∧(K.c1 nm).1.room=K.d.room∧(K.d.fuse= -1→(K.c1 nm).1.fuse= -1):=by
    cases w1 with
    |ok e hh ss mm ff=>exact⟨hh,ss,mm,ff⟩
    |down e _ _ _=>rw[q1]at e;cases e
    |full e _ _ _ _ _=>rw[q1]at e;cases e
  obtain⟨c1,s1,m1,f1⟩:=hst1
  obtain⟨p1,p2,p3⟩:=w2 q1
  obtain⟨t1,t2⟩:=man_step (T2:=TE (bl.map batchK)) (m2:=K.nxC) (ls2:=[K.outC]) hnm h.g hg2 c1 s1 (by show K.m.next≤K.m.next+1;omega) (fun x hx=>by
    rw[List.mem_singleton.1 (show x∈[(K.m.next,K.outC)]from hx)];exact p1) c1.here.wal
  have e2:K.c2 nm=saveD (manK nm) (mBytes K.nxC) (K.c1 nm).1:=rfl
  rw[← e2,← hU]at t1
  rw[← e2]at t2
  by_cases q2:(K.c2 nm).2=0
  · have hst2:CInv (GFS nm K.nxC [K.outC] (TE (bl.map batchK)) UU) (K.c2 nm).1∧(K.c2 nm).1.still=false∧(K.c2 nm).1.room=(K.c1 nm).1.room∧((K.c1 nm).1.fuse= -1→(K.c2 nm).1.fuse= -1):=by
     cases t1 with
     |ok e hh ss mm ff=>exact⟨hh,ss,mm,ff⟩
     |down e _ _ _=>rw[q2]at e;cases e
     |full e _ _ _ _ _=>rw[q2]at e;cases e
    obtain⟨c2,s2,m2,f2⟩:=hst2
    obtain⟨r1,r2⟩:=t2 q2
    refine⟨fun _ _=>(FileAt.mk s2 (hnm.run _) (by rw[r2 _ (Ne.symm (man_ne_run nm _)) (Ne.symm (new_ne_run nm _))];exact p1)).whole hz,?_⟩
    have hrun:∀ n∈K.m.runs,(fget (fileK nm runK n.toNat) (K.c1 nm).1.files).isSome=true:=fun n hn'=>by
     obtain⟨i,hi,rfl⟩:=List.getElem_of_mem hn'
     have hi2:i<ls.length:=by rw[h.g.len];exact hi
     have hm:(K.m.runs[i],ls[i])∈K.m.runs.zip ls:=by
      have hlt:i<(K.m.runs.zip ls).length:=by rw[List.length_zip];omega
      have:=List.getElem_mem hlt
      rw[List.getElem_zip]at this
      exact this
     rw[c1.here.run _ hm];rfl
    obtain⟨v1,v2⟩:=drop_step (m:=K.nxC) hnm hg2 K.m.runs (K.c2 nm).1 c2 s2 h.g.nd (fun n hn'=>by
     have:=h.g.rn n hn'
     refine⟨by omega,by omega,fun q=>?_,?_⟩
     ·rw[List.mem_singleton.1 (show n∈[K.m.next]from q)]at this;omega
     ·rw[r2 _ (Ne.symm (man_ne_run nm _)) (Ne.symm (new_ne_run nm _))];exact hrun n hn')
    have e3:K.c4 nm=dropL nm K.m.runs (K.c2 nm).1:=rfl
    rw[← e3]at v1 v2
    have hfl:K.cmp nm=(⟨(K.c4 nm).1,K.nxC,K.w,K.mem,[(K.m.next,K.outC)]⟩,(K.c4 nm).2):=by unfold Kv.cmp;rw[if_neg (fun q=>q q1),if_neg (fun q=>q q2)]
    rw[hfl]
    cases v1 with
    |full e _ _ _ _ k=>exact k.elim
    |ok e hh ss mm ff=>exact .inl ⟨e,⟨hg2,rfl,h.mem,h.bat,h.few,h.num,hh,ss,h.w⟩,(v2 e).1,⟨(mm.trans m2).trans m1,fun q=>ff (f2 (f1 q))⟩,rfl,rfl,rfl⟩
    |down e hh mm ff=>exact .inr (.inl ⟨e,hh.mono fun F k=>.inr k,fun q=>ff (f2 (f1 q)),(mm.trans m2).trans m1,by show(K.c4 nm).1.loose.length≤_;omega⟩)
  · refine⟨fun _ q=>absurd q q2,?_⟩
    have hfl:K.cmp nm=({K with d:=(K.c2 nm).1},(K.c2 nm).2):=by unfold Kv.cmp;rw[if_neg (fun q=>q q1),if_pos q2]
    rw[hfl]
    cases t1 with
    |ok e _ _ _ _=>exact absurd e q2
    |down e hh mm ff=>exact .inr (.inl ⟨e,hh.mono (fun F k=>k.imp (fun k=>k.mono (fun _ t=>t) (by omega)) id),fun q=>ff (f1 q),mm.trans m1,by show(K.c2 nm).1.loose.length≤_;omega⟩)
    |full e hh ss mm ff kk=>exact .inr (.inr ⟨e,h.setD (hh.mono fun F k=>k.mono (fun _ t=>t) (by omega)) ss,⟨mm.trans m1,fun q=>ff (f1 q)⟩,rfl,rfl,rfl,by omega,by show(K.c2 nm).1.loose.length≤_;omega⟩)
 ·refine⟨fun q=>absurd q q1,?_⟩
  have hfl:K.cmp nm=({K with d:=(K.c1 nm).1},(K.c1 nm).2):=by unfold Kv.cmp;rw[if_pos q1]
  rw[hfl]
  cases w1 with
  |ok e _ _ _ _=>exact absurd e q1
  |down e hh mm ff=>exact .inr (.inl ⟨e,hh.mono (fun F k=>.inl (k.mono (fun _ t=>t) (by omega))),ff,mm,by show(K.c1 nm).1.loose.length≤_;omega⟩)
  |full e hh ss mm ff kk=>exact .inr (.inr ⟨e,h.setD (hh.mono fun F k=>k.mono (fun _ t=>t) (by omega)) ss,⟨mm,ff⟩,rfl,rfl,rfl,by omega,by show(K.c1 nm).1.loose.length≤_;omega⟩)
end Go.Proofs.YtgbmjoenbocfcaaGreat
namespace Go.Proofs.YtgbmjoenbocfcaaGreat
open Go Go.Fx Go.Proofs Go.Pl
inductive OpR
 |up (kb mb:Nat) (K:Kv) (bl:List (List Pr))
 |down (d:Dk)
def OpR.ret:OpR→Value
 | .up kb _ _ _=>.tuple #[.pointer (some ⟨kb,0,none⟩),.int .i64 0]
 | .down _=>.tuple #[.pointer none,.int .i64 20]
def OpR.post(b:Nat)(nm:BA):OpR→List HProp
 | .up kb mb K _=>[stP kb b nm mb 0 (kvD b mb nm K)]
 | .down d=>[diskP b d]
def OpR.Ok(nm:BA)(m:Mn)(ls bl nb:List (List Pr))(U:Nat)(d:Dk):OpR→Prop
 | .up _ _ K bl'=>KS nm K ls bl' U∧K.m=m∧K.d.loose=[]∧Fre d K.d∧∃ j,bl'=bl++nb.take j
 | .down d'=>CInv (GFS nm m ls (TX (bl.map batchK) (nb.map batchK)) U) d'∧d.fuse≠ -1∧d'.room=d.room∧d'.loose.length≤d.loose.length+U+5
structure BatK(bl:List (List Pr)):Prop where
 bat:∀ l∈bl,(∀ p∈l,okP p=true)∧l.length≤4096∧(batchK l).size≤4194304
 few:(bl.map List.length).sum≤100000
 num:bl.length≤100000
theorem BatK.take{bl nb:List (List Pr)}(h:BatK (bl++nb))(j:Nat):BatK (bl++nb.take j):=by
 have hs:((nb.take j).map List.length).sum≤(nb.map List.length).sum:=by
  have e:(nb.map List.length).sum=((nb.take j).map List.length).sum+((nb.drop j).map List.length).sum:=by
   rw[← List.sum_append,← List.map_append,List.take_append_drop]
  omega
 have hl:(nb.take j).length≤nb.length:=List.length_take_le' j nb
 refine⟨fun l hl=>h.bat l ?_,?_,?_⟩
 ·rcases List.mem_append.1 hl with hl|hl
  ·exact List.mem_append_left _ hl
  ·exact List.mem_append_right _ (List.mem_of_mem_take hl)
 ·have:=h.few
  rw[List.map_append,List.sum_append]at this ⊢
  omega
 ·have:=h.num
  rw[List.length_append]at this ⊢
  omega
theorem BatK.allOk{bl:List (List Pr)}(h:BatK bl):allOk (bl.map batchK)=true:=by
 show(bl.map batchK).all _=true
 rw[List.all_eq_true]
 intro x hx
 obtain⟨l,hl,rfl⟩:=List.mem_map.1 hx
 have:=(h.bat l hl).2.2
 simpa using this
theorem openW_loose(d:Dk)(f:BA):(openW d f).1.loose.length≤d.loose.length+1:=by
 have ht:(openT d f).1.loose.length≤d.loose.length+1:=by
  unfold openT
  split
  ·unfold Dk.truncate
   split
   ·show d.loose.length≤_;omega
   ·split
    ·show d.loose.length≤_;omega
    ·split
     ·show d.loose.length≤_;omega
     ·split
      ·show d.loose.length≤_;omega
      ·exact doC_loose d _
  ·show d.loose.length≤_;omega
 have hs:∀ x:Dk,(openS x).1.loose.length≤x.loose.length:=fun x=>by
  unfold openS
  split
  ·exact sync_loose x
  ·exact Nat.le_refl _
 have h2:=hs (openT d f).1
 unfold openW
 split
 ·show d.loose.length≤_;omega
 ·split
  ·show d.loose.length≤_;omega
  ·split
   ·exact ht
   ·split
    ·show(openS (openT d f).1).1.loose.length≤_;omega
    ·show(openS (openT d f).1).1.loose.length≤_;omega
theorem kOpen_core(b:Nat){nm:BA}{m:Mn}{ls bl nb:List (List Pr)}{U:Nat}{d0 d:Dk}(hnm:NmK nm)(hd0:d0.Ok)(hl0:d0.loose.length≤1000000)(e1:loadK nm d0=(m,d,0))(hm:MnG m ls)(hb:BatK (bl++nb))(h:CInv (GFS nm m ls (TX (bl.map batchK) (nb.map batchK)) U) d)(hs:d.still=false)(hl:d.loose.length≤90000)(hU:U≤900000):
  FSpec Tryz.prog 12 [.pointer (some ⟨b,0,none⟩),.string nm] [diskP b d0] OpR (OpR.Ok nm m ls bl nb U d) OpR.ret (OpR.post b nm):=by
 have h1:=hnm.all.2
 have h32:=hnm.le
 have hnms:∀ x∈d.files.map (·.1),mayN x=true:=fun x hx=>by
  cases e:fget x d.files with
  |some v=>exact h.here.nms x v e
  |none=>exact absurd hx (fget_none e)
 have hcn:d.files.length≤1000000:=by have:=h.here.cnt;omega
 have hsl:=sweep_loose nm m d
 have hcnt:=h.here.cnt
 have h256:=hm.len256
 have hbH:BatK bl:=by have:=hb.take 0;simpa using this
 have hokH:=hbH.allOk
 have hokL:allOk (nb.map batchK)=true:=by
  have:=hb.allOk
  rw[List.map_append,allOk_app,Bool.and_eq_true]at this
  exact this.2
 have hnk:NumK m:=⟨by have:=hm.w0;have:=hm.wn;have:=hm.nx;omega,fun n hn=>by have:=hm.rn n hn;have:=hm.nx;omega,h256⟩
 have hz:(m.runs.zip ls).map (·.1)=m.runs:=by rw[List.map_fst_zip];rw[hm.len];exact Nat.le_refl _
 have hsw:=sweep_step hm h hs
 cases hsw with
 |full e _ _ _ _ k=>exact k.elim
 |down e hh mm ff=>
  exact(kOpenE2 b nm d0 d m h1 h32 hd0 hl0 e1 h.ok (by omega) (by omega) hnms hcn (by rw[e];decide)).conseq (fun R h s=>s) (fun y _=>⟨.down (sweepK nm m d).1,⟨hh,ff,mm,by omega⟩,by rw[e];rfl,fun R h s=>s⟩)
 |ok e hh ss mm ff=>
  have hr:RunsOn nm (sweepK nm m d).1 (m.runs.zip ls):=fun x hx=>by
   have hx2:=(List.of_mem_zip (a:=x.1) (b:=x.2) hx).2
   obtain⟨o1,o2,o3,o4⟩:=hm.ok _ hx2
   exact⟨(FileAt.mk ss (hnm.run _) (hh.here.run x hx)).whole o3,o1,sorted_rise o2⟩
  have hwl:=openW_loose (sweepK nm m d).1 (fileK nm walK m.wal.toNat)
  rcases open_step hnm hm hh ss hokH hokL with⟨a1,j,a2,a3,a4,a5,a6,a7⟩|⟨a1,a2,a3,a4⟩
  ·have hbt:=hb.take j
   have e3:openW (sweepK nm m d).1 (fileK nm walK m.wal.toNat)=((openW (sweepK nm m d).1 (fileK nm walK m.wal.toNat)).1,0,(bl++nb.take j).map batchK,lenT ((bl++nb.take j).map batchK)):=by
    have q:(bl++nb.take j).map batchK=bl.map batchK++(nb.map batchK).take j:=by rw[List.map_append,List.map_take]
    rw[q]
    exact Prod.ext rfl (Prod.ext a1 a2)
   have hmm:∀ i l,(bl++nb.take j)[i]? =some l→∀ t,t<l.length→MemOk (putAll (l.take t) (putAllB ((bl++nb.take j).take i) [])):=fun i l hi t ht=>by
    obtain⟨hi',rfl⟩:=List.getElem?_eq_some_iff.1 hi
    have hmem:=List.getElem_mem hi'
    have s1:Sorted (putAllB ((bl++nb.take j).take i) []):=putAllB_sorted _ List.Pairwise.nil
    refine memOk_of (putAll_sorted _ s1) (fun p hp=>?_) ?_
    ·rcases mem_putAll hp with hp|hp
     ·exact(hbt.bat _ hmem).1 p (List.mem_of_mem_take hp)
     ·exact bat_ok (fun l hl=>(hbt.bat l (List.mem_of_mem_take hl)).1) p hp
    ·have q1:=putAll_len ((bl++nb.take j)[i].take t) s1
     have q2:=putAllB_len ((bl++nb.take j).take i) (m:=[]) List.Pairwise.nil
     have q3:=hbt.few
     have q4:(((bl++nb.take j).take i).map List.length).sum≤((bl++nb.take j).map List.length).sum:=by
      have e:((bl++nb.take j).map List.length).sum=(((bl++nb.take j).take i).map List.length).sum+(((bl++nb.take j).drop i).map List.length).sum:=by
       rw[← List.sum_append,← List.map_append,List.take_append_drop]
      omega
     have q5:=(hbt.bat _ hmem).2.1
     have q6:((bl++nb.take j)[i].take t).length≤(bl++nb.take j)[i].length:=List.length_take_le' t _
     simp only[List.length_nil,Nat.zero_add]at q2
     omega
   refine(kOpenOk b nm d0 d (sweepK nm m d).1 (openW (sweepK nm m d).1 (fileK nm walK m.wal.toNat)).1 m (lenT ((bl++nb.take j).map batchK)) ls (bl++nb.take j) h1 h32 hd0 hl0 e1 h.ok (by omega) hnms hcn (Prod.ext rfl e) hh.ok (by omega) hnk hz hr e3 (by have:=hbt.num;omega) (fun l hl=>⟨(hbt.bat l hl).1,(hbt.bat l hl).2.1⟩) hmm).conseq (fun R h s=>s) (fun y _=>?_)
   refine⟨.up y.1 y.2 ⟨(openW (sweepK nm m d).1 (fileK nm walK m.wal.toNat)).1,m,⟨((bl++nb.take j).length:Nat),(lenT ((bl++nb.take j).map batchK):Nat),0⟩,putAllB (bl++nb.take j) [],m.runs.zip ls⟩ (bl++nb.take j),⟨⟨hm,rfl,rfl,hbt.bat,hbt.few,hbt.num,?_,a5,rfl⟩,rfl,a4,⟨a6.trans mm,fun q=>a7 (ff q)⟩,j,rfl⟩,rfl,fun R h s=>s⟩
   rw[List.map_append,List.map_take]
   exact a3
  ·exact(kOpenE3 b nm d0 d (sweepK nm m d).1 m ls h1 h32 hd0 hl0 e1 h.ok (by omega) hnms hcn (Prod.ext rfl e) hh.ok (by omega) hnk hz hr (by rw[a1];decide)).conseq (fun R h s=>s) (fun y _=>⟨.down (openW (sweepK nm m d).1 (fileK nm walK m.wal.toNat)).1,⟨a2,fun q=>a3 (ff q),a4.trans mm,by omega⟩,by rw[a1];rfl,fun R h s=>s⟩)
theorem kOpen_ks(b:Nat){nm:BA}{m:Mn}{ls bl nb:List (List Pr)}{U:Nat}{d:Dk}(hnm:NmK nm)(hm:MnG m ls)(hb:BatK (bl++nb))(h:CInv (GFS nm m ls (TX (bl.map batchK) (nb.map batchK)) U) d)(hs:d.still=false)(hl:d.loose.length≤90000)(hU:U≤900000):
  FSpec Tryz.prog 12 [.pointer (some ⟨b,0,none⟩),.string nm] [diskP b d] OpR (OpR.Ok nm m ls bl nb U d) OpR.ret (OpR.post b nm):=
 kOpen_core b hnm h.ok (by omega) (load_step hnm hm h hs) hm hb h hs hl hU
theorem mn1K_g:MnG mn1K []:=⟨mn1K_chk,mn1K_wf,by decide,by decide,by decide,(fun n hn=>by cases hn),(fun n hn=>by cases hn),List.nodup_nil,rfl,(fun l hl=>by cases hl)⟩
def U0K:Nat:=(mBytes mn1K).size+(mBytes mn1K).size
theorem mn1K_size:(mBytes mn1K).size≤200∧12≤(mBytes mn1K).size:=by
 unfold mBytes mBody
 rw[frameOf_size,put8s_size]
 simp[mNums,mn1K]
theorem new_step{nm:BA}{room:Int}(hnm:NmK nm)(h0:0≤room)(h1:room≤16777216):
  ((loadK nm (newD room)).2.2=0∧(loadK nm (newD room)).1=mn1K∧CInv (GFS nm mn1K [] (TE []) U0K) (loadK nm (newD room)).2.1∧(loadK nm (newD room)).2.1.still=false∧(loadK nm (newD room)).2.1.room=room∧(loadK nm (newD room)).2.1.fuse= -1∧(loadK nm (newD room)).2.1.loose=[])∨
  ((loadK nm (newD room)).2.2=4∧room<200):=by
 have hok:=Dk.Ok.new h0 h1
 have hz:=mn1K_size
 have hr:(newD room).read (manK nm) 0 16777216=(⟨#[]⟩,3):=by
  unfold Dk.read
  rw[live1N rfl hnm.man,if_neg (by decide),if_neg (by decide),if_pos (by rfl)]
 have hld:loadD (manK nm) (newD room)=(mn0,3):=by unfold loadD;rw[hr,if_pos (by decide)]
 have hL:loadK nm (newD room)=(mn1K,saveD (manK nm) (mBytes mn1K) (newD room)):=by unfold loadK;rw[hld,if_pos rfl]
 rw[hL]
 have hnil:∀ F:FS,F=[]→fdel (newK nm) F=[]:=fun F h=>by rw[h];rfl
 obtain⟨a1,a2⟩:=save_step (nm:=nm) (s:=mBytes mn1K) (d:=newD room) (C0:=fun F=>F=[]) (CW:=fun _=>True) (C1:=GFS nm mn1K [] (TE []) U0K) hnm (CInv.set hok rfl rfl) rfl (by omega) (fun F h=>by rw[h];exact List.nodup_nil) hnil (fun _ _=>trivial) (fun _ _ _ _=>trivial)
  (fun F hF _=>by
   subst hF
   have e1:fput (newK nm) (mBytes mn1K) []=[(newK nm,mBytes mn1K)]:=rfl
   have e2:fput (manK nm) (mBytes mn1K) [(newK nm,mBytes mn1K)]=[(newK nm,mBytes mn1K),(manK nm,mBytes mn1K)]:=by
    unfold fput;rw[if_neg (Ne.symm (new_ne_man nm))];rfl
   have e3:fdel (newK nm) [(newK nm,mBytes mn1K),(manK nm,mBytes mn1K)]=[(manK nm,mBytes mn1K)]:=by
    unfold fdel;rw[if_pos rfl]
   rw[e1,e2,e3]
   have hg:∀ k,fget k [(manK nm,mBytes mn1K)]=if k=manK nm then some (mBytes mn1K)else none:=fun k=>rfl
   refine⟨by rw[hg,if_pos rfl],?_,fun x hx=>(by cases hx),fun k _ _=>by rw[hg,if_neg (Ne.symm (man_ne_wal nm k))],fun k v e=>?_,?_,by simp,?_⟩
   ·show ftext (fileK nm walK 1) _=framesOf []
    rw[fget_text (by rw[hg,if_neg (Ne.symm (man_ne_wal nm 1))])];rfl
   ·rw[hg]at e
    split at e
    ·rename_i e';rw[e'];exact hnm.man
    ·cases e
   ·show(([(manK nm,mBytes mn1K)]:FS).map (fun x=>x.2.size)).sum≤_
    simp[U0K]
   ·simp[U0K];omega)
 cases a1 with
 |ok e hh ss mm ff=>exact .inl ⟨e,rfl,hh,ss,mm,ff rfl,(a2 e).1⟩
 |down e hh mm ff=>exact absurd rfl ff
 |full e hh ss mm ff kk=>
  obtain⟨F,hF,hk⟩:=kk
  subst hF
  refine .inr ⟨e,?_⟩
  have:(fused ([]:FS):Int)=0:=rfl
  rw[this]at hk
  have:(newD room).room=room:=rfl
  omega
end Go.Proofs.YtgbmjoenbocfcaaGreat
namespace Go.Proofs.YtgbmjoenbocfcaaGreat
open Go Go.Fx Go.Pl
def liveL(l:List Pr):List Pr:=l.filter fun p=> !p.g
def lvO(o:Option Pr):Option Pr:=o.filter fun p=> !p.g
def conK(K:Kv):List Pr:=liveL (putAllB (allS K) [])
theorem liveL_sorted{l:List Pr}(h:Sorted l):Sorted (liveL l):=sorted_filter _ h
theorem look_live(k:BA):∀ {l:List Pr},Sorted l→Pl.look k (liveL l)=lvO (Pl.look k l)
 | [],_=>rfl
 |p::l,h=>by
  have ih:=look_live k (List.pairwise_cons.1 h).2
  unfold liveL at ih ⊢
  rw[List.filter_cons,look_cons]
  cases e:(k.toList==p.k.toList)with
  |false=>
   cases hp:(!p.g)with
   |true=>rw[if_pos rfl,look_cons,e,ih];rfl
   |false=>rw[if_neg (by simp),ih];rfl
  |true=>
   obtain rfl:=eqS_iff.1 e
   cases hp:(!p.g)with
   |true=>rw[if_pos rfl,look_head];unfold lvO;rw[if_pos rfl,of_some (f:=fun p=> !p.g),hp];rfl
   |false=>
    rw[if_neg (by simp),ih,look_none (sorted_gt h)]
    unfold lvO;rw[if_pos rfl,of_some (f:=fun p=> !p.g),hp];rfl
def lastK(k:BA)(l:List Pr):Option Pr:=l.foldl (fun o p=>if k.toList==p.k.toList then some p else o) none
theorem look_putAll2(k:BA)(l:List Pr):∀ m:List Pr,Pl.look k (putAll l m)=(lastK k l).or (Pl.look k m):=by
 have gen:∀ (l m:List Pr) (o:Option Pr),(Pl.look k m=o)→Pl.look k (putAll l m)=l.foldl (fun o p=>if k.toList==p.k.toList then some p else o) o:=by
  intro l
  induction l with
  |nil=>intro m o h;exact h
  |cons p l ih=>
   intro m o h
   show Pl.look k (putAll l (ins p m))=_
   rw[List.foldl_cons]
   exact ih (ins p m) _ (by rw[look_ins,h])
 have or2:∀ (l:List Pr) (o:Option Pr),l.foldl (fun o p=>if k.toList==p.k.toList then some p else o) o=(l.foldl (fun o p=>if k.toList==p.k.toList then some p else o) none).or o:=by
  intro l
  induction l with
  |nil=>intro o;rfl
  |cons p l ih=>
   intro o
   rw[List.foldl_cons,List.foldl_cons,ih,ih (if(k.toList==p.k.toList)=true then some p else none)]
   cases (k.toList==p.k.toList)with
   |true=>rw[if_pos rfl,if_pos rfl,Option.or_assoc];rfl
   |false=>rw[if_neg (by simp),if_neg (by simp),Option.or_none]
 intro m
 rw[gen l m _ rfl,or2];rfl
theorem lvO_or(a b:Option Pr):lvO (a.or (lvO b))=lvO (a.or b):=by
 cases a with
 |some p=>rfl
 |none=>
  cases b with
  |none=>rfl
  |some q=>
   unfold lvO
   simp only[Option.none_or,of_some (f:=fun p=> !p.g)]
   cases hq:(!q.g)with
   |false=>rfl
   |true=>rw[if_pos rfl,of_some (f:=fun p=> !p.g),hq];rfl
theorem live_put{l m:List Pr}(h:Sorted m):liveL (putAll l (liveL m))=liveL (putAll l m):=by
 refine sorted_ext (liveL_sorted (putAll_sorted _ (liveL_sorted h))) (liveL_sorted (putAll_sorted _ h)) fun k=>?_
 rw[look_live k (putAll_sorted _ (liveL_sorted h)),look_live k (putAll_sorted _ h),look_putAll2,look_putAll2,look_live k h,lvO_or]
theorem putAll_twice{l m n:List Pr}(hm:Sorted m)(hn:Sorted n):putAll (putAll l m) n=putAll l (putAll m n):=by
 refine sorted_ext (putAll_sorted _ hn) (putAll_sorted _ (putAll_sorted _ hn)) fun k=>?_
 rw[look_putAll k n (putAll_sorted _ hm),look_putAll2,look_putAll2,look_putAll k n hm,Option.or_assoc]
theorem allS_put{K:Kv}{rs:List (Int×List Pr)}(h:K.rs=rs):putAllB (allS K) []=putAll K.mem (putAllB (rs.map (·.2)) []):=by
 unfold allS
 rw[h,putAllB_snoc]
theorem runs_sorted(K:Kv):Sorted (putAllB (K.rs.map (·.2)) []):=putAllB_sorted _ List.Pairwise.nil
theorem con_apply{K K':Kv}{l:List Pr}(hm:Sorted K.mem)(h1:K'.rs=K.rs)(h2:K'.mem=putAll l K.mem):conK K'=liveL (putAll l (conK K)):=by
 unfold conK
 rw[live_put (putAllB_sorted _ List.Pairwise.nil),allS_put h1,allS_put (K:=K) rfl,h2,putAll_twice hm (runs_sorted K)]
theorem con_flush{K K':Kv}{n:Int}(h1:K'.rs=K.rs++[(n,K.mem)])(h2:K'.mem=[]):conK K'=conK K:=by
 unfold conK
 rw[allS_put h1,allS_put (K:=K) rfl,h2,List.map_append]
 show liveL (putAllB (K.rs.map (·.2)++[K.mem]) [])=_
 rw[putAllB_snoc]
theorem within_none(p:Pr):withB ⟨#[]⟩ ⟨#[]⟩ p=true:=by
 unfold withB ltS
 rw[nil_toList]
 cases p.k.toList<;>rfl
theorem within_all(l:List Pr):l.filter (withB ⟨#[]⟩ ⟨#[]⟩)=l:=List.filter_eq_self.2 fun p _=>within_none p
theorem outC_eq(K:Kv):K.outC=liveL (putAllB (allR K) []):=by
 unfold Kv.outC mrgS
 rw[within_all]
 have h1:=putAllB_len (allR K) (m:=[]) List.Pairwise.nil
 have h2:(liveL (putAllB (allR K) [])).length≤(putAllB (allR K) []).length:=List.length_filter_le _ _
 refine List.take_of_length_le ?_
 show(liveL (putAllB (allR K) [])).length≤(K.many:Int).toNat
 unfold Kv.many
 simp at h1
 omega
theorem con_comp{K K':Kv}{n:Int}(hm:Sorted K.mem)(h1:K'.rs=[(n,K.outC)])(h2:K'.mem=K.mem):conK K'=conK K:=by
 unfold conK
 rw[allS_put h1,allS_put (K:=K) rfl,h2]
 show liveL (putAll K.mem (putAll K.outC []))=_
 have e:putAll K.outC []=K.outC:=by
  have hs:Sorted K.outC:=by rw[outC_eq];exact liveL_sorted (putAllB_sorted _ List.Pairwise.nil)
  refine sorted_ext (putAll_sorted _ List.Pairwise.nil) hs fun k=>?_
  rw[look_putAll k [] hs]
  cases Pl.look k K.outC<;>rfl
 rw[e,outC_eq]
 exact live_put (runs_sorted K)
theorem mrg_con(K:Kv)(fr to:BA)(most:Int):mrgS (allS K) fr to most=((conK K).filter (withB fr to)).take most.toNat:=by
 unfold mrgS conK liveL
 rw[List.filter_filter,List.filter_filter]
 congr 2
 funext p
 rw[Bool.and_comm]
theorem get_con{K:Kv}{key:BA}{s:GS}(h:GSt False s (Pl.look key (putAllB (allS K) []))):retG s=match Pl.look key (conK K)with|some p=>.tuple #[.string p.v,.bool true,.int .i64 0]|none=>.tuple #[.string ⟨#[]⟩,.bool false,.int .i64 0]:=by
 unfold conK
 rw[look_live key (putAllB_sorted _ List.Pairwise.nil)]
 rcases h with⟨h1,h2,h3⟩|⟨h,_⟩
 ·cases ho:Pl.look key (putAllB (allS K) [])with
  |none=>
   rw[ho]at h2
   unfold retG
   rw[h1,h2];rfl
  |some p=>
   rw[ho]at h2
   have hp:=h3 p ho
   unfold retG lvO
   rw[h1,h2,hp,of_some (f:=fun p=> !p.g)]
   cases p.g<;>rfl
 ·exact h.elim
theorem KS.out_ok{nm:BA}{K:Kv}{ls bl:List (List Pr)}{U:Nat}(h:KS nm K ls bl U):(∀ p∈K.outC,okP p=true)∧Sorted K.outC:=by
 rw[outC_eq]
 refine⟨fun p hp=>?_,liveL_sorted (putAllB_sorted _ List.Pairwise.nil)⟩
 rcases mem_putAllB (List.mem_filter.1 hp).1 with⟨l,hl,hp⟩|hp
 ·obtain⟨x,hx,rfl⟩:=List.mem_map.1 hl
  rw[h.rs]at hx
  exact(h.g.ok _ (List.of_mem_zip (a:=x.1) (b:=x.2) hx).2).1 p hp
 ·cases hp
end Go.Proofs.YtgbmjoenbocfcaaGreat
