/- Texts merged: KpJ KpK KpL. -/
import Derived.Test.YtgbmjoenbocfcaaGreatG28
import Derived.Test.YtgbmjoenbocfcaaGreatG27
set_option linter.unusedSimpArgs false
set_option linter.unusedVariables false
namespace Go.Proofs.YtgbmjoenbocfcaaGreat
open Go Go.Fx Go.Proofs Go.Pl
theorem disk_st{P:Program}{f:FuncId}{args:List Value}{Y:Type}{φ:Y→Prop}{ret:Y→Value}{kb b mb:Nat}{nm:BA}{ft:Int}{K:Kv}{d':Y→Dk}
  (h:FSpec P f args [diskP b K.d] Y φ ret (fun y=>[diskP b (d' y)])):FSpec P f args [stP kb b nm mb ft (kvD b mb nm K)] Y φ ret (fun y=>[stP kb b nm mb ft (kvD b mb nm {K with d:=d' y})]):=by
 refine fspec_ex ?_
 rintro⟨m,⟨mv,hmv⟩,⟨wp,hwp⟩,⟨rv,hrv⟩⟩
 show FSpec _ _ _ (exP (kvM b mb nm K ⟨m,⟨mv,hmv⟩,⟨wp,hwp⟩,⟨rv,hrv⟩⟩)::[kvP kb b nm m mv wp mb rv ft]) _ _ _ _
 refine fspec_ex ?_
 rintro⟨wb,rs,g1,g2,g3⟩
 dsimp only at g1 g2 g3
 subst g1 g2
 refine(fspec_frameK h [row 70 1 mv (K.m.runs.map uV),row 83 1 rv (rs.map krV),runsX b nm rs,walP wb b (fileK nm walK K.m.wal.toNat) K.w,memX mb K.mem,kvP kb b nm K.m mv (.pointer (some ⟨wb,0,none⟩)) mb rv ft]).conseq (fun R h s=>?_) (fun y hy=>⟨y,hy,rfl,fun R h s=>?_⟩)
 ·have s1:SatL ([row 70 1 mv (K.m.runs.map uV),row 83 1 rv (rs.map krV),runsX b nm rs,walP wb b (fileK nm walK K.m.wal.toNat) K.w,diskP b K.d,memX mb K.mem,kvP kb b nm K.m mv (.pointer (some ⟨wb,0,none⟩)) mb rv ft]++R) h:=s
  exact(entD) _ s1
 ·refine kv_back (K:={K with d:=d' y}) (wb:=wb) (rs:=rs) (g0:=⟨K.m,⟨mv,hmv⟩,⟨.pointer (some ⟨wb,0,none⟩),hwp⟩,⟨rv,hrv⟩⟩) rfl rfl g3 ?_
  have s1:SatL ([diskP b (d' y),row 70 1 mv (K.m.runs.map uV),row 83 1 rv (rs.map krV),runsX b nm rs,walP wb b (fileK nm walK K.m.wal.toNat) K.w,memX mb K.mem,kvP kb b nm K.m mv (.pointer (some ⟨wb,0,none⟩)) mb rv ft]++R) h:=s
  exact(entD) _ s1
theorem st_disk{kb b mb:Nat}{nm:BA}{ft:Int}{K:Kv}{L:List HProp}{h:Frag}(s:SatL (stP kb b nm mb ft (kvD b mb nm K)::L) h):SatL (diskP b K.d::L) h:=by
 obtain⟨h1,h2,ha,l1,l2,⟨g,hg⟩,hL⟩:=s
 have s1:SatL ([kvD b mb nm K g,kvP kb b nm g.m g.mv.1 g.wp.1 mb g.rv.1 ft]++L) h:=SatL.flat (M:=stM kb b nm mb ft (kvD b mb nm K) g) ⟨h1,h2,ha,l1,l2,hg,hL⟩
 obtain⟨h3,h4,hb,l3,l4,⟨y,hy⟩,hM⟩:=s1
 have s2:SatL ([row 70 1 g.mv.1 (K.m.runs.map uV),row 83 1 g.rv.1 (y.rs.map krV),runsX b nm y.rs,walP y.wb b (fileK nm walK K.m.wal.toNat) K.w,diskP b K.d,memX mb K.mem,kvP kb b nm g.m g.mv.1 g.wp.1 mb g.rv.1 ft]++L) h:=SatL.flat (M:=kvM b mb nm K g y) ⟨h3,h4,hb,l3,l4,hy,hM⟩
 have s3:SatL ([diskP b K.d]++L) h:=(entD) _ s2
 exact s3
theorem KS.pre{nm:BA}{K:Kv}{ls bl:List (List Pr)}{U:Nat}(h:KS nm K ls bl U){l:List Pr}(hok:∀ p∈l,okP p=true)(hz:l.length≤4096):∀ i,i<l.length→MemOk (putAll (l.take i) K.mem):=fun i hi=>by
 have hm:=h.memOk
 refine memOk_of (putAll_sorted _ hm.sorted) (fun p hp=>?_) ?_
 ·rcases mem_putAll hp with hp|hp
  ·exact hok p (List.mem_of_mem_take hp)
  ·exact hm.may p hp
 ·have q1:=putAll_len (l.take i) hm.sorted
  have q2:=putAllB_len bl (m:=[]) List.Pairwise.nil
  have q3:=h.few
  rw[← h.mem]at q2
  have q6:(l.take i).length≤l.length:=List.length_take_le' i _
  simp only[List.length_nil,Nat.zero_add]at q2
  omega
def Kv.aft(nm:BA)(K:Kv)(l:List Pr):Kv:={K.app nm l with mem:=if K.appE nm l=0 then putAll l K.mem else K.mem}
theorem kApply_w(kb b mb:Nat){nm:BA}{K:Kv}{ls bl:List (List Pr)}{U:Nat}(u:Value)(A:HProp)(l:List Pr)(hnm:NmK nm)(h:KS nm K ls bl U)(hlo:K.d.loose.length≤900000)(hA:Vw A 3 u (l.map prV))(hm0:mayK l=0)(hl0:l≠[]):
  FSpec Tryz.prog 15 [.pointer (some ⟨kb,0,none⟩),u] [stP kb b nm mb 0 (kvD b mb nm K),A] Unit (fun _=>True) (fun _=>.int .i64 (K.appE nm l)) (fun _=>[stP kb b nm mb (ftK (K.appE nm l) 0) (kvD b mb nm (K.aft nm l)),A]):=by
 obtain⟨hz,hok,hbz⟩:=mayK_0 hm0
 have:=hnm.le
 exact kApply_do kb b mb nm K u A l hA (h.kvI (by omega)) (by omega) hm0 hl0 (h.pre hok hz)
theorem kFlush_w(kb b mb:Nat){nm:BA}{K:Kv}{ls bl:List (List Pr)}{U:Nat}(hnm:NmK nm)(h:KS nm K ls bl U)(hlo:K.d.loose.length≤900000)(hm:K.mem≠[])(hr:K.m.runs.length<256)(hn:K.m.next+2≤1000000)(hz:(runB K.mem).size≤16777216):
  FSpec Tryz.prog 16 [.pointer (some ⟨kb,0,none⟩)] [stP kb b nm mb 0 (kvD b mb nm K)] Unit (fun _=>True) (fun _=>.int .i64 (K.fl nm).2) (fun _=>[stP kb b nm mb (ftK (K.fl nm).2 0) (kvD b mb nm (K.fl nm).1)]):=by
 obtain⟨a1,a2,a3,a4,_⟩:=flush_ks hnm h hr hn hz hlo
 have:=hnm.le
 have h0:=h.g.w0
 have h1:=h.g.wn
 have hrs:K.rs.length≤256:=by rw[h.rs,List.length_zip];omega
 exact kFlush_do kb b mb nm K K.m.next.toNat (h.kvI (by omega)) h.memOk hm hr hrs (by omega) (by omega) (by omega) (by omega) a1.chk a1.wf (by omega) a2 a3 a4
theorem kCompact_w(kb b mb:Nat){nm:BA}{K:Kv}{ls bl:List (List Pr)}{U:Nat}(hnm:NmK nm)(h:KS nm K ls bl U)(hlo:K.d.loose.length≤900000)(hr:2≤K.rs.length)(hn:K.m.next+1≤1000000)(hoz:K.outC.length≤1000000)(hz:(runB K.outC).size≤16777216):
  FSpec Tryz.prog 17 [.pointer (some ⟨kb,0,none⟩)] [stP kb b nm mb 0 (kvD b mb nm K)] Unit (fun _=>True) (fun _=>.int .i64 (K.cmp nm).2) (fun _=>[stP kb b nm mb (ftK (K.cmp nm).2 0) (kvD b mb nm (K.cmp nm).1)]):=by
 obtain⟨o1,o2⟩:=h.out_ok
 obtain⟨a1,a2,a3,a4,_⟩:=comp_ks hnm h hn o1 o2 hoz hz hlo
 have:=hnm.le
 have h0:=h.g.w0
 have h1:=h.g.wn
 have h256:=h.g.len256
 exact kCompact_do kb b mb nm K K.m.next.toNat (fun _=>rdG) (h.readable hnm False) (h.kvI (by omega)) hr h256 (by omega) (by omega) (by omega) (by omega) a1.chk a1.wf hoz o1 o2 a2 a3 a4
def getR(o:Option Pr):Value:=match o with|some p=>.tuple #[.string p.v,.bool true,.int .i64 0]|none=>.tuple #[.string ⟨#[]⟩,.bool false,.int .i64 0]
theorem kGet_w(kb b mb:Nat){nm:BA}{K:Kv}{ls bl:List (List Pr)}{U:Nat}(ft:Int)(key:BA)(hnm:NmK nm)(h:KS nm K ls bl U):
  FSpec Tryz.prog 10 [.pointer (some ⟨kb,0,none⟩),.string key] [stP kb b nm mb ft (kvD b mb nm K)] Unit (fun _=>True) (fun _=>getR (Pl.look key (conK K))) (fun _=>[stP kb b nm mb ft (kvD b mb nm K)]):=
 (kGet_spec kb b mb nm ft K key (fun _=>rdG) False (h.readable hnm False)).conseq (fun R h s=>s) (fun y hy=>⟨(),trivial,by rw[get_con hy];rfl,fun R h s=>s⟩)
theorem kScan_w(kb b mb:Nat){nm:BA}{K:Kv}{ls bl:List (List Pr)}{U:Nat}(ft:Int)(fr to:BA)(most:Int)(hm:1≤most)(hnm:NmK nm)(h:KS nm K ls bl U):
  FSpec Tryz.prog 11 [.pointer (some ⟨kb,0,none⟩),.string fr,.string to,.int .i64 most] [stP kb b nm mb ft (kvD b mb nm K)] V1s (fun _=>True) (fun y=>.tuple #[y.1,.int .i64 0]) (fun y=>[stP kb b nm mb ft (kvD b mb nm K),row 65 3 y.1 ((((conK K).filter (withB fr to)).take most.toNat).map prV)]):=
 (kScan_spec kb b mb nm ft K fr to most (fun _=>rdG) False (h.readable hnm False) hm).conseq (fun R h s=>s) (fun y hy=>by
  obtain⟨out,v,e⟩:=y
  rcases hy with⟨rfl,rfl⟩|⟨h,_⟩
  ·exact⟨v,trivial,rfl,fun R h s=>by rw[← mrg_con];exact s⟩
  ·exact h.elim)
end Go.Proofs.YtgbmjoenbocfcaaGreat
namespace Go.Proofs.YtgbmjoenbocfcaaGreat
open Go Go.Fx Go.Pl
structure StK(nm:BA)(K:Kv)(ls bl:List (List Pr))(U:Nat)(room:Int):Prop where
 ks:KS nm K ls bl U
 lo:K.d.loose=[]
 fu:K.d.fuse= -1
 ro:K.d.room=room
theorem StK.lo0{nm:BA}{K:Kv}{ls bl:List (List Pr)}{U:Nat}{room:Int}(h:StK nm K ls bl U room)(n:Nat):K.d.loose.length≤n:=by rw[h.lo];exact Nat.zero_le _
theorem mB_size(m:Mn):(mBytes m).size≤100+8*m.runs.length:=by
 unfold mBytes mBody
 rw[frameOf_size,put8s_size]
 simp[mNums];omega
theorem st_app{nm:BA}{K:Kv}{ls bl:List (List Pr)}{U:Nat}{room:Int}{l:List Pr}(hnm:NmK nm)(h:StK nm K ls bl U room)(hm0:mayK l=0)(hfew:(bl.map List.length).sum+l.length≤100000)(hnum:bl.length+1≤100000)(hU:((U+12+(batchK l).size:Nat):Int)≤room):
  K.appE nm l=0∧StK nm (K.aft nm l) ls (bl++[l]) (U+12+(batchK l).size) room∧conK (K.aft nm l)=liveL (putAll l (conK K))∧(K.aft nm l).m=K.m∧(K.aft nm l).rs=K.rs:=by
 rcases app_ks hnm h.ks hm0 hfew hnum with⟨e,a1,a2,a3⟩|⟨e,a1,a2,a3⟩|⟨e,a1,a2⟩
 ·have hk:K.aft nm l={K.app nm l with mem:=putAll l K.mem}:=by unfold Kv.aft;rw[if_pos e]
  refine⟨e,?_,?_,?_,?_⟩
  ·rw[hk];exact⟨a1,a2,a3.fuse h.fu,a3.room.trans h.ro⟩
  ·rw[hk];exact con_apply h.ks.memOk.sorted rfl rfl
  ·rw[hk];rfl
  ·rw[hk];rfl
 ·exact absurd h.fu a2
 ·rw[h.ro]at a2;omega
theorem st_fl{nm:BA}{K:Kv}{ls bl:List (List Pr)}{U:Nat}{room:Int}(hnm:NmK nm)(h:StK nm K ls bl U room)(hr:K.m.runs.length<256)(hn:K.m.next+2≤1000000)(hz:(runB K.mem).size≤16777216)(hU:((KS.U2 U K.mem K.nxF:Nat):Int)≤room):
  (K.fl nm).2=0∧StK nm (K.fl nm).1 (ls++[K.mem]) [] (KS.U2 U K.mem K.nxF) room∧conK (K.fl nm).1=conK K∧(K.fl nm).1.m=K.nxF∧(K.fl nm).1.rs=K.rs++[(K.m.next,K.mem)]∧(K.fl nm).1.mem=[]:=by
 obtain⟨_,_,_,_,a⟩:=flush_ks hnm h.ks hr hn hz (h.lo0 _)
 rcases a with⟨e,a1,a2,a3,a4,a5,a6⟩|⟨e,a1,a2,a3⟩|⟨e,a1,a2,a3,a4,a5,a6,a7⟩
 ·exact⟨e,⟨a1,a2,a3.fuse h.fu,a3.room.trans h.ro⟩,con_flush a5 a6,a4,a5,a6⟩
 ·exact absurd h.fu a2
 ·rw[h.ro]at a6;omega
theorem st_cmp{nm:BA}{K:Kv}{ls bl:List (List Pr)}{U:Nat}{room:Int}(hnm:NmK nm)(h:StK nm K ls bl U room)(hn:K.m.next+1≤1000000)(hoz:K.outC.length≤1000000)(hz:(runB K.outC).size≤16777216)(hU:((KS.U2 U K.outC K.nxC:Nat):Int)≤room):
  (K.cmp nm).2=0∧StK nm (K.cmp nm).1 [K.outC] bl (KS.U2 U K.outC K.nxC) room∧conK (K.cmp nm).1=conK K∧(K.cmp nm).1.m=K.nxC∧(K.cmp nm).1.rs=[(K.m.next,K.outC)]∧(K.cmp nm).1.mem=K.mem:=by
 obtain⟨o1,o2⟩:=h.ks.out_ok
 obtain⟨_,_,_,_,a⟩:=comp_ks hnm h.ks hn o1 o2 hoz hz (h.lo0 _)
 rcases a with⟨e,a1,a2,a3,a4,a5,a6⟩|⟨e,a1,a2,a3⟩|⟨e,a1,a2,a3,a4,a5,a6,a7⟩
 ·exact⟨e,⟨a1,a2,a3.fuse h.fu,a3.room.trans h.ro⟩,con_comp h.ks.memOk.sorted a5 a6,a4,a5,a6⟩
 ·exact absurd h.fu a2
 ·rw[h.ro]at a6;omega
theorem outC_con{K:Kv}(h:K.mem=[]):K.outC=conK K:=by
 rw[outC_eq]
 unfold conK
 rw[allS_put (K:=K) rfl,h];rfl
theorem fuse1_app{nm:BA}{K:Kv}{ls bl:List (List Pr)}{U:Nat}{room:Int}{l:List Pr}(hnm:NmK nm)(h:StK nm K ls bl U room)(hm0:mayK l=0)(hU:((U+12+(batchK l).size:Nat):Int)≤room):
  (Kv.appE nm {K with d:=K.d.fuseTo 1} l=20)∧CInv (GFS nm K.m ls (TE ((bl++[l]).map batchK)) (U+12+(batchK l).size)) ((Kv.aft nm {K with d:=K.d.fuseTo 1} l).d.crash 1 0)∧(Kv.aft nm {K with d:=K.d.fuseTo 1} l).d.Ok∧(Kv.aft nm {K with d:=K.d.fuseTo 1} l).d.loose.length≤1:=by
 obtain⟨hz,hok,hbz⟩:=mayK_0 hm0
 have hbz':(batchK l).size≤4194304:=by have:=of_decide_eq_false hbz;omega
 have hg:=h.ks.d.here
 have hgt:ftext (fileK nm walK K.m.wal.toNat) K.d.files=framesOf (bl.map batchK):=hg.wal
 have hfz:(framesOf [batchK l]).size=12+(batchK l).size:=by rw[framesOf_size];simp[lenT]
 have hokA:allOk [batchK l]=true:=by unfold allOk;simpa using hbz'
 have hokF:(K.d.fuseTo 1).Ok:=h.ks.d.ok.fuseTo (by decide)
 have hs:(K.d.fuseTo 1).still=false:=by
  show(K.d.still&&decide ((0:Int)≤1))=false
  rw[h.ks.st];rfl
 have hf1:(K.d.fuseTo 1).fuse=1:=rfl
 have hap:(K.d.fuseTo 1).append (fileK nm walK K.m.wal.toNat) (framesOf [batchK l])=(K.d.fuseTo 1).doC (.app (fileK nm walK K.m.wal.toNat) (framesOf [batchK l])):=by
  unfold Dk.append
  rw[live1N hs (hnm.wal _),if_neg (by decide),if_neg]
  intro q
  rw[Bool.and_eq_true]at q
  have q2:=of_decide_eq_true q.2
  have hu:=hg.use
  have hr2:(K.d.fuseTo 1).room=room:=h.ro
  have hf2:(K.d.fuseTo 1).files=K.d.files:=rfl
  rw[hf2,hr2]at q2
  omega
 have hok2:=hokF.append (name:=fileK nm walK K.m.wal.toNat) (s:=framesOf [batchK l]) (by omega)
 rw[hap]at hok2
 rcases doC_20 (K.d.fuseTo 1) (.app (fileK nm walK K.m.wal.toNat) (framesOf [batchK l]))with⟨hf,e⟩|⟨hf,e1,e2,e3,e4,e5,e6,e7⟩
 ·rw[hf1]at hf;cases hf
 have hf0:((K.d.fuseTo 1).doC (.app (fileK nm walK K.m.wal.toNat) (framesOf [batchK l]))).1.fuse=0:=by unfold Dk.doC;rw[if_neg (by rw[hf1];decide)];rfl
 generalize hd1:(K.d.fuseTo 1).doC (.app (fileK nm walK K.m.wal.toNat) (framesOf [batchK l]))=r1 at hap hok2 e1 e2 e3 e4 e5 e6 hf0
 have hst1:r1.1.still=false:=e3.trans hs
 have hsy:r1.1.sync=({r1.1 with still:=true},20):=by
  rcases sync_20 hst1 with⟨_,q⟩|⟨q,_⟩
  ·exact q
  ·exact absurd hf0 q
 have hw:K.w.fault=0:=by rw[h.ks.w]
 have haw:appendW K.w (K.d.fuseTo 1) (fileK nm walK K.m.wal.toNat) [batchK l]=(K.w.down 20,{r1.1 with still:=true},20):=by
  unfold appendW
  rw[if_neg (fun q=>q hw),if_neg (by rw[hokA];decide),if_neg (by simp),hap,if_neg (fun q=>q e1),hsy,if_pos (show(20:Int)≠0 by decide)]
 have hE:Kv.appE nm {K with d:=K.d.fuseTo 1} l=20:=by unfold Kv.appE;rw[show(appendW K.w (K.d.fuseTo 1) (fileK nm walK K.m.wal.toNat) [batchK l])=_ from haw]
 have hD:(Kv.aft nm {K with d:=K.d.fuseTo 1} l).d={r1.1 with still:=true}:=by
  show(appendW K.w (K.d.fuseTo 1) (fileK nm walK K.m.wal.toNat) [batchK l]).2.1=_
  rw[haw]
 have hlo:r1.1.loose=[.app (fileK nm walK K.m.wal.toNat) (framesOf [batchK l])]:=by
  rw[e6]
  show K.d.loose++_=_
  rw[h.lo];rfl
 have hok3:({r1.1 with still:=true}:Dk).Ok:={hok2 with}
 rw[hD]
 refine⟨hE,?_,hok3,by show r1.1.loose.length≤1;rw[hlo];simp⟩
 refine CInv.set (hok3.crash 1 0) rfl ?_
 have hkf:(({r1.1 with still:=true}:Dk).crash 1 0).files=r1.1.files:=by
  show({r1.1 with still:=true}:Dk).torn (({r1.1 with still:=true}:Dk).kept 1) 0=r1.1.files
  have hk:({r1.1 with still:=true}:Dk).kept 1=1:=by
   unfold Dk.kept Dk.keptI
   show(if(r1.1.loose.length:Int)<_ then(r1.1.loose.length:Int)else _).toNat=1
   rw[hlo];rfl
  rw[hk]
  unfold Dk.torn
  show runO (r1.1.loose[1]?.bind _) (play r1.1.sure (r1.1.loose.take 1))=_
  rw[hlo]
  have hp:=hok2.play
  rw[hlo]at hp
  exact hp
 rw[hkf,e2]
 show GFS nm K.m ls _ _ (fput (fileK nm walK K.m.wal.toNat) (ftext (fileK nm walK K.m.wal.toNat) K.d.files++framesOf [batchK l]) K.d.files)
 refine hg.putW hnm h.ks.g.w48 h.ks.g.wn' h.ks.g.r48 ?_ ?_ ?_
 ·rw[hgt,← framesOf_append,List.map_append];rfl
 ·rw[fused_app];have:=hg.use;omega
 ·have:=fput_len (fileK nm walK K.m.wal.toNat) (ftext (fileK nm walK K.m.wal.toNat) K.d.files++framesOf [batchK l]) K.d.files
  have:=hg.cnt
  omega
theorem lenT_txtK:∀ l:List Pr,lenT (l.map txtR)=15*l.length+sumP l
 | []=>rfl
 |p::l=>by
  have ih:=lenT_txtK l
  simp only[lenT,sumP,List.map_cons,List.sum_cons,List.length_cons]at ih ⊢
  rw[txtR_size,ih];omega
abbrev sN:BA:=⟨#[115]⟩
theorem sN_k:NmK sN:=⟨by decide,by decide⟩
abbrev pa1:Pr:=⟨⟨#[97]⟩,⟨#[49]⟩,false⟩
abbrev pb2:Pr:=⟨⟨#[98]⟩,⟨#[50]⟩,false⟩
abbrev pa3:Pr:=⟨⟨#[97]⟩,⟨#[51]⟩,false⟩
abbrev pbG:Pr:=⟨⟨#[98]⟩,⟨#[]⟩,true⟩
abbrev pc4:Pr:=⟨⟨#[99]⟩,⟨#[52]⟩,false⟩
theorem lt_ba:ltS (⟨#[98]⟩:BA) ⟨#[97]⟩=false:=by simp[ltS,ByteArray.toList_eq,Op.bytesLess]
theorem lt_ca:ltS (⟨#[99]⟩:BA) ⟨#[97]⟩=false:=by simp[ltS,ByteArray.toList_eq,Op.bytesLess]
theorem eq_ab:((⟨#[98]⟩:BA).toList==(⟨#[97]⟩:BA).toList)=false:=by simp[ByteArray.toList_eq]
theorem eq_ca:((⟨#[99]⟩:BA).toList==(⟨#[97]⟩:BA).toList)=false:=by simp[ByteArray.toList_eq]
theorem putK1:putAll [pa1,pb2] []=[pa1,pb2]:=by
 show ins pb2 (ins pa1 [])=_
 simp[ins,lt_ba,eq_ab]
theorem putK2:putAll [pa3,pbG] []=[pa3,pbG]:=by
 show ins pbG (ins pa3 [])=_
 simp[ins,lt_ba,eq_ab]
theorem putK3:putAll [pa3,pbG] [pa1,pb2]=[pa3,pbG]:=by
 show ins pbG (ins pa3 [pa1,pb2])=_
 simp[ins,lt_ba,eq_ab,ltS_irrefl]
theorem putK4:putAll [pc4] [pa3]=[pa3,pc4]:=by
 show ins pc4 [pa3]=_
 simp[ins,lt_ca,eq_ca]
theorem may_1:mayK [pa1,pb2]=0:=by
 have h:(batchK [pa1,pb2]).size=18:=rfl
 unfold mayK
 rw[h];rfl
theorem may_2:mayK [pa3,pbG]=0:=by
 have h:(batchK [pa3,pbG]).size=17:=rfl
 have h1:okP pbG=true:=by simp[okP,ByteArray.toList_eq];decide
 have h2:okP pa3=true:=rfl
 have h3:[pa3,pbG].any (fun p=> !okP p)=false:=by
  show((!okP pa3)||((!okP pbG)||false))=false
  rw[h1,h2];rfl
 unfold mayK
 rw[h,h3];rfl
theorem may_3:mayK [pc4]=0:=by
 have h:(batchK [pc4]).size=10:=rfl
 unfold mayK
 rw[h];rfl
end Go.Proofs.YtgbmjoenbocfcaaGreat
set_option maxRecDepth 100000
namespace Go.Proofs.YtgbmjoenbocfcaaGreat
open Go Go.Fx Go.Proofs Go.Pl
theorem kRuns_w(kb b mb:Nat){nm:BA}{K:Kv}{ls bl:List (List Pr)}{U:Nat}(ft:Int)(h:KS nm K ls bl U):FSpec Tryz.prog 18 [.pointer (some ⟨kb,0,none⟩)] [stP kb b nm mb ft (kvD b mb nm K)] Unit (fun _=>True) (fun _=>.int .i64 (K.rs.length:Int)) (fun _=>[stP kb b nm mb ft (kvD b mb nm K)]):=
 kRuns_spec kb b mb nm ft K (by have:=h.g.len256;rw[h.rs,List.length_zip];omega)
theorem kOpen_new(b:Nat){nm:BA}{room:Int}(hnm:NmK nm)(h0:200≤room)(h1:room≤16777216):
  FSpec Tryz.prog 12 [.pointer (some ⟨b,0,none⟩),.string nm] [diskP b (newD room)] (Nat×Nat×Kv) (fun y=>StK nm y.2.2 [] [] U0K room∧y.2.2.m=mn1K) (fun y=>.tuple #[.pointer (some ⟨y.1,0,none⟩),.int .i64 0]) (fun y=>[stP y.1 b nm y.2.1 0 (kvD b y.2.1 nm y.2.2)]):=by
 rcases new_step (room:=room) hnm (by omega) h1 with⟨a1,a2,a3,a4,a5,a6,a7⟩|⟨_,a2⟩
 ·have e1:loadK nm (newD room)=(mn1K,(loadK nm (newD room)).2.1,0):=Prod.ext a2 (Prod.ext rfl a1)
  refine(kOpen_core b (bl:=[]) (nb:=[]) (ls:=[]) (U:=U0K) hnm (Dk.Ok.new (by omega) h1) (by show([]:List Cl).length≤_;simp) e1 mn1K_g ⟨fun l hl=>(by cases hl),by decide,by decide⟩ (a3.mono fun F k=>k.mono (fun _ t=>TE.tx [] t) (Nat.le_refl _)) a4 (by rw[a7];simp) (by have:=mn1K_size;unfold U0K;omega)).conseq (fun R h s=>s) (fun y hy=>?_)
  cases y with
  |up kb mb K bl'=>
   obtain⟨h1,h2,h3,h4,j,h5⟩:=hy
   have hb:bl'=[]:=by rw[h5];simp
   subst hb
   exact⟨(kb,mb,K),⟨⟨h1,h3,h4.fuse a6,h4.room.trans a5⟩,h2⟩,rfl,fun R h s=>s⟩
  |down d=>exact absurd a6 hy.2.1
 ·omega
set_option maxHeartbeats 8000000 in
theorem alive12_spec:FSpec Tryz.prog 9 [] [] Unit (fun _=>True) (fun _=>.bool true) (fun _=>[]):=by
 have z0:=mn1K_size
 have zU:U0K≤400:=by unfold U0K;omega
 have w51:BEq.beq (⟨#[51]⟩:BA).toList (⟨#[51]⟩:BA).toList=true:=beq_self_eq_true _
 have w51':(!(BEq.beq (⟨#[51]⟩:BA).toList (⟨#[51]⟩:BA).toList))=false:=by rw[w51];rfl
 have w52:BEq.beq (⟨#[52]⟩:BA).toList (⟨#[52]⟩:BA).toList=true:=beq_self_eq_true _
 refine spec_intro [] _ Tryz.func9 rfl Tryz.ntmps9 (by rfl) (fun w0 R=>?_)
 repeat'(first|(refine gY ?_;intros)|(refine hY ?_ ?_<;>intro hgd)|(refine jY ?_ ?_<;>intro _)|fail)
 refine cl_Y (new_spec 65536 (by decide) (by decide)) ?_
 intro b _
 repeat'(first|(refine gY ?_;intros)|(refine hY ?_ ?_<;>intro hgd)|(refine jY ?_ ?_<;>intro _)|fail)
 refine cl_Y (kOpen_new b sN_k (room:=65536) (by decide) (by decide)) ?_
 rintro⟨kb,mb,K0⟩ ⟨hK0,hm0⟩
 dsimp only at hK0 hm0 ⊢
 have hr0:K0.rs=[]:=by rw[hK0.ks.rs,hm0];rfl
 have hc0:conK K0=[]:=by
  unfold conK
  rw[allS_put hr0,hK0.ks.mem];rfl
 obtain⟨e1,hK1,hc1,hm1,hr1⟩:=st_app sN_k hK0 may_1 (by decide) (by decide) (by show((U0K+12+18:Nat):Int)≤_;omega)
 have hA1:=fun v=>kApply_w kb b mb v (row 65 3 v ([pa1,pb2].map prV)) [pa1,pb2] sN_k hK0.ks (hK0.lo0 _) Vw.row may_1 (by simp)
 rw[e1,show ftK 0 0=0 from rfl]at hA1
 have hM1:(Kv.aft sN K0 [pa1,pb2]).mem=[pa1,pb2]:=by rw[hK1.ks.mem];exact putK1
 rw[hc0,putK1,show liveL [pa1,pb2]=[pa1,pb2]from rfl]at hc1
 rw[hm0]at hm1
 rw[hr0]at hr1
 have u1:(batchK [pa1,pb2]).size=18:=rfl
 rw[u1]at hK1
 generalize Kv.aft sN K0 [pa1,pb2]=K1 at*
 generalize hU1:U0K+12+18=U1 at hK1
 have q1:K1.m.runs.length=0:=by rw[hm1];rfl
 have q2:K1.m.next=2:=by rw[hm1];rfl
 have r1:(runB K1.mem).size≤100:=by rw[hM1,runB_size,lenT_txtK];decide
 have q3:=mB_size K1.nxF
 have q4:K1.nxF.runs.length=1:=by show(K1.m.runs++[K1.m.next]).length=1;rw[List.length_append,q1];rfl
 have hU2:KS.U2 U1 K1.mem K1.nxF≤1000:=by unfold KS.U2;omega
 obtain⟨e2,hK2,hc2,hm2,hr2,hM2⟩:=st_fl sN_k hK1 (by omega) (by omega) (by omega) (by omega)
 have hF1:=kFlush_w kb b mb sN_k hK1.ks (hK1.lo0 _) (by rw[hM1];simp) (by omega) (by omega) (by omega)
 rw[e2,show ftK 0 0=0 from rfl]at hF1
 rw[hr1,List.nil_append]at hr2
 rw[hc1]at hc2
 have l2:(K1.fl sN).1.rs.length=1:=by rw[hr2];rfl
 have q5:(K1.fl sN).1.m.next=4:=by rw[hm2];show K1.m.next+2=4;omega
 have q6:(K1.fl sN).1.m.runs.length=1:=by rw[hm2];exact q4
 generalize (K1.fl sN).1=K2 at*
 generalize KS.U2 U1 K1.mem K1.nxF=U2 at*
 have u2:(batchK [pa3,pbG]).size=17:=rfl
 obtain⟨e3,hK3,hc3,hm3,hr3⟩:=st_app sN_k hK2 may_2 (by decide) (by decide) (by rw[u2];omega)
 have hA2:=fun v=>kApply_w kb b mb v (row 65 3 v ([pa3,pbG].map prV)) [pa3,pbG] sN_k hK2.ks (hK2.lo0 _) Vw.row may_2 (by simp)
 rw[e3,show ftK 0 0=0 from rfl]at hA2
 have hM3:(Kv.aft sN K2 [pa3,pbG]).mem=[pa3,pbG]:=by rw[hK3.ks.mem];exact putK2
 rw[hc2,putK3,show liveL [pa3,pbG]=[pa3]from rfl]at hc3
 rw[u2]at hK3
 generalize Kv.aft sN K2 [pa3,pbG]=K3 at*
 generalize hU3:U2+12+17=U3 at hK3
 have hG1:=kGet_w kb b mb 0 ⟨#[97]⟩ sN_k hK3.ks
 have hG2:=kGet_w kb b mb 0 ⟨#[98]⟩ sN_k hK3.ks
 rw[hc3]at hG1 hG2
 rw[show getR (Pl.look (⟨#[97]⟩:BA) [pa3])= .tuple #[.string ⟨#[51]⟩,.bool true,.int .i64 0]by rw[show Pl.look (⟨#[97]⟩:BA) [pa3]=some pa3 from look_head (p:=pa3) (l:=[])];rfl]at hG1
 rw[show getR (Pl.look (⟨#[98]⟩:BA) [pa3])= .tuple #[.string ⟨#[]⟩,.bool false,.int .i64 0]by rw[look_none (l:=[pa3]) (fun x hx=>by rw[List.mem_singleton.1 hx];decide)];rfl]at hG2
 have l3:K3.rs.length=1:=by rw[hr3];exact l2
 have hR1:=kRuns_w kb b mb 0 hK3.ks
 rw[l3,show((1:Nat):Int)=1 from rfl]at hR1
 have r3:(runB K3.mem).size≤100:=by rw[hM3,runB_size,lenT_txtK];decide
 have q7:K3.m.runs.length=1:=by rw[hm3];exact q6
 have q8:K3.m.next=4:=by rw[hm3];exact q5
 have q9:=mB_size K3.nxF
 have q10:K3.nxF.runs.length=2:=by show(K3.m.runs++[K3.m.next]).length=2;rw[List.length_append,q7];rfl
 have hU4:KS.U2 U3 K3.mem K3.nxF≤2000:=by unfold KS.U2;omega
 obtain⟨e4,hK4,hc4,hm4,hr4,hM4⟩:=st_fl sN_k hK3 (by omega) (by omega) (by omega) (by omega)
 have hF2:=kFlush_w kb b mb sN_k hK3.ks (hK3.lo0 _) (by rw[hM3];simp) (by omega) (by omega) (by omega)
 rw[e4,show ftK 0 0=0 from rfl]at hF2
 rw[hc3]at hc4
 have l4:(K3.fl sN).1.rs.length=2:=by rw[hr4,List.length_append,l3];rfl
 have q11:(K3.fl sN).1.m.next=6:=by rw[hm4];show K3.m.next+2=6;omega
 generalize (K3.fl sN).1=K4 at*
 generalize KS.U2 U3 K3.mem K3.nxF=U4 at*
 have ho:K4.outC=[pa3]:=(outC_con hM4).trans hc4
 have r4:(runB K4.outC).size≤100:=by rw[ho,runB_size,lenT_txtK];decide
 have q12:=mB_size K4.nxC
 have q13:K4.nxC.runs.length=1:=rfl
 have hU5:KS.U2 U4 K4.outC K4.nxC≤3000:=by unfold KS.U2;omega
 have hoz:K4.outC.length≤1000000:=by rw[ho];decide
 obtain⟨e5,hK5,hc5,hm5,hr5,hM5⟩:=st_cmp sN_k hK4 (by omega) hoz (by omega) (by omega)
 have hCm:=kCompact_w kb b mb sN_k hK4.ks (hK4.lo0 _) (by omega) (by omega) hoz (by omega)
 rw[e5,show ftK 0 0=0 from rfl]at hCm
 rw[hc4]at hc5
 have l5:(K4.cmp sN).1.rs.length=1:=by rw[hr5];rfl
 rw[hM4]at hM5
 rw[ho]at hK5 hU5
 generalize (K4.cmp sN).1=K5 at*
 generalize KS.U2 U4 [pa3] K4.nxC=U5 at*
 have hSc:=kScan_w kb b mb 0 ⟨#[]⟩ ⟨#[]⟩ 9 (by decide) sN_k hK5.ks
 rw[hc5,within_all,show([pa3]:List Pr).take (9:Int).toNat=[pa3]from rfl]at hSc
 have hR2:=kRuns_w kb b mb 0 hK5.ks
 rw[l5,show((1:Nat):Int)=1 from rfl]at hR2
 obtain⟨f1,f2,f3,f4⟩:=fuse1_app sN_k hK5 may_3 (by rw[show(batchK [pc4]).size=10 from rfl];omega)
 have hFu:=disk_st (kb:=kb) (mb:=mb) (nm:=sN) (ft:=0) (K:=K5) (fuse_spec b K5.d 1)
 have hK6:KS sN {K5 with d:=K5.d.fuseTo 1} [[pa3]] [] U5:=hK5.ks.setD ⟨hK5.ks.d.ok.fuseTo (by decide),hK5.ks.d.cr⟩ (by
  show(K5.d.still&&decide ((0:Int)≤1))=false
  rw[hK5.ks.st];rfl)
 have hA3:=fun v=>kApply_w kb b mb v (row 65 3 v ([pc4].map prV)) [pc4] sN_k hK6 (hK5.lo0 _) Vw.row may_3 (by simp)
 rw[f1,show ftK 20 0=20 from rfl]at hA3
 generalize Kv.aft sN {K5 with d:=K5.d.fuseTo 1} [pc4]=K7 at*
 have hCr:=disk_st (kb:=kb) (mb:=mb) (nm:=sN) (ft:=20) (K:=K7) (crash_spec b K7.d 1 0 f3 (by omega))
 have hst:(K7.d.crash 1 0).still=false:=rfl
 have hlo:(K7.d.crash 1 0).loose.length≤90000:=by show([]:List Cl).length≤_;simp
 have hfu:(K7.d.crash 1 0).fuse= -1:=rfl
 have hOp:=kOpen_ks b (bl:=[]++[[pc4]]) (nb:=[]) (ls:=[[pa3]]) sN_k hK5.ks.g ⟨fun l hl=>by
  rw[List.append_nil,List.nil_append]at hl
  rw[List.mem_singleton.1 hl]
  exact⟨(mayK_0 may_3).2.1,by decide,by rw[show(batchK [pc4]).size=10 from rfl];decide⟩,by decide,by decide⟩ (f2.mono fun F k=>k.mono (fun _ t=>TE.tx [] t) (Nat.le_refl _)) hst hlo (by rw[show(batchK [pc4]).size=10 from rfl];omega)
 have hsm:=samePr_self [pa3]
 try dsimp only at hFu hA3 hCr hOp
 repeat'(first|(refine gY ?_;intros)|(refine hY ?_ ?_<;>intro hgd)|(refine jY ?_ ?_<;>intro _)|fail)
 rename_i v1 hv1
 refine cl_Y (hA1 v1) ?_
 intro _ _
 repeat'(first|(refine gY ?_;intros)|(refine hY ?_ ?_<;>intro hgd)|(refine jY ?_ ?_<;>intro _)|fail)
 refine cl_Y (hF1) ?_
 intro _ _
 repeat'(first|(refine gY ?_;intros)|(refine hY ?_ ?_<;>intro hgd)|(refine jY ?_ ?_<;>intro _)|fail)
 rename_i v2 hv2
 refine cl_Y (hA2 v2) ?_
 intro _ _
 repeat'(first|(refine gY ?_;intros)|(refine hY ?_ ?_<;>intro hgd)|(refine jY ?_ ?_<;>intro _)|fail)
 refine cl_Y (hG1) ?_
 intro _ _
 repeat'(first|(refine gY ?_;intros)|(refine hY ?_ ?_<;>intro hgd)|(refine jY ?_ ?_<;>intro _)|fail)
 refine cl_Y (hG2) ?_
 intro _ _
 repeat'(first|(refine gY ?_;intros)|(refine hY ?_ ?_<;>intro hgd)|(refine jY ?_ ?_<;>intro _)|fail)
 refine cl_Y (hR1) ?_
 intro _ _
 repeat'(first|(refine gY ?_;intros)|(refine hY ?_ ?_<;>intro hgd)|(refine jY ?_ ?_<;>intro _)|fail)
 refine cl_Y (hF2) ?_
 intro _ _
 repeat'(first|(refine gY ?_;intros)|(refine hY ?_ ?_<;>intro hgd)|(refine jY ?_ ?_<;>intro _)|fail)
 refine cl_Y (hCm) ?_
 intro _ _
 repeat'(first|(refine gY ?_;intros)|(refine hY ?_ ?_<;>intro hgd)|(refine jY ?_ ?_<;>intro _)|fail)
 refine cl_Y (hSc) ?_
 rintro⟨v3,hv3⟩ _
 dsimp only
 repeat'(first|(refine gY ?_;intros)|(refine hY ?_ ?_<;>intro hgd)|(refine jY ?_ ?_<;>intro _)|fail)
 rename_i v4 hv4
 refine cl_Y (prSame_spec v3 v4 (row 65 3 v3 ([pa3].map prV)) (row 65 3 v4 ([pa3].map prV)) [pa3] [pa3] Vw.row Vw.row (by decide)) ?_
 intro _ _
 rw[hsm]
 repeat'(first|(refine gY ?_;intros)|(refine hY ?_ ?_<;>intro hgd)|(refine jY ?_ ?_<;>intro _)|fail)
 refine cl_Y (hR2) ?_
 intro _ _
 repeat'(first|(refine gY ?_;intros)|(refine hY ?_ ?_<;>intro hgd)|(refine jY ?_ ?_<;>intro _)|fail)
 refine cl_Y (hFu) ?_
 intro _ _
 repeat'(first|(refine gY ?_;intros)|(refine hY ?_ ?_<;>intro hgd)|(refine jY ?_ ?_<;>intro _)|fail)
 rename_i v5 hv5
 refine cl_Y (hA3 v5) ?_
 intro _ _
 repeat'(first|(refine gY ?_;intros)|(refine hY ?_ ?_<;>intro hgd)|(refine jY ?_ ?_<;>intro _)|fail)
 refine cl_Y (hCr) ?_
 intro _ _
 refine opsL_mapL (fun _ h=>st_disk h) ?_
 repeat'(first|(refine gY ?_;intros)|(refine hY ?_ ?_<;>intro hgd)|(refine jY ?_ ?_<;>intro _)|fail)
 refine cl_Y (hOp) ?_
 intro y hy
 cases y with
 |down d=>exact absurd hfu hy.2.1
 |up kb2 mb2 K8 bl8=>
  obtain⟨g1,g2,g3,g4,j,g5⟩:=hy
  have hbl:bl8=[[pc4]]:=by rw[g5];simp
  subst hbl
  have hc8:conK K8=[pa3,pc4]:=by
   have h1:=con_apply (K:=K5) (K':=K8) (l:=[pc4]) hK5.ks.memOk.sorted (by rw[g1.rs,hK5.ks.rs,g2]) (by rw[g1.mem,hM5];rfl)
   rw[h1,hc5,putK4];rfl
  have hG3:=kGet_w kb2 b mb2 0 ⟨#[99]⟩ sN_k g1
  have hlk:Pl.look (⟨#[99]⟩:BA) [pa3,pc4]=some pc4:=by
   rw[look_cons,show((⟨#[99]⟩:BA).toList==pa3.k.toList)=false from eq_ca,if_neg (by simp)]
   exact look_head (p:=pc4) (l:=[])
  rw[hc8,hlk]at hG3
  dsimp only[OpR.ret,OpR.post]
  dsimp only[getR]at hG3
  repeat'(first|(refine gY ?_;intros)|(refine hY ?_ ?_<;>intro hgd)|(refine jY ?_ ?_<;>intro _)|fail)
  refine cl_Y (hG3) ?_
  intro _ _
  repeat'(first|(refine gY ?_;intros)|(refine hY ?_ ?_<;>intro hgd)|(refine jY ?_ ?_<;>intro _)|fail)
  (refine rt_Y (y:=()) (hrs:=Tryz.results9) (hv:=?_) (hφ:=?_))
  ·rfl
  ·trivial
end Go.Proofs.YtgbmjoenbocfcaaGreat
