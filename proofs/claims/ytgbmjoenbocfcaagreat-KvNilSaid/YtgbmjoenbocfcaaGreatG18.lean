/- Texts merged: KvJ KvK KvL. -/
import Derived.Test.YtgbmjoenbocfcaaGreatG16
import Derived.Test.YtgbmjoenbocfcaaGreatG19
set_option linter.unusedSimpArgs false
set_option linter.unusedVariables false
set_option maxRecDepth 100000
namespace Go.Proofs.YtgbmjoenbocfcaaGreat
open Go Go.Fx Go.Proofs Go.Pl
structure Kv where
 d:Dk
 m:Mn
 w:Wv
 mem:List Pr
 rs:List (Int×List Pr)
structure KY(K:Kv)(g:KG) where
 wb:Nat
 rs:List Ru
 h1:g.m=K.m
 h2:g.wp.1= .pointer (some ⟨wb,0,none⟩)
 h3:(rs.map fun x=>((x.n:Int),x.l))=K.rs
def kvM(b mb:Nat)(nm:BA)(K:Kv)(g:KG)(y:KY K g):List HProp:=[row 70 1 g.mv.1 (K.m.runs.map uV),row 83 1 g.rv.1 (y.rs.map krV),runsX b nm y.rs,walP y.wb b (fileK nm walK K.m.wal.toNat) K.w,diskP b K.d,memX mb K.mem]
def kvD(b mb:Nat)(nm:BA)(K:Kv)(g:KG):HProp:=exP (kvM b mb nm K g)
theorem kv_in{b mb:Nat}{nm:BA}{K:Kv}{g:KG}(y:KY K g){L:List HProp}{h:Frag}(s:SatL (kvM b mb nm K g y++L) h):SatL (kvD b mb nm K g::L) h:=ex_in (M:=kvM b mb nm K g) y rfl s
theorem kload_st(kb b mb:Nat)(nm:BA)(d:Dk)(hn:nm.size≤1000000)(hd:d.Ok)(hl:d.loose.length≤1000000000):
  FSpec Tryz.prog 41 [.pointer (some ⟨kb,0,none⟩)] [stP kb b nm mb 0 (kD0 b mb d)] Unit (fun _=>True) (fun _=>.int .i64 (loadK nm d).2.2) (fun _=>[stP kb b nm mb 0 (kD1 b mb (loadK nm d).2.1 (loadK nm d).1)]):=by
 refine fspec_ex ?_
 rintro⟨m,⟨mv,hmv⟩,⟨wp,hwp⟩,⟨rv,hrv⟩⟩
 show FSpec _ _ _ (exP (pcM (m=mn0∧mv= .slice none 0 0∧wp= .pointer none∧rv= .slice none 0 0) [diskP b d,memX mb []])::[kvP kb b nm m mv wp mb rv 0]) _ _ _ _
 refine fspec_ex ?_
 rintro⟨_,rfl,rfl,rfl,rfl⟩
 have hs:=kload_spec kb b nm mn0 (.slice none 0 0) (.pointer none) mb (.slice none 0 0) 0 d rfl rfl rfl hn hd hl
 refine(fspec_frameK hs [memX mb []]).conseq (fun R h s=>(entD) _ s) (fun y _=>⟨(),trivial,rfl,fun R h s=>?_⟩)
 exact st_in ⟨(loadK nm d).1,y,⟨.pointer none,rfl⟩,⟨.slice none 0 0,rfl⟩⟩ (pc_in (L:=[row 70 1 y.1 ((loadK nm d).1.runs.map uV),diskP b (loadK nm d).2.1,memX mb []]) ⟨rfl,rfl,rfl⟩ ((entD) _ s))
theorem ksweep_st(kb b mb:Nat)(nm:BA)(d:Dk)(m:Mn)(hz:m.runs.length≤1000000)(hn:nm.size≤1000000)(hd:d.Ok)(hl:d.loose.length≤1000000)(hnm:∀ x∈d.files.map (·.1),mayN x=true)(hc:d.files.length≤1000000):
  FSpec Tryz.prog 42 [.pointer (some ⟨kb,0,none⟩)] [stP kb b nm mb 0 (kD1 b mb d m)] Unit (fun _=>True) (fun _=>.int .i64 (sweepK nm m d).2) (fun _=>[stP kb b nm mb 0 (kD1 b mb (sweepK nm m d).1 m)]):=by
 refine fspec_ex ?_
 rintro⟨m',⟨mv,hmv⟩,⟨wp,hwp⟩,⟨rv,hrv⟩⟩
 show FSpec _ _ _ (exP (pcM (m'=m∧wp= .pointer none∧rv= .slice none 0 0) [row 70 1 mv (m.runs.map uV),diskP b d,memX mb []])::[kvP kb b nm m' mv wp mb rv 0]) _ _ _ _
 refine fspec_ex ?_
 rintro⟨_,rfl,rfl,rfl⟩
 have hs:=ksweep_spec kb b nm m' mv (.pointer none) mb (.slice none 0 0) 0 d (row 70 1 mv (m'.runs.map uV)) Vw.row hz hmv rfl rfl hn hd hl hnm hc
 refine(fspec_frameK hs [memX mb []]).conseq (fun R h s=>(entD) _ s) (fun y _=>⟨(),trivial,rfl,fun R h s=>?_⟩)
 exact st_in ⟨m',⟨mv,hmv⟩,⟨.pointer none,rfl⟩,⟨.slice none 0 0,rfl⟩⟩ (pc_in (L:=[row 70 1 mv (m'.runs.map uV),diskP b (sweepK nm m' d).1,memX mb []]) ⟨rfl,rfl,rfl⟩ ((entD) _ s))
theorem kopen_ok(kb b mb:Nat)(nm:BA)(m:Mn)(d d1:Dk)(sz:Nat)(ls bl:List (List Pr))(hnk:NumK m)(hn:nm.size≤1000000)(hd:d.Ok)(hl:d.loose.length≤1000000)
  (hz:(m.runs.zip ls).map (·.1)=m.runs)(hr:RunsOn nm d (m.runs.zip ls))(hw:openW d (fileK nm walK m.wal.toNat)=(d1,0,bl.map batchK,sz))(hbl:bl.length≤1000000)(hb1:∀ l∈bl,(∀ p∈l,okP p=true)∧l.length≤4096)
  (hmm:∀ j l,bl[j]? =some l→∀ i,i<l.length→MemOk (putAll (l.take i) (putAllB (bl.take j) []))):
  FSpec Tryz.prog 43 [.pointer (some ⟨kb,0,none⟩)] [stP kb b nm mb 0 (kD1 b mb d m)] Unit (fun _=>True) (fun _=>.int .i64 0) (fun _=>[stP kb b nm mb 0 (kvD b mb nm ⟨d1,m,⟨(bl.length:Nat),(sz:Nat),0⟩,putAllB bl [],m.runs.zip ls⟩)]):=by
 refine fspec_ex ?_
 rintro⟨m',⟨mv,hmv⟩,⟨wp,hwp⟩,⟨rv,hrv⟩⟩
 show FSpec _ _ _ (exP (pcM (m'=m∧wp= .pointer none∧rv= .slice none 0 0) [row 70 1 mv (m.runs.map uV),diskP b d,memX mb []])::[kvP kb b nm m' mv wp mb rv 0]) _ _ _ _
 refine fspec_ex ?_
 rintro⟨_,rfl,rfl,rfl⟩
 have hs:=kopen_spec kb b nm m' mv mb 0 d (row 70 1 mv (m'.runs.map uV)) ls bl Vw.row hmv hnk hn hd hl hz hr (fun _=>by rw[hw]) hbl hb1 hmm
 rw[hw]at hs
 simp only[wpO,if_true]at hs
 refine hs.conseq (fun R h s=>(entD) _ s) (fun y hy=>⟨(),trivial,rfl,fun R h s=>?_⟩)
 exact st_in ⟨m',⟨mv,hmv⟩,⟨.pointer (some ⟨y.wb,0,none⟩),rfl⟩,y.rv⟩ (kv_in ⟨y.wb,y.rs,rfl,rfl,hy⟩ ((entD) _ s))
theorem kopen_bad(kb b mb:Nat)(nm:BA)(m:Mn)(d:Dk)(ls:List (List Pr))(hnk:NumK m)(hn:nm.size≤1000000)(hd:d.Ok)(hl:d.loose.length≤1000000)
  (hz:(m.runs.zip ls).map (·.1)=m.runs)(hr:RunsOn nm d (m.runs.zip ls))(he:(openW d (fileK nm walK m.wal.toNat)).2.1≠0):
  FSpec Tryz.prog 43 [.pointer (some ⟨kb,0,none⟩)] [stP kb b nm mb 0 (kD1 b mb d m)] Unit (fun _=>True) (fun _=>.int .i64 (openW d (fileK nm walK m.wal.toNat)).2.1) (fun _=>[stP kb b nm mb 0 (kDX b (openW d (fileK nm walK m.wal.toNat)).1)]):=by
 refine fspec_ex ?_
 rintro⟨m',⟨mv,hmv⟩,⟨wp,hwp⟩,⟨rv,hrv⟩⟩
 show FSpec _ _ _ (exP (pcM (m'=m∧wp= .pointer none∧rv= .slice none 0 0) [row 70 1 mv (m.runs.map uV),diskP b d,memX mb []])::[kvP kb b nm m' mv wp mb rv 0]) _ _ _ _
 refine fspec_ex ?_
 rintro⟨_,rfl,rfl,rfl⟩
 have hs:=kopen_spec kb b nm m' mv mb 0 d (row 70 1 mv (m'.runs.map uV)) ls [] Vw.row hmv hnk hn hd hl hz hr (fun h=>absurd h he) (by simp) (fun l h=>by cases h) (fun j l h=>by simp at h)
 simp only[wpO,if_neg he]at hs
 refine hs.conseq (fun R h s=>(entD) _ s) (fun y hy=>⟨(),trivial,rfl,fun R h s=>?_⟩)
 refine st_in ⟨m',⟨mv,hmv⟩,⟨.pointer none,rfl⟩,y.rv⟩ ?_
 have q:SatL ([diskP b (openW d (fileK nm walK m'.wal.toNat)).1,kvP kb b nm m' mv (.pointer none) mb y.rv.1 0]++R) h:=(entD) _ s
 exact q
theorem st_mono{kb b:Nat}{nm:BA}{mb:Nat}{ft:Int}{D D':KG→HProp}(k:∀ g L h,SatL (D g::L) h→SatL (D' g::L) h){L:List HProp}{h:Frag}(s:SatL (stP kb b nm mb ft D::L) h):SatL (stP kb b nm mb ft D'::L) h:=by
 obtain⟨h1,h2,ha,l1,l2,⟨g,hg⟩,hL⟩:=s
 have s1:SatL (stM kb b nm mb ft D g++L) h:=SatL.flat (M:=stM kb b nm mb ft D g) ⟨h1,h2,ha,l1,l2,hg,hL⟩
 exact st_in g (k g _ _ s1)
theorem kD1_disk(b mb:Nat)(d:Dk)(m:Mn)(g:KG)(L:List HProp)(h:Frag)(s:SatL (kD1 b mb d m g::L) h):SatL (kDX b d g::L) h:=by
 obtain⟨h1,h2,ha,l1,l2,⟨y,hy⟩,hL⟩:=s
 have s1:SatL ([row 70 1 g.mv.1 (m.runs.map uV),diskP b d,memX mb []]++L) h:=SatL.flat (M:=[row 70 1 g.mv.1 (m.runs.map uV),diskP b d,memX mb []]) ⟨h1,h2,ha,l1,l2,hy,hL⟩
 show SatL (diskP b d::L) h
 exact SatL.consMono s1.tail fun _ q=>q.tail
theorem kOpenOk(b:Nat)(nm:BA)(d d1 d2 d3:Dk)(m:Mn)(sz:Nat)(ls bl:List (List Pr))(h1:1≤nm.size)(h32:nm.size≤32)(hd:d.Ok)(hl:d.loose.length≤1000000)(e1:loadK nm d=(m,d1,0))(hd1:d1.Ok)(hl1:d1.loose.length≤1000000)
  (hnm:∀ x∈d1.files.map (·.1),mayN x=true)(hc:d1.files.length≤1000000)(e2:sweepK nm m d1=(d2,0))(hd2:d2.Ok)(hl2:d2.loose.length≤1000000)(hnk:NumK m)(hz:(m.runs.zip ls).map (·.1)=m.runs)(hr:RunsOn nm d2 (m.runs.zip ls))
  (e3:openW d2 (fileK nm walK m.wal.toNat)=(d3,0,bl.map batchK,sz))(hbl:bl.length≤1000000)(hb1:∀ l∈bl,(∀ p∈l,okP p=true)∧l.length≤4096)
  (hmm:∀ j l,bl[j]? =some l→∀ i,i<l.length→MemOk (putAll (l.take i) (putAllB (bl.take j) []))):
  FSpec Tryz.prog 12 [.pointer (some ⟨b,0,none⟩),.string nm] [diskP b d] (Nat×Nat) (fun _=>True) (fun y=>.tuple #[.pointer (some ⟨y.1,0,none⟩),.int .i64 0])
   (fun y=>[stP y.1 b nm y.2 0 (kvD b y.2 nm ⟨d3,m,⟨(bl.length:Nat),(sz:Nat),0⟩,putAllB bl [],m.runs.zip ls⟩)]):=by
 have h256:=hnk.len
 refine kOpen_good b nm d (fun kb mb=>kvD b mb nm ⟨d3,m,⟨(bl.length:Nat),(sz:Nat),0⟩,putAllB bl [],m.runs.zip ls⟩) h1 h32 fun kb mb=>?_
 have s1:=kload_st kb b mb nm d (by omega) hd (by omega)
 rw[e1]at s1
 have s2:=ksweep_st kb b mb nm d1 m (by omega) (by omega) hd1 hl1 hnm hc
 rw[e2]at s2
 have s3:=kopen_ok kb b mb nm m d2 d3 sz ls bl hnk (by omega) hd2 hl2 hz hr e3 hbl hb1 hmm
 exact .ok (vspec_bound (args:=[]) s1) (.ok (vspec_bound (args:=[]) s2) (.ok (vspec_bound (args:=[]) s3) (.nil _)))
theorem kOpenE1(b:Nat)(nm:BA)(d:Dk)(h1:1≤nm.size)(h32:nm.size≤32)(hd:d.Ok)(hl:d.loose.length≤1000000)(he:(loadK nm d).2.2≠0):
  FSpec Tryz.prog 12 [.pointer (some ⟨b,0,none⟩),.string nm] [diskP b d] Unit (fun _=>True) (fun _=>.tuple #[.pointer none,.int .i64 (loadK nm d).2.2]) (fun _=>[diskP b (loadK nm d).2.1]):=by
 refine kOpen_fail b nm d (loadK nm d).2.1 (loadK nm d).2.2 h1 h32 he fun kb mb=>?_
 have s1:=kload_st kb b mb nm d (by omega) hd (by omega)
 exact .bad (vspec_bound (args:=[]) (s1.conseq (fun _ _ s=>s) (fun y hy=>⟨(),trivial,rfl,fun R h s=>st_mono (kD1_disk b mb _ _) s⟩))) he
theorem kOpenE2(b:Nat)(nm:BA)(d d1:Dk)(m:Mn)(h1:1≤nm.size)(h32:nm.size≤32)(hd:d.Ok)(hl:d.loose.length≤1000000)(e1:loadK nm d=(m,d1,0))(hd1:d1.Ok)(hl1:d1.loose.length≤1000000)(hz:m.runs.length≤1000000)
  (hnm:∀ x∈d1.files.map (·.1),mayN x=true)(hc:d1.files.length≤1000000)(he:(sweepK nm m d1).2≠0):
  FSpec Tryz.prog 12 [.pointer (some ⟨b,0,none⟩),.string nm] [diskP b d] Unit (fun _=>True) (fun _=>.tuple #[.pointer none,.int .i64 (sweepK nm m d1).2]) (fun _=>[diskP b (sweepK nm m d1).1]):=by
 refine kOpen_fail b nm d (sweepK nm m d1).1 (sweepK nm m d1).2 h1 h32 he fun kb mb=>?_
 have s1:=kload_st kb b mb nm d (by omega) hd (by omega)
 rw[e1]at s1
 have s2:=ksweep_st kb b mb nm d1 m hz (by omega) hd1 hl1 hnm hc
 exact .ok (vspec_bound (args:=[]) s1) (.bad (vspec_bound (args:=[]) (s2.conseq (fun _ _ s=>s) (fun y hy=>⟨(),trivial,rfl,fun R h s=>st_mono (kD1_disk b mb _ _) s⟩))) he)
theorem kOpenE3(b:Nat)(nm:BA)(d d1 d2:Dk)(m:Mn)(ls:List (List Pr))(h1:1≤nm.size)(h32:nm.size≤32)(hd:d.Ok)(hl:d.loose.length≤1000000)(e1:loadK nm d=(m,d1,0))(hd1:d1.Ok)(hl1:d1.loose.length≤1000000)
  (hnm:∀ x∈d1.files.map (·.1),mayN x=true)(hc:d1.files.length≤1000000)(e2:sweepK nm m d1=(d2,0))(hd2:d2.Ok)(hl2:d2.loose.length≤1000000)(hnk:NumK m)(hz:(m.runs.zip ls).map (·.1)=m.runs)(hr:RunsOn nm d2 (m.runs.zip ls))
  (he:(openW d2 (fileK nm walK m.wal.toNat)).2.1≠0):
  FSpec Tryz.prog 12 [.pointer (some ⟨b,0,none⟩),.string nm] [diskP b d] Unit (fun _=>True) (fun _=>.tuple #[.pointer none,.int .i64 (openW d2 (fileK nm walK m.wal.toNat)).2.1]) (fun _=>[diskP b (openW d2 (fileK nm walK m.wal.toNat)).1]):=by
 have h256:=hnk.len
 refine kOpen_fail b nm d _ _ h1 h32 he fun kb mb=>?_
 have s1:=kload_st kb b mb nm d (by omega) hd (by omega)
 rw[e1]at s1
 have s2:=ksweep_st kb b mb nm d1 m (by omega) (by omega) hd1 hl1 hnm hc
 rw[e2]at s2
 have s3:=kopen_bad kb b mb nm m d2 ls hnk (by omega) hd2 hl2 hz hr he
 exact .ok (vspec_bound (args:=[]) s1) (.ok (vspec_bound (args:=[]) s2) (.bad (vspec_bound (args:=[]) s3) he))
theorem apply1_spec(p:Pr):FSpec Tryz.prog 46 [.agg (prV p).toArray] [] Unit (fun _=>True) (fun _=>.bool (!okP p)) (fun _=>[]):=by
 have hc:=memCheck_spec p
 unfold prV at hc ⊢
 cases q:okP p with
 |true=>
  rw[q,if_pos rfl]at hc
  refine spec_intro [] _ Tryz.func46 rfl Tryz.ntmps46 (by rfl) (fun w0 R=>?_)
  repeat'(first|(refine gY ?_;intros)|(refine hY ?_ ?_<;>intro hgd)|(refine jY ?_ ?_<;>intro _)|fail)
  refine cl_Y (hc) ?_
  intro _ _
  repeat'(first|(refine gY ?_;intros)|(refine hY ?_ ?_<;>intro hgd)|(refine jY ?_ ?_<;>intro _)|fail)
  (refine rt_Y (y:=()) (hrs:=Tryz.results46) (hv:=?_) (hφ:=?_))
  ·rfl
  ·trivial
 |false=>
  rw[q,if_neg (by decide)]at hc
  refine spec_intro [] _ Tryz.func46 rfl Tryz.ntmps46 (by rfl) (fun w0 R=>?_)
  repeat'(first|(refine gY ?_;intros)|(refine hY ?_ ?_<;>intro hgd)|(refine jY ?_ ?_<;>intro _)|fail)
  refine cl_Y (hc) ?_
  intro _ _
  repeat'(first|(refine gY ?_;intros)|(refine hY ?_ ?_<;>intro hgd)|(refine jY ?_ ?_<;>intro _)|fail)
  (refine rt_Y (y:=()) (hrs:=Tryz.results46) (hv:=?_) (hφ:=?_))
  ·rfl
  ·trivial
theorem apply1_v(p:Pr):VSpec Tryz.prog (.func (.func 46) #[] #[]) [.agg (prV p).toArray] [] Unit (fun _=>True) (fun _=>.bool (!okP p)) (fun _=>[]):=vspec_fn (apply1_spec p)
set_option maxHeartbeats 1600000 in
theorem idxF_spec(u:Value)(A:HProp)(l:List Pr)(hA:Vw A 3 u (l.map prV))(hz:l.length≤1099511627776):
  FSpec Tryz.prog 100 [u,.func (.func 46) #[] #[]] [A] Int (fun y=>(decide (y≥0))=l.any (fun p=> !okP p)) (fun y=>.int .i64 y) (fun _=>[A]):=by
 have lm:(l.map prV).length=l.length:=by simp
 refine spec_intro [] _ Tryz.func100 rfl Tryz.ntmps100 (by rfl) (fun w0 R=>?_)
 refine ok_learn (VwIn.slice (VwIn.here hA)) ?_
 rintro⟨pa,ca,rfl⟩
 repeat'(first|(refine gY ?_;intros)|(refine hY ?_ ?_<;>intro hgd)|(refine jY ?_ ?_<;>intro _)|fail)
 refine ok_map (L':=[A]++R) entD ?_
 refine ok_loop' (γ:=Nat) (fun i ρ L=>i≤l.length∧(l.take i).any (fun p=> !okP p)=false∧Knows ρ [(0,.slice pa (l.map prV).length ca),(1,.func (.func 46) #[] #[]),(7,.int .i64 ((l.map prV).length:Int)),(8,.int .i64 (i:Int))]∧L=[A]++R)
  (fun i=>l.length-i) 0 ⟨Nat.zero_le _,rfl,⟨rfl,rfl,rfl,rfl,trivial⟩,rfl⟩ ?_
 rintro i ρ L ⟨hi,hno,hk,rfl⟩
 refine ok_regs hk ?_
 cases t1:decide ((i:Int)<((l.map prV).length:Int))with
 |false=>
  have hie:i=l.length:=by have:=of_decide_eq_false t1;omega
  rw[hie,List.take_length]at hno
  repeat'(first|(refine gY ?_;intros)|(refine hY ?_ ?_<;>intro hgd)|(refine jY ?_ ?_<;>intro _)|fail)
  (refine rt_Y (y:=(-1:Int)) (hrs:=Tryz.results100) (hv:=?_) (hφ:=?_))
  ·rfl
  ·rw[hno];rfl
 |true=>
  have h0:i<l.length:=by have:=of_decide_eq_true t1;omega
  have hx:(l.map prV)[i]? =some (prV l[i]):=by rw[List.getElem?_map,List.getElem?_eq_getElem h0];rfl
  have hn1:i<(l.map prV).length:=by omega
  have hv:=apply1_v l[i]
  have hst:(l.take (i+1)).any (fun p=> !okP p)= !okP l[i]:=by rw[List.take_succ_eq_append_getElem h0,List.any_append,hno];simp
  have hany:(!okP l[i])=true→l.any (fun p=> !okP p)=true:=fun h=>List.any_eq_true.2 ⟨l[i],List.getElem_mem h0,h⟩
  generalize l[i]=p at hx hv hst hany
  generalize (!okP p)=bb at hv hst hany
  obtain⟨pk,pv,pg⟩:=p
  dsimp only[prV]at hx hv
  refine ok_learn (VwIn.base (n:=3) (xs:=l.map prV) (VwIn.here hA) (by intro e;rw[e]at hn1;simp at hn1)) ?_
  rintro⟨bu,ou,rfl⟩
  cases bb with
  |true=>
   repeat'(first|(refine gY ?_;intros)|(refine hY ?_ ?_<;>intro hgd)|(refine jY ?_ ?_<;>intro _)|fail)
   refine clV_Y (hv) ?_
   intro _ _
   repeat'(first|(refine gY ?_;intros)|(refine hY ?_ ?_<;>intro hgd)|(refine jY ?_ ?_<;>intro _)|fail)
   (refine rt_Y (y:=(i:Int)) (hrs:=Tryz.results100) (hv:=?_) (hφ:=?_))
   ·rfl
   ·rw[hany rfl];exact decide_eq_true (by omega)
  |false=>
   repeat'(first|(refine gY ?_;intros)|(refine hY ?_ ?_<;>intro hgd)|(refine jY ?_ ?_<;>intro _)|fail)
   refine clV_Y (hv) ?_
   intro _ _
   repeat'(first|(refine gY ?_;intros)|(refine hY ?_ ?_<;>intro hgd)|(refine jY ?_ ?_<;>intro _)|fail)
   refine cont_map (L':=[A]++R) entD ?_
   exact cont_back (i+1) ⟨h0,hst,⟨rfl,rfl,rfl,rfl,trivial⟩,rfl⟩ (by omega)
theorem contF_spec(u:Value)(A:HProp)(l:List Pr)(hA:Vw A 3 u (l.map prV))(hz:l.length≤1099511627776):
  FSpec Tryz.prog 45 [u,.func (.func 46) #[] #[]] [A] Unit (fun _=>True) (fun _=>.bool (l.any (fun p=> !okP p))) (fun _=>[A]):=by
 have hi:=idxF_spec u A l hA hz
 refine spec_intro [] _ Tryz.func45 rfl Tryz.ntmps45 (by rfl) (fun w0 R=>?_)
 repeat'(first|(refine gY ?_;intros)|(refine hY ?_ ?_<;>intro hgd)|(refine jY ?_ ?_<;>intro _)|fail)
 refine cl_Y (hi) ?_
 intro y hy
 rw[← hy]
 repeat'(first|(refine gY ?_;intros)|(refine hY ?_ ?_<;>intro hgd)|(refine jY ?_ ?_<;>intro _)|fail)
 (refine rt_Y (y:=()) (hrs:=Tryz.results45) (hv:=?_) (hφ:=?_))
 ·rfl
 ·trivial
def pkD(D:KG→HProp)(A B:HProp)(g:KG):HProp:=pcP True [D g,A,B]
theorem st_pack{kb b:Nat}{nm:BA}{mb:Nat}{ft:Int}{D:KG→HProp}{A B:HProp}{L:List HProp}{h:Frag}(s:SatL (stP kb b nm mb ft D::A::B::L) h):SatL (stP kb b nm mb ft (pkD D A B)::L) h:=by
 obtain⟨h1,h2,ha,l1,l2,⟨g,hg⟩,hL⟩:=s
 have s1:SatL (stM kb b nm mb ft D g++(A::B::L)) h:=SatL.flat (M:=stM kb b nm mb ft D g) ⟨h1,h2,ha,l1,l2,hg,hL⟩
 have s2:SatL ([D g,kvP kb b nm g.m g.mv.1 g.wp.1 mb g.rv.1 ft,A,B]++L) h:=s1
 exact st_in g (pc_in (L:=[D g,A,B]) trivial ((entD) _ s2))
theorem st_unpack{kb b:Nat}{nm:BA}{mb:Nat}{ft:Int}{D:KG→HProp}{A B:HProp}{L:List HProp}{h:Frag}(s:SatL (stP kb b nm mb ft (pkD D A B)::L) h):SatL (stP kb b nm mb ft D::A::B::L) h:=by
 obtain⟨h1,h2,ha,l1,l2,⟨g,hg⟩,hL⟩:=s
 have s1:SatL (stM kb b nm mb ft (pkD D A B) g++L) h:=SatL.flat (M:=stM kb b nm mb ft (pkD D A B) g) ⟨h1,h2,ha,l1,l2,hg,hL⟩
 obtain⟨h3,h4,hb,l3,l4,⟨y,hy⟩,hM⟩:=s1
 have s2:SatL ([D g,A,B]++(kvP kb b nm g.m g.mv.1 g.wp.1 mb g.rv.1 ft::L)) h:=SatL.flat (M:=[D g,A,B]) ⟨h3,h4,hb,l3,l4,hy,hM⟩
 have s3:SatL ([D g,A,B,kvP kb b nm g.m g.mv.1 g.wp.1 mb g.rv.1 ft]++L) h:=s2
 have s4:SatL ([D g,kvP kb b nm g.m g.mv.1 g.wp.1 mb g.rv.1 ft,A,B]++L) h:=(entD) _ s3
 exact st_in g s4
abbrev bxK(b2 kb:Nat):HProp:=pts b2 (.cells [.pointer (some ⟨kb,0,none⟩)].toArray 28)
abbrev bxS(b6:Nat)(s:BA):HProp:=pts b6 (.cells [.string s].toArray 9)
def Kv.app(nm:BA)(K:Kv)(l:List Pr):Kv:={K with w:=(appendW K.w K.d (fileK nm walK K.m.wal.toNat) [batchK l]).1,d:=(appendW K.w K.d (fileK nm walK K.m.wal.toNat) [batchK l]).2.1}
def Kv.appE(nm:BA)(K:Kv)(l:List Pr):Int:=(appendW K.w K.d (fileK nm walK K.m.wal.toNat) [batchK l]).2.2
structure KvI(K:Kv):Prop where
 ok:K.d.Ok
 lo:K.d.loose.length≤1000000
 nk:NumK K.m
 w:K.w.fault=0→0≤K.w.n∧K.w.n≤1099511627776∧0≤K.w.size∧K.w.size≤1099511627776
set_option maxHeartbeats 4000000 in
theorem apply2_spec(kb b mb b2 b6:Nat)(nm:BA)(ft:Int)(K:Kv)(l:List Pr)(hI:KvI K)(hn:nm.size≤1000000)(hok:∀ p∈l,okP p=true)(hz:l.length≤4096):
  FSpec Tryz.prog 49 [.pointer (some ⟨b2,0,none⟩),.pointer (some ⟨b6,0,none⟩)] [stP kb b nm mb ft (pkD (kvD b mb nm K) (bxK b2 kb) (bxS b6 (batchK l)))] Unit (fun _=>True) (fun _=>.int .i64 (K.appE nm l))
   (fun _=>[stP kb b nm mb ft (pkD (kvD b mb nm (K.app nm l)) (bxK b2 kb) (bxS b6 (batchK l)))]):=by
 refine fspec_ex ?_
 rintro⟨m,⟨mv,hmv⟩,⟨wp,hwp⟩,⟨rv,hrv⟩⟩
 show FSpec _ _ _ (exP (pcM True [exP (kvM b mb nm K ⟨m,⟨mv,hmv⟩,⟨wp,hwp⟩,⟨rv,hrv⟩⟩),bxK b2 kb,bxS b6 (batchK l)])::[kvP kb b nm m mv wp mb rv ft]) _ _ _ _
 refine fspec_ex ?_
 rintro⟨_,_⟩
 show FSpec _ _ _ (exP (kvM b mb nm K ⟨m,⟨mv,hmv⟩,⟨wp,hwp⟩,⟨rv,hrv⟩⟩)::[bxK b2 kb,bxS b6 (batchK l),kvP kb b nm m mv wp mb rv ft]) _ _ _ _
 refine fspec_ex ?_
 rintro⟨wb,rs,g1,g2,g3⟩
 dsimp only at g1 g2 g3
 subst g1 g2
 have hsz:(batchK l).size≤2+4096*262662:=by
  have h1:=recsK_size_le hok
  have h2:l.length*262662≤4096*262662:=Nat.mul_le_mul_right _ hz
  unfold batchK
  rw[ByteArray.size_append,nbK_size];omega
 have hA:=fun(u:Value)=>Append_spec wb b (fileK nm walK K.m.wal.toNat) K.w K.d u (row 9 1 u [strV (batchK l)]) [batchK l] hI.ok (by have:=hI.lo;omega) (by rw[fileK_size];have hk:walK.size=3:=rfl;omega) Vw.row (by simp[lenT];omega) hI.w
 have hE:K.appE nm l=(appendW K.w K.d (fileK nm walK K.m.wal.toNat) [batchK l]).2.2:=rfl
 have hK:K.app nm l={K with w:=(appendW K.w K.d (fileK nm walK K.m.wal.toNat) [batchK l]).1,d:=(appendW K.w K.d (fileK nm walK K.m.wal.toNat) [batchK l]).2.1}:=rfl
 rw[hE,hK]
 clear hE hK
 generalize appendW K.w K.d (fileK nm walK K.m.wal.toNat) [batchK l]=aw at hA ⊢
 generalize batchK l=bt at hA hsz ⊢
 unfold kvM kvP kvC bxK bxS
 dsimp only
 refine spec_intro [] _ Tryz.func49 rfl Tryz.ntmps49 (by rfl) (fun w0 R=>?_)
 repeat'(first|(refine gY ?_;intros)|(refine hY ?_ ?_<;>intro hgd)|(refine jY ?_ ?_<;>intro _)|fail)
 refine ok_drawL (cv:=[]) [5] ([pts b2 (.cells [.pointer (some ⟨kb,0,none⟩)].toArray 28),pts b6 (.cells [.string bt].toArray 9),kvP kb b nm K.m mv (.pointer (some ⟨wb,0,none⟩)) mb rv ft]) (takeD) (by kernel_rfl) rfl (by decide +kernel) ?_
 repeat'(first|(refine gY ?_;intros)|(refine hY ?_ ?_<;>intro hgd)|(refine jY ?_ ?_<;>intro _)|fail)
 rename_i u hu
 refine cl_Y (hA u) ?_
 intro _ _
 repeat'(first|(refine gY ?_;intros)|(refine hY ?_ ?_<;>intro hgd)|(refine jY ?_ ?_<;>intro _)|fail)
 refine cont_map (L':=[row 70 1 mv (K.m.runs.map uV),row 83 1 rv (rs.map krV),runsX b nm rs,walP wb b (fileK nm walK K.m.wal.toNat) aw.1,diskP b aw.2.1,memX mb K.mem,bxK b2 kb,bxS b6 bt,kvP kb b nm K.m mv (.pointer (some ⟨wb,0,none⟩)) mb rv ft]++R) entD ?_
 refine cont_map (fun _ h=>kv_in (b:=b) (mb:=mb) (nm:=nm) (K:={K with w:=aw.1,d:=aw.2.1}) (g:=⟨K.m,⟨mv,hmv⟩,⟨.pointer (some ⟨wb,0,none⟩),hwp⟩,⟨rv,hrv⟩⟩) ⟨wb,rs,rfl,rfl,g3⟩ h) ?_
 refine cont_map (fun _ h=>pc_in (c:=True) (L:=[kvD b mb nm {K with w:=aw.1,d:=aw.2.1} ⟨K.m,⟨mv,hmv⟩,⟨.pointer (some ⟨wb,0,none⟩),hwp⟩,⟨rv,hrv⟩⟩,bxK b2 kb,bxS b6 bt]) trivial h) ?_
 refine cont_map (fun _ h=>st_in (kb:=kb) (b:=b) (nm:=nm) (mb:=mb) (ft:=ft) (D:=pkD (kvD b mb nm {K with w:=aw.1,d:=aw.2.1}) (bxK b2 kb) (bxS b6 bt)) ⟨K.m,⟨mv,hmv⟩,⟨.pointer (some ⟨wb,0,none⟩),hwp⟩,⟨rv,hrv⟩⟩ h) ?_
 (refine rt_Y (y:=()) (hrs:=Tryz.results49) (hv:=?_) (hφ:=?_))
 ·rfl
 ·trivial
theorem kput_st(kb b mb:Nat)(nm:BA)(ft:Int)(K:Kv)(u:Value)(A:HProp)(l:List Pr)(hA:Vw A 3 u (l.map prV))(hok:∀ p∈l,okP p=true)(hz:l.length≤1000000)(hm:∀ i,i<l.length→MemOk (putAll (l.take i) K.mem)):
  FSpec Tryz.prog 51 [.pointer (some ⟨kb,0,none⟩),u] [stP kb b nm mb ft (kvD b mb nm K),A] Unit (fun _=>True) (fun _=>.tuple #[]) (fun _=>[stP kb b nm mb ft (kvD b mb nm {K with mem:=putAll l K.mem}),A]):=by
 refine fspec_ex ?_
 rintro⟨m,⟨mv,hmv⟩,⟨wp,hwp⟩,⟨rv,hrv⟩⟩
 show FSpec _ _ _ (exP (kvM b mb nm K ⟨m,⟨mv,hmv⟩,⟨wp,hwp⟩,⟨rv,hrv⟩⟩)::[kvP kb b nm m mv wp mb rv ft,A]) _ _ _ _
 refine fspec_ex ?_
 rintro⟨wb,rs,g1,g2,g3⟩
 dsimp only at g1 g2 g3
 subst g1 g2
 have hs:=kput_spec kb b nm K.m mv (.pointer (some ⟨wb,0,none⟩)) mb rv ft u A l K.mem hA hok hz hm
 refine(fspec_frameK hs [row 70 1 mv (K.m.runs.map uV),row 83 1 rv (rs.map krV),runsX b nm rs,walP wb b (fileK nm walK K.m.wal.toNat) K.w,diskP b K.d]).conseq (fun R h s=>(entD) _ s) (fun y _=>⟨(),trivial,rfl,fun R h s=>?_⟩)
 have q:SatL (kvM b mb nm {K with mem:=putAll l K.mem} ⟨K.m,⟨mv,hmv⟩,⟨.pointer (some ⟨wb,0,none⟩),hwp⟩,⟨rv,hrv⟩⟩ ⟨wb,rs,rfl,rfl,g3⟩++([kvP kb b nm K.m mv (.pointer (some ⟨wb,0,none⟩)) mb rv ft,A]++R)) h:=(entD) _ s
 exact st_in ⟨K.m,⟨mv,hmv⟩,⟨.pointer (some ⟨wb,0,none⟩),hwp⟩,⟨rv,hrv⟩⟩ (kv_in (K:={K with mem:=putAll l K.mem}) (g:=⟨K.m,⟨mv,hmv⟩,⟨.pointer (some ⟨wb,0,none⟩),hwp⟩,⟨rv,hrv⟩⟩) ⟨wb,rs,rfl,rfl,g3⟩ q)
theorem kApply_nil(u:Value)(hu:u.oneCell'=true):FSpec Tryz.prog 15 [.pointer none,u] [] Unit (fun _=>True) (fun _=>.int .i64 1) (fun _=>[]):=by
 have hF:FSpec Tryz.prog 19 [.pointer none] [] Unit (fun _=>True) (fun _=>.int .i64 1) (fun _=>[]):=by
  refine spec_intro [] _ Tryz.func19 rfl Tryz.ntmps19 (by rfl) (fun w0 R=>?_)
  repeat'(first|(refine gY ?_;intros)|(refine hY ?_ ?_<;>intro hgd)|(refine jY ?_ ?_<;>intro _)|fail)
  (refine rt_Y (y:=()) (hrs:=Tryz.results19) (hv:=?_) (hφ:=?_))
  ·rfl
  ·trivial
 refine spec_intro [] _ Tryz.func15 rfl Tryz.ntmps15 (by rfl) (fun w0 R=>?_)
 repeat'(first|(refine gY ?_;intros)|(refine hY ?_ ?_<;>intro hgd)|(refine jY ?_ ?_<;>intro _)|fail)
 refine cl_Y (hF) ?_
 intro _ _
 repeat'(first|(refine gY ?_;intros)|(refine hY ?_ ?_<;>intro hgd)|(refine jY ?_ ?_<;>intro _)|fail)
 (refine rt_Y (y:=()) (hrs:=Tryz.results15) (hv:=?_) (hφ:=?_))
 ·rfl
 ·trivial
def mayK(l:List Pr):Int:=if decide ((4096:Int)<(l.length:Int))||l.any (fun p=> !okP p)then 2 else if decide ((4194304:Int)<((batchK l).size:Int))then 5 else 0
theorem mayK_0{l:List Pr}(h:mayK l=0):l.length≤4096∧(∀ p∈l,okP p=true)∧decide ((4194304:Int)<((batchK l).size:Int))=false:=by
 unfold mayK at h
 split at h
 ·cases h
 ·rename_i h1
  split at h
  ·cases h
  ·rename_i h2
   simp only[Bool.or_eq_true,not_or,Bool.not_eq_true]at h1
   refine⟨by have:=of_decide_eq_false h1.1;omega,fun p hp=>?_,by simpa using h2⟩
   have:=List.any_eq_false.1 h1.2 p hp
   simpa using this
abbrev apFn(b2 b6:Nat):Value:=.func (.func 49) #[] #[.pointer (some ⟨b2,0,none⟩),.pointer (some ⟨b6,0,none⟩)]
theorem apply2_steps(kb b mb b2 b6:Nat)(nm:BA)(K:Kv)(l:List Pr)(hI:KvI K)(hn:nm.size≤1000000)(hok:∀ p∈l,okP p=true)(hz:l.length≤4096):
  Steps kb b nm mb 0 [apFn b2 b6] (pkD (kvD b mb nm K) (bxK b2 kb) (bxS b6 (batchK l))) (K.appE nm l) (pkD (kvD b mb nm (K.app nm l)) (bxK b2 kb) (bxS b6 (batchK l))):=by
 have hv:VSpec Tryz.prog (apFn b2 b6) [] [stP kb b nm mb 0 (pkD (kvD b mb nm K) (bxK b2 kb) (bxS b6 (batchK l)))] Unit (fun _=>True) (fun _=>.int .i64 (K.appE nm l)) (fun _=>[stP kb b nm mb 0 (pkD (kvD b mb nm (K.app nm l)) (bxK b2 kb) (bxS b6 (batchK l)))]):=
  vspec_func (args:=[]) (cap:=[.pointer (some ⟨b2,0,none⟩),.pointer (some ⟨b6,0,none⟩)]) (apply2_spec kb b mb b2 b6 nm 0 K l hI hn hok hz)
 by_cases he:K.appE nm l=0
 ·rw[he]at hv ⊢
  exact .ok hv (.nil _)
 ·exact .bad hv he
set_option maxHeartbeats 4000000 in
theorem kApply_do(kb b mb:Nat)(nm:BA)(K:Kv)(u:Value)(A:HProp)(l:List Pr)(hA:Vw A 3 u (l.map prV))(hI:KvI K)(hn:nm.size≤1000000)(hm0:mayK l=0)(hl0:l≠[])(hm:∀ i,i<l.length→MemOk (putAll (l.take i) K.mem)):
  FSpec Tryz.prog 15 [.pointer (some ⟨kb,0,none⟩),u] [stP kb b nm mb 0 (kvD b mb nm K),A] Unit (fun _=>True) (fun _=>.int .i64 (K.appE nm l))
   (fun _=>[stP kb b nm mb (ftK (K.appE nm l) 0) (kvD b mb nm {K.app nm l with mem:=if K.appE nm l=0 then putAll l K.mem else K.mem}),A]):=by
 obtain⟨hz,hok,hbz⟩:=mayK_0 hm0
 have lm:(l.map prV).length=l.length:=by simp
 have hF:=kFault_spec kb b nm mb 0 (kvD b mb nm K)
 have hB:=batch_spec u A l hA hok hz
 have hC:=contF_spec u A l hA (by omega)
 have hany:l.any (fun p=> !okP p)=false:=by
  rw[List.any_eq_false]
  intro p hp
  rw[hok p hp];decide
 rw[hany]at hC
 have h2:=fun b2 b6=>apply2_steps kb b mb b2 b6 nm K l hI hn hok hz
 have hPt:=kput_st kb b mb nm 0 (K.app nm l) u A l hA hok (by omega) hm
 have f0:decide (((l.map prV).length:Int)=0)=false:=decide_eq_false (by rw[lm];have:l.length≠0:=fun h=>hl0 (List.eq_nil_of_length_eq_zero h);omega)
 have f1:decide ((4096:Int)<((l.map prV).length:Int))=false:=decide_eq_false (by omega)
 generalize hbt:batchK l=bt at hB h2 hbz
 generalize K.appE nm l=e at h2 ⊢
 refine spec_intro [] _ Tryz.func15 rfl Tryz.ntmps15 (by rfl) (fun w0 R=>?_)
 refine ok_learn (VwIn.slice (VwIn.there (VwIn.here hA))) ?_
 rintro⟨pa,ca,rfl⟩
 repeat'(first|(refine gY ?_;intros)|(refine hY ?_ ?_<;>intro hgd)|(refine jY ?_ ?_<;>intro _)|fail)
 rename_i b2
 refine cl_Y (hF) ?_
 intro _ _
 repeat'(first|(refine gY ?_;intros)|(refine hY ?_ ?_<;>intro hgd)|(refine jY ?_ ?_<;>intro _)|fail)
 refine cl_Y (hC) ?_
 intro _ _
 repeat'(first|(refine gY ?_;intros)|(refine hY ?_ ?_<;>intro hgd)|(refine jY ?_ ?_<;>intro _)|fail)
 refine cl_Y (hB) ?_
 intro _ _
 repeat'(first|(refine gY ?_;intros)|(refine hY ?_ ?_<;>intro hgd)|(refine jY ?_ ?_<;>intro _)|fail)
 rename_i b6 v hv
 have hSt:=steps_spec kb b nm mb 0 v (row 41 1 v ([apFn b2 b6].map fun f=>[f])) [apFn b2 b6] _ _ e Vw.row (by show 1≤1000;decide) (h2 b2 b6)
 refine opsL_mapL (fun _ h=>st_pack (A:=bxK b2 kb) (B:=bxS b6 bt) (Take.out3 (A:=stP kb b nm mb 0 (kvD b mb nm K)) (B:=bxK b2 kb) (C:=bxS b6 bt) takeD h)) ?_
 refine opsL_mapL (L':=[row 41 1 v ([apFn b2 b6].map fun f=>[f]),stP kb b nm mb 0 (pkD (kvD b mb nm K) (bxK b2 kb) (bxS b6 bt)),A]++R) entD ?_
 cases q:decide (e=0)with
 |true=>
  obtain rfl:=of_decide_eq_true q
  rw[if_pos rfl]
  rw[show ftK 0 0=0 from rfl]at hSt ⊢
  repeat'(first|(refine gY ?_;intros)|(refine hY ?_ ?_<;>intro hgd)|(refine jY ?_ ?_<;>intro _)|fail)
  refine cl_Y (hSt) ?_
  intro _ _
  refine opsL_mapL (fun _ h=>st_unpack (A:=bxK b2 kb) (B:=bxS b6 bt) (Take.out1 (A:=stP kb b nm mb 0 (pkD (kvD b mb nm (K.app nm l)) (bxK b2 kb) (bxS b6 bt))) takeD h)) ?_
  unfold bxK bxS
  repeat'(first|(refine gY ?_;intros)|(refine hY ?_ ?_<;>intro hgd)|(refine jY ?_ ?_<;>intro _)|fail)
  refine cl_Y (hPt) ?_
  intro _ _
  repeat'(first|(refine gY ?_;intros)|(refine hY ?_ ?_<;>intro hgd)|(refine jY ?_ ?_<;>intro _)|fail)
  (refine rt_Y (y:=()) (hrs:=Tryz.results15) (hv:=?_) (hφ:=?_))
  ·rfl
  ·trivial
 |false=>
  have he:e≠0:=of_decide_eq_false q
  rw[if_neg he]
  repeat'(first|(refine gY ?_;intros)|(refine hY ?_ ?_<;>intro hgd)|(refine jY ?_ ?_<;>intro _)|fail)
  refine cl_Y (hSt) ?_
  intro _ _
  refine opsL_mapL (fun _ h=>st_unpack (A:=bxK b2 kb) (B:=bxS b6 bt) (Take.out1 (A:=stP kb b nm mb (ftK e 0) (pkD (kvD b mb nm (K.app nm l)) (bxK b2 kb) (bxS b6 bt))) takeD h)) ?_
  unfold bxK bxS
  repeat'(first|(refine gY ?_;intros)|(refine hY ?_ ?_<;>intro hgd)|(refine jY ?_ ?_<;>intro _)|fail)
  (refine rt_Y (y:=()) (hrs:=Tryz.results15) (hv:=?_) (hφ:=?_))
  ·rfl
  ·trivial
end Go.Proofs.YtgbmjoenbocfcaaGreat
