import Derived.Test.YtgbmjoenbocfcaaGreatG11
import Derived.Test.YtgbmjoenbocfcaaGreatG14
set_option linter.unusedSimpArgs false
set_option linter.unusedVariables false
set_option maxRecDepth 100000
namespace Go.Proofs.YtgbmjoenbocfcaaGreat
open Go Go.Fx Go.Proofs Go.Pl
def memM(mb:Nat)(l:List Pr)(y:{y:T×Int // y.1.list=l}):List HProp:=memL mb y.1.1 y.1.2
def memX(mb:Nat)(l:List Pr):HProp:=exP (memM mb l)
theorem memX_in{mb:Nat}{l:List Pr}{t:T}{s:Int}(e:t.list=l){L:List HProp}{h:Frag}(k:SatL (memL mb t s++L) h):SatL (memX mb l::L) h:=ex_in (M:=memM mb l) ⟨(t,s),e⟩ rfl k
theorem mNewX:FSpec Tryz.prog 39 [] [] Nat (fun _=>True) (fun m=>.pointer (some ⟨m,0,none⟩)) (fun m=>[memX m []]):=
 mmNew_spec.conseq (fun _ _ s=>s) (fun m _=>⟨m,trivial,rfl,fun R h s=>memX_in (t:=.leaf) (s:=0) rfl s⟩)
theorem mPutX(mb:Nat)(l:List Pr)(p:Pr)(hp:okP p=true)(ht:MemOk l):FSpec Tryz.prog 110 [.pointer (some ⟨mb,0,none⟩),.agg (prV p).toArray] [memX mb l] Unit (fun _=>True) (fun _=>.int .i64 0) (fun _=>[memX mb (ins p l)]):=by
 refine fspec_ex ?_
 rintro⟨⟨t,s⟩,rfl⟩
 exact(Put_yes mb t s p hp ht).conseq (fun _ _ s=>s) (fun y hy=>⟨(),trivial,rfl,fun R h s=>memX_in hy s⟩)
theorem mLenX(mb:Nat)(l:List Pr):FSpec Tryz.prog 52 [.pointer (some ⟨mb,0,none⟩)] [memX mb l] Unit (fun _=>True) (fun _=>.int .i64 (l.length:Int)) (fun _=>[memX mb l]):=by
 refine fspec_ex ?_
 rintro⟨⟨t,s⟩,rfl⟩
 exact(Len_spec mb t s).conseq (fun _ _ s=>s) (fun y hy=>⟨(),trivial,rfl,fun R h s=>memX_in rfl s⟩)
theorem mGetX(mb:Nat)(l:List Pr)(key:BA)(ht:Sorted l):FSpec Tryz.prog 34 [.pointer (some ⟨mb,0,none⟩),.string key] [memX mb l] Unit (fun _=>True) (fun _=>getV (Pl.look key l)) (fun _=>[memX mb l]):=by
 refine fspec_ex ?_
 rintro⟨⟨t,s⟩,rfl⟩
 exact(Get_spec mb t s key ht).conseq (fun _ _ s=>s) (fun y hy=>⟨(),trivial,rfl,fun R h s=>memX_in rfl s⟩)
theorem mScanX(mb:Nat)(l:List Pr)(fr to:BA)(most:Int)(h1:1≤most)(ht:MemOk l):FSpec Tryz.prog 56 [.pointer (some ⟨mb,0,none⟩),.string fr,.string to,.int .i64 most] [memX mb l] Value (fun _=>True) (fun v=>v)
  (fun v=>[row 65 3 v ((scanL fr to most l).map prV),memX mb l]):=by
 refine fspec_ex ?_
 rintro⟨⟨t,s⟩,rfl⟩
 exact(mmScan_spec mb t s fr to most h1 ht).conseq (fun _ _ s=>s) (fun y hy=>⟨y,trivial,rfl,fun R h k=>SatL.consMono k fun _ q=>memX_in (t:=t) (s:=s) rfl q⟩)
theorem leaf_in{L:List HProp}{h:Frag}(s:SatL L h):SatL (treeP .leaf::L) h:=satL_emp (A:=treeP .leaf) trivial s
theorem mClearX(mb:Nat)(l:List Pr):FSpec Tryz.prog 62 [.pointer (some ⟨mb,0,none⟩)] [memX mb l] Unit (fun _=>True) (fun _=>.tuple #[]) (fun _=>[memX mb []]):=by
 refine fspec_ex ?_
 rintro⟨⟨t,s⟩,rfl⟩
 unfold memM memL memC
 dsimp only
 refine spec_intro [] _ Tryz.func62 rfl Tryz.ntmps62 (by rfl) (fun w0 R=>?_)
 repeat'(first|(refine gY ?_;intros)|(refine hY ?_ ?_<;>intro hgd)|(refine jY ?_ ?_<;>intro _)|fail)
 refine cont_map (fun _ h=>leaf_in h) ?_
 refine cont_map (L':=[pts mb (.cells [.pointer none,.int .i64 0,.int .i64 0,.int .u64 s].toArray 127),treeP .leaf]++R) entD ?_
 refine cont_map (fun _ h=>memX_in (mb:=mb) (l:=[]) (t:=.leaf) (s:=s) rfl h) ?_
 (refine rt_Y (y:=()) (hrs:=Tryz.results62) (hv:=?_) (hφ:=?_))
 ·rfl
 ·trivial
def putAll(l:List Pr)(m:List Pr):List Pr:=l.foldl (fun m p=>ins p m) m
theorem putAll_succ{l m:List Pr}{i:Nat}{p:Pr}(h:l[i]? =some p):putAll (l.take (i+1)) m=ins p (putAll (l.take i) m):=by
 have hi:=(List.getElem?_eq_some_iff.1 h).1
 have e:=(List.getElem?_eq_some_iff.1 h).2
 unfold putAll
 rw[List.take_succ_eq_append_getElem hi,List.foldl_append,e];rfl
set_option maxHeartbeats 1600000 in
theorem kput_spec(kb b:Nat)(nm:BA)(m:Mn)(mv wp:Value)(mb:Nat)(rv:Value)(ft:Int)(u:Value)(A:HProp)(l mem:List Pr)(hA:Vw A 3 u (l.map prV))(hok:∀ p∈l,okP p=true)(hz:l.length≤1000000)(hm:∀ i,i<l.length→MemOk (putAll (l.take i) mem)):
  FSpec Tryz.prog 51 [.pointer (some ⟨kb,0,none⟩),u] [kvP kb b nm m mv wp mb rv ft,memX mb mem,A] Unit (fun _=>True) (fun _=>.tuple #[]) (fun _=>[kvP kb b nm m mv wp mb rv ft,memX mb (putAll l mem),A]):=by
 have lm:(l.map prV).length=l.length:=by simp
 unfold kvP kvC
 refine spec_intro [] _ Tryz.func51 rfl Tryz.ntmps51 (by rfl) (fun w0 R=>?_)
 refine ok_learn (VwIn.slice (VwIn.there (VwIn.there (VwIn.here hA)))) ?_
 rintro⟨pa,ca,rfl⟩
 repeat'(first|(refine gY ?_;intros)|(refine hY ?_ ?_<;>intro hgd)|(refine jY ?_ ?_<;>intro _)|fail)
 refine ok_map (L':=[memX mb (putAll (l.take 0) mem),kvP kb b nm m mv wp mb rv ft,A]++R) entD ?_
 refine ok_loop' (γ:=Nat) (fun i ρ L=>i≤l.length∧Knows ρ [(0,.pointer (some ⟨kb,0,none⟩)),(6,.slice pa (l.map prV).length ca),(7,.int .i64 ((l.map prV).length:Int)),(8,.int .i64 (i:Int))]∧
   L=[memX mb (putAll (l.take i) mem),kvP kb b nm m mv wp mb rv ft,A]++R) (fun i=>l.length-i) 0 ⟨Nat.zero_le _,⟨rfl,rfl,rfl,rfl,trivial⟩,rfl⟩ ?_
 rintro i ρ L ⟨hi,hk,rfl⟩
 refine ok_regs hk ?_
 unfold kvP kvC
 cases t1:decide ((i:Int)<((l.map prV).length:Int))with
 |false=>
  have hie:i=l.length:=by have:=of_decide_eq_false t1;omega
  rw[show l.take i=l by rw[hie,List.take_length]]
  repeat'(first|(refine gY ?_;intros)|(refine hY ?_ ?_<;>intro hgd)|(refine jY ?_ ?_<;>intro _)|fail)
  (refine rt_Y (y:=()) (hrs:=Tryz.results51) (hv:=?_) (hφ:=?_))
  ·rfl
  ·trivial
 |true=>
  have h0:i<l.length:=by have:=of_decide_eq_true t1;omega
  have hx:(l.map prV)[i]? =some (prV l[i]):=by rw[List.getElem?_map,List.getElem?_eq_getElem h0];rfl
  have hn1:i<(l.map prV).length:=by omega
  have hst:=putAll_succ (m:=mem) (List.getElem?_eq_getElem h0)
  have hpt:=mPutX mb (putAll (l.take i) mem) l[i] (hok _ (List.getElem_mem h0)) (hm i h0)
  rw[← hst]at hpt
  clear hst
  generalize l[i]=p at hx hpt
  obtain⟨pk,pv,pg⟩:=p
  dsimp only[prV]at hx hpt
  refine ok_learn (VwIn.base (n:=3) (xs:=l.map prV) (VwIn.there (VwIn.there (VwIn.here hA))) (by intro e;rw[e]at hn1;simp at hn1)) ?_
  rintro⟨bu,ou,rfl⟩
  repeat'(first|(refine gY ?_;intros)|(refine hY ?_ ?_<;>intro hgd)|(refine jY ?_ ?_<;>intro _)|fail)
  refine cl_Y (hpt) ?_
  intro _ _
  repeat'(first|(refine gY ?_;intros)|(refine hY ?_ ?_<;>intro hgd)|(refine jY ?_ ?_<;>intro _)|fail)
  refine cont_map (L':=[memX mb (putAll (l.take (i+1)) mem),kvP kb b nm m mv wp mb rv ft,A]++R) entD ?_
  exact cont_back (i+1) ⟨h0,⟨rfl,rfl,rfl,rfl,trivial⟩,rfl⟩ (by omega)
end Go.Proofs.YtgbmjoenbocfcaaGreat
