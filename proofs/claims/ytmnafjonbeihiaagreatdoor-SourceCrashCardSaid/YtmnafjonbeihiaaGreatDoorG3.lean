/- Texts merged: RlA RlB RlC RlD. -/
import Derived.Test.YtmnafjonbeihiaaGreatDoorH36
set_option linter.unusedSimpArgs false
set_option linter.unusedVariables false
set_option maxRecDepth 100000
namespace Go.Proofs.YtmnafjonbeihiaaGreatDoor
open Go Go.Fx Go.Proofs Go.Pl
def placeV(p:Pc):List Value:=.int .i64 p.1::valV p.2
@[reducible] def KPlace:KT:=⟨Pc,inferInstance,fun p=>.agg (placeV p).toArray⟩
instance{t k i r:Int}{s:ByteArray}:KeyV KPlace (.agg #[.int .i64 t,.int .u8 k,.int .i64 i,.int .u64 r,.string s]) (t,⟨k,i,r,s⟩):=⟨rfl⟩
theorem pl_part0(p:Pc)(w:World):(part 3 (placeV p).toArray 0).run Tryz.prog w= .ok (.int .i64 p.1) w:=run_part1 Tryz.underlying3 rfl rfl
theorem pl_part1(p:Pc)(w:World):(part 93 (placeV p).toArray 1).run Tryz.prog w= .ok (.agg (valV p.2).toArray) w:=by
 unfold part
 simp only[Sem.run_bind,Tryz.isAgg93,Tryz.sizeOf93,Result.andThen_ok,if_true,Sem.run_pure]
 rfl
theorem vl_leaf(v:Vl)(w:World)(e:Bool)(n:Nat):(Instr.checkKey e (n+2) 93 (.agg (valV v).toArray)).run Tryz.prog w= .ok () w:=by
 have p0:(part 5 (valV v).toArray 0).run Tryz.prog w= .ok (.int .u8 v.kind) w:=run_part1 Tryz.underlying5 rfl rfl
 have p1:(part 2 (valV v).toArray 1).run Tryz.prog w= .ok (.int .i64 v.int) w:=run_part1 Tryz.underlying2 rfl rfl
 have p2:(part 25 (valV v).toArray 2).run Tryz.prog w= .ok (.int .u64 v.real) w:=run_part1 Tryz.underlying25 rfl rfl
 have p3:(part 9 (valV v).toArray 3).run Tryz.prog w= .ok (.string v.text) w:=run_part1 Tryz.underlying9 rfl rfl
 have k0:=MapKept.run_checkKey (P:=Tryz.prog) (w:=w) (k:=.int .u8 v.kind) Tryz.underlying5 rfl e n
 have k1:=MapKept.run_checkKey (P:=Tryz.prog) (w:=w) (k:=.int .i64 v.int) Tryz.underlying2 rfl e n
 have k2:=MapKept.run_checkKey (P:=Tryz.prog) (w:=w) (k:=.int .u64 v.real) Tryz.underlying25 rfl e n
 have k3:=MapKept.run_checkKey (P:=Tryz.prog) (w:=w) (k:=.string v.text) Tryz.underlying9 trivial e n
 rw[Instr.checkKey]
 simp only[Sem.run_bind,run_underlying Tryz.underlying93,Result.andThen_ok]
 rw[← Array.forIn_toList]
 simp[List.forIn_cons,Sem.run_bind,p0,p1,p2,p3,k0,k1,k2,k3,Result.andThen_ok]
theorem pl_check(e:Bool)(p:Pc)(w:World):(Instr.checkKey e 10000 135 (KPlace.enc p)).run Tryz.prog w= .ok () w:=by
 have k0:=MapKept.run_checkKey (P:=Tryz.prog) (w:=w) (k:=.int .i64 p.1) Tryz.underlying3 rfl e 9998
 have k1:=vl_leaf p.2 w e 9997
 show(Instr.checkKey e (9999+1) 135 (.agg (placeV p).toArray)).run Tryz.prog w= .ok () w
 rw[Instr.checkKey]
 simp only[Sem.run_bind,run_underlying Tryz.underlying135,Result.andThen_ok]
 rw[← Array.forIn_toList]
 simp[List.forIn_cons,Sem.run_bind,pl_part0,pl_part1,k0,k1,Result.andThen_ok]
theorem vl_equal(a b:Vl)(w:World)(n:Nat):(Op.equalIn (n+2) 93 (.agg (valV a).toArray) (.agg (valV b).toArray)).run Tryz.prog w= .ok (decide (a=b)) w:=by
 obtain⟨fs,hu,hs,hg,hi⟩:=valEq.get
 have hfo:Tryz.prog.fieldsOf 93=fs:=by simp[Program.fieldsOf,hu]
 rw[show n+2=(n+1)+1 from rfl,run_equalIn_struct w (n+1) 93 _ _ (by rw[hfo];exact hu) hs,hfo]
 have h:=run_eqFields (P:=Tryz.prog) (w:=w) (n:=n) (xs:=valV a) (ys:=valV b) fs.toList 0 _ hi rfl
 rw[List.drop_zero,List.drop_zero,eqL_valV]at h
 exact h
theorem pl_equal(a b:Pc)(w:World):(Op.equal 135 (KPlace.enc a) (KPlace.enc b)).run Tryz.prog w= .ok (decide (a=b)) w:=by
 have hst:Tryz.prog.stoodInHeld 135=false:=by kernel_rfl
 have k0:(Op.equalIn 9999 3 (.int .i64 a.1) (.int .i64 b.1)).run Tryz.prog w= .ok (decide (a.1=b.1)) w:=run_eqD (P:=Tryz.prog) (n:=9998) Tryz.underlying3 (x:=.int .i64 a.1) (y:=.int .i64 b.1) rfl
 have k1:=vl_equal a.2 b.2 w 9997
 show(Op.equalIn (9999+1) 135 (.agg (placeV a).toArray) (.agg (placeV b).toArray)).run Tryz.prog w=_
 rw[run_equalIn_struct w 9999 135 _ _ (by simp[Program.fieldsOf,Tryz.underlying135]) hst]
 simp[Program.fieldsOf,Tryz.underlying135,Op.eqFields,Sem.run_bind,pl_part0,pl_part1,k0,k1,Result.andThen_ok,Sem.run_ite,Sem.run_pure]
 by_cases h1:a.1=b.1<;>by_cases h2:a.2=b.2<;>simp[h1,h2,Prod.ext_iff]
theorem pl_bits(p:Pc):Instr.sameBits 10000 (KPlace.enc p) (KPlace.enc p)=true:=by
 show Instr.sameBits (9999+1) (.agg (placeV p).toArray) (.agg (placeV p).toArray)=true
 simp[Instr.sameBits,placeV,valV]
 show(p.2.text.data==p.2.text.data)=true
 exact beq_self_eq_true _
instance keyPlace:KeyT Tryz.prog 135 KPlace:=keyT_asking Tryz.underlying135 (fun _ _=>rfl) pl_check pl_equal pl_bits
instance keyU8:KeyT Tryz.prog 5 (KInt .u8):=keyT_int Tryz.underlying5
theorem vw_none{A:HProp}{n len cap:Nat}{xs:List (List Value)}(v:Vw A n (.slice none len cap) xs){L:List HProp}(h:Frag)(s:SatL (A::L) h):xs=[]:=by
 obtain⟨h1,_,_,_,_,hA,_⟩:=s
 obtain⟨_,p,c,e,_,hp,_⟩:=v h1 hA
 simp only[Value.slice.injEq]at e
 exact hp e.1.symm
theorem cloneV_spec(u:Value)(A:HProp)(l:List Vl)(hu:Vw A 4 u (l.map valV))(hl:l.length≤1000000):
  FSpec Tryz.prog 44 [u] [A] {v:Value // v.oneCell'=true} (fun _=>True) (fun y=>y.1) (fun y=>[row 93 4 y.1 (l.map valV),A]):=by
 have hlm:(l.map valV).length=l.length:=by simp
 refine spec_intro [] _ Tryz.func44 rfl Tryz.ntmps44 (by rfl) (fun w0 R=>?_)
 refine ok_learn (VwIn.slice (VwIn.here hu)) ?_
 rintro⟨pu,cu,rfl⟩
 cases pu with
 |none=>
  refine ok_learn (vw_none hu) ?_
  intro hn
  repeat'(first|(refine gY ?_;intros)|(refine hY ?_ ?_<;>intro hgd)|(refine jY ?_ ?_<;>intro _)|fail)
  refine cont_map (fun _ h=>nilRow (e:=93) (n:=4) h) ?_
  rw[hn]
  (refine rt_Y (y:=⟨.slice none 0 0,rfl⟩) (hrs:=Tryz.results44) (hv:=?_) (hφ:=?_))
  ·rfl
  ·trivial
 |some a=>
  repeat'(first|(refine gY ?_;intros)|(refine hY ?_ ?_<;>intro hgd)|(refine jY ?_ ?_<;>intro _)|fail)
  rename_i v1 _ v2 hv2
  (refine rt_Y (y:=⟨v2,hv2⟩) (hrs:=Tryz.results44) (hv:=?_) (hφ:=?_))
  ·rfl
  ·trivial
theorem cloneC_spec(u:Value)(A:HProp)(l:List Co)(hu:Vw A 3 u (l.map coV))(hl:l.length≤1000000):
  FSpec Tryz.prog 111 [u] [A] {v:Value // v.oneCell'=true} (fun _=>True) (fun y=>y.1) (fun y=>[row 163 3 y.1 (l.map coV),A]):=by
 have hlm:(l.map coV).length=l.length:=by simp
 refine spec_intro [] _ Tryz.func111 rfl Tryz.ntmps111 (by rfl) (fun w0 R=>?_)
 refine ok_learn (VwIn.slice (VwIn.here hu)) ?_
 rintro⟨pu,cu,rfl⟩
 cases pu with
 |none=>
  refine ok_learn (vw_none hu) ?_
  intro hn
  repeat'(first|(refine gY ?_;intros)|(refine hY ?_ ?_<;>intro hgd)|(refine jY ?_ ?_<;>intro _)|fail)
  refine cont_map (fun _ h=>nilRow (e:=163) (n:=3) h) ?_
  rw[hn]
  (refine rt_Y (y:=⟨.slice none 0 0,rfl⟩) (hrs:=Tryz.results111) (hv:=?_) (hφ:=?_))
  ·rfl
  ·trivial
 |some a=>
  repeat'(first|(refine gY ?_;intros)|(refine hY ?_ ?_<;>intro hgd)|(refine jY ?_ ?_<;>intro _)|fail)
  rename_i v1 _ v2 hv2
  (refine rt_Y (y:=⟨v2,hv2⟩) (hrs:=Tryz.results111) (hv:=?_) (hφ:=?_))
  ·rfl
  ·trivial
theorem cloneT_spec(u:Value)(A:HProp)(l:List Tb)(hu:Vw A 5 u (l.map tbV))(hl:l.length≤1000000):
  FSpec Tryz.prog 110 [u] [A] {v:Value // v.oneCell'=true} (fun _=>True) (fun y=>y.1) (fun y=>[row 111 5 y.1 (l.map tbV),A]):=by
 have hlm:(l.map tbV).length=l.length:=by simp
 refine spec_intro [] _ Tryz.func110 rfl Tryz.ntmps110 (by rfl) (fun w0 R=>?_)
 refine ok_learn (VwIn.slice (VwIn.here hu)) ?_
 rintro⟨pu,cu,rfl⟩
 cases pu with
 |none=>
  refine ok_learn (vw_none hu) ?_
  intro hn
  repeat'(first|(refine gY ?_;intros)|(refine hY ?_ ?_<;>intro hgd)|(refine jY ?_ ?_<;>intro _)|fail)
  refine cont_map (fun _ h=>nilRow (e:=111) (n:=5) h) ?_
  rw[hn]
  (refine rt_Y (y:=⟨.slice none 0 0,rfl⟩) (hrs:=Tryz.results110) (hv:=?_) (hφ:=?_))
  ·rfl
  ·trivial
 |some a=>
  repeat'(first|(refine gY ?_;intros)|(refine hY ?_ ?_<;>intro hgd)|(refine jY ?_ ?_<;>intro _)|fail)
  rename_i v1 _ v2 hv2
  (refine rt_Y (y:=⟨v2,hv2⟩) (hrs:=Tryz.results110) (hv:=?_) (hφ:=?_))
  ·rfl
  ·trivial
theorem TbOk.ext{P P':HProp}(e:Ext P P'){t:Tb}(h:TbOk P t):TbOk P' t:=⟨e.vw h.vw,h.len,h.nm,h.cnm⟩
theorem SV.ext{P P':HProp}(e:Ext P P'){vs:Value}{ts:List Tb}(h:SV P vs ts):SV P' vs ts:=⟨e.vw h.vw,fun t ht=>(h.tab t ht).ext e,h.len,h.cap⟩
theorem UT.ext{P P':HProp}(e:Ext P P')(h:UT P):UT P':=fun w ⟨f,l,hf⟩=>by
 obtain⟨f',l',hf'⟩:=e f hf
 exact h w ⟨f',l'.trans l,hf'⟩
set_option maxHeartbeats 2000000 in
theorem relClone_spec(vs:Value)(ts:List Tb)(A:HProp)(h:SV A vs ts)(h1:1≤ts.length)(h12:ts.length≤1000)(h8:∀ t∈ts.map Tb.c,t.cols.length≤1000):
  FSpec Tryz.prog 64 [.agg #[vs]] [A] ({v:Value // v.oneCell'=true}×List Tb×HProp) (fun y=>SV y.2.2 y.1.1 y.2.1∧y.2.1.map Tb.c=ts.map Tb.c∧Ext A y.2.2) (fun y=>.agg #[y.1.1]) (fun y=>[y.2.2]):=by
 have hlen:=h.len
 have hct:=cloneT_spec vs A ts h.vw (by omega)
 have hlm:(ts.map tbV).length=ts.length:=by simp
 refine spec_intro [] _ Tryz.func64 rfl Tryz.ntmps64 (by rfl) (fun w0 R=>?_)
 refine ok_learn (VwIn.slice (VwIn.here h.vw)) ?_
 rintro⟨pv,cv,rfl⟩
 repeat'(first|(refine gY ?_;intros)|(refine hY ?_ ?_<;>intro hgd)|(refine jY ?_ ?_<;>intro _)|fail)
 refine cl_Y (hct) ?_
 rintro⟨vt,hvt⟩ _
 refine ops_learn (rowShape (e:=111) (n:=5) (v:=vt) (xs:=ts.map tbV) (by decide) takeD) ?_
 rintro(⟨rfl,hn⟩|⟨g,cap,rfl,hcap⟩)
 ·exfalso
  have:=congrArg List.length hn
  rw[hlm,List.length_nil]at this;omega
 repeat'(first|(refine gY ?_;intros)|(refine hY ?_ ?_<;>intro hgd)|(refine jY ?_ ?_<;>intro _)|fail)
 rename_i b1 b2 _ b3
 refine ok_map (L':=[A,pts b3 (.cells [.slice (some ⟨g,0,none⟩) (ts.map tbV).length cap].toArray 29),row 111 5 (.slice (some ⟨g,0,none⟩) (ts.map tbV).length cap) (ts.map tbV),pts b2 (.cells [.slice none 0 0].toArray 29)]++R) entD ?_
 refine ok_loop' (γ:=Nat×List Tb×HProp) (fun y ρ L=>y.1≤ts.length∧(∀ t∈y.2.1,TbOk y.2.2 t)∧y.2.1.map Tb.c=ts.map Tb.c∧Ext A y.2.2∧
   Knows ρ [(2,.pointer (some ⟨b2,0,none⟩)),(3,.pointer (some ⟨b3,0,none⟩)),(11,.int .i64 ((ts.map tbV).length:Int)),(12,.int .i64 y.1)]∧
   L=[y.2.2,pts b3 (.cells [.slice (some ⟨g,0,none⟩) (ts.map tbV).length cap].toArray 29),row 111 5 (.slice (some ⟨g,0,none⟩) (ts.map tbV).length cap) (y.2.1.map tbV),pts b2 (.cells [.slice none 0 0].toArray 29)]++R) (fun y=>ts.length-y.1)
  (0,ts,A) ⟨by omega,h.tab,rfl,Ext.refl A,⟨rfl,rfl,rfl,rfl,trivial⟩,rfl⟩ ?_
 rintro⟨k,tk,P⟩ ρ L ⟨hk1,htab,hmc,hext,hk,rfl⟩
 dsimp only at hk1 htab hmc hext hk ⊢
 refine ok_regs hk ?_
 have htl:tk.length=ts.length:=by have:=congrArg List.length hmc;simpa using this
 cases t1:decide ((k:Int)<((ts.map tbV).length:Int))with
 |true=>
  have hkl:k<tk.length:=by have:=of_decide_eq_true t1;omega
  have hn1:k<(ts.map tbV).length:=by omega
  have hki:tk[k]? =some tk[k]:=List.getElem?_eq_getElem hkl
  have hx:(tk.map tbV)[k]? =some (tbV tk[k]):=by rw[List.getElem?_map,hki];rfl
  have htb:=htab _ (List.getElem_mem hkl)
  have hcl8:tk[k].cols.length≤1000000:=by
   have hm:tk[k].c∈ts.map Tb.c:=by rw[← hmc];exact List.mem_map_of_mem (List.getElem_mem hkl)
   have:=h8 _ hm
   have e:tk[k].c.cols=tk[k].cols:=rfl
   rw[e]at this
   omega
  have hcc:=cloneC_spec tk[k].cv.1 P tk[k].cols htb.vw hcl8
  have hset:∀ v,(tk.map tbV).set k ((tbV tk[k]).set 1 v.1)=(tk.set k {tk[k]with cv:=v}).map tbV:=fun v=>by rw[List.map_set];rfl
  have hcs:∀ v,(tk.set k {tk[k]with cv:=v}).map Tb.c=ts.map Tb.c:=fun v=>by
   rw[List.map_set,← hmc]
   apply List.ext_getElem?
   intro j
   rw[List.getElem?_set]
   split
   ·rename_i e;subst e
    rw[List.getElem?_map,hki]
    rw[if_pos (by rw[List.length_map];exact hkl)];rfl
   ·rfl
  have hts:∀ v P',Ext P P'→Vw P' 3 v.1 (tk[k].cols.map coV)→∀ t∈tk.set k {tk[k]with cv:=v},TbOk P' t:=fun v P' e hv t ht=>by
   rcases List.mem_or_eq_of_mem_set ht with ht|rfl
   ·exact(htab t ht).ext e
   ·exact⟨hv,htb.len,htb.nm,htb.cnm⟩
  generalize tk[k]=t at hx htb hcc hset hcs hts
  obtain⟨tn,cols,⟨cv',hcv'⟩,key,ref,par⟩:=t
  dsimp only[tbV]at hx htb hcc hset hts
  repeat'(first|(refine gY ?_;intros)|(refine hY ?_ ?_<;>intro hgd)|(refine jY ?_ ?_<;>intro _)|fail)
  (apply ok_draw [9];(focus(kernel_rfl));(focus((conv=>lhs;whnf);first|done|rfl));(focus(decide +kernel));(focus(exact(fun _ h=>h))))
  repeat'(first|(refine gY ?_;intros)|(refine hY ?_ ?_<;>intro hgd)|(refine jY ?_ ?_<;>intro _)|fail)
  refine clN_Y (hcc) ?_
  rintro⟨vc,hvc⟩ _
  repeat'(first|(refine gY ?_;intros)|(refine hY ?_ ?_<;>intro hgd)|(refine jY ?_ ?_<;>intro _)|fail)
  refine ops_run (s_storeRowN (y:=[.string tn,cv',.int .i64 key,.int .i64 ref,.int .i64 par]) (by rfl) (by rfl) (one_cells hvc) hvc selD hx rfl rfl ?_)
  have hs1:=hset ⟨vc,hvc⟩
  dsimp only at hs1
  rw[hs1]
  repeat'(first|(refine gY ?_;intros)|(refine hY ?_ ?_<;>intro hgd)|(refine jY ?_ ?_<;>intro _)|fail)
  refine cont_map (fun _ h=>pool_in (A:=row 163 3 vc (cols.map coV)) (P:=P) (Take.out2 takeD h)) ?_
  refine cont_map (L':=[pool (row 163 3 vc (cols.map coV)) P,pts b3 (.cells [.slice (some ⟨g,0,none⟩) (ts.map tbV).length cap].toArray 29),row 111 5 (.slice (some ⟨g,0,none⟩) (ts.map tbV).length cap) ((tk.set k ⟨tn,cols,⟨vc,hvc⟩,key,ref,par⟩).map tbV),pts b2 (.cells [.slice none 0 0].toArray 29)]++R) entD ?_
  refine cont_back (k+1,tk.set k ⟨tn,cols,⟨vc,hvc⟩,key,ref,par⟩,pool (row 163 3 vc (cols.map coV)) P) ⟨by dsimp only;omega,hts ⟨vc,hvc⟩ _ (Ext.pool _ _) pool_row,hcs ⟨vc,hvc⟩,hext.trans (Ext.pool _ _),⟨rfl,rfl,rfl,rfl,trivial⟩,rfl⟩ (by show ts.length-(k+1)<ts.length-k;omega)
 |false=>
  have hlt:(ts.map tbV).length=(tk.map tbV).length:=by rw[List.length_map,List.length_map,htl]
  repeat'(first|(refine gY ?_;intros)|(refine hY ?_ ?_<;>intro hgd)|(refine jY ?_ ?_<;>intro _)|fail)
  refine cont_map (fun _ h=>pool_in (A:=row 111 5 (.slice (some ⟨g,0,none⟩) (ts.map tbV).length cap) (tk.map tbV)) (P:=P) (Take.out2 takeD h)) ?_
  (refine rt_Y (y:=(⟨.slice (some ⟨g,0,none⟩) (ts.map tbV).length cap,rfl⟩,tk,pool (row 111 5 (.slice (some ⟨g,0,none⟩) (ts.map tbV).length cap) (tk.map tbV)) P)) (hrs:=Tryz.results64) (hv:=?_) (hφ:=?_))
  ·rfl
  ·exact⟨⟨pool_row,fun t ht=>(htab t ht).ext (Ext.pool _ _),by dsimp only;omega,⟨_,_,_,rfl,hcap⟩⟩,hmc,hext.trans (Ext.pool _ _)⟩
inductive EsOk(P:HProp):List (Pc×Value)→RR→Prop
 |nil:EsOk P [] []
 |cons {a:Pc} {v:Value} {l:List Vl} {es:List (Pc×Value)} {rows:RR} (h:Vw P 4 v (l.map valV)) (hs:EsOk P es rows):EsOk P ((a,v)::es) ((a,l)::rows)
theorem EsOk.ext{P P':HProp}(a:Ext P P'){es:List (Pc×Value)}{rows:RR}(h:EsOk P es rows):EsOk P' es rows:=by
 induction h with
 |nil=>exact .nil
 |cons h _ ih=>exact .cons (a.vw h) ih
theorem EsOk.len{P:HProp}{es:List (Pc×Value)}{rows:RR}(h:EsOk P es rows):es.length=rows.length:=by
 induction h with
 |nil=>rfl
 |cons _ _ ih=>simp[ih]
theorem EsOk.get{P:HProp}{p:Pc}{es:List (Pc×Value)}{rows:RR}(h:EsOk P es rows):(getK KPlace p es=none∧aget p rows=none)∨∃ v l,getK KPlace p es=some v∧aget p rows=some l∧Vw P 4 v (l.map valV):=by
 induction h with
 |nil=>exact .inl ⟨rfl,rfl⟩
 | @cons a v l es rows h hs ih=>
  simp only[getK,aget]
  by_cases hp:p=a
  ·rw[if_pos hp,if_pos hp];exact .inr ⟨v,l,rfl,rfl,h⟩
  ·rw[if_neg hp,if_neg hp];exact ih
theorem EsOk.put{P:HProp}{p:Pc}{v:Value}{l:List Vl}(hv:Vw P 4 v (l.map valV)){es:List (Pc×Value)}{rows:RR}(h:EsOk P es rows):EsOk P (putK KPlace p v es) (aput p l rows):=by
 induction h with
 |nil=>exact .cons hv .nil
 | @cons a u k es rows h hs ih=>
  simp only[putK,aput]
  by_cases hp:p=a
  ·rw[if_pos hp,if_pos hp];exact .cons hv hs
  ·rw[if_neg hp,if_neg hp];exact .cons h ih
theorem EsOk.del{P:HProp}{p:Pc}{es:List (Pc×Value)}{rows:RR}(h:EsOk P es rows):EsOk P (delK KPlace p es) (adel p rows):=by
 induction h with
 |nil=>exact .nil
 | @cons a u k es rows h hs ih=>
  simp only[delK,adel]
  by_cases hp:p=a
  ·rw[if_pos hp,if_pos hp];exact hs
  ·rw[if_neg hp,if_neg hp];exact .cons h ih
structure RlY where
 vs:Value
 ts:List Tb
 m:Nat
 es:List (Pc×Value)
structure RlOK(P:HProp)(r:Rl)(y:RlY):Prop where
 vc:y.vs.oneCell'=true
 sv:SV P y.vs y.ts
 s:y.ts.map Tb.c=r.s
 es:EsOk P y.es r.rows
def relC(b:Nat)(vs:Value)(m:Nat)(turns:Int):HProp:=pts b (.cells [vs,.map (some m),.int .u64 turns].toArray 129)
def relL(P:HProp)(b:Nat)(r:Rl)(y:{y:RlY // RlOK P r y}):List HProp:=[pts b (.cells [y.1.vs,.map (some y.1.m),.int .u64 r.turns].toArray 129),mapK KPlace y.1.m y.1.es]
def relP(P:HProp)(b:Nat)(r:Rl):HProp:=exP (relL P b r)
theorem rel_in{P:HProp}{b:Nat}{r:Rl}{vs:Value}{ts:List Tb}{m:Nat}{es:List (Pc×Value)}(hy:RlOK P r ⟨vs,ts,m,es⟩){L:List HProp}{h:Frag}(s:SatL ([pts b (.cells [vs,.map (some m),.int .u64 r.turns].toArray 129),mapK KPlace m es]++L) h):SatL (relP P b r::L) h:=
 ex_in (M:=relL P b r) ⟨⟨vs,ts,m,es⟩,hy⟩ rfl s
theorem RlOK.ext{P P':HProp}(a:Ext P P'){r:Rl}{y:RlY}(h:RlOK P r y):RlOK P' r y:=⟨h.vc,h.sv.ext a,h.s,h.es.ext a⟩
theorem relP_ext{P P':HProp}(a:Ext P P'){b:Nat}{r:Rl}{L:List HProp}{h:Frag}(s:SatL (relP P b r::L) h):SatL (relP P' b r::L) h:=
 s.headMono fun _ ⟨y,hy⟩=>⟨⟨y.1,y.2.ext a⟩,hy⟩
def Rl.ins(r:Rl)(p:Pc)(l:List Vl):Rl×Int:=if(aget p r.rows).isSome then(r,9)else if 200≤r.rows.length then(r,4)else({r with rows:=aput p l r.rows},0)
def Rl.upd(r:Rl)(p:Pc)(l:List Vl):Rl×Int:=if(aget p r.rows).isSome then({r with rows:=aput p l r.rows},0)else(r,3)
def Rl.rem(r:Rl)(p:Pc)(l:List Vl):Rl×Int:=if(aget p r.rows).isSome then({r with rows:=adel p r.rows},0)else(r,3)
def ActSpec(f:FuncId)(op:Rl→Pc→List Vl→Rl×Int):Prop:=∀ (P:HProp) (b:Nat) (r:Rl) (p:Pc) (l:List Vl) (w:Value),Vw P 4 w (l.map valV)→l.length≤1000000→
 FSpec Tryz.prog f [.pointer (some ⟨b,0,none⟩),.agg (placeV p).toArray,w] [relP P b r,P] HProp (fun P'=>Ext P P') (fun _=>.int .i64 (op r p l).2) (fun P'=>[relP P' b (op r p l).1,P'])
set_option maxHeartbeats 1000000 in
theorem insert_spec:ActSpec 112 Rl.ins:=by
 intro P b r p l w hw hl
 refine fspec_ex ?_
 rintro⟨⟨vs,ts,m,es⟩,hy⟩
 have hy':=hy
 obtain⟨hvc,hsv,hss,hes⟩:=hy
 dsimp only at hvc hsv hss hes
 unfold relL
 dsimp only
 have hget:=hes.get (p:=p)
 have hlen:=hes.len
 have hcl:=cloneV_spec w P l hw hl
 have hput:=fun P' (a:Ext P P') v (hv:Vw P' 4 v (l.map valV))=>(hes.ext a).put (p:=p) hv
 unfold Rl.ins
 obtain⟨t,⟨k,i,rr,s⟩⟩:=p
 dsimp only[placeV,valV]
 rcases hget with⟨hg,ha⟩|⟨v,l',hg,ha,hv⟩
 ·rw[ha]
  simp only[Option.isSome_none,Bool.false_eq_true,if_false]
  cases n1:decide ((200:Int)≤(es.length:Int))with
  |true=>
   rw[if_pos (by have:=of_decide_eq_true n1;omega)]
   refine spec_intro [] _ Tryz.func112 rfl Tryz.ntmps112 (by rfl) (fun w0 R=>?_)
   repeat'(first|(refine gY ?_;intros)|(refine hY ?_ ?_<;>intro hgd)|(refine jY ?_ ?_<;>intro _)|fail)
   refine cont_map (fun _ h=>rel_in (b:=b) (r:=r) hy' (Take.out takeD h)) ?_
   (refine rt_Y (y:=P) (hrs:=Tryz.results112) (hv:=?_) (hφ:=?_))
   ·rfl
   ·exact Ext.refl P
  |false=>
   rw[if_neg (by have:=of_decide_eq_false n1;omega)]
   refine spec_intro [] _ Tryz.func112 rfl Tryz.ntmps112 (by rfl) (fun w0 R=>?_)
   repeat'(first|(refine gY ?_;intros)|(refine hY ?_ ?_<;>intro hgd)|(refine jY ?_ ?_<;>intro _)|fail)
   rename_i b4
   refine ok_map (L':=[P,pts b4 (.cells [.int .i64 t,.int .u8 k,.int .i64 i,.int .u64 rr,.string s].toArray 135),pts b (.cells [vs,.map (some m),.int .u64 r.turns].toArray 129),mapK KPlace m es]++R) entD ?_
   (apply ok_draw [6];(focus(kernel_rfl));(focus((conv=>lhs;whnf);first|done|rfl));(focus(decide +kernel));(focus(exact(fun _ h=>h))))
   repeat'(first|(refine gY ?_;intros)|(refine hY ?_ ?_<;>intro hgd)|(refine jY ?_ ?_<;>intro _)|fail)
   refine clN_Y (hcl) ?_
   rintro⟨vn,hvn⟩ _
   repeat'(first|(refine gY ?_;intros)|(refine hY ?_ ?_<;>intro hgd)|(refine jY ?_ ?_<;>intro _)|fail)
   refine cont_map (fun _ h=>pool_in (A:=row 93 4 vn (l.map valV)) (P:=P) (Take.out2 takeD h)) ?_
   refine cont_map (fun _ h=>rel_in (b:=b) (r:={r with rows:=aput (t,⟨k,i,rr,s⟩) l r.rows}) (P:=pool (row 93 4 vn (l.map valV)) P) (vs:=vs) (ts:=ts) (m:=m) (es:=putK KPlace (t,⟨k,i,rr,s⟩) vn es) ⟨hvc,hsv.ext (Ext.pool _ _),hss,hput _ (Ext.pool _ _) vn pool_row⟩ (Take.out takeD h)) ?_
   (refine rt_Y (y:=pool (row 93 4 vn (l.map valV)) P) (hrs:=Tryz.results112) (hv:=?_) (hφ:=?_))
   ·rfl
   ·exact Ext.pool _ _
 ·rw[ha]
  simp only[Option.isSome_some,if_true]
  refine spec_intro [] _ Tryz.func112 rfl Tryz.ntmps112 (by rfl) (fun w0 R=>?_)
  repeat'(first|(refine gY ?_;intros)|(refine hY ?_ ?_<;>intro hgd)|(refine jY ?_ ?_<;>intro _)|fail)
  refine cont_map (fun _ h=>rel_in (b:=b) (r:=r) hy' (Take.out takeD h)) ?_
  (refine rt_Y (y:=P) (hrs:=Tryz.results112) (hv:=?_) (hφ:=?_))
  ·rfl
  ·exact Ext.refl P
set_option maxHeartbeats 1000000 in
theorem update_spec:ActSpec 113 Rl.upd:=by
 intro P b r p l w hw hl
 refine fspec_ex ?_
 rintro⟨⟨vs,ts,m,es⟩,hy⟩
 have hy':=hy
 obtain⟨hvc,hsv,hss,hes⟩:=hy
 dsimp only at hvc hsv hss hes
 unfold relL
 dsimp only
 have hget:=hes.get (p:=p)
 have hcl:=cloneV_spec w P l hw hl
 have hput:=fun P' (a:Ext P P') v (hv:Vw P' 4 v (l.map valV))=>(hes.ext a).put (p:=p) hv
 unfold Rl.upd
 obtain⟨t,⟨k,i,rr,s⟩⟩:=p
 dsimp only[placeV,valV]
 rcases hget with⟨hg,ha⟩|⟨v,l',hg,ha,hv⟩
 ·rw[ha]
  simp only[Option.isSome_none,Bool.false_eq_true,if_false]
  refine spec_intro [] _ Tryz.func113 rfl Tryz.ntmps113 (by rfl) (fun w0 R=>?_)
  repeat'(first|(refine gY ?_;intros)|(refine hY ?_ ?_<;>intro hgd)|(refine jY ?_ ?_<;>intro _)|fail)
  refine cont_map (fun _ h=>rel_in (b:=b) (r:=r) hy' (Take.out takeD h)) ?_
  (refine rt_Y (y:=P) (hrs:=Tryz.results113) (hv:=?_) (hφ:=?_))
  ·rfl
  ·exact Ext.refl P
 ·rw[ha]
  simp only[Option.isSome_some,if_true]
  refine spec_intro [] _ Tryz.func113 rfl Tryz.ntmps113 (by rfl) (fun w0 R=>?_)
  repeat'(first|(refine gY ?_;intros)|(refine hY ?_ ?_<;>intro hgd)|(refine jY ?_ ?_<;>intro _)|fail)
  rename_i b4
  refine ok_map (L':=[P,pts b4 (.cells [.int .i64 t,.int .u8 k,.int .i64 i,.int .u64 rr,.string s].toArray 135),pts b (.cells [vs,.map (some m),.int .u64 r.turns].toArray 129),mapK KPlace m es]++R) entD ?_
  (apply ok_draw [6];(focus(kernel_rfl));(focus((conv=>lhs;whnf);first|done|rfl));(focus(decide +kernel));(focus(exact(fun _ h=>h))))
  repeat'(first|(refine gY ?_;intros)|(refine hY ?_ ?_<;>intro hgd)|(refine jY ?_ ?_<;>intro _)|fail)
  refine clN_Y (hcl) ?_
  rintro⟨vn,hvn⟩ _
  repeat'(first|(refine gY ?_;intros)|(refine hY ?_ ?_<;>intro hgd)|(refine jY ?_ ?_<;>intro _)|fail)
  refine cont_map (fun _ h=>pool_in (A:=row 93 4 vn (l.map valV)) (P:=P) (Take.out2 takeD h)) ?_
  refine cont_map (fun _ h=>rel_in (b:=b) (r:={r with rows:=aput (t,⟨k,i,rr,s⟩) l r.rows}) (P:=pool (row 93 4 vn (l.map valV)) P) (vs:=vs) (ts:=ts) (m:=m) (es:=putK KPlace (t,⟨k,i,rr,s⟩) vn es) ⟨hvc,hsv.ext (Ext.pool _ _),hss,hput _ (Ext.pool _ _) vn pool_row⟩ (Take.out takeD h)) ?_
  (refine rt_Y (y:=pool (row 93 4 vn (l.map valV)) P) (hrs:=Tryz.results113) (hv:=?_) (hφ:=?_))
  ·rfl
  ·exact Ext.pool _ _
theorem rlRemove_spec:ActSpec 114 Rl.rem:=by
 intro P b r p l w hw hl
 refine fspec_ex ?_
 rintro⟨⟨vs,ts,m,es⟩,hy⟩
 have hy':=hy
 obtain⟨hvc,hsv,hss,hes⟩:=hy
 dsimp only at hvc hsv hss hes
 unfold relL
 dsimp only
 have hget:=hes.get (p:=p)
 have hdel:=hes.del (p:=p)
 unfold Rl.rem
 obtain⟨t,⟨k,i,rr,s⟩⟩:=p
 dsimp only[placeV,valV]
 rcases hget with⟨hg,ha⟩|⟨v,l',hg,ha,hv⟩
 ·rw[ha]
  simp only[Option.isSome_none,Bool.false_eq_true,if_false]
  refine spec_intro [] _ Tryz.func114 rfl Tryz.ntmps114 (by rfl) (fun w0 R=>?_)
  repeat'(first|(refine gY ?_;intros)|(refine hY ?_ ?_<;>intro hgd)|(refine jY ?_ ?_<;>intro _)|fail)
  refine cont_map (fun _ h=>rel_in (b:=b) (r:=r) hy' (Take.out takeD h)) ?_
  (refine rt_Y (y:=P) (hrs:=Tryz.results114) (hv:=?_) (hφ:=?_))
  ·rfl
  ·exact Ext.refl P
 ·rw[ha]
  simp only[Option.isSome_some,if_true]
  refine spec_intro [] _ Tryz.func114 rfl Tryz.ntmps114 (by rfl) (fun w0 R=>?_)
  repeat'(first|(refine gY ?_;intros)|(refine hY ?_ ?_<;>intro hgd)|(refine jY ?_ ?_<;>intro _)|fail)
  refine cont_map (fun _ h=>rel_in (b:=b) (r:={r with rows:=adel (t,⟨k,i,rr,s⟩) r.rows}) (P:=P) (vs:=vs) (ts:=ts) (m:=m) (es:=delK KPlace (t,⟨k,i,rr,s⟩) es) ⟨hvc,hsv,hss,hdel⟩ (Take.out takeD h)) ?_
  (refine rt_Y (y:=P) (hrs:=Tryz.results114) (hv:=?_) (hφ:=?_))
  ·rfl
  ·exact Ext.refl P
def fv(f:FuncId):Value:=.func (.func f) #[] #[]
theorem ops_spec:FSpec Tryz.prog 65 [] [] Nat (fun _=>True) (fun m=>.map (some m)) (fun m=>[mapK (KInt .u8) m [(1,fv 112),(2,fv 113),(3,fv 114)]]):=by
 refine spec_intro [] _ Tryz.func65 rfl Tryz.ntmps65 (by rfl) (fun w0 R=>?_)
 repeat'(first|(refine gY ?_;intros)|(refine hY ?_ ?_<;>intro hgd)|(refine jY ?_ ?_<;>intro _)|fail)
 rename_i m
 (refine rt_Y (y:=m) (hrs:=Tryz.results65) (hv:=?_) (hφ:=?_))
 ·rfl
 ·trivial
end Go.Proofs.YtmnafjonbeihiaaGreatDoor
