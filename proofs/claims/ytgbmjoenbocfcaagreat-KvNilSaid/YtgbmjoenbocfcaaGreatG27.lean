/- Texts merged: KxI KxJ KxK. -/
import Derived.Test.YtgbmjoenbocfcaaGreatG26
import Derived.Test.YtgbmjoenbocfcaaGreatG19
set_option linter.unusedSimpArgs false
set_option linter.unusedVariables false
set_option maxRecDepth 100000
namespace Go.Proofs.YtgbmjoenbocfcaaGreat
open Go Go.Fx Go.Proofs Go.Pl
theorem kFaultU_spec(kb b:Nat)(nm:BA)(m:Mn)(mv wp:Value)(mb:Nat)(rv:Value)(ft:Int):FSpec Tryz.prog 19 [.pointer (some ⟨kb,0,none⟩)] [kvP kb b nm m mv wp mb rv ft] Unit (fun _=>True) (fun _=>.int .i64 ft) (fun _=>[kvP kb b nm m mv wp mb rv ft]):=by
 unfold kvP kvC
 refine spec_intro [] _ Tryz.func19 rfl Tryz.ntmps19 (by rfl) (fun w0 R=>?_)
 repeat'(first|(refine gY ?_;intros)|(refine hY ?_ ?_<;>intro hgd)|(refine jY ?_ ?_<;>intro _)|fail)
 (refine rt_Y (y:=()) (hrs:=Tryz.results19) (hv:=?_) (hφ:=?_))
 ·rfl
 ·trivial
def Kv.nxF(K:Kv):Mn:=⟨K.m.next+1,K.m.runs++[K.m.next],K.m.next+2⟩
def Kv.fl1(nm:BA)(K:Kv):Dk×Int:=wrK K.d (fileK nm runK K.m.next.toNat) K.mem
def Kv.fl2(nm:BA)(K:Kv):Dk×Int:=saveD (manK nm) (mBytes K.nxF) (K.fl1 nm).1
def Kv.fl3(nm:BA)(K:Kv):Wv×Dk×Int:=resetW K.w (K.fl2 nm).1 (fileK nm walK K.m.wal.toNat)
def Kv.fl(nm:BA)(K:Kv):Kv×Int:=
 if(K.fl1 nm).2≠0 then({K with d:=(K.fl1 nm).1},(K.fl1 nm).2)else
 if(K.fl2 nm).2≠0 then({K with d:=(K.fl2 nm).1},(K.fl2 nm).2)else
 (⟨(K.fl3 nm).2.1,K.nxF,⟨0,0,0⟩,[],K.rs++[(K.m.next,K.mem)]⟩,(K.fl3 nm).2.2)
theorem ops_ex{X:Cx}{ops:Array Oper}{nb:NB}{N:Act→World→Prop}{i:Nat}{os:List Oper}{Ls:List HProp}{ds:List Deferred}{ρ:Regs}{L R:List HProp}{α:Type}{M:α→List HProp}(ht:Sel L (exP M) R)(h:∀ a,OpsL X ops nb N i os Ls ds ρ (M a++R)):OpsL X ops nb N i os Ls ds ρ L:=by
 unfold OpsL
 intro e a w ha hs
 obtain⟨h1,h2,hap,l1,l2,⟨x,hx⟩,hL⟩:=ht.out hs.heap
 have hh:=h x
 unfold OpsL at hh
 exact hh e a w ha ⟨hs.os,hs.tape,hs.output,hs.size,SatL.flat (M:=M x) ⟨h1,h2,hap,l1,l2,hx,hL⟩⟩
theorem reset_st(kb b mb wb:Nat)(nm f:BA)(ft:Int)(g:KG)(w:Wv)(d:Dk)(Z:List HProp)(hd:d.Ok)(hl:d.loose.length≤1000000)(hf:f.size≤1100000):FSpec Tryz.prog 63 [.pointer (some ⟨wb,0,none⟩)] [stP kb b nm mb ft (fP g (walP wb b f w::diskP b d::Z))] Unit (fun _=>True) (fun _=>.int .i64 (resetW w d f).2.2)
  (fun _=>[stP kb b nm mb ft (fP g (walP wb b f (resetW w d f).1::diskP b (resetW w d f).2.1::Z))]):=by
 refine fP_out ?_
 have hR:=Reset_spec wb b f w d hd (by omega) (by omega)
 refine(fspec_frameK hR [kvP kb b nm g.m g.mv.1 g.wp.1 mb g.rv.1 ft,fun h=>SatL Z h]).conseq (fun R h s=>?_) (fun y _=>⟨(),trivial,rfl,fun R h s=>?_⟩)
 ·exact rest_in (M:=[walP wb b f w,diskP b d]) s
 ·exact fP_in (rest_out (M:=[walP wb b f (resetW w d f).1,diskP b (resetW w d f).2.1]) s)
theorem fP_open{kb b mb:Nat}{nm:BA}{ft:Int}{g0:KG}{Lp L:List HProp}{h:Frag}(s:SatL (stP kb b nm mb ft (fP g0 Lp)::L) h):SatL (Lp++(kvP kb b nm g0.m g0.mv.1 g0.wp.1 mb g0.rv.1 ft::L)) h:=by
 obtain⟨h1,h2,ha,l1,l2,⟨g,hg⟩,hL⟩:=s
 have s1:SatL ([fP g0 Lp g,kvP kb b nm g.m g.mv.1 g.wp.1 mb g.rv.1 ft]++L) h:=SatL.flat (M:=stM kb b nm mb ft (fP g0 Lp) g) ⟨h1,h2,ha,l1,l2,hg,hL⟩
 obtain⟨h3,h4,hb,l3,l4,⟨⟨_,hy1⟩,hy⟩,hM⟩:=s1
 subst hy1
 exact SatL.flat (M:=Lp) ⟨h3,h4,hb,l3,l4,hy,hM⟩
theorem kv_back{kb b mb wb:Nat}{nm:BA}{ft:Int}{K:Kv}{rs:List Ru}{g0:KG}(hg:g0.m=K.m)(hgw:g0.wp.1= .pointer (some ⟨wb,0,none⟩))(g3:(rs.map fun x=>((x.n:Int),x.l))=K.rs){L:List HProp}{h:Frag}
  (s:SatL ([row 70 1 g0.mv.1 (K.m.runs.map uV),row 83 1 g0.rv.1 (rs.map krV),runsX b nm rs,walP wb b (fileK nm walK K.m.wal.toNat) K.w,diskP b K.d,memX mb K.mem,kvP kb b nm g0.m g0.mv.1 g0.wp.1 mb g0.rv.1 ft]++L) h):SatL (stP kb b nm mb ft (kvD b mb nm K)::L) h:=
 st_in (D:=kvD b mb nm K) g0 (kv_in (b:=b) (mb:=mb) (nm:=nm) (K:=K) (g:=g0) ⟨wb,rs,hg,hgw,g3⟩ s)
set_option maxHeartbeats 8000000 in
theorem kFlush_do(kb b mb:Nat)(nm:BA)(K:Kv)(n:Nat)(hI:KvI K)(hmem:MemOk K.mem)(hl0:K.mem≠[])(hr:K.m.runs.length<256)(hrs:K.rs.length≤256)(hn:nm.size≤1000000)(hnn:K.m.next=(n:Int))(hn40:n≤1099511627700)(hn1:1≤n)(hc:K.nxF.chk=true)(hwf:K.nxF.wf)(hwn:K.m.wal<(n:Int))
  (ho1:(K.fl1 nm).1.Ok∧(K.fl1 nm).1.loose.length≤1000000)(ho2:(K.fl2 nm).1.Ok∧(K.fl2 nm).1.loose.length≤1000000)
  (hT:(K.fl1 nm).2=0→(K.fl2 nm).2=0→(K.fl2 nm).1.read (fileK nm runK n) 0 16777216=(runB K.mem,0)∧openW (K.fl2 nm).1 (fileK nm walK (n+1))=((K.fl2 nm).1,0,[],0)):
  FSpec Tryz.prog 16 [.pointer (some ⟨kb,0,none⟩)] [stP kb b nm mb 0 (kvD b mb nm K)] Unit (fun _=>True) (fun _=>.int .i64 (K.fl nm).2) (fun _=>[stP kb b nm mb (ftK (K.fl nm).2 0) (kvD b mb nm (K.fl nm).1)]):=by
 refine fspec_ex ?_
 rintro⟨m,⟨mv,hmv⟩,⟨wp,hwp⟩,⟨rv,hrv⟩⟩
 show FSpec _ _ _ (exP (kvM b mb nm K ⟨m,⟨mv,hmv⟩,⟨wp,hwp⟩,⟨rv,hrv⟩⟩)::[kvP kb b nm m mv wp mb rv 0]) _ _ _ _
 refine fspec_ex ?_
 rintro⟨wb,rs,g1,g2,g3⟩
 dsimp only at g1 g2 g3
 subst g1 g2
 have hlr:rs.length=K.rs.length:=by rw[← g3,List.length_map]
 have hF:=kFaultU_spec kb b nm K.m mv (.pointer (some ⟨wb,0,none⟩)) mb rv 0
 have hL:=mLenX mb K.mem
 have lmr:(K.m.runs.map uV).length=K.m.runs.length:=by simp
 have hlm:1≤K.mem.length:=by
  cases h:K.mem with
  |nil=>exact absurd h hl0
  |cons p l=>simp
 have f0:decide ((K.mem.length:Int)=0)=false:=decide_eq_false (by omega)
 have f1:decide ((256:Int)≤((K.m.runs.map uV).length:Int))=false:=decide_eq_false (by omega)
 have hlw:(K.m.runs.map uV).length≤1000:=by omega
 have w1:IntKind.u64.wrap (arith BinOp.add (n:Int) 1)=(n:Int)+1:=by show((n:Int)+1) % 18446744073709551616=_;omega
 have w2:IntKind.u64.wrap (arith BinOp.add (n:Int) 2)=(n:Int)+2:=by show((n:Int)+2) % 18446744073709551616=_;omega
 unfold kvM
 dsimp only
 unfold kvP kvC at hF ⊢
 rw[hnn]at hF ⊢
 refine spec_intro [] _ Tryz.func16 rfl Tryz.ntmps16 (by rfl) (fun w0 R=>?_)
 refine ok_learn (rowShapeS (e:=70) (n:=1) (v:=mv) (xs:=K.m.runs.map uV) (by decide) takeD) ?_
 rintro⟨pm,cm,rfl,hcm,hsm⟩
 have hcl:=cloneN_spec (.slice pm (K.m.runs.map uV).length cm) (row 70 1 (.slice pm (K.m.runs.map uV).length cm) (K.m.runs.map uV)) (K.m.runs.map uV) Vw.row (by omega)
 repeat'(first|(refine gY ?_;intros)|(refine hY ?_ ?_<;>intro hgd)|(refine jY ?_ ?_<;>intro _)|fail)
 rename_i b1
 refine cl_Y (hF) ?_
 intro _ _
 repeat'(first|(refine gY ?_;intros)|(refine hY ?_ ?_<;>intro hgd)|(refine jY ?_ ?_<;>intro _)|fail)
 refine cl_Y (hL) ?_
 intro _ _
 repeat'(first|(refine gY ?_;intros)|(refine hY ?_ ?_<;>intro hgd)|(refine jY ?_ ?_<;>intro _)|fail)
 refine ok_drawL (cv:=[]) [9,10] ([pts b1 (.cells [.pointer (some ⟨kb,0,none⟩)].toArray 28),pts kb (.cells [.pointer (some ⟨b,0,none⟩),.string nm,.int .u64 K.m.wal,(.slice pm (K.m.runs.map uV).length cm),.int .u64 (n:Int),.pointer (some ⟨wb,0,none⟩),.pointer (some ⟨mb,0,none⟩),rv,.int .i64 0].toArray 78)]) (takeD) (by kernel_rfl) rfl (by decide +kernel) ?_
 repeat'(first|(refine gY ?_;intros)|(refine hY ?_ ?_<;>intro hgd)|(refine jY ?_ ?_<;>intro _)|fail)
 rename_i b4
 refine ok_meetK (γ:=Nat×V1s) (fun y ρ L=>Knows ρ [(1,.pointer (some ⟨b1,0,none⟩)),(4,.pointer (some ⟨b4,0,none⟩)),(5,.pointer (some ⟨wb,0,none⟩)),(6,.pointer (some ⟨y.1,0,none⟩))]∧L=([pts y.1 (.cells [.int .u64 (IntKind.u64.wrap (arith BinOp.add (n:Int) 1)),y.2.1,.int .u64 (IntKind.u64.wrap (arith BinOp.add (n:Int) 2))].toArray 73),row 70 1 y.2.1 (K.m.runs.map uV++[[Value.int .u64 (n:Int)]]),pts b4 (.cells [.int .u64 (n:Int)].toArray 70),pts b1 (.cells [.pointer (some ⟨kb,0,none⟩)].toArray 28),pts kb (.cells [.pointer (some ⟨b,0,none⟩),.string nm,.int .u64 K.m.wal,(.slice pm (K.m.runs.map uV).length cm),.int .u64 (n:Int),.pointer (some ⟨wb,0,none⟩),.pointer (some ⟨mb,0,none⟩),rv,.int .i64 0].toArray 78),memX mb K.mem,row 70 1 (.slice pm (K.m.runs.map uV).length cm) (K.m.runs.map uV),row 83 1 rv (rs.map krV),runsX b nm rs,walP wb b (fileK nm walK K.m.wal.toNat) K.w,diskP b K.d]++R)) ?_ ?_
 ·refine ok_draw_node (cv:=[]) 5 [7,9,10,14,15] [pts b4 (.cells [.int .u64 (n:Int)].toArray 70),pts b1 (.cells [.pointer (some ⟨kb,0,none⟩)].toArray 28),pts kb (.cells [.pointer (some ⟨b,0,none⟩),.string nm,.int .u64 K.m.wal,(.slice pm (K.m.runs.map uV).length cm),.int .u64 (n:Int),.pointer (some ⟨wb,0,none⟩),.pointer (some ⟨mb,0,none⟩),rv,.int .i64 0].toArray 78)] (by kernel_rfl) rfl (by decide +kernel) (by decide +kernel) (by decide +kernel) (takePre takeD) _ rfl ?_
  refine cont_node [] [(7,[2,3,4,5,6,7],[0,1,8,9,10,11,12,13,14,15]),(9,[8,9],[0,1,2,3,4,5,6,7,10,11,12,13,14,15]),(14,[14],[0,1,2,3,4,5,6,7,8,9,10,11,12,13,15])] rfl (by decide +kernel) ?_
  intro x hx
  simp only[List.mem_cons,List.not_mem_nil,or_false]at hx
  rcases hx with rfl|rfl|rfl
  ·dsimp only[List.length_cons,List.length_nil]
   repeat'(first|(refine gY ?_;intros)|(refine hY ?_ ?_<;>intro hgd)|(refine jY ?_ ?_<;>intro _)|fail)
   refine clN_Y (hcl) ?_
   rintro⟨cv,hcv⟩ _
   dsimp only
   dsimp only[List.append]
   repeat'(first|(refine gY ?_;intros)|(refine hY ?_ ?_<;>intro hgd)|(refine jY ?_ ?_<;>intro _)|fail)
   refine cont_node [] [(9,[8,9],[0,1,10,11,12,13,14,15]),(14,[14],[0,1,8,9,10,11,12,13,15])] rfl (by decide +kernel) ?_
   intro x hx
   simp only[List.mem_cons,List.not_mem_nil,or_false]at hx
   rcases hx with rfl|rfl
   ·dsimp only[List.length_cons,List.length_nil]
    repeat'(first|(refine gY ?_;intros)|(refine hY ?_ ?_<;>intro hgd)|(refine jY ?_ ?_<;>intro _)|fail)
    refine cont_node [] [(10,[10],[0,1,11,12,13,14,15]),(14,[14],[0,1,10,11,12,13,15])] rfl (by decide +kernel) ?_
    intro x hx
    simp only[List.mem_cons,List.not_mem_nil,or_false]at hx
    rcases hx with rfl|rfl
    ·dsimp only[List.length_cons,List.length_nil]
     repeat'(first|(refine gY ?_;intros)|(refine hY ?_ ?_<;>intro hgd)|(refine jY ?_ ?_<;>intro _)|fail)
     rename_i v2 hv2
     refine cont_learn (rowShapeS (e:=70) (n:=1) (v:=v2) (xs:=K.m.runs.map uV++[[Value.int .u64 (n:Int)]]) (by decide) takeD) ?_
     rintro⟨p2,c2,rfl,hc2,hs2⟩
     refine cont_node [] [(14,[14],[0,1,11,12,13,15])] rfl (by decide +kernel) ?_
     intro x hx
     simp only[List.mem_cons,List.not_mem_nil,or_false]at hx
     subst hx
     ·dsimp only[List.length_cons,List.length_nil]
      repeat'(first|(refine gY ?_;intros)|(refine hY ?_ ?_<;>intro hgd)|(refine jY ?_ ?_<;>intro _)|fail)
      rename_i b6
      refine cont_node [] [(15,[0,1,11,12,13,15],[])] rfl (by decide +kernel) ?_
      intro x hx
      simp only[List.mem_cons,List.not_mem_nil,or_false]at hx
      subst hx
      ·dsimp only[List.length_cons,List.length_nil]
       repeat'(first|(refine gY ?_;intros)|(refine hY ?_ ?_<;>intro hgd)|(refine jY ?_ ?_<;>intro _)|fail)
       refine cont_node0 (by decide +kernel) ?_
       repeat'(first|(refine gY ?_;intros)|(refine hY ?_ ?_<;>intro hgd)|(refine jY ?_ ?_<;>intro _)|fail)
       refine cont_map (L':=[pts b6 (.cells [.int .u64 (IntKind.u64.wrap (arith BinOp.add (n:Int) 1)),(.slice p2 (K.m.runs.map uV++[[Value.int .u64 (n:Int)]]).length c2),.int .u64 (IntKind.u64.wrap (arith BinOp.add (n:Int) 2))].toArray 73),row 70 1 (.slice p2 (K.m.runs.map uV++[[Value.int .u64 (n:Int)]]).length c2) (K.m.runs.map uV++[[Value.int .u64 (n:Int)]]),pts b4 (.cells [.int .u64 (n:Int)].toArray 70),pts b1 (.cells [.pointer (some ⟨kb,0,none⟩)].toArray 28),pts kb (.cells [.pointer (some ⟨b,0,none⟩),.string nm,.int .u64 K.m.wal,(.slice pm (K.m.runs.map uV).length cm),.int .u64 (n:Int),.pointer (some ⟨wb,0,none⟩),.pointer (some ⟨mb,0,none⟩),rv,.int .i64 0].toArray 78),memX mb K.mem,row 70 1 (.slice pm (K.m.runs.map uV).length cm) (K.m.runs.map uV),row 83 1 rv (rs.map krV),runsX b nm rs,walP wb b (fileK nm walK K.m.wal.toNat) K.w,diskP b K.d]++R) entD ?_
       exact cont_meet (b6,⟨_,hv2⟩) ⟨⟨rfl,rfl,rfl,rfl,trivial⟩,rfl⟩
    ·dsimp only[List.length_cons,List.length_nil]
     repeat'(first|(refine gY ?_;intros)|(refine hY ?_ ?_<;>intro hgd)|(refine jY ?_ ?_<;>intro _)|fail)
     rename_i b6
     refine cont_node [] [(10,[10],[0,1,11,12,13,15])] rfl (by decide +kernel) ?_
     intro x hx
     simp only[List.mem_cons,List.not_mem_nil,or_false]at hx
     subst hx
     ·dsimp only[List.length_cons,List.length_nil]
      repeat'(first|(refine gY ?_;intros)|(refine hY ?_ ?_<;>intro hgd)|(refine jY ?_ ?_<;>intro _)|fail)
      rename_i v2 hv2
      refine cont_learn (rowShapeS (e:=70) (n:=1) (v:=v2) (xs:=K.m.runs.map uV++[[Value.int .u64 (n:Int)]]) (by decide) takeD) ?_
      rintro⟨p2,c2,rfl,hc2,hs2⟩
      refine cont_node [] [(15,[0,1,11,12,13,15],[])] rfl (by decide +kernel) ?_
      intro x hx
      simp only[List.mem_cons,List.not_mem_nil,or_false]at hx
      subst hx
      ·dsimp only[List.length_cons,List.length_nil]
       repeat'(first|(refine gY ?_;intros)|(refine hY ?_ ?_<;>intro hgd)|(refine jY ?_ ?_<;>intro _)|fail)
       refine cont_node0 (by decide +kernel) ?_
       repeat'(first|(refine gY ?_;intros)|(refine hY ?_ ?_<;>intro hgd)|(refine jY ?_ ?_<;>intro _)|fail)
       refine cont_map (L':=[pts b6 (.cells [.int .u64 (IntKind.u64.wrap (arith BinOp.add (n:Int) 1)),(.slice p2 (K.m.runs.map uV++[[Value.int .u64 (n:Int)]]).length c2),.int .u64 (IntKind.u64.wrap (arith BinOp.add (n:Int) 2))].toArray 73),row 70 1 (.slice p2 (K.m.runs.map uV++[[Value.int .u64 (n:Int)]]).length c2) (K.m.runs.map uV++[[Value.int .u64 (n:Int)]]),pts b4 (.cells [.int .u64 (n:Int)].toArray 70),pts b1 (.cells [.pointer (some ⟨kb,0,none⟩)].toArray 28),pts kb (.cells [.pointer (some ⟨b,0,none⟩),.string nm,.int .u64 K.m.wal,(.slice pm (K.m.runs.map uV).length cm),.int .u64 (n:Int),.pointer (some ⟨wb,0,none⟩),.pointer (some ⟨mb,0,none⟩),rv,.int .i64 0].toArray 78),memX mb K.mem,row 70 1 (.slice pm (K.m.runs.map uV).length cm) (K.m.runs.map uV),row 83 1 rv (rs.map krV),runsX b nm rs,walP wb b (fileK nm walK K.m.wal.toNat) K.w,diskP b K.d]++R) entD ?_
       exact cont_meet (b6,⟨_,hv2⟩) ⟨⟨rfl,rfl,rfl,rfl,trivial⟩,rfl⟩
   ·dsimp only[List.length_cons,List.length_nil]
    repeat'(first|(refine gY ?_;intros)|(refine hY ?_ ?_<;>intro hgd)|(refine jY ?_ ?_<;>intro _)|fail)
    rename_i b6
    refine cont_node [] [(9,[8,9],[0,1,10,11,12,13,15])] rfl (by decide +kernel) ?_
    intro x hx
    simp only[List.mem_cons,List.not_mem_nil,or_false]at hx
    subst hx
    ·dsimp only[List.length_cons,List.length_nil]
     repeat'(first|(refine gY ?_;intros)|(refine hY ?_ ?_<;>intro hgd)|(refine jY ?_ ?_<;>intro _)|fail)
     refine cont_node [] [(10,[10],[0,1,11,12,13,15])] rfl (by decide +kernel) ?_
     intro x hx
     simp only[List.mem_cons,List.not_mem_nil,or_false]at hx
     subst hx
     ·dsimp only[List.length_cons,List.length_nil]
      repeat'(first|(refine gY ?_;intros)|(refine hY ?_ ?_<;>intro hgd)|(refine jY ?_ ?_<;>intro _)|fail)
      rename_i v2 hv2
      refine cont_learn (rowShapeS (e:=70) (n:=1) (v:=v2) (xs:=K.m.runs.map uV++[[Value.int .u64 (n:Int)]]) (by decide) takeD) ?_
      rintro⟨p2,c2,rfl,hc2,hs2⟩
      refine cont_node [] [(15,[0,1,11,12,13,15],[])] rfl (by decide +kernel) ?_
      intro x hx
      simp only[List.mem_cons,List.not_mem_nil,or_false]at hx
      subst hx
      ·dsimp only[List.length_cons,List.length_nil]
       repeat'(first|(refine gY ?_;intros)|(refine hY ?_ ?_<;>intro hgd)|(refine jY ?_ ?_<;>intro _)|fail)
       refine cont_node0 (by decide +kernel) ?_
       repeat'(first|(refine gY ?_;intros)|(refine hY ?_ ?_<;>intro hgd)|(refine jY ?_ ?_<;>intro _)|fail)
       refine cont_map (L':=[pts b6 (.cells [.int .u64 (IntKind.u64.wrap (arith BinOp.add (n:Int) 1)),(.slice p2 (K.m.runs.map uV++[[Value.int .u64 (n:Int)]]).length c2),.int .u64 (IntKind.u64.wrap (arith BinOp.add (n:Int) 2))].toArray 73),row 70 1 (.slice p2 (K.m.runs.map uV++[[Value.int .u64 (n:Int)]]).length c2) (K.m.runs.map uV++[[Value.int .u64 (n:Int)]]),pts b4 (.cells [.int .u64 (n:Int)].toArray 70),pts b1 (.cells [.pointer (some ⟨kb,0,none⟩)].toArray 28),pts kb (.cells [.pointer (some ⟨b,0,none⟩),.string nm,.int .u64 K.m.wal,(.slice pm (K.m.runs.map uV).length cm),.int .u64 (n:Int),.pointer (some ⟨wb,0,none⟩),.pointer (some ⟨mb,0,none⟩),rv,.int .i64 0].toArray 78),memX mb K.mem,row 70 1 (.slice pm (K.m.runs.map uV).length cm) (K.m.runs.map uV),row 83 1 rv (rs.map krV),runsX b nm rs,walP wb b (fileK nm walK K.m.wal.toNat) K.w,diskP b K.d]++R) entD ?_
       exact cont_meet (b6,⟨_,hv2⟩) ⟨⟨rfl,rfl,rfl,rfl,trivial⟩,rfl⟩
  ·dsimp only[List.length_cons,List.length_nil]
   repeat'(first|(refine gY ?_;intros)|(refine hY ?_ ?_<;>intro hgd)|(refine jY ?_ ?_<;>intro _)|fail)
   refine cont_node [] [(7,[2,3,4,5,6,7],[0,1,10,11,12,13,14,15]),(14,[14],[0,1,2,3,4,5,6,7,10,11,12,13,15])] rfl (by decide +kernel) ?_
   intro x hx
   simp only[List.mem_cons,List.not_mem_nil,or_false]at hx
   rcases hx with rfl|rfl
   ·dsimp only[List.length_cons,List.length_nil]
    repeat'(first|(refine gY ?_;intros)|(refine hY ?_ ?_<;>intro hgd)|(refine jY ?_ ?_<;>intro _)|fail)
    refine clN_Y (hcl) ?_
    rintro⟨cv,hcv⟩ _
    dsimp only
    dsimp only[List.append]
    repeat'(first|(refine gY ?_;intros)|(refine hY ?_ ?_<;>intro hgd)|(refine jY ?_ ?_<;>intro _)|fail)
    refine cont_node [] [(10,[10],[0,1,11,12,13,14,15]),(14,[14],[0,1,10,11,12,13,15])] rfl (by decide +kernel) ?_
    intro x hx
    simp only[List.mem_cons,List.not_mem_nil,or_false]at hx
    rcases hx with rfl|rfl
    ·dsimp only[List.length_cons,List.length_nil]
     repeat'(first|(refine gY ?_;intros)|(refine hY ?_ ?_<;>intro hgd)|(refine jY ?_ ?_<;>intro _)|fail)
     rename_i v2 hv2
     refine cont_learn (rowShapeS (e:=70) (n:=1) (v:=v2) (xs:=K.m.runs.map uV++[[Value.int .u64 (n:Int)]]) (by decide) takeD) ?_
     rintro⟨p2,c2,rfl,hc2,hs2⟩
     refine cont_node [] [(14,[14],[0,1,11,12,13,15])] rfl (by decide +kernel) ?_
     intro x hx
     simp only[List.mem_cons,List.not_mem_nil,or_false]at hx
     subst hx
     ·dsimp only[List.length_cons,List.length_nil]
      repeat'(first|(refine gY ?_;intros)|(refine hY ?_ ?_<;>intro hgd)|(refine jY ?_ ?_<;>intro _)|fail)
      rename_i b6
      refine cont_node [] [(15,[0,1,11,12,13,15],[])] rfl (by decide +kernel) ?_
      intro x hx
      simp only[List.mem_cons,List.not_mem_nil,or_false]at hx
      subst hx
      ·dsimp only[List.length_cons,List.length_nil]
       repeat'(first|(refine gY ?_;intros)|(refine hY ?_ ?_<;>intro hgd)|(refine jY ?_ ?_<;>intro _)|fail)
       refine cont_node0 (by decide +kernel) ?_
       repeat'(first|(refine gY ?_;intros)|(refine hY ?_ ?_<;>intro hgd)|(refine jY ?_ ?_<;>intro _)|fail)
       refine cont_map (L':=[pts b6 (.cells [.int .u64 (IntKind.u64.wrap (arith BinOp.add (n:Int) 1)),(.slice p2 (K.m.runs.map uV++[[Value.int .u64 (n:Int)]]).length c2),.int .u64 (IntKind.u64.wrap (arith BinOp.add (n:Int) 2))].toArray 73),row 70 1 (.slice p2 (K.m.runs.map uV++[[Value.int .u64 (n:Int)]]).length c2) (K.m.runs.map uV++[[Value.int .u64 (n:Int)]]),pts b4 (.cells [.int .u64 (n:Int)].toArray 70),pts b1 (.cells [.pointer (some ⟨kb,0,none⟩)].toArray 28),pts kb (.cells [.pointer (some ⟨b,0,none⟩),.string nm,.int .u64 K.m.wal,(.slice pm (K.m.runs.map uV).length cm),.int .u64 (n:Int),.pointer (some ⟨wb,0,none⟩),.pointer (some ⟨mb,0,none⟩),rv,.int .i64 0].toArray 78),memX mb K.mem,row 70 1 (.slice pm (K.m.runs.map uV).length cm) (K.m.runs.map uV),row 83 1 rv (rs.map krV),runsX b nm rs,walP wb b (fileK nm walK K.m.wal.toNat) K.w,diskP b K.d]++R) entD ?_
       exact cont_meet (b6,⟨_,hv2⟩) ⟨⟨rfl,rfl,rfl,rfl,trivial⟩,rfl⟩
    ·dsimp only[List.length_cons,List.length_nil]
     repeat'(first|(refine gY ?_;intros)|(refine hY ?_ ?_<;>intro hgd)|(refine jY ?_ ?_<;>intro _)|fail)
     rename_i b6
     refine cont_node [] [(10,[10],[0,1,11,12,13,15])] rfl (by decide +kernel) ?_
     intro x hx
     simp only[List.mem_cons,List.not_mem_nil,or_false]at hx
     subst hx
     ·dsimp only[List.length_cons,List.length_nil]
      repeat'(first|(refine gY ?_;intros)|(refine hY ?_ ?_<;>intro hgd)|(refine jY ?_ ?_<;>intro _)|fail)
      rename_i v2 hv2
      refine cont_learn (rowShapeS (e:=70) (n:=1) (v:=v2) (xs:=K.m.runs.map uV++[[Value.int .u64 (n:Int)]]) (by decide) takeD) ?_
      rintro⟨p2,c2,rfl,hc2,hs2⟩
      refine cont_node [] [(15,[0,1,11,12,13,15],[])] rfl (by decide +kernel) ?_
      intro x hx
      simp only[List.mem_cons,List.not_mem_nil,or_false]at hx
      subst hx
      ·dsimp only[List.length_cons,List.length_nil]
       repeat'(first|(refine gY ?_;intros)|(refine hY ?_ ?_<;>intro hgd)|(refine jY ?_ ?_<;>intro _)|fail)
       refine cont_node0 (by decide +kernel) ?_
       repeat'(first|(refine gY ?_;intros)|(refine hY ?_ ?_<;>intro hgd)|(refine jY ?_ ?_<;>intro _)|fail)
       refine cont_map (L':=[pts b6 (.cells [.int .u64 (IntKind.u64.wrap (arith BinOp.add (n:Int) 1)),(.slice p2 (K.m.runs.map uV++[[Value.int .u64 (n:Int)]]).length c2),.int .u64 (IntKind.u64.wrap (arith BinOp.add (n:Int) 2))].toArray 73),row 70 1 (.slice p2 (K.m.runs.map uV++[[Value.int .u64 (n:Int)]]).length c2) (K.m.runs.map uV++[[Value.int .u64 (n:Int)]]),pts b4 (.cells [.int .u64 (n:Int)].toArray 70),pts b1 (.cells [.pointer (some ⟨kb,0,none⟩)].toArray 28),pts kb (.cells [.pointer (some ⟨b,0,none⟩),.string nm,.int .u64 K.m.wal,(.slice pm (K.m.runs.map uV).length cm),.int .u64 (n:Int),.pointer (some ⟨wb,0,none⟩),.pointer (some ⟨mb,0,none⟩),rv,.int .i64 0].toArray 78),memX mb K.mem,row 70 1 (.slice pm (K.m.runs.map uV).length cm) (K.m.runs.map uV),row 83 1 rv (rs.map krV),runsX b nm rs,walP wb b (fileK nm walK K.m.wal.toNat) K.w,diskP b K.d]++R) entD ?_
       exact cont_meet (b6,⟨_,hv2⟩) ⟨⟨rfl,rfl,rfl,rfl,trivial⟩,rfl⟩
   ·dsimp only[List.length_cons,List.length_nil]
    repeat'(first|(refine gY ?_;intros)|(refine hY ?_ ?_<;>intro hgd)|(refine jY ?_ ?_<;>intro _)|fail)
    rename_i b6
    refine cont_node [] [(7,[2,3,4,5,6,7],[0,1,10,11,12,13,15])] rfl (by decide +kernel) ?_
    intro x hx
    simp only[List.mem_cons,List.not_mem_nil,or_false]at hx
    subst hx
    ·dsimp only[List.length_cons,List.length_nil]
     repeat'(first|(refine gY ?_;intros)|(refine hY ?_ ?_<;>intro hgd)|(refine jY ?_ ?_<;>intro _)|fail)
     refine clN_Y (hcl) ?_
     rintro⟨cv,hcv⟩ _
     dsimp only
     dsimp only[List.append]
     repeat'(first|(refine gY ?_;intros)|(refine hY ?_ ?_<;>intro hgd)|(refine jY ?_ ?_<;>intro _)|fail)
     refine cont_node [] [(10,[10],[0,1,11,12,13,15])] rfl (by decide +kernel) ?_
     intro x hx
     simp only[List.mem_cons,List.not_mem_nil,or_false]at hx
     subst hx
     ·dsimp only[List.length_cons,List.length_nil]
      repeat'(first|(refine gY ?_;intros)|(refine hY ?_ ?_<;>intro hgd)|(refine jY ?_ ?_<;>intro _)|fail)
      rename_i v2 hv2
      refine cont_learn (rowShapeS (e:=70) (n:=1) (v:=v2) (xs:=K.m.runs.map uV++[[Value.int .u64 (n:Int)]]) (by decide) takeD) ?_
      rintro⟨p2,c2,rfl,hc2,hs2⟩
      refine cont_node [] [(15,[0,1,11,12,13,15],[])] rfl (by decide +kernel) ?_
      intro x hx
      simp only[List.mem_cons,List.not_mem_nil,or_false]at hx
      subst hx
      ·dsimp only[List.length_cons,List.length_nil]
       repeat'(first|(refine gY ?_;intros)|(refine hY ?_ ?_<;>intro hgd)|(refine jY ?_ ?_<;>intro _)|fail)
       refine cont_node0 (by decide +kernel) ?_
       repeat'(first|(refine gY ?_;intros)|(refine hY ?_ ?_<;>intro hgd)|(refine jY ?_ ?_<;>intro _)|fail)
       refine cont_map (L':=[pts b6 (.cells [.int .u64 (IntKind.u64.wrap (arith BinOp.add (n:Int) 1)),(.slice p2 (K.m.runs.map uV++[[Value.int .u64 (n:Int)]]).length c2),.int .u64 (IntKind.u64.wrap (arith BinOp.add (n:Int) 2))].toArray 73),row 70 1 (.slice p2 (K.m.runs.map uV++[[Value.int .u64 (n:Int)]]).length c2) (K.m.runs.map uV++[[Value.int .u64 (n:Int)]]),pts b4 (.cells [.int .u64 (n:Int)].toArray 70),pts b1 (.cells [.pointer (some ⟨kb,0,none⟩)].toArray 28),pts kb (.cells [.pointer (some ⟨b,0,none⟩),.string nm,.int .u64 K.m.wal,(.slice pm (K.m.runs.map uV).length cm),.int .u64 (n:Int),.pointer (some ⟨wb,0,none⟩),.pointer (some ⟨mb,0,none⟩),rv,.int .i64 0].toArray 78),memX mb K.mem,row 70 1 (.slice pm (K.m.runs.map uV).length cm) (K.m.runs.map uV),row 83 1 rv (rs.map krV),runsX b nm rs,walP wb b (fileK nm walK K.m.wal.toNat) K.w,diskP b K.d]++R) entD ?_
       exact cont_meet (b6,⟨_,hv2⟩) ⟨⟨rfl,rfl,rfl,rfl,trivial⟩,rfl⟩
  ·dsimp only[List.length_cons,List.length_nil]
   repeat'(first|(refine gY ?_;intros)|(refine hY ?_ ?_<;>intro hgd)|(refine jY ?_ ?_<;>intro _)|fail)
   rename_i b6
   refine cont_node [] [(7,[2,3,4,5,6,7],[0,1,8,9,10,11,12,13,15]),(9,[8,9],[0,1,2,3,4,5,6,7,10,11,12,13,15])] rfl (by decide +kernel) ?_
   intro x hx
   simp only[List.mem_cons,List.not_mem_nil,or_false]at hx
   rcases hx with rfl|rfl
   ·dsimp only[List.length_cons,List.length_nil]
    repeat'(first|(refine gY ?_;intros)|(refine hY ?_ ?_<;>intro hgd)|(refine jY ?_ ?_<;>intro _)|fail)
    refine clN_Y (hcl) ?_
    rintro⟨cv,hcv⟩ _
    dsimp only
    dsimp only[List.append]
    repeat'(first|(refine gY ?_;intros)|(refine hY ?_ ?_<;>intro hgd)|(refine jY ?_ ?_<;>intro _)|fail)
    refine cont_node [] [(9,[8,9],[0,1,10,11,12,13,15])] rfl (by decide +kernel) ?_
    intro x hx
    simp only[List.mem_cons,List.not_mem_nil,or_false]at hx
    subst hx
    ·dsimp only[List.length_cons,List.length_nil]
     repeat'(first|(refine gY ?_;intros)|(refine hY ?_ ?_<;>intro hgd)|(refine jY ?_ ?_<;>intro _)|fail)
     refine cont_node [] [(10,[10],[0,1,11,12,13,15])] rfl (by decide +kernel) ?_
     intro x hx
     simp only[List.mem_cons,List.not_mem_nil,or_false]at hx
     subst hx
     ·dsimp only[List.length_cons,List.length_nil]
      repeat'(first|(refine gY ?_;intros)|(refine hY ?_ ?_<;>intro hgd)|(refine jY ?_ ?_<;>intro _)|fail)
      rename_i v2 hv2
      refine cont_learn (rowShapeS (e:=70) (n:=1) (v:=v2) (xs:=K.m.runs.map uV++[[Value.int .u64 (n:Int)]]) (by decide) takeD) ?_
      rintro⟨p2,c2,rfl,hc2,hs2⟩
      refine cont_node [] [(15,[0,1,11,12,13,15],[])] rfl (by decide +kernel) ?_
      intro x hx
      simp only[List.mem_cons,List.not_mem_nil,or_false]at hx
      subst hx
      ·dsimp only[List.length_cons,List.length_nil]
       repeat'(first|(refine gY ?_;intros)|(refine hY ?_ ?_<;>intro hgd)|(refine jY ?_ ?_<;>intro _)|fail)
       refine cont_node0 (by decide +kernel) ?_
       repeat'(first|(refine gY ?_;intros)|(refine hY ?_ ?_<;>intro hgd)|(refine jY ?_ ?_<;>intro _)|fail)
       refine cont_map (L':=[pts b6 (.cells [.int .u64 (IntKind.u64.wrap (arith BinOp.add (n:Int) 1)),(.slice p2 (K.m.runs.map uV++[[Value.int .u64 (n:Int)]]).length c2),.int .u64 (IntKind.u64.wrap (arith BinOp.add (n:Int) 2))].toArray 73),row 70 1 (.slice p2 (K.m.runs.map uV++[[Value.int .u64 (n:Int)]]).length c2) (K.m.runs.map uV++[[Value.int .u64 (n:Int)]]),pts b4 (.cells [.int .u64 (n:Int)].toArray 70),pts b1 (.cells [.pointer (some ⟨kb,0,none⟩)].toArray 28),pts kb (.cells [.pointer (some ⟨b,0,none⟩),.string nm,.int .u64 K.m.wal,(.slice pm (K.m.runs.map uV).length cm),.int .u64 (n:Int),.pointer (some ⟨wb,0,none⟩),.pointer (some ⟨mb,0,none⟩),rv,.int .i64 0].toArray 78),memX mb K.mem,row 70 1 (.slice pm (K.m.runs.map uV).length cm) (K.m.runs.map uV),row 83 1 rv (rs.map krV),runsX b nm rs,walP wb b (fileK nm walK K.m.wal.toNat) K.w,diskP b K.d]++R) entD ?_
       exact cont_meet (b6,⟨_,hv2⟩) ⟨⟨rfl,rfl,rfl,rfl,trivial⟩,rfl⟩
   ·dsimp only[List.length_cons,List.length_nil]
    repeat'(first|(refine gY ?_;intros)|(refine hY ?_ ?_<;>intro hgd)|(refine jY ?_ ?_<;>intro _)|fail)
    refine cont_node [] [(7,[2,3,4,5,6,7],[0,1,10,11,12,13,15])] rfl (by decide +kernel) ?_
    intro x hx
    simp only[List.mem_cons,List.not_mem_nil,or_false]at hx
    subst hx
    ·dsimp only[List.length_cons,List.length_nil]
     repeat'(first|(refine gY ?_;intros)|(refine hY ?_ ?_<;>intro hgd)|(refine jY ?_ ?_<;>intro _)|fail)
     refine clN_Y (hcl) ?_
     rintro⟨cv,hcv⟩ _
     dsimp only
     dsimp only[List.append]
     repeat'(first|(refine gY ?_;intros)|(refine hY ?_ ?_<;>intro hgd)|(refine jY ?_ ?_<;>intro _)|fail)
     refine cont_node [] [(10,[10],[0,1,11,12,13,15])] rfl (by decide +kernel) ?_
     intro x hx
     simp only[List.mem_cons,List.not_mem_nil,or_false]at hx
     subst hx
     ·dsimp only[List.length_cons,List.length_nil]
      repeat'(first|(refine gY ?_;intros)|(refine hY ?_ ?_<;>intro hgd)|(refine jY ?_ ?_<;>intro _)|fail)
      rename_i v2 hv2
      refine cont_learn (rowShapeS (e:=70) (n:=1) (v:=v2) (xs:=K.m.runs.map uV++[[Value.int .u64 (n:Int)]]) (by decide) takeD) ?_
      rintro⟨p2,c2,rfl,hc2,hs2⟩
      refine cont_node [] [(15,[0,1,11,12,13,15],[])] rfl (by decide +kernel) ?_
      intro x hx
      simp only[List.mem_cons,List.not_mem_nil,or_false]at hx
      subst hx
      ·dsimp only[List.length_cons,List.length_nil]
       repeat'(first|(refine gY ?_;intros)|(refine hY ?_ ?_<;>intro hgd)|(refine jY ?_ ?_<;>intro _)|fail)
       refine cont_node0 (by decide +kernel) ?_
       repeat'(first|(refine gY ?_;intros)|(refine hY ?_ ?_<;>intro hgd)|(refine jY ?_ ?_<;>intro _)|fail)
       refine cont_map (L':=[pts b6 (.cells [.int .u64 (IntKind.u64.wrap (arith BinOp.add (n:Int) 1)),(.slice p2 (K.m.runs.map uV++[[Value.int .u64 (n:Int)]]).length c2),.int .u64 (IntKind.u64.wrap (arith BinOp.add (n:Int) 2))].toArray 73),row 70 1 (.slice p2 (K.m.runs.map uV++[[Value.int .u64 (n:Int)]]).length c2) (K.m.runs.map uV++[[Value.int .u64 (n:Int)]]),pts b4 (.cells [.int .u64 (n:Int)].toArray 70),pts b1 (.cells [.pointer (some ⟨kb,0,none⟩)].toArray 28),pts kb (.cells [.pointer (some ⟨b,0,none⟩),.string nm,.int .u64 K.m.wal,(.slice pm (K.m.runs.map uV).length cm),.int .u64 (n:Int),.pointer (some ⟨wb,0,none⟩),.pointer (some ⟨mb,0,none⟩),rv,.int .i64 0].toArray 78),memX mb K.mem,row 70 1 (.slice pm (K.m.runs.map uV).length cm) (K.m.runs.map uV),row 83 1 rv (rs.map krV),runsX b nm rs,walP wb b (fileK nm walK K.m.wal.toNat) K.w,diskP b K.d]++R) entD ?_
       exact cont_meet (b6,⟨_,hv2⟩) ⟨⟨rfl,rfl,rfl,rfl,trivial⟩,rfl⟩
 rintro⟨b6,⟨v6,hv6⟩⟩ ρ L ⟨hk,rfl⟩
 dsimp only at hk ⊢
 rw[w1,w2]
 refine cont_regs hk ?_
 clear hk
 repeat'(first|(refine gY ?_;intros)|(refine hY ?_ ?_<;>intro hgd)|(refine jY ?_ ?_<;>intro _)|fail)
 rename_i v hv
 clear w1 w2 hcl hF hL
 have hnx:K.nxF=⟨(n:Int)+1,K.m.runs++[(n:Int)],(n:Int)+2⟩:=by unfold Kv.nxF;rw[hnn]
 have hnr:K.nxF.runs.map uV=K.m.runs.map uV++[[Value.int .u64 (n:Int)]]:=by rw[hnx,List.map_append];rfl
 refine ops_learn (rowShapeS (e:=70) (n:=1) (v:=v6) (xs:=K.m.runs.map uV++[[Value.int .u64 (n:Int)]]) (by decide) takeD) ?_
 rintro⟨p6,c6,rfl,hc6,hs6⟩
 have hcap:capOk (.slice p6 (K.m.runs.map uV++[[Value.int .u64 (n:Int)]]).length c6):=⟨_,_,_,rfl,hc6⟩
 rw[← hnr]at hcap hv6 ⊢
 generalize hv6e:Value.slice p6 (K.nxF.runs.map uV).length c6=v6 at hcap hv6 ⊢
 generalize hmve:Value.slice pm (K.m.runs.map uV).length cm=mv at hmv ⊢
 have hw0:0≤K.m.wal:=hI.nk.w.1
 have hz8:(fileK nm walK K.m.wal.toNat).size≤1100000:=by rw[fileK_size];have:walK.size=3:=rfl;omega
 let g0:KG:=⟨K.m,⟨mv,hmv⟩,⟨.pointer (some ⟨wb,0,none⟩),hwp⟩,⟨rv,hrv⟩⟩
 let Z:List HProp:=[row 70 1 mv (K.m.runs.map uV),row 83 1 rv (rs.map krV),runsX b nm rs,walP wb b (fileK nm walK K.m.wal.toNat) K.w]
 let LF:Dk→List HProp:=fun d=>diskP b d::memX mb K.mem::bxK b1 kb::bxN b4 n::bxM b6 K.nxF v6::row 70 1 v6 (K.nxF.runs.map uV)::Z
 have h1:VSpec Tryz.prog (.func (.func 54) #[] #[.pointer (some ⟨b1,0,none⟩),.pointer (some ⟨b4,0,none⟩)]) [] [stP kb b nm mb 0 (fP g0 (LF K.d))] Unit (fun _=>True) (fun _=>.int .i64 (K.fl1 nm).2) (fun _=>[stP kb b nm mb 0 (fP g0 (LF (K.fl1 nm).1))]):=by
  have:=flush1_spec kb b mb b1 b4 nm 0 g0 K.d n K.mem (bxM b6 K.nxF v6::row 70 1 v6 (K.nxF.runs.map uV)::Z) hmem hlm (by omega) hn hI.ok (by have:=hI.lo;omega)
  unfold Kv.fl1
  rw[hnn,Int.toNat_natCast]
  exact vspec_func (args:=[]) (cap:=[.pointer (some ⟨b1,0,none⟩),.pointer (some ⟨b4,0,none⟩)]) this
 have h2:VSpec Tryz.prog (.func (.func 57) #[] #[.pointer (some ⟨b1,0,none⟩),.pointer (some ⟨b6,0,none⟩)]) [] [stP kb b nm mb 0 (fP g0 (LF (K.fl1 nm).1))] Unit (fun _=>True) (fun _=>.int .i64 (K.fl2 nm).2) (fun _=>[stP kb b nm mb 0 (fP g0 (LF (K.fl2 nm).1))]):=
  vspec_func (args:=[]) (cap:=[.pointer (some ⟨b1,0,none⟩),.pointer (some ⟨b6,0,none⟩)]) (flush2_spec kb b mb b1 b4 b6 nm 0 g0 (K.fl1 nm).1 n K.mem K.nxF v6 Z hcap hc hwf (by rw[hnx];simp;omega) hn ho1.1 ho1.2)
 have h3:(K.fl1 nm).2=0→(K.fl2 nm).2=0→VSpec Tryz.prog (.func (.func 60) #[] #[.pointer (some ⟨b1,0,none⟩),.pointer (some ⟨b6,0,none⟩)]) [] [stP kb b nm mb 0 (fP g0 (LF (K.fl2 nm).1))] Unit (fun _=>True) (fun _=>.int .i64 0)
   (fun _=>[stP kb b nm mb 0 (tD b mb nm ⟨(K.fl2 nm).1,K.nxF,⟨0,0,0⟩,K.mem,K.rs++[((n:Int),K.mem)]⟩ wb (fileK nm walK K.m.wal.toNat) K.w (bxK b1 kb))]):=fun q1 q2=>by
  obtain⟨t1,t2⟩:=hT q1 q2
  exact vspec_func (args:=[]) (cap:=[.pointer (some ⟨b1,0,none⟩),.pointer (some ⟨b6,0,none⟩)]) (flush3_spec kb b mb wb b1 b4 b6 nm 0 K g0 rs (K.fl2 nm).1 n (n+1) K.mem K.nxF v6 K.m.runs hv6 rfl rfl g3 (by omega) (by rw[hnx]) (by rw[hnx];simp;omega) (by omega) hn ho2.1 ho2.2 t1 (fun p hp=>hmem.may p hp) (sorted_rise hmem.sorted)
   (by rw[hnx];simp) (by omega) (by rw[hnx];show(n:Int)+1≠K.m.wal;omega) t2 (fileK nm walK K.m.wal.toNat))
 refine opsL_mapL (L':=(LF K.d++[kvP kb b nm g0.m g0.mv.1 g0.wp.1 mb g0.rv.1 0])++(row 41 1 v ([Value.func (.func 54) #[] #[.pointer (some ⟨b1,0,none⟩),.pointer (some ⟨b4,0,none⟩)],Value.func (.func 57) #[] #[.pointer (some ⟨b1,0,none⟩),.pointer (some ⟨b6,0,none⟩)],Value.func (.func 60) #[] #[.pointer (some ⟨b1,0,none⟩),.pointer (some ⟨b6,0,none⟩)]].map fun f=>[f])::R)) (fun h s=>?_) ?_
 ·show SatL ([diskP b K.d,memX mb K.mem,bxK b1 kb,bxN b4 n,bxM b6 K.nxF v6,row 70 1 v6 (K.nxF.runs.map uV),row 70 1 mv (K.m.runs.map uV),row 83 1 rv (rs.map krV),runsX b nm rs,walP wb b (fileK nm walK K.m.wal.toNat) K.w,pts kb (.cells [.pointer (some ⟨b,0,none⟩),.string nm,.int .u64 K.m.wal,mv,.int .u64 K.m.next,.pointer (some ⟨wb,0,none⟩),.pointer (some ⟨mb,0,none⟩),rv,.int .i64 0].toArray 78),row 41 1 v _]++R) h
  rw[hnx]at s ⊢
  rw[hnn]
  exact(entD) _ s
 refine opsL_mapL (fun h s=>fP_in (g0:=g0) (Lp:=LF K.d) (by rw[List.append_assoc]at s;exact s)) ?_
 have hback:∀ (d:Dk) (ft:Int) (L:List HProp) (h:Frag),SatL (stP kb b nm mb ft (fP g0 (LF d))::L) h→SatL (stP kb b nm mb ft (kvD b mb nm {K with d:=d})::L) h:=fun d ft L h s=>by
  have s1:=fP_open s
  have s2:SatL ([diskP b d,memX mb K.mem,bxK b1 kb,bxN b4 n,bxM b6 K.nxF v6,row 70 1 v6 (K.nxF.runs.map uV),row 70 1 mv (K.m.runs.map uV),row 83 1 rv (rs.map krV),runsX b nm rs,walP wb b (fileK nm walK K.m.wal.toNat) K.w,kvP kb b nm g0.m g0.mv.1 g0.wp.1 mb g0.rv.1 ft]++L) h:=s1
  refine kv_back (wb:=wb) (rs:=rs) (g0:=g0) (K:={K with d:=d}) rfl rfl g3 ?_
  exact(entD) _ s2
 clear_value LF
 by_cases e1:(K.fl1 nm).2=0
 ·by_cases e2:(K.fl2 nm).2=0
  ·rw[e1]at h1
   rw[e2]at h2
   have hfl:K.fl nm=(⟨(K.fl3 nm).2.1,K.nxF,⟨0,0,0⟩,[],K.rs++[(K.m.next,K.mem)]⟩,(K.fl3 nm).2.2):=by unfold Kv.fl;rw[if_neg (fun h=>h e1),if_neg (fun h=>h e2)]
   rw[hfl]
   have hSt:=steps_spec kb b nm mb 0 v _ [Value.func (.func 54) #[] #[.pointer (some ⟨b1,0,none⟩),.pointer (some ⟨b4,0,none⟩)],Value.func (.func 57) #[] #[.pointer (some ⟨b1,0,none⟩),.pointer (some ⟨b6,0,none⟩)],Value.func (.func 60) #[] #[.pointer (some ⟨b1,0,none⟩),.pointer (some ⟨b6,0,none⟩)]] _ _ 0 (Vw.row (e:=41)) (by show 3≤1000;decide) (.ok h1 (.ok h2 (.ok (h3 e1 e2) (.nil _))))
   rw[show ftK 0 0=0 from rfl]at hSt
   repeat'(first|(refine gY ?_;intros)|(refine hY ?_ ?_<;>intro hgd)|(refine jY ?_ ?_<;>intro _)|fail)
   refine cl_Y (hSt) ?_
   intro _ _
   refine opsL_mapL (fun h s=>st_unpack (A:=walP wb b (fileK nm walK K.m.wal.toNat) K.w) (B:=bxK b1 kb) (D:=kvD b mb nm ⟨(K.fl2 nm).1,K.nxF,⟨0,0,0⟩,K.mem,K.rs++[((n:Int),K.mem)]⟩) s) ?_
   have hR:=fun g Z=>reset_st kb b mb wb nm (fileK nm walK K.m.wal.toNat) 0 g K.w (K.fl2 nm).1 Z ho2.1 ho2.2 hz8
   have hF3:K.fl3 nm=resetW K.w (K.fl2 nm).1 (fileK nm walK K.m.wal.toNat):=rfl
   rw[← hF3]at hR
   have hC:=mClearX mb K.mem
   clear h1 h2 h3 hSt hfl hF3 hback hT hc hwf hmem
   generalize K.fl3 nm=r3 at hR ⊢
   generalize (K.fl2 nm).1=d2 at hR ⊢
   generalize K.nxF=nx at*
   refine ops_ex (M:=stM kb b nm mb 0 (kvD b mb nm ⟨d2,nx,⟨0,0,0⟩,K.mem,K.rs++[((n:Int),K.mem)]⟩)) Sel.here ?_
   rintro⟨m2,⟨mv2,hmv2⟩,⟨wp2,hwp2⟩,⟨rv2,hrv2⟩⟩
   refine ops_ex (M:=kvM b mb nm ⟨d2,nx,⟨0,0,0⟩,K.mem,K.rs++[((n:Int),K.mem)]⟩ ⟨m2,⟨mv2,hmv2⟩,⟨wp2,hwp2⟩,⟨rv2,hrv2⟩⟩) Sel.here ?_
   rintro⟨wb2,rs2,k1,k2,k3⟩
   dsimp only at k1 k2 k3
   subst k1 k2
   unfold kvM
   dsimp only
   unfold kvP kvC bxK
   dsimp only[List.append,List.cons_append,List.nil_append]
   repeat'(first|(refine gY ?_;intros)|(refine hY ?_ ?_<;>intro hgd)|(refine jY ?_ ?_<;>intro _)|fail)
   refine cl_Y (hC) ?_
   intro _ _
   repeat'(first|(refine gY ?_;intros)|(refine hY ?_ ?_<;>intro hgd)|(refine jY ?_ ?_<;>intro _)|fail)
   rename_i v3 hv3
   rw[hnn]
   let g2:KG:=⟨m2,⟨mv2,hmv2⟩,⟨.pointer (some ⟨wb2,0,none⟩),hwp2⟩,⟨rv2,hrv2⟩⟩
   let Z2:List HProp:=[memX mb [],row 70 1 mv2 (m2.runs.map uV),row 83 1 rv2 (rs2.map krV),runsX b nm rs2,walP wb2 b (fileK nm walK m2.wal.toNat) ⟨0,0,0⟩]
   have hv1:VSpec Tryz.prog (.func (.func 63) #[.pointer (some ⟨wb,0,none⟩)] #[]) [] [stP kb b nm mb 0 (fP g2 (walP wb b (fileK nm walK K.m.wal.toNat) K.w::diskP b d2::Z2))] Unit (fun _=>True) (fun _=>.int .i64 r3.2.2) (fun _=>[stP kb b nm mb 0 (fP g2 (walP wb b (fileK nm walK K.m.wal.toNat) r3.1::diskP b r3.2.1::Z2))]):=vspec_bound (args:=[]) (hR g2 Z2)
   refine opsL_mapL (L':=(walP wb b (fileK nm walK K.m.wal.toNat) K.w::diskP b d2::Z2++[kvP kb b nm g2.m g2.mv.1 g2.wp.1 mb g2.rv.1 0])++(row 41 1 v3 ([Value.func (.func 63) #[.pointer (some ⟨wb,0,none⟩)] #[]].map fun f=>[f])::R)) (fun h s=>?_) ?_
   ·show SatL ([walP wb b (fileK nm walK K.m.wal.toNat) K.w,diskP b d2,memX mb [],row 70 1 mv2 (m2.runs.map uV),row 83 1 rv2 (rs2.map krV),runsX b nm rs2,walP wb2 b (fileK nm walK m2.wal.toNat) ⟨0,0,0⟩,pts kb (.cells [.pointer (some ⟨b,0,none⟩),.string nm,.int .u64 m2.wal,mv2,.int .u64 m2.next,.pointer (some ⟨wb2,0,none⟩),.pointer (some ⟨mb,0,none⟩),rv2,.int .i64 0].toArray 78),row 41 1 v3 _]++R) h
    exact(entD) _ s
   refine opsL_mapL (fun h s=>fP_in (g0:=g2) (Lp:=walP wb b (fileK nm walK K.m.wal.toNat) K.w::diskP b d2::Z2) (by rw[List.append_assoc]at s;exact s)) ?_
   have hback2:∀ (ft:Int) (L:List HProp) (h:Frag),SatL (stP kb b nm mb ft (fP g2 (walP wb b (fileK nm walK K.m.wal.toNat) r3.1::diskP b r3.2.1::Z2))::L) h→SatL (stP kb b nm mb ft (kvD b mb nm ⟨r3.2.1,m2,⟨0,0,0⟩,[],K.rs++[((n:Int),K.mem)]⟩)::L) h:=fun ft L h s=>by
    have s1:=fP_open s
    have s2:SatL ([walP wb b (fileK nm walK K.m.wal.toNat) r3.1,diskP b r3.2.1,memX mb [],row 70 1 mv2 (m2.runs.map uV),row 83 1 rv2 (rs2.map krV),runsX b nm rs2,walP wb2 b (fileK nm walK m2.wal.toNat) ⟨0,0,0⟩,kvP kb b nm g2.m g2.mv.1 g2.wp.1 mb g2.rv.1 ft]++L) h:=s1
    refine kv_back (wb:=wb2) (rs:=rs2) (g0:=g2) (K:=⟨r3.2.1,m2,⟨0,0,0⟩,[],K.rs++[((n:Int),K.mem)]⟩) rfl rfl k3 ?_
    exact(entD) _ s2
   clear_value g2 Z2
   by_cases e3:r3.2.2=0
   ·rw[e3]at hv1 ⊢
    rw[show ftK 0 0=0 from rfl]
    have hS2:=steps_spec kb b nm mb 0 v3 _ [Value.func (.func 63) #[.pointer (some ⟨wb,0,none⟩)] #[]] _ _ 0 (Vw.row (e:=41)) (by show 1≤1000;decide) (.ok hv1 (.nil _))
    rw[show ftK 0 0=0 from rfl]at hS2
    repeat'(first|(refine gY ?_;intros)|(refine hY ?_ ?_<;>intro hgd)|(refine jY ?_ ?_<;>intro _)|fail)
    refine cl_Y (hS2) ?_
    intro _ _
    refine opsL_mapL (fun h s=>hback2 _ _ h s) ?_
    repeat'(first|(refine gY ?_;intros)|(refine hY ?_ ?_<;>intro hgd)|(refine jY ?_ ?_<;>intro _)|fail)
    (refine rt_Y (y:=()) (hrs:=Tryz.results16) (hv:=?_) (hφ:=?_))
    ·rfl
    ·trivial
   ·have hS2:=steps_spec kb b nm mb 0 v3 _ [Value.func (.func 63) #[.pointer (some ⟨wb,0,none⟩)] #[]] _ _ _ (Vw.row (e:=41)) (by show 1≤1000;decide) (.bad hv1 e3)
    repeat'(first|(refine gY ?_;intros)|(refine hY ?_ ?_<;>intro hgd)|(refine jY ?_ ?_<;>intro _)|fail)
    refine cl_Y (hS2) ?_
    intro _ _
    refine opsL_mapL (fun h s=>hback2 _ _ h s) ?_
    repeat'(first|(refine gY ?_;intros)|(refine hY ?_ ?_<;>intro hgd)|(refine jY ?_ ?_<;>intro _)|fail)
    (refine rt_Y (y:=()) (hrs:=Tryz.results16) (hv:=?_) (hφ:=?_))
    ·rfl
    ·trivial
  ·rw[e1]at h1
   have hfl:K.fl nm=({K with d:=(K.fl2 nm).1},(K.fl2 nm).2):=by unfold Kv.fl;rw[if_neg (fun h=>h e1),if_pos e2]
   rw[hfl]
   have hSt:=steps_spec kb b nm mb 0 v _ [Value.func (.func 54) #[] #[.pointer (some ⟨b1,0,none⟩),.pointer (some ⟨b4,0,none⟩)],Value.func (.func 57) #[] #[.pointer (some ⟨b1,0,none⟩),.pointer (some ⟨b6,0,none⟩)],Value.func (.func 60) #[] #[.pointer (some ⟨b1,0,none⟩),.pointer (some ⟨b6,0,none⟩)]] _ _ _ (Vw.row (e:=41)) (by show 3≤1000;decide) (.ok h1 (.bad h2 e2))
   have f2:(!decide ((K.fl2 nm).2=0))=true:=by simp[e2]
   repeat'(first|(refine gY ?_;intros)|(refine hY ?_ ?_<;>intro hgd)|(refine jY ?_ ?_<;>intro _)|fail)
   refine cl_Y (hSt) ?_
   intro _ _
   refine opsL_mapL (fun h s=>hback _ _ _ h s) ?_
   repeat'(first|(refine gY ?_;intros)|(refine hY ?_ ?_<;>intro hgd)|(refine jY ?_ ?_<;>intro _)|fail)
   (refine rt_Y (y:=()) (hrs:=Tryz.results16) (hv:=?_) (hφ:=?_))
   ·rfl
   ·trivial
 ·have hfl:K.fl nm=({K with d:=(K.fl1 nm).1},(K.fl1 nm).2):=by unfold Kv.fl;rw[if_pos e1]
  rw[hfl]
  have hSt:=steps_spec kb b nm mb 0 v _ [Value.func (.func 54) #[] #[.pointer (some ⟨b1,0,none⟩),.pointer (some ⟨b4,0,none⟩)],Value.func (.func 57) #[] #[.pointer (some ⟨b1,0,none⟩),.pointer (some ⟨b6,0,none⟩)],Value.func (.func 60) #[] #[.pointer (some ⟨b1,0,none⟩),.pointer (some ⟨b6,0,none⟩)]] _ _ _ (Vw.row (e:=41)) (by show 3≤1000;decide) (.bad h1 e1)
  have f2:(!decide ((K.fl1 nm).2=0))=true:=by simp[e1]
  repeat'(first|(refine gY ?_;intros)|(refine hY ?_ ?_<;>intro hgd)|(refine jY ?_ ?_<;>intro _)|fail)
  refine cl_Y (hSt) ?_
  intro _ _
  refine opsL_mapL (fun h s=>hback _ _ _ h s) ?_
  repeat'(first|(refine gY ?_;intros)|(refine hY ?_ ?_<;>intro hgd)|(refine jY ?_ ?_<;>intro _)|fail)
  (refine rt_Y (y:=()) (hrs:=Tryz.results16) (hv:=?_) (hφ:=?_))
  ·rfl
  ·trivial
abbrev bxL(b7:Nat)(ov:Value):HProp:=pts b7 (.cells [ov].toArray 22)
abbrev bxO(b10:Nat)(mv:Value):HProp:=pts b10 (.cells [mv].toArray 71)
theorem vw_nilK{A:HProp}:Vw A 1 (.slice none 0 0) []:=fun h _=>⟨fun _ hx=>by simp at hx,none,0,rfl,.inl rfl,fun _=>rfl,fun _ _ e=>by cases e⟩
set_option maxHeartbeats 4000000 in
theorem compact1_spec(kb b mb b1 b9 b7:Nat)(nm:BA)(ft:Int)(g0:KG)(d:Dk)(n:Nat)(ov:Value)(out:List Pr)(Z:List HProp)(hov:ov.oneCell'=true)(hz:out.length≤1000000)(h12:n<281474976710656)(hn:nm.size≤1000000)(hd:d.Ok)(hl:d.loose.length≤1000000):
  FSpec Tryz.prog 65 [.pointer (some ⟨b1,0,none⟩),.pointer (some ⟨b9,0,none⟩),.pointer (some ⟨b7,0,none⟩)] [stP kb b nm mb ft (fP g0 (diskP b d::bxK b1 kb::bxN b9 n::bxL b7 ov::row 65 3 ov (out.map prV)::Z))] Unit (fun _=>True) (fun _=>.int .i64 (wrK d (fileK nm runK n) out).2)
   (fun _=>[stP kb b nm mb ft (fP g0 (diskP b (wrK d (fileK nm runK n) out).1::bxK b1 kb::bxN b9 n::bxL b7 ov::row 65 3 ov (out.map prV)::Z))]):=by
 refine fP_out ?_
 have hW:=kwrite_spec kb b nm g0.m g0.mv.1 g0.wp.1 mb g0.rv.1 ft d n ov (row 65 3 ov (out.map prV)) out Vw.row hz h12 hn hd hl
 generalize wrK d (fileK nm runK n) out=wr at hW ⊢
 refine(show FSpec Tryz.prog 65 [.pointer (some ⟨b1,0,none⟩),.pointer (some ⟨b9,0,none⟩),.pointer (some ⟨b7,0,none⟩)] [diskP b d,bxK b1 kb,bxN b9 n,bxL b7 ov,row 65 3 ov (out.map prV),kvP kb b nm g0.m g0.mv.1 g0.wp.1 mb g0.rv.1 ft,fun h=>SatL Z h] Unit (fun _=>True) (fun _=>.int .i64 wr.2) (fun _=>[diskP b wr.1,bxK b1 kb,bxN b9 n,bxL b7 ov,row 65 3 ov (out.map prV),kvP kb b nm g0.m g0.mv.1 g0.wp.1 mb g0.rv.1 ft,fun h=>SatL Z h])from ?_).conseq (fun R h s=>?_) (fun y _=>⟨(),trivial,rfl,fun R h s=>?_⟩)
 ·unfold bxK bxN bxL
  refine spec_intro [] _ Tryz.func65 rfl Tryz.ntmps65 (by rfl) (fun w0 R=>?_)
  refine ok_learn (rowShapeS (e:=65) (n:=3) (v:=ov) (xs:=out.map prV) (by decide) takeD) ?_
  rintro⟨pz,cz,rfl,hcz,hsz⟩
  repeat'(first|(refine gY ?_;intros)|(refine hY ?_ ?_<;>intro hgd)|(refine jY ?_ ?_<;>intro _)|fail)
  refine cl_Y (hW) ?_
  intro _ _
  repeat'(first|(refine gY ?_;intros)|(refine hY ?_ ?_<;>intro hgd)|(refine jY ?_ ?_<;>intro _)|fail)
  (refine rt_Y (y:=()) (hrs:=Tryz.results65) (hv:=?_) (hφ:=?_))
  ·rfl
  ·trivial
 ·exact rest_in (M:=[diskP b d,bxK b1 kb,bxN b9 n,bxL b7 ov,row 65 3 ov (out.map prV)]) s
 ·exact fP_in (rest_out (M:=[diskP b wr.1,bxK b1 kb,bxN b9 n,bxL b7 ov,row 65 3 ov (out.map prV)]) s)
set_option maxHeartbeats 4000000 in
theorem compact2_spec(kb b mb b1 b9 b7 b6:Nat)(nm:BA)(ft:Int)(g0:KG)(d:Dk)(n:Nat)(ov:Value)(out:List Pr)(nx:Mn)(v6:Value)(Z:List HProp)(hcap:capOk v6)(hc:nx.chk=true)(hw:nx.wf)(hz:nx.runs.length≤1000)(hn:nm.size≤1000000)(hd:d.Ok)(hl:d.loose.length≤1000000):
  FSpec Tryz.prog 66 [.pointer (some ⟨b1,0,none⟩),.pointer (some ⟨b6,0,none⟩)] [stP kb b nm mb ft (fP g0 (diskP b d::bxK b1 kb::bxN b9 n::bxL b7 ov::row 65 3 ov (out.map prV)::bxM b6 nx v6::row 70 1 v6 (nx.runs.map uV)::Z))] Unit (fun _=>True) (fun _=>.int .i64 (saveD (manK nm) (mBytes nx) d).2)
   (fun _=>[stP kb b nm mb ft (fP g0 (diskP b (saveD (manK nm) (mBytes nx) d).1::bxK b1 kb::bxN b9 n::bxL b7 ov::row 65 3 ov (out.map prV)::bxM b6 nx v6::row 70 1 v6 (nx.runs.map uV)::Z))]):=by
 refine fP_out ?_
 have hM:=kman_spec kb b nm g0.m g0.mv.1 g0.wp.1 mb g0.rv.1 ft (by omega)
 have hS:=Save_spec b d (manK nm) nx v6 (row 70 1 v6 (nx.runs.map uV)) hd (by omega) (by rw[manK_size];omega) Vw.row hcap (by omega) hc hw
 generalize saveD (manK nm) (mBytes nx) d=sv at hS ⊢
 refine(show FSpec Tryz.prog 66 [.pointer (some ⟨b1,0,none⟩),.pointer (some ⟨b6,0,none⟩)] [diskP b d,bxK b1 kb,bxN b9 n,bxL b7 ov,row 65 3 ov (out.map prV),bxM b6 nx v6,row 70 1 v6 (nx.runs.map uV),kvP kb b nm g0.m g0.mv.1 g0.wp.1 mb g0.rv.1 ft,fun h=>SatL Z h] Unit (fun _=>True) (fun _=>.int .i64 sv.2) (fun _=>[diskP b sv.1,bxK b1 kb,bxN b9 n,bxL b7 ov,row 65 3 ov (out.map prV),bxM b6 nx v6,row 70 1 v6 (nx.runs.map uV),kvP kb b nm g0.m g0.mv.1 g0.wp.1 mb g0.rv.1 ft,fun h=>SatL Z h])from ?_).conseq (fun R h s=>?_) (fun y _=>⟨(),trivial,rfl,fun R h s=>?_⟩)
 ·obtain⟨m,⟨mv,hmv⟩,⟨wp,hwp⟩,⟨rv,hrv⟩⟩:=g0
  obtain⟨nw,nr,nn⟩:=nx
  dsimp only[manV]at hM hS ⊢
  unfold kvP kvC at hM ⊢
  unfold bxK bxN bxM bxL
  refine spec_intro [] _ Tryz.func66 rfl Tryz.ntmps66 (by rfl) (fun w0 R=>?_)
  repeat'(first|(refine gY ?_;intros)|(refine hY ?_ ?_<;>intro hgd)|(refine jY ?_ ?_<;>intro _)|fail)
  refine ok_drawL (cv:=[]) [5] ([pts b1 (.cells [.pointer (some ⟨kb,0,none⟩)].toArray 28),pts b6 (.cells [.int .u64 nw,v6,.int .u64 nn].toArray 73),pts kb (.cells [.pointer (some ⟨b,0,none⟩),.string nm,.int .u64 m.wal,mv,.int .u64 m.next,wp,.pointer (some ⟨mb,0,none⟩),rv,.int .i64 ft].toArray 78)]) (takeD) (by kernel_rfl) rfl (by decide +kernel) ?_
  repeat'(first|(refine gY ?_;intros)|(refine hY ?_ ?_<;>intro hgd)|(refine jY ?_ ?_<;>intro _)|fail)
  refine clN_Y (hM) ?_
  intro _ _
  repeat'(first|(refine gY ?_;intros)|(refine hY ?_ ?_<;>intro hgd)|(refine jY ?_ ?_<;>intro _)|fail)
  refine cl_Y (hS) ?_
  intro _ _
  repeat'(first|(refine gY ?_;intros)|(refine hY ?_ ?_<;>intro hgd)|(refine jY ?_ ?_<;>intro _)|fail)
  (refine rt_Y (y:=()) (hrs:=Tryz.results66) (hv:=?_) (hφ:=?_))
  ·rfl
  ·trivial
 ·exact rest_in (M:=[diskP b d,bxK b1 kb,bxN b9 n,bxL b7 ov,row 65 3 ov (out.map prV),bxM b6 nx v6,row 70 1 v6 (nx.runs.map uV)]) s
 ·exact fP_in (rest_out (M:=[diskP b sv.1,bxK b1 kb,bxN b9 n,bxL b7 ov,row 65 3 ov (out.map prV),bxM b6 nx v6,row 70 1 v6 (nx.runs.map uV)]) s)
set_option maxHeartbeats 4000000 in
theorem compact3_spec(kb b mb wb b1 b9 b7 b6 b10:Nat)(nm:BA)(ft:Int)(K:Kv)(g0:KG)(rs:List Ru)(d:Dk)(n:Nat)(ov:Value)(out:List Pr)(nx:Mn)(v6:Value)(hv6:v6.oneCell'=true)(hg:g0.m=K.m)(hgw:g0.wp.1= .pointer (some ⟨wb,0,none⟩))
  (hla:nx.runs=[(n:Int)])(h12:n<281474976710656)(hn:nm.size≤1000000)(hd:d.Ok)(hl:d.loose.length≤1000000)(hf:d.read (fileK nm runK n) 0 16777216=(runB out,0))(hok:∀ p∈out,okP p=true)(hri:riseB out=true)
  (hne:nx.wal=K.m.wal):
  FSpec Tryz.prog 67 [.pointer (some ⟨b1,0,none⟩),.pointer (some ⟨b6,0,none⟩)] [stP kb b nm mb ft (fP g0 [diskP b d,bxK b1 kb,bxN b9 n,bxL b7 ov,row 65 3 ov (out.map prV),bxM b6 nx v6,row 70 1 v6 (nx.runs.map uV),bxO b10 g0.mv.1,row 70 1 g0.mv.1 (K.m.runs.map uV),row 83 1 g0.rv.1 (rs.map krV),runsX b nm rs,walP wb b (fileK nm walK K.m.wal.toNat) K.w,memX mb K.mem])] Unit (fun _=>True) (fun _=>.int .i64 0)
   (fun _=>[stP kb b nm mb ft (pkD (kvD b mb nm ⟨d,nx,K.w,K.mem,[((n:Int),out)]⟩) (row 70 1 g0.mv.1 (K.m.runs.map uV)) (fun h=>SatL [bxK b1 kb,bxO b10 g0.mv.1] h))]):=by
 refine fP_out ?_
 have hT:=turnC_spec kb b mb nm g0.m nx g0.mv.1 g0.wp.1 g0.rv.1 v6 (.slice none 0 0) ft d n out [] [] (row 70 1 v6 (nx.runs.map uV)) (fun _=>True) hv6 g0.wp.2 Vw.row vw_nilK (by simp) hla (by rw[hla];simp) h12 hn hd hl hf hok hri (by rw[hg];exact hne)
 have q:FSpec Tryz.prog 67 [.pointer (some ⟨b1,0,none⟩),.pointer (some ⟨b6,0,none⟩)] [diskP b d,bxK b1 kb,bxM b6 nx v6,row 70 1 v6 (nx.runs.map uV),kvP kb b nm g0.m g0.mv.1 g0.wp.1 mb g0.rv.1 ft] (Nat×V1s) (fun _=>True) (fun _=>.int .i64 0)
   (fun y=>[kvP kb b nm nx v6 g0.wp.1 mb y.2.1 ft,diskP b d,runX b nm ⟨y.1,n,out⟩,row 83 1 y.2.1 (([]++[(⟨y.1,n,out⟩:Ru)]).map krV),row 70 1 v6 (nx.runs.map uV),bxK b1 kb]):=by
  obtain⟨m,⟨mv,hmv⟩,⟨wp,hwp⟩,⟨rv,hrv⟩⟩:=g0
  obtain⟨nw,nr,nn⟩:=nx
  dsimp only[manV]at hT hg ⊢
  unfold kvP kvC at hT ⊢
  unfold bxK bxM
  refine spec_intro [] _ Tryz.func67 rfl Tryz.ntmps67 (by rfl) (fun w0 R=>?_)
  refine ok_map (fun _ h=>satL_emp (A:=fun _=>True) trivial h) ?_
  repeat'(first|(refine gY ?_;intros)|(refine hY ?_ ?_<;>intro hgd)|(refine jY ?_ ?_<;>intro _)|fail)
  refine cl_Y (hT) ?_
  rintro⟨rb,⟨v2,hv2⟩⟩ _
  dsimp only
  repeat'(first|(refine gY ?_;intros)|(refine hY ?_ ?_<;>intro hgd)|(refine jY ?_ ?_<;>intro _)|fail)
  (refine rt_Y (y:=(rb,⟨v2,hv2⟩)) (hrs:=Tryz.results67) (hv:=?_) (hφ:=?_))
  ·rfl
  ·trivial
 refine(fspec_frameK q [walP wb b (fileK nm walK K.m.wal.toNat) K.w,memX mb K.mem,row 70 1 g0.mv.1 (K.m.runs.map uV),bxO b10 g0.mv.1]).conseq (fun R h s=>(entD) _ s) (fun y _=>⟨(),trivial,rfl,fun R h s=>?_⟩)
 obtain⟨rb,⟨v2,hv2⟩⟩:=y
 dsimp only at s
 have s0:SatL ([runX b nm ⟨rb,n,out⟩,row 70 1 v6 (nx.runs.map uV),row 83 1 v2 ([(⟨rb,n,out⟩:Ru)].map krV),walP wb b (fileK nm walK K.m.wal.toNat) K.w,diskP b d,memX mb K.mem,row 70 1 g0.mv.1 (K.m.runs.map uV),bxK b1 kb,bxO b10 g0.mv.1,kvP kb b nm nx v6 g0.wp.1 mb v2 ft]++R) h:=(entD) _ s
 have s1:SatL ([runsX b nm ([]++[⟨rb,n,out⟩]),row 70 1 v6 (nx.runs.map uV),row 83 1 v2 ([(⟨rb,n,out⟩:Ru)].map krV),walP wb b (fileK nm walK K.m.wal.toNat) K.w,diskP b d,memX mb K.mem,row 70 1 g0.mv.1 (K.m.runs.map uV),bxK b1 kb,bxO b10 g0.mv.1,kvP kb b nm nx v6 g0.wp.1 mb v2 ft]++R) h:=runsX_add (runsX_nil s0)
 rw[← hne]at s1
 have s3:SatL ([row 70 1 v6 (nx.runs.map uV),row 83 1 v2 ([(⟨rb,n,out⟩:Ru)].map krV),runsX b nm ([]++[⟨rb,n,out⟩]),walP wb b (fileK nm walK nx.wal.toNat) K.w,diskP b d,memX mb K.mem,row 70 1 g0.mv.1 (K.m.runs.map uV),bxK b1 kb,bxO b10 g0.mv.1,kvP kb b nm nx v6 g0.wp.1 mb v2 ft]++R) h:=(entD) _ s1
 have s4:SatL ([kvD b mb nm ⟨d,nx,K.w,K.mem,[((n:Int),out)]⟩ ⟨nx,⟨v6,hv6⟩,g0.wp,⟨v2,hv2⟩⟩,row 70 1 g0.mv.1 (K.m.runs.map uV),bxK b1 kb,bxO b10 g0.mv.1,kvP kb b nm nx v6 g0.wp.1 mb v2 ft]++R) h:=
  kv_in (b:=b) (mb:=mb) (nm:=nm) (K:=⟨d,nx,K.w,K.mem,[((n:Int),out)]⟩) (g:=⟨nx,⟨v6,hv6⟩,g0.wp,⟨v2,hv2⟩⟩) ⟨wb,[(⟨rb,n,out⟩:Ru)],rfl,hgw,rfl⟩ s3
 have s5:SatL ([kvD b mb nm ⟨d,nx,K.w,K.mem,[((n:Int),out)]⟩ ⟨nx,⟨v6,hv6⟩,g0.wp,⟨v2,hv2⟩⟩,row 70 1 g0.mv.1 (K.m.runs.map uV),(fun h=>SatL [bxK b1 kb,bxO b10 g0.mv.1] h),kvP kb b nm nx v6 g0.wp.1 mb v2 ft]++R) h:=by
  refine s4.consMono fun h t=>t.consMono fun h t=>?_
  exact SatL.unflat (M:=[bxK b1 kb,bxO b10 g0.mv.1]) t
 exact st_in (D:=pkD (kvD b mb nm ⟨d,nx,K.w,K.mem,[((n:Int),out)]⟩) (row 70 1 g0.mv.1 (K.m.runs.map uV)) (fun h=>SatL [bxK b1 kb,bxO b10 g0.mv.1] h)) ⟨nx,⟨v6,hv6⟩,g0.wp,⟨v2,hv2⟩⟩ (pc_in (c:=True) (L:=[kvD b mb nm ⟨d,nx,K.w,K.mem,[((n:Int),out)]⟩ ⟨nx,⟨v6,hv6⟩,g0.wp,⟨v2,hv2⟩⟩,row 70 1 g0.mv.1 (K.m.runs.map uV),(fun h=>SatL [bxK b1 kb,bxO b10 g0.mv.1] h)]) trivial s5)
set_option maxHeartbeats 4000000 in
theorem compact4_spec(kb b mb b1 b10:Nat)(nm:BA)(ft:Int)(g0:KG)(d:Dk)(mv:Value)(old:List Int)(Z:List HProp)(hmv:mv.oneCell'=true)(hr:∀ n∈old,0≤n∧n<281474976710656)(hz:old.length≤1000)(hn:nm.size≤1000000)(hd:d.Ok)(hl:d.loose.length≤1000000):
  FSpec Tryz.prog 68 [.pointer (some ⟨b1,0,none⟩),.pointer (some ⟨b10,0,none⟩)] [stP kb b nm mb ft (fP g0 (diskP b d::bxK b1 kb::bxO b10 mv::row 70 1 mv (old.map uV)::Z))] Unit (fun _=>True) (fun _=>.int .i64 (dropL nm old d).2)
   (fun _=>[stP kb b nm mb ft (fP g0 (diskP b (dropL nm old d).1::bxK b1 kb::bxO b10 mv::row 70 1 mv (old.map uV)::Z))]):=by
 refine fP_out ?_
 have hW:=kdrop_spec kb b nm g0.m g0.mv.1 g0.wp.1 mb g0.rv.1 ft d mv (row 70 1 mv (old.map uV)) old Vw.row hr hz hn hd hl
 generalize dropL nm old d=wr at hW ⊢
 refine(show FSpec Tryz.prog 68 [.pointer (some ⟨b1,0,none⟩),.pointer (some ⟨b10,0,none⟩)] [diskP b d,bxK b1 kb,bxO b10 mv,row 70 1 mv (old.map uV),kvP kb b nm g0.m g0.mv.1 g0.wp.1 mb g0.rv.1 ft,fun h=>SatL Z h] Unit (fun _=>True) (fun _=>.int .i64 wr.2) (fun _=>[diskP b wr.1,bxK b1 kb,bxO b10 mv,row 70 1 mv (old.map uV),kvP kb b nm g0.m g0.mv.1 g0.wp.1 mb g0.rv.1 ft,fun h=>SatL Z h])from ?_).conseq (fun R h s=>?_) (fun y _=>⟨(),trivial,rfl,fun R h s=>?_⟩)
 ·unfold bxK bxO
  refine spec_intro [] _ Tryz.func68 rfl Tryz.ntmps68 (by rfl) (fun w0 R=>?_)
  refine ok_learn (rowShapeS (e:=70) (n:=1) (v:=mv) (xs:=old.map uV) (by decide) takeD) ?_
  rintro⟨pz,cz,rfl,hcz,hsz⟩
  repeat'(first|(refine gY ?_;intros)|(refine hY ?_ ?_<;>intro hgd)|(refine jY ?_ ?_<;>intro _)|fail)
  refine cl_Y (hW) ?_
  intro _ _
  repeat'(first|(refine gY ?_;intros)|(refine hY ?_ ?_<;>intro hgd)|(refine jY ?_ ?_<;>intro _)|fail)
  (refine rt_Y (y:=()) (hrs:=Tryz.results68) (hv:=?_) (hφ:=?_))
  ·rfl
  ·trivial
 ·exact rest_in (M:=[diskP b d,bxK b1 kb,bxO b10 mv,row 70 1 mv (old.map uV)]) s
 ·exact fP_in (rest_out (M:=[diskP b wr.1,bxK b1 kb,bxO b10 mv,row 70 1 mv (old.map uV)]) s)
def allR(K:Kv):List (List Pr):=K.rs.map (·.2)
def Kv.nxC(K:Kv):Mn:=⟨K.m.wal,[K.m.next],K.m.next+1⟩
def Kv.many(K:Kv):Nat:=1+((allR K).map List.length).sum
def Kv.outC(K:Kv):List Pr:=mrgS (allR K) ⟨#[]⟩ ⟨#[]⟩ (K.many:Int)
def Kv.c1(nm:BA)(K:Kv):Dk×Int:=wrK K.d (fileK nm runK K.m.next.toNat) K.outC
def Kv.c2(nm:BA)(K:Kv):Dk×Int:=saveD (manK nm) (mBytes K.nxC) (K.c1 nm).1
def Kv.c4(nm:BA)(K:Kv):Dk×Int:=dropL nm K.m.runs (K.c2 nm).1
def Kv.cmp(nm:BA)(K:Kv):Kv×Int:=
 if(K.c1 nm).2≠0 then({K with d:=(K.c1 nm).1},(K.c1 nm).2)else
 if(K.c2 nm).2≠0 then({K with d:=(K.c2 nm).1},(K.c2 nm).2)else
 (⟨(K.c4 nm).1,K.nxC,K.w,K.mem,[(K.m.next,K.outC)]⟩,(K.c4 nm).2)
theorem rlen_rs{b:Nat}{nm:BA}{rs:List Ru}{x:Ru}(hx:x∈rs):FSpec Tryz.prog 64 [.pointer (some ⟨x.rb,0,none⟩)] [runsX b nm rs] Unit (fun _=>True) (fun _=>.int .i64 (x.l.length:Int)) (fun _=>[runsX b nm rs]):=by
 obtain⟨r1,r2,rfl⟩:=List.append_of_mem hx
 have h0:FSpec Tryz.prog 64 [.pointer (some ⟨x.rb,0,none⟩)] [runX b nm x] Unit (fun _=>True) (fun _=>.int .i64 (x.l.length:Int)) (fun _=>[runX b nm x]):=by
  refine fspec_ex ?_
  rintro⟨v,hv⟩
  have:=rLen_spec x.rb b (fileK nm runK x.n) v (runB x.l).size (ents x.l)
  rw[show(ents x.l).length=x.l.length from entsF_len x.l 20]at this
  exact this.conseq (fun R h s=>s) (fun y hy=>⟨(),trivial,rfl,fun R h s=>by
   have s1:SatL ([rnP x.rb b (fileK nm runK x.n) v (runB x.l).size,enP v (ents x.l)]++R) h:=s
   exact runX_in hv s1⟩)
 refine(fspec_frameK h0 [runsX b nm r1,runsX b nm r2]).conseq (fun R h s=>?_) (fun y hy=>⟨(),trivial,rfl,fun R h s=>?_⟩)
 ·have s1:SatL ([runsX b nm (r1++x::r2)]++R) h:=s
  exact runs_open s1
 ·have s1:SatL ([runX b nm x,runsX b nm r1,runsX b nm r2]++R) h:=s
  exact runs_shut s1
theorem sum_succ{rs:List Ru}{i:Nat}(h:i<rs.length):(((rs.take (i+1)).map fun x=>x.l.length).sum:Nat)=((rs.take i).map fun x=>x.l.length).sum+rs[i].l.length:=by
 rw[List.take_succ_eq_append_getElem h,List.map_append,List.sum_append];simp
set_option maxHeartbeats 8000000 in
theorem kCompact_do(kb b mb:Nat)(nm:BA)(K:Kv)(n:Nat)(rd:Int×List Pr→En→Pr×Int)(hK:KvR nm K rd False)(hI:KvI K)(hr2:2≤K.rs.length)(hmr:K.m.runs.length≤256)(hn:nm.size≤1000000)(hnn:K.m.next=(n:Int))(hn40:n≤1099511627700)(hn1:1≤n)(hc:K.nxC.chk=true)(hwf:K.nxC.wf)
  (hout:K.outC.length≤1000000)(hok:∀ p∈K.outC,okP p=true)(hso:Sorted K.outC)
  (ho1:(K.c1 nm).1.Ok∧(K.c1 nm).1.loose.length≤1000000)(ho2:(K.c2 nm).1.Ok∧(K.c2 nm).1.loose.length≤1000000)
  (hT:(K.c1 nm).2=0→(K.c2 nm).2=0→(K.c2 nm).1.read (fileK nm runK n) 0 16777216=(runB K.outC,0)):
  FSpec Tryz.prog 17 [.pointer (some ⟨kb,0,none⟩)] [stP kb b nm mb 0 (kvD b mb nm K)] Unit (fun _=>True) (fun _=>.int .i64 (K.cmp nm).2) (fun _=>[stP kb b nm mb (ftK (K.cmp nm).2 0) (kvD b mb nm (K.cmp nm).1)]):=by
 refine fspec_ex ?_
 rintro⟨m,⟨mv,hmv⟩,⟨wp,hwp⟩,⟨rv,hrv⟩⟩
 show FSpec _ _ _ (exP (kvM b mb nm K ⟨m,⟨mv,hmv⟩,⟨wp,hwp⟩,⟨rv,hrv⟩⟩)::[kvP kb b nm m mv wp mb rv 0]) _ _ _ _
 refine fspec_ex ?_
 rintro⟨wb,rs,g1,g2,g3⟩
 dsimp only at g1 g2 g3
 subst g1 g2
 have hlr:rs.length=K.rs.length:=by rw[← g3,List.length_map]
 have h256:=hK.num
 have hF:=kFaultU_spec kb b nm K.m mv (.pointer (some ⟨wb,0,none⟩)) mb rv 0
 have lrs:(rs.map krV).length=rs.length:=by simp
 have hsr:∀ l∈allR K,Sorted l:=fun l hl=>by
  obtain⟨x,hx,rfl⟩:=List.mem_map.1 hl
  exact hK.srt x hx
 have hmn:((rs.map fun x=>x.l.length).sum:Nat)+1=K.many:=by
  unfold Kv.many allR
  rw[← g3,List.map_map,List.map_map,Nat.add_comm];rfl
 have hsm:∀ i,i≤rs.length→((rs.take i).map fun x=>x.l.length).sum≤257000000:=fun i hi=>by
  have h1:=sum_le ((rs.take i).map (·.l)) 1000000 (fun l hl=>by
   obtain⟨x,hx,rfl⟩:=List.mem_map.1 hl
   have:((x.n:Int),x.l)∈K.rs:=by rw[← g3];exact List.mem_map_of_mem (f:=fun x:Ru=>((x.n:Int),x.l)) (List.mem_of_mem_take hx)
   exact hK.len _ this)
  rw[List.map_map,List.length_map,List.length_take]at h1
  have h2:min i rs.length*1000000≤257*1000000:=Nat.mul_le_mul_right _ (by omega)
  have h3:((rs.take i).map fun x=>x.l.length).sum=((rs.take i).map (List.length ∘ fun x=>x.l)).sum:=rfl
  omega
 have hsrc:=sources_spec kb b nm K.m mv (.pointer (some ⟨wb,0,none⟩)) mb rv 0 rs (row 83 1 rv (rs.map krV)) Vw.row (by omega)
 have hlen:(rs.map (fun x=>srcRun x.rb)).length=(allR K).length:=by unfold allR;simp;omega
 have hS:∀ j (hj:j<(rs.map (fun x=>srcRun x.rb)).length),SrcI (srcF rd K.rs K.mem) (dsP b nm rs K.d mb K.mem) ⟨#[]⟩ False (srcS (allR K)) (rs.map (fun x=>srcRun x.rb))[j] j:=fun j hj=>by
  rw[List.length_map]at hj
  rw[List.getElem_map]
  refine src_run hK g3 hj ?_
  unfold srcS allR
  rw[← g3,List.map_map,List.getElem?_map,List.getElem?_eq_getElem hj];rfl
 have hmg:=fun(u:Value)=>merge_spec u (row 145 1 u ((rs.map (fun x=>srcRun x.rb)).map fun v=>[v])) (dsP b nm rs K.d mb K.mem) (rs.map (fun x=>srcRun x.rb)) ⟨#[]⟩ ⟨#[]⟩ (K.many:Int) (srcF rd K.rs K.mem) False (srcS (allR K)) Vw.row (by simp;omega) (by omega) hS (by
  rw[hlen]
  have h1:=lenR_src (allR K) (withB ⟨#[]⟩ ⟨#[]⟩)
  have h2:=hsm rs.length (Nat.le_refl _)
  rw[List.take_length]at h2
  unfold Kv.many at hmn
  omega)
 rw[hlen,mrgT_eq hsr]at hmg
 have hiv:(rs.map (fun x=>srcRun x.rb)).map (fun v=>[v])=(rs.map fun x=>[srcRun x.rb]):=by rw[List.map_map];rfl
 rw[hiv]at hmg
 have hoe:mrgS (allR K) ⟨#[]⟩ ⟨#[]⟩ (K.many:Int)=K.outC:=rfl
 rw[hoe]at hmg
 clear hS hiv hlen hoe
 have hrl:=fun x hx=>rlen_rs (b:=b) (nm:=nm) (rs:=rs) (x:=x) hx
 have w1:IntKind.u64.wrap (arith BinOp.add (n:Int) 1)=(n:Int)+1:=by show((n:Int)+1) % 18446744073709551616=_;omega
 have f1:decide (((rs.map krV).length:Int)<2)=false:=decide_eq_false (by omega)
 unfold kvM
 dsimp only
 unfold kvP kvC at hF hsrc ⊢
 rw[hnn]at hF hsrc ⊢
 have hlm:(K.m.runs.map uV).length≤1000:=by simp;omega
 refine spec_intro [] _ Tryz.func17 rfl Tryz.ntmps17 (by rfl) (fun w0 R=>?_)
 refine ok_learn (rowShapeS (e:=83) (n:=1) (v:=rv) (xs:=rs.map krV) (by decide) takeD) ?_
 rintro⟨pr,cr,rfl,hcr,hsr2⟩
 repeat'(first|(refine gY ?_;intros)|(refine hY ?_ ?_<;>intro hgd)|(refine jY ?_ ?_<;>intro _)|fail)
 rename_i b1
 refine cl_Y (hF) ?_
 intro _ _
 repeat'(first|(refine gY ?_;intros)|(refine hY ?_ ?_<;>intro hgd)|(refine jY ?_ ?_<;>intro _)|fail)
 refine ok_map (L':=[runsX b nm rs,row 83 1 (.slice pr (rs.map krV).length cr) (rs.map krV),pts b1 (.cells [.pointer (some ⟨kb,0,none⟩)].toArray 28),pts kb (.cells [.pointer (some ⟨b,0,none⟩),.string nm,.int .u64 K.m.wal,mv,.int .u64 (n:Int),.pointer (some ⟨wb,0,none⟩),.pointer (some ⟨mb,0,none⟩),(.slice pr (rs.map krV).length cr),.int .i64 0].toArray 78),row 70 1 mv (K.m.runs.map uV),walP wb b (fileK nm walK K.m.wal.toNat) K.w,diskP b K.d,memX mb K.mem]++R) entD ?_
 refine ok_loop' (γ:=Nat) (fun i ρ L=>i≤rs.length∧Knows ρ [(1,.pointer (some ⟨b1,0,none⟩)),(4,.int .i64 ((((rs.take i).map fun x=>x.l.length).sum+1:Nat):Int)),(26,(.slice pr (rs.map krV).length cr)),(27,.int .i64 ((rs.map krV).length:Int)),(28,.int .i64 (i:Int))]∧
   L=[runsX b nm rs,row 83 1 (.slice pr (rs.map krV).length cr) (rs.map krV),pts b1 (.cells [.pointer (some ⟨kb,0,none⟩)].toArray 28),pts kb (.cells [.pointer (some ⟨b,0,none⟩),.string nm,.int .u64 K.m.wal,mv,.int .u64 (n:Int),.pointer (some ⟨wb,0,none⟩),.pointer (some ⟨mb,0,none⟩),(.slice pr (rs.map krV).length cr),.int .i64 0].toArray 78),row 70 1 mv (K.m.runs.map uV),walP wb b (fileK nm walK K.m.wal.toNat) K.w,diskP b K.d,memX mb K.mem]++R) (fun i=>rs.length-i) 0 ⟨Nat.zero_le _,⟨rfl,rfl,rfl,rfl,rfl,trivial⟩,rfl⟩ ?_
 rintro i ρ L ⟨hi,hk,rfl⟩
 refine ok_regs hk ?_
 clear hk
 have hsi:=hsm i hi
 cases t1:decide ((i:Int)<((rs.map krV).length:Int))with
 |true=>
  have h0:i<rs.length:=by have:=of_decide_eq_true t1;omega
  have hx:(rs.map krV)[i]? =some [.pointer (some ⟨rs[i].rb,0,none⟩)]:=by rw[List.getElem?_map,List.getElem?_eq_getElem h0];rfl
  have hn1':i<(rs.map krV).length:=by omega
  have hst:=sum_succ h0
  have hs1:=hsm (i+1) h0
  have hl:=hrl _ (List.getElem_mem h0)
  generalize rs[i]=x at hx hst hl
  rw[hst]at hs1
  generalize ((rs.take i).map fun x=>x.l.length).sum=sm at hst hsi hs1 ⊢
  generalize x.l.length=xl at hst hl hs1
  refine ok_learn (VwIn.base (n:=1) (xs:=rs.map krV) (VwIn.there (VwIn.here Vw.row)) (by intro e;rw[e]at hn1';simp at hn1')) ?_
  rintro⟨bu,ou,rfl⟩
  repeat'(first|(refine gY ?_;intros)|(refine hY ?_ ?_<;>intro hgd)|(refine jY ?_ ?_<;>intro _)|fail)
  refine cl_Y (hl) ?_
  intro _ _
  repeat'(first|(refine gY ?_;intros)|(refine hY ?_ ?_<;>intro hgd)|(refine jY ?_ ?_<;>intro _)|fail)
  refine cont_map (L':=[runsX b nm rs,row 83 1 (.slice (some ⟨bu,ou,none⟩) (rs.map krV).length cr) (rs.map krV),pts b1 (.cells [.pointer (some ⟨kb,0,none⟩)].toArray 28),pts kb (.cells [.pointer (some ⟨b,0,none⟩),.string nm,.int .u64 K.m.wal,mv,.int .u64 (n:Int),.pointer (some ⟨wb,0,none⟩),.pointer (some ⟨mb,0,none⟩),(.slice (some ⟨bu,ou,none⟩) (rs.map krV).length cr),.int .i64 0].toArray 78),row 70 1 mv (K.m.runs.map uV),walP wb b (fileK nm walK K.m.wal.toNat) K.w,diskP b K.d,memX mb K.mem]++R) entD ?_
  exact cont_back (i+1) ⟨h0,⟨rfl,by rw[hst];show Value.int .i64 (((sm+1:Nat):Int)+(xl:Int))=Value.int .i64 ((sm+xl+1:Nat):Int);congr 1;omega,rfl,rfl,rfl,trivial⟩,rfl⟩ (by omega)
 |false=>
  have hie:i=rs.length:=by have:=of_decide_eq_false t1;omega
  rw[show rs.take i=rs by rw[hie,List.take_length],hmn]
  clear hrl hsi hsm
  have hmz:K.many≤1000000000:=by
   have h2:=sum_le (allR K) 1000000 (fun l hl=>by
    obtain⟨x,hx,rfl⟩:=List.mem_map.1 hl
    exact hK.len x hx)
   have h3:(allR K).length≤256:=by unfold allR;simp;omega
   have h4:(allR K).length*1000000≤256*1000000:=Nat.mul_le_mul_right _ h3
   unfold Kv.many
   omega
  refine ok_map (L':=[runsX b nm rs,diskP b K.d,memX mb K.mem,row 83 1 (.slice pr (rs.map krV).length cr) (rs.map krV),pts b1 (.cells [.pointer (some ⟨kb,0,none⟩)].toArray 28),pts kb (.cells [.pointer (some ⟨b,0,none⟩),.string nm,.int .u64 K.m.wal,mv,.int .u64 (n:Int),.pointer (some ⟨wb,0,none⟩),.pointer (some ⟨mb,0,none⟩),(.slice pr (rs.map krV).length cr),.int .i64 0].toArray 78),row 70 1 mv (K.m.runs.map uV),walP wb b (fileK nm walK K.m.wal.toNat) K.w]++R) entD ?_
  refine ok_map (fun _ h=>ds_in h) ?_
  generalize hds:dsP b nm rs K.d mb K.mem=DS at hmg ⊢
  generalize hmy:K.many=my at*
  repeat'(first|(refine gY ?_;intros)|(refine hY ?_ ?_<;>intro hgd)|(refine jY ?_ ?_<;>intro _)|fail)
  refine cl_Y (hsrc) ?_
  rintro⟨u,hu⟩ _
  dsimp only
  repeat'(first|(refine gY ?_;intros)|(refine hY ?_ ?_<;>intro hgd)|(refine jY ?_ ?_<;>intro _)|fail)
  refine cl_Y (hmg u) ?_
  rintro⟨out,⟨ov,hov⟩,e⟩ hy
  dsimp only at hy ⊢
  rcases hy with⟨rfl,rfl⟩|⟨hy,_⟩
  case inr=>exact hy.elim
  repeat'(first|(refine gY ?_;intros)|(refine hY ?_ ?_<;>intro hgd)|(refine jY ?_ ?_<;>intro _)|fail)
  rename_i b7
  refine ok_map (L':=[pts b7 (.cells [ov].toArray 22),row 65 3 ov (K.outC.map prV),pts b1 (.cells [.pointer (some ⟨kb,0,none⟩)].toArray 28),pts kb (.cells [.pointer (some ⟨b,0,none⟩),.string nm,.int .u64 K.m.wal,mv,.int .u64 (n:Int),.pointer (some ⟨wb,0,none⟩),.pointer (some ⟨mb,0,none⟩),(.slice pr (rs.map krV).length cr),.int .i64 0].toArray 78),DS,row 70 1 mv (K.m.runs.map uV),row 83 1 (.slice pr (rs.map krV).length cr) (rs.map krV),walP wb b (fileK nm walK K.m.wal.toNat) K.w]++R) entD ?_
  refine ok_meetK (γ:=Nat×Nat) (fun y ρ L=>Knows ρ [(1,.pointer (some ⟨b1,0,none⟩)),(7,.pointer (some ⟨b7,0,none⟩)),(8,.int .i64 0),(9,.pointer (some ⟨y.1,0,none⟩)),(10,.pointer (some ⟨y.2,0,none⟩))]∧L=([pts y.1 (.cells [.int .u64 (n:Int)].toArray 70),pts y.2 (.cells [mv].toArray 71),pts b7 (.cells [ov].toArray 22),row 65 3 ov (K.outC.map prV),pts b1 (.cells [.pointer (some ⟨kb,0,none⟩)].toArray 28),pts kb (.cells [.pointer (some ⟨b,0,none⟩),.string nm,.int .u64 K.m.wal,mv,.int .u64 (n:Int),.pointer (some ⟨wb,0,none⟩),.pointer (some ⟨mb,0,none⟩),(.slice pr (rs.map krV).length cr),.int .i64 0].toArray 78),DS,row 70 1 mv (K.m.runs.map uV),row 83 1 (.slice pr (rs.map krV).length cr) (rs.map krV),walP wb b (fileK nm walK K.m.wal.toNat) K.w]++R)) ?_ ?_
  ·refine ok_draw_node (cv:=[]) 4 [10,11,12,13] [pts b1 (.cells [.pointer (some ⟨kb,0,none⟩)].toArray 28),pts kb (.cells [.pointer (some ⟨b,0,none⟩),.string nm,.int .u64 K.m.wal,mv,.int .u64 (n:Int),.pointer (some ⟨wb,0,none⟩),.pointer (some ⟨mb,0,none⟩),(.slice pr (rs.map krV).length cr),.int .i64 0].toArray 78)] (by kernel_rfl) rfl (by decide +kernel) (by decide +kernel) (by decide +kernel) (takePre takeD) _ rfl ?_
   refine cont_node [] [(10,[10],[0,1,2,3,4,5,6,7,8,9,11,12,13]),(11,[11],[0,1,2,3,4,5,6,7,8,9,10,12,13])] rfl (by decide +kernel) ?_
   intro x hx
   simp only[List.mem_cons,List.not_mem_nil,or_false]at hx
   rcases hx with rfl|rfl
   ·dsimp only[List.length_cons,List.length_nil]
    repeat'(first|(refine gY ?_;intros)|(refine hY ?_ ?_<;>intro hgd)|(refine jY ?_ ?_<;>intro _)|fail)
    rename_i b9
    refine cont_node [] [(11,[11],[0,1,2,3,4,5,6,7,8,9,12,13])] rfl (by decide +kernel) ?_
    intro x hx
    simp only[List.mem_cons,List.not_mem_nil,or_false]at hx
    subst hx
    ·dsimp only[List.length_cons,List.length_nil]
     repeat'(first|(refine gY ?_;intros)|(refine hY ?_ ?_<;>intro hgd)|(refine jY ?_ ?_<;>intro _)|fail)
     rename_i b10
     refine cont_node [] [(12,[0,1,2,3,4,12],[5,6,7,8,9,13])] rfl (by decide +kernel) ?_
     intro x hx
     simp only[List.mem_cons,List.not_mem_nil,or_false]at hx
     subst hx
     ·dsimp only[List.length_cons,List.length_nil]
      repeat'(first|(refine gY ?_;intros)|(refine hY ?_ ?_<;>intro hgd)|(refine jY ?_ ?_<;>intro _)|fail)
      refine cont_node [] [(13,[5,6,7,8,9,13],[])] rfl (by decide +kernel) ?_
      intro x hx
      simp only[List.mem_cons,List.not_mem_nil,or_false]at hx
      subst hx
      ·dsimp only[List.length_cons,List.length_nil]
       repeat'(first|(refine gY ?_;intros)|(refine hY ?_ ?_<;>intro hgd)|(refine jY ?_ ?_<;>intro _)|fail)
       refine cont_node0 (by decide +kernel) ?_
       repeat'(first|(refine gY ?_;intros)|(refine hY ?_ ?_<;>intro hgd)|(refine jY ?_ ?_<;>intro _)|fail)
       refine cont_map (L':=[pts b9 (.cells [.int .u64 (n:Int)].toArray 70),pts b10 (.cells [mv].toArray 71),pts b7 (.cells [ov].toArray 22),row 65 3 ov (K.outC.map prV),pts b1 (.cells [.pointer (some ⟨kb,0,none⟩)].toArray 28),pts kb (.cells [.pointer (some ⟨b,0,none⟩),.string nm,.int .u64 K.m.wal,mv,.int .u64 (n:Int),.pointer (some ⟨wb,0,none⟩),.pointer (some ⟨mb,0,none⟩),(.slice pr (rs.map krV).length cr),.int .i64 0].toArray 78),DS,row 70 1 mv (K.m.runs.map uV),row 83 1 (.slice pr (rs.map krV).length cr) (rs.map krV),walP wb b (fileK nm walK K.m.wal.toNat) K.w]++R) entD ?_
       exact cont_meet (b9,b10) ⟨⟨rfl,rfl,rfl,rfl,rfl,trivial⟩,rfl⟩
   ·dsimp only[List.length_cons,List.length_nil]
    repeat'(first|(refine gY ?_;intros)|(refine hY ?_ ?_<;>intro hgd)|(refine jY ?_ ?_<;>intro _)|fail)
    rename_i b10
    refine cont_node [] [(10,[10],[0,1,2,3,4,5,6,7,8,9,12,13])] rfl (by decide +kernel) ?_
    intro x hx
    simp only[List.mem_cons,List.not_mem_nil,or_false]at hx
    subst hx
    ·dsimp only[List.length_cons,List.length_nil]
     repeat'(first|(refine gY ?_;intros)|(refine hY ?_ ?_<;>intro hgd)|(refine jY ?_ ?_<;>intro _)|fail)
     rename_i b9
     refine cont_node [] [(12,[0,1,2,3,4,12],[5,6,7,8,9,13])] rfl (by decide +kernel) ?_
     intro x hx
     simp only[List.mem_cons,List.not_mem_nil,or_false]at hx
     subst hx
     ·dsimp only[List.length_cons,List.length_nil]
      repeat'(first|(refine gY ?_;intros)|(refine hY ?_ ?_<;>intro hgd)|(refine jY ?_ ?_<;>intro _)|fail)
      refine cont_node [] [(13,[5,6,7,8,9,13],[])] rfl (by decide +kernel) ?_
      intro x hx
      simp only[List.mem_cons,List.not_mem_nil,or_false]at hx
      subst hx
      ·dsimp only[List.length_cons,List.length_nil]
       repeat'(first|(refine gY ?_;intros)|(refine hY ?_ ?_<;>intro hgd)|(refine jY ?_ ?_<;>intro _)|fail)
       refine cont_node0 (by decide +kernel) ?_
       repeat'(first|(refine gY ?_;intros)|(refine hY ?_ ?_<;>intro hgd)|(refine jY ?_ ?_<;>intro _)|fail)
       refine cont_map (L':=[pts b9 (.cells [.int .u64 (n:Int)].toArray 70),pts b10 (.cells [mv].toArray 71),pts b7 (.cells [ov].toArray 22),row 65 3 ov (K.outC.map prV),pts b1 (.cells [.pointer (some ⟨kb,0,none⟩)].toArray 28),pts kb (.cells [.pointer (some ⟨b,0,none⟩),.string nm,.int .u64 K.m.wal,mv,.int .u64 (n:Int),.pointer (some ⟨wb,0,none⟩),.pointer (some ⟨mb,0,none⟩),(.slice pr (rs.map krV).length cr),.int .i64 0].toArray 78),DS,row 70 1 mv (K.m.runs.map uV),row 83 1 (.slice pr (rs.map krV).length cr) (rs.map krV),walP wb b (fileK nm walK K.m.wal.toNat) K.w]++R) entD ?_
       exact cont_meet (b9,b10) ⟨⟨rfl,rfl,rfl,rfl,rfl,trivial⟩,rfl⟩
  rintro⟨b9,b10⟩ ρ L ⟨hk,rfl⟩
  dsimp only at hk ⊢
  refine cont_regs hk ?_
  clear hk
  refine cont_then ?_
  refine ok_seq ?_
  refine ok_meetK (γ:=Nat×V1s) (fun y ρ L=>Knows ρ [(1,.pointer (some ⟨b1,0,none⟩)),(7,.pointer (some ⟨b7,0,none⟩)),(8,.int .i64 0),(9,.pointer (some ⟨b9,0,none⟩)),(10,.pointer (some ⟨b10,0,none⟩)),(11,.pointer (some ⟨y.1,0,none⟩))]∧L=([pts y.1 (.cells [.int .u64 K.m.wal,y.2.1,.int .u64 (IntKind.u64.wrap (arith BinOp.add (n:Int) 1))].toArray 73),row 70 1 y.2.1 [[Value.int .u64 (n:Int)]],pts b9 (.cells [.int .u64 (n:Int)].toArray 70),pts b10 (.cells [mv].toArray 71),pts b7 (.cells [ov].toArray 22),row 65 3 ov (K.outC.map prV),pts b1 (.cells [.pointer (some ⟨kb,0,none⟩)].toArray 28),pts kb (.cells [.pointer (some ⟨b,0,none⟩),.string nm,.int .u64 K.m.wal,mv,.int .u64 (n:Int),.pointer (some ⟨wb,0,none⟩),.pointer (some ⟨mb,0,none⟩),(.slice pr (rs.map krV).length cr),.int .i64 0].toArray 78),DS,row 70 1 mv (K.m.runs.map uV),row 83 1 (.slice pr (rs.map krV).length cr) (rs.map krV),walP wb b (fileK nm walK K.m.wal.toNat) K.w]++R)) ?_ ?_
  ·refine ok_draw_node (cv:=[]) 3 [6,10,11] [pts b9 (.cells [.int .u64 (n:Int)].toArray 70),pts b1 (.cells [.pointer (some ⟨kb,0,none⟩)].toArray 28),pts kb (.cells [.pointer (some ⟨b,0,none⟩),.string nm,.int .u64 K.m.wal,mv,.int .u64 (n:Int),.pointer (some ⟨wb,0,none⟩),.pointer (some ⟨mb,0,none⟩),(.slice pr (rs.map krV).length cr),.int .i64 0].toArray 78)] (by kernel_rfl) rfl (by decide +kernel) (by decide +kernel) (by decide +kernel) (takePre takeD) _ rfl ?_
   refine cont_node [] [(6,[5,6],[0,1,2,3,4,7,8,9,10,11]),(10,[10],[0,1,2,3,4,5,6,7,8,9,11])] rfl (by decide +kernel) ?_
   intro x hx
   simp only[List.mem_cons,List.not_mem_nil,or_false]at hx
   rcases hx with rfl|rfl
   ·dsimp only[List.length_cons,List.length_nil]
    repeat'(first|(refine gY ?_;intros)|(refine hY ?_ ?_<;>intro hgd)|(refine jY ?_ ?_<;>intro _)|fail)
    rename_i v2 hv2
    refine cont_learn (rowShapeS (e:=70) (n:=1) (v:=v2) (xs:=[[Value.int .u64 (n:Int)]]) (by decide) takeD) ?_
    rintro⟨p2,c2,rfl,hc2,hs2⟩
    refine cont_node [] [(10,[10],[0,1,2,3,4,7,8,9,11])] rfl (by decide +kernel) ?_
    intro x hx
    simp only[List.mem_cons,List.not_mem_nil,or_false]at hx
    subst hx
    ·dsimp only[List.length_cons,List.length_nil]
     repeat'(first|(refine gY ?_;intros)|(refine hY ?_ ?_<;>intro hgd)|(refine jY ?_ ?_<;>intro _)|fail)
     rename_i b6
     refine cont_node [] [(11,[0,1,2,3,4,7,8,9,11],[])] rfl (by decide +kernel) ?_
     intro x hx
     simp only[List.mem_cons,List.not_mem_nil,or_false]at hx
     subst hx
     ·dsimp only[List.length_cons,List.length_nil]
      repeat'(first|(refine gY ?_;intros)|(refine hY ?_ ?_<;>intro hgd)|(refine jY ?_ ?_<;>intro _)|fail)
      refine cont_node0 (by decide +kernel) ?_
      repeat'(first|(refine gY ?_;intros)|(refine hY ?_ ?_<;>intro hgd)|(refine jY ?_ ?_<;>intro _)|fail)
      refine cont_map (L':=[pts b6 (.cells [.int .u64 K.m.wal,(.slice p2 [[Value.int .u64 (n:Int)]].length c2),.int .u64 (IntKind.u64.wrap (arith BinOp.add (n:Int) 1))].toArray 73),row 70 1 (.slice p2 [[Value.int .u64 (n:Int)]].length c2) [[Value.int .u64 (n:Int)]],pts b9 (.cells [.int .u64 (n:Int)].toArray 70),pts b10 (.cells [mv].toArray 71),pts b7 (.cells [ov].toArray 22),row 65 3 ov (K.outC.map prV),pts b1 (.cells [.pointer (some ⟨kb,0,none⟩)].toArray 28),pts kb (.cells [.pointer (some ⟨b,0,none⟩),.string nm,.int .u64 K.m.wal,mv,.int .u64 (n:Int),.pointer (some ⟨wb,0,none⟩),.pointer (some ⟨mb,0,none⟩),(.slice pr (rs.map krV).length cr),.int .i64 0].toArray 78),DS,row 70 1 mv (K.m.runs.map uV),row 83 1 (.slice pr (rs.map krV).length cr) (rs.map krV),walP wb b (fileK nm walK K.m.wal.toNat) K.w]++R) entD ?_
      exact cont_meet (b6,⟨_,hv2⟩) ⟨⟨rfl,rfl,rfl,rfl,rfl,rfl,trivial⟩,rfl⟩
   ·dsimp only[List.length_cons,List.length_nil]
    repeat'(first|(refine gY ?_;intros)|(refine hY ?_ ?_<;>intro hgd)|(refine jY ?_ ?_<;>intro _)|fail)
    rename_i b6
    refine cont_node [] [(6,[5,6],[0,1,2,3,4,7,8,9,11])] rfl (by decide +kernel) ?_
    intro x hx
    simp only[List.mem_cons,List.not_mem_nil,or_false]at hx
    subst hx
    ·dsimp only[List.length_cons,List.length_nil]
     repeat'(first|(refine gY ?_;intros)|(refine hY ?_ ?_<;>intro hgd)|(refine jY ?_ ?_<;>intro _)|fail)
     rename_i v2 hv2
     refine cont_learn (rowShapeS (e:=70) (n:=1) (v:=v2) (xs:=[[Value.int .u64 (n:Int)]]) (by decide) takeD) ?_
     rintro⟨p2,c2,rfl,hc2,hs2⟩
     refine cont_node [] [(11,[0,1,2,3,4,7,8,9,11],[])] rfl (by decide +kernel) ?_
     intro x hx
     simp only[List.mem_cons,List.not_mem_nil,or_false]at hx
     subst hx
     ·dsimp only[List.length_cons,List.length_nil]
      repeat'(first|(refine gY ?_;intros)|(refine hY ?_ ?_<;>intro hgd)|(refine jY ?_ ?_<;>intro _)|fail)
      refine cont_node0 (by decide +kernel) ?_
      repeat'(first|(refine gY ?_;intros)|(refine hY ?_ ?_<;>intro hgd)|(refine jY ?_ ?_<;>intro _)|fail)
      refine cont_map (L':=[pts b6 (.cells [.int .u64 K.m.wal,(.slice p2 [[Value.int .u64 (n:Int)]].length c2),.int .u64 (IntKind.u64.wrap (arith BinOp.add (n:Int) 1))].toArray 73),row 70 1 (.slice p2 [[Value.int .u64 (n:Int)]].length c2) [[Value.int .u64 (n:Int)]],pts b9 (.cells [.int .u64 (n:Int)].toArray 70),pts b10 (.cells [mv].toArray 71),pts b7 (.cells [ov].toArray 22),row 65 3 ov (K.outC.map prV),pts b1 (.cells [.pointer (some ⟨kb,0,none⟩)].toArray 28),pts kb (.cells [.pointer (some ⟨b,0,none⟩),.string nm,.int .u64 K.m.wal,mv,.int .u64 (n:Int),.pointer (some ⟨wb,0,none⟩),.pointer (some ⟨mb,0,none⟩),(.slice pr (rs.map krV).length cr),.int .i64 0].toArray 78),DS,row 70 1 mv (K.m.runs.map uV),row 83 1 (.slice pr (rs.map krV).length cr) (rs.map krV),walP wb b (fileK nm walK K.m.wal.toNat) K.w]++R) entD ?_
      exact cont_meet (b6,⟨_,hv2⟩) ⟨⟨rfl,rfl,rfl,rfl,rfl,rfl,trivial⟩,rfl⟩
  rintro⟨b6,⟨v6,hv6⟩⟩ ρ L ⟨hk,rfl⟩
  dsimp only at hk ⊢
  rw[w1]
  refine cont_regs hk ?_
  clear hk
  repeat'(first|(refine gY ?_;intros)|(refine hY ?_ ?_<;>intro hgd)|(refine jY ?_ ?_<;>intro _)|fail)
  rename_i v hv
  clear w1 hF hsrc hmg
  have hnx:K.nxC=⟨K.m.wal,[(n:Int)],(n:Int)+1⟩:=by unfold Kv.nxC;rw[hnn]
  have hnr:K.nxC.runs.map uV=[[Value.int .u64 (n:Int)]]:=by rw[hnx];rfl
  refine ops_learn (rowShapeS (e:=70) (n:=1) (v:=v6) (xs:=[[Value.int .u64 (n:Int)]]) (by decide) takeD) ?_
  rintro⟨p6,c6,rfl,hc6,hs6⟩
  have hcap:capOk (.slice p6 [[Value.int .u64 (n:Int)]].length c6):=⟨_,_,_,rfl,hc6⟩
  rw[← hnr]at hcap hv6 ⊢
  generalize hv6e:Value.slice p6 (K.nxC.runs.map uV).length c6=v6 at hcap hv6 ⊢
  generalize hrve:Value.slice pr (rs.map krV).length cr=rv at hrv ⊢
  have hmr2:∀ x∈K.m.runs,0≤x∧x<281474976710656:=hI.nk.r
  let g0:KG:=⟨K.m,⟨mv,hmv⟩,⟨.pointer (some ⟨wb,0,none⟩),hwp⟩,⟨rv,hrv⟩⟩
  let Z:List HProp:=[bxO b10 mv,row 70 1 mv (K.m.runs.map uV),row 83 1 rv (rs.map krV),runsX b nm rs,walP wb b (fileK nm walK K.m.wal.toNat) K.w,memX mb K.mem]
  let LF:Dk→List HProp:=fun d=>diskP b d::bxK b1 kb::bxN b9 n::bxL b7 ov::row 65 3 ov (K.outC.map prV)::bxM b6 K.nxC v6::row 70 1 v6 (K.nxC.runs.map uV)::Z
  have h1:VSpec Tryz.prog (Value.func (.func 65) #[] #[.pointer (some ⟨b1,0,none⟩),.pointer (some ⟨b9,0,none⟩),.pointer (some ⟨b7,0,none⟩)]) [] [stP kb b nm mb 0 (fP g0 (LF K.d))] Unit (fun _=>True) (fun _=>.int .i64 (K.c1 nm).2) (fun _=>[stP kb b nm mb 0 (fP g0 (LF (K.c1 nm).1))]):=by
   have:=compact1_spec kb b mb b1 b9 b7 nm 0 g0 K.d n ov K.outC (bxM b6 K.nxC v6::row 70 1 v6 (K.nxC.runs.map uV)::Z) hov hout (by omega) hn hI.ok (by have:=hI.lo;omega)
   unfold Kv.c1
   rw[hnn,Int.toNat_natCast]
   exact vspec_func (args:=[]) (cap:=[.pointer (some ⟨b1,0,none⟩),.pointer (some ⟨b9,0,none⟩),.pointer (some ⟨b7,0,none⟩)]) this
  have h2:VSpec Tryz.prog (Value.func (.func 66) #[] #[.pointer (some ⟨b1,0,none⟩),.pointer (some ⟨b6,0,none⟩)]) [] [stP kb b nm mb 0 (fP g0 (LF (K.c1 nm).1))] Unit (fun _=>True) (fun _=>.int .i64 (K.c2 nm).2) (fun _=>[stP kb b nm mb 0 (fP g0 (LF (K.c2 nm).1))]):=
   vspec_func (args:=[]) (cap:=[.pointer (some ⟨b1,0,none⟩),.pointer (some ⟨b6,0,none⟩)]) (compact2_spec kb b mb b1 b9 b7 b6 nm 0 g0 (K.c1 nm).1 n ov K.outC K.nxC v6 Z hcap hc hwf (by rw[hnx];simp) hn ho1.1 ho1.2)
  have h3:(K.c1 nm).2=0→(K.c2 nm).2=0→VSpec Tryz.prog (Value.func (.func 67) #[] #[.pointer (some ⟨b1,0,none⟩),.pointer (some ⟨b6,0,none⟩)]) [] [stP kb b nm mb 0 (fP g0 (LF (K.c2 nm).1))] Unit (fun _=>True) (fun _=>.int .i64 0)
    (fun _=>[stP kb b nm mb 0 (pkD (kvD b mb nm ⟨(K.c2 nm).1,K.nxC,K.w,K.mem,[((n:Int),K.outC)]⟩) (row 70 1 mv (K.m.runs.map uV)) (fun h=>SatL [bxK b1 kb,bxO b10 mv] h))]):=fun q1 q2=>
   vspec_func (args:=[]) (cap:=[.pointer (some ⟨b1,0,none⟩),.pointer (some ⟨b6,0,none⟩)]) (compact3_spec kb b mb wb b1 b9 b7 b6 b10 nm 0 K g0 rs (K.c2 nm).1 n ov K.outC K.nxC v6 hv6 rfl rfl (by rw[hnx]) (by omega) hn ho2.1 ho2.2 (hT q1 q2) hok (sorted_rise hso) (by rw[hnx]))
  refine opsL_mapL (L':=[DS,row 70 1 mv (K.m.runs.map uV),row 83 1 rv (rs.map krV),walP wb b (fileK nm walK K.m.wal.toNat) K.w,pts b9 (.cells [.int .u64 (n:Int)].toArray 70),pts b10 (.cells [mv].toArray 71),pts b7 (.cells [ov].toArray 22),row 65 3 ov (K.outC.map prV),pts b1 (.cells [.pointer (some ⟨kb,0,none⟩)].toArray 28),pts b6 (.cells [.int .u64 K.m.wal,v6,.int .u64 ((n:Int)+1)].toArray 73),row 70 1 v6 (K.nxC.runs.map uV),pts kb (.cells [.pointer (some ⟨b,0,none⟩),.string nm,.int .u64 K.m.wal,mv,.int .u64 (n:Int),.pointer (some ⟨wb,0,none⟩),.pointer (some ⟨mb,0,none⟩),rv,.int .i64 0].toArray 78),row 41 1 v ([(Value.func (.func 65) #[] #[.pointer (some ⟨b1,0,none⟩),.pointer (some ⟨b9,0,none⟩),.pointer (some ⟨b7,0,none⟩)]),(Value.func (.func 66) #[] #[.pointer (some ⟨b1,0,none⟩),.pointer (some ⟨b6,0,none⟩)]),(Value.func (.func 67) #[] #[.pointer (some ⟨b1,0,none⟩),.pointer (some ⟨b6,0,none⟩)])].map fun f=>[f])]++R) entD ?_
  refine opsL_mapL (fun _ s=>ds_out (by rw[hds];exact s)) ?_
  refine opsL_mapL (L':=(LF K.d++[kvP kb b nm g0.m g0.mv.1 g0.wp.1 mb g0.rv.1 0])++(row 41 1 v ([(Value.func (.func 65) #[] #[.pointer (some ⟨b1,0,none⟩),.pointer (some ⟨b9,0,none⟩),.pointer (some ⟨b7,0,none⟩)]),(Value.func (.func 66) #[] #[.pointer (some ⟨b1,0,none⟩),.pointer (some ⟨b6,0,none⟩)]),(Value.func (.func 67) #[] #[.pointer (some ⟨b1,0,none⟩),.pointer (some ⟨b6,0,none⟩)])].map fun f=>[f])::R)) (fun h s=>?_) ?_
  ·show SatL ([diskP b K.d,bxK b1 kb,bxN b9 n,bxL b7 ov,row 65 3 ov (K.outC.map prV),bxM b6 K.nxC v6,row 70 1 v6 (K.nxC.runs.map uV),bxO b10 mv,row 70 1 mv (K.m.runs.map uV),row 83 1 rv (rs.map krV),runsX b nm rs,walP wb b (fileK nm walK K.m.wal.toNat) K.w,memX mb K.mem,pts kb (.cells [.pointer (some ⟨b,0,none⟩),.string nm,.int .u64 K.m.wal,mv,.int .u64 K.m.next,.pointer (some ⟨wb,0,none⟩),.pointer (some ⟨mb,0,none⟩),rv,.int .i64 0].toArray 78),row 41 1 v _]++R) h
   rw[hnx]at s ⊢
   rw[hnn]
   have s':SatL ([runsX b nm rs,diskP b K.d,memX mb K.mem,row 70 1 mv (K.m.runs.map uV),row 83 1 rv (rs.map krV),walP wb b (fileK nm walK K.m.wal.toNat) K.w,pts b9 (.cells [.int .u64 (n:Int)].toArray 70),pts b10 (.cells [mv].toArray 71),pts b7 (.cells [ov].toArray 22),row 65 3 ov (K.outC.map prV),pts b1 (.cells [.pointer (some ⟨kb,0,none⟩)].toArray 28),pts b6 (.cells [.int .u64 K.m.wal,v6,.int .u64 ((n:Int)+1)].toArray 73),row 70 1 v6 (List.map uV [(n:Int)]),pts kb (.cells [.pointer (some ⟨b,0,none⟩),.string nm,.int .u64 K.m.wal,mv,.int .u64 (n:Int),.pointer (some ⟨wb,0,none⟩),.pointer (some ⟨mb,0,none⟩),rv,.int .i64 0].toArray 78),row 41 1 v ([(Value.func (.func 65) #[] #[.pointer (some ⟨b1,0,none⟩),.pointer (some ⟨b9,0,none⟩),.pointer (some ⟨b7,0,none⟩)]),(Value.func (.func 66) #[] #[.pointer (some ⟨b1,0,none⟩),.pointer (some ⟨b6,0,none⟩)]),(Value.func (.func 67) #[] #[.pointer (some ⟨b1,0,none⟩),.pointer (some ⟨b6,0,none⟩)])].map fun f=>[f])]++R) h:=s
   exact(entD) _ s'
  refine opsL_mapL (fun h s=>fP_in (g0:=g0) (Lp:=LF K.d) (by rw[List.append_assoc]at s;exact s)) ?_
  have hback:∀ (d:Dk) (ft:Int) (L:List HProp) (h:Frag),SatL (stP kb b nm mb ft (fP g0 (LF d))::L) h→SatL (stP kb b nm mb ft (kvD b mb nm {K with d:=d})::L) h:=fun d ft L h s=>by
   have s1:=fP_open s
   have s2:SatL ([diskP b d,bxK b1 kb,bxN b9 n,bxL b7 ov,row 65 3 ov (K.outC.map prV),bxM b6 K.nxC v6,row 70 1 v6 (K.nxC.runs.map uV),bxO b10 mv,row 70 1 mv (K.m.runs.map uV),row 83 1 rv (rs.map krV),runsX b nm rs,walP wb b (fileK nm walK K.m.wal.toNat) K.w,memX mb K.mem,kvP kb b nm g0.m g0.mv.1 g0.wp.1 mb g0.rv.1 ft]++L) h:=s1
   refine kv_back (wb:=wb) (rs:=rs) (g0:=g0) (K:={K with d:=d}) rfl rfl g3 ?_
   exact(entD) _ s2
  clear_value LF
  by_cases e1:(K.c1 nm).2=0
  ·by_cases e2:(K.c2 nm).2=0
   ·rw[e1]at h1
    rw[e2]at h2
    have hfl:K.cmp nm=(⟨(K.c4 nm).1,K.nxC,K.w,K.mem,[(K.m.next,K.outC)]⟩,(K.c4 nm).2):=by unfold Kv.cmp;rw[if_neg (fun h=>h e1),if_neg (fun h=>h e2)]
    rw[hfl]
    have hSt:=steps_spec kb b nm mb 0 v _ [(Value.func (.func 65) #[] #[.pointer (some ⟨b1,0,none⟩),.pointer (some ⟨b9,0,none⟩),.pointer (some ⟨b7,0,none⟩)]),(Value.func (.func 66) #[] #[.pointer (some ⟨b1,0,none⟩),.pointer (some ⟨b6,0,none⟩)]),(Value.func (.func 67) #[] #[.pointer (some ⟨b1,0,none⟩),.pointer (some ⟨b6,0,none⟩)])] _ _ 0 (Vw.row (e:=41)) (by show 3≤1000;decide) (.ok h1 (.ok h2 (.ok (h3 e1 e2) (.nil _))))
    rw[show ftK 0 0=0 from rfl]at hSt
    repeat'(first|(refine gY ?_;intros)|(refine hY ?_ ?_<;>intro hgd)|(refine jY ?_ ?_<;>intro _)|fail)
    refine cl_Y (hSt) ?_
    intro _ _
    refine opsL_mapL (fun h s=>st_unpack (A:=row 70 1 mv (K.m.runs.map uV)) (B:=fun h=>SatL [bxK b1 kb,bxO b10 mv] h) (D:=kvD b mb nm ⟨(K.c2 nm).1,K.nxC,K.w,K.mem,[((n:Int),K.outC)]⟩) s) ?_
    have hR:=fun g Z=>compact4_spec kb b mb b1 b10 nm 0 g (K.c2 nm).1 mv K.m.runs Z hmv hmr2 (by omega) hn ho2.1 ho2.2
    have hF4:K.c4 nm=dropL nm K.m.runs (K.c2 nm).1:=rfl
    rw[← hF4]at hR
    clear h1 h2 h3 hSt hfl hF4 hback hT hc hwf
    generalize K.c4 nm=r4 at hR ⊢
    generalize (K.c2 nm).1=d2 at hR ⊢
    generalize K.nxC=nx at*
    refine ops_ex (M:=stM kb b nm mb 0 (kvD b mb nm ⟨d2,nx,K.w,K.mem,[((n:Int),K.outC)]⟩)) Sel.here ?_
    rintro⟨m2,⟨mv2,hmv2⟩,⟨wp2,hwp2⟩,⟨rv2,hrv2⟩⟩
    refine ops_ex (M:=kvM b mb nm ⟨d2,nx,K.w,K.mem,[((n:Int),K.outC)]⟩ ⟨m2,⟨mv2,hmv2⟩,⟨wp2,hwp2⟩,⟨rv2,hrv2⟩⟩) Sel.here ?_
    rintro⟨wb2,rs2,k1,k2,k3⟩
    dsimp only at k1 k2 k3
    subst k1 k2
    refine opsL_mapL (L':=[(fun h=>SatL [bxK b1 kb,bxO b10 mv] h),row 70 1 mv2 (m2.runs.map uV),row 83 1 rv2 (rs2.map krV),runsX b nm rs2,walP wb2 b (fileK nm walK m2.wal.toNat) K.w,diskP b d2,memX mb K.mem,kvP kb b nm m2 mv2 (.pointer (some ⟨wb2,0,none⟩)) mb rv2 0,row 70 1 mv (K.m.runs.map uV)]++R) (fun h s=>?_) ?_
    ·have s':SatL ([row 70 1 mv2 (m2.runs.map uV),row 83 1 rv2 (rs2.map krV),runsX b nm rs2,walP wb2 b (fileK nm walK m2.wal.toNat) K.w,diskP b d2,memX mb K.mem,kvP kb b nm m2 mv2 (.pointer (some ⟨wb2,0,none⟩)) mb rv2 0,row 70 1 mv (K.m.runs.map uV),(fun h=>SatL [bxK b1 kb,bxO b10 mv] h),row 41 1 v ([(Value.func (.func 65) #[] #[.pointer (some ⟨b1,0,none⟩),.pointer (some ⟨b9,0,none⟩),.pointer (some ⟨b7,0,none⟩)]),(Value.func (.func 66) #[] #[.pointer (some ⟨b1,0,none⟩),.pointer (some ⟨b6,0,none⟩)]),(Value.func (.func 67) #[] #[.pointer (some ⟨b1,0,none⟩),.pointer (some ⟨b6,0,none⟩)])].map fun f=>[f])]++R) h:=s
     exact(entD) _ s'
    refine opsL_mapL (fun h s=>SatL.flat (M:=[bxK b1 kb,bxO b10 mv]) s) ?_
    unfold bxK bxO kvP kvC
    dsimp only[List.append,List.cons_append,List.nil_append]
    repeat'(first|(refine gY ?_;intros)|(refine hY ?_ ?_<;>intro hgd)|(refine jY ?_ ?_<;>intro _)|fail)
    rename_i v3 hv3
    rw[hnn]
    let g2:KG:=⟨m2,⟨mv2,hmv2⟩,⟨.pointer (some ⟨wb2,0,none⟩),hwp2⟩,⟨rv2,hrv2⟩⟩
    let Z2:List HProp:=[row 70 1 mv2 (m2.runs.map uV),row 83 1 rv2 (rs2.map krV),runsX b nm rs2,walP wb2 b (fileK nm walK m2.wal.toNat) K.w,memX mb K.mem]
    have hv1:VSpec Tryz.prog (Value.func (.func 68) #[] #[.pointer (some ⟨b1,0,none⟩),.pointer (some ⟨b10,0,none⟩)]) [] [stP kb b nm mb 0 (fP g2 (diskP b d2::bxK b1 kb::bxO b10 mv::row 70 1 mv (K.m.runs.map uV)::Z2))] Unit (fun _=>True) (fun _=>.int .i64 r4.2) (fun _=>[stP kb b nm mb 0 (fP g2 (diskP b r4.1::bxK b1 kb::bxO b10 mv::row 70 1 mv (K.m.runs.map uV)::Z2))]):=vspec_func (args:=[]) (cap:=[.pointer (some ⟨b1,0,none⟩),.pointer (some ⟨b10,0,none⟩)]) (hR g2 Z2)
    refine opsL_mapL (L':=(diskP b d2::bxK b1 kb::bxO b10 mv::row 70 1 mv (K.m.runs.map uV)::Z2++[kvP kb b nm g2.m g2.mv.1 g2.wp.1 mb g2.rv.1 0])++(row 41 1 v3 ([(Value.func (.func 68) #[] #[.pointer (some ⟨b1,0,none⟩),.pointer (some ⟨b10,0,none⟩)])].map fun f=>[f])::R)) (fun h s=>?_) ?_
    ·show SatL ([diskP b d2,bxK b1 kb,bxO b10 mv,row 70 1 mv (K.m.runs.map uV),row 70 1 mv2 (m2.runs.map uV),row 83 1 rv2 (rs2.map krV),runsX b nm rs2,walP wb2 b (fileK nm walK m2.wal.toNat) K.w,memX mb K.mem,pts kb (.cells [.pointer (some ⟨b,0,none⟩),.string nm,.int .u64 m2.wal,mv2,.int .u64 m2.next,.pointer (some ⟨wb2,0,none⟩),.pointer (some ⟨mb,0,none⟩),rv2,.int .i64 0].toArray 78),row 41 1 v3 _]++R) h
     exact(entD) _ s
    refine opsL_mapL (fun h s=>fP_in (g0:=g2) (Lp:=diskP b d2::bxK b1 kb::bxO b10 mv::row 70 1 mv (K.m.runs.map uV)::Z2) (by rw[List.append_assoc]at s;exact s)) ?_
    have hback2:∀ (ft:Int) (L:List HProp) (h:Frag),SatL (stP kb b nm mb ft (fP g2 (diskP b r4.1::bxK b1 kb::bxO b10 mv::row 70 1 mv (K.m.runs.map uV)::Z2))::L) h→SatL (stP kb b nm mb ft (kvD b mb nm ⟨r4.1,m2,K.w,K.mem,[((n:Int),K.outC)]⟩)::L) h:=fun ft L h s=>by
     have s1:=fP_open s
     have s2:SatL ([diskP b r4.1,bxK b1 kb,bxO b10 mv,row 70 1 mv (K.m.runs.map uV),row 70 1 mv2 (m2.runs.map uV),row 83 1 rv2 (rs2.map krV),runsX b nm rs2,walP wb2 b (fileK nm walK m2.wal.toNat) K.w,memX mb K.mem,kvP kb b nm g2.m g2.mv.1 g2.wp.1 mb g2.rv.1 ft]++L) h:=s1
     refine kv_back (wb:=wb2) (rs:=rs2) (g0:=g2) (K:=⟨r4.1,m2,K.w,K.mem,[((n:Int),K.outC)]⟩) rfl rfl k3 ?_
     exact(entD) _ s2
    clear_value g2 Z2
    by_cases e3:r4.2=0
    ·rw[e3]at hv1 ⊢
     rw[show ftK 0 0=0 from rfl]
     have hS2:=steps_spec kb b nm mb 0 v3 _ [(Value.func (.func 68) #[] #[.pointer (some ⟨b1,0,none⟩),.pointer (some ⟨b10,0,none⟩)])] _ _ 0 (Vw.row (e:=41)) (by show 1≤1000;decide) (.ok hv1 (.nil _))
     rw[show ftK 0 0=0 from rfl]at hS2
     repeat'(first|(refine gY ?_;intros)|(refine hY ?_ ?_<;>intro hgd)|(refine jY ?_ ?_<;>intro _)|fail)
     refine cl_Y (hS2) ?_
     intro _ _
     refine opsL_mapL (fun h s=>hback2 _ _ h s) ?_
     repeat'(first|(refine gY ?_;intros)|(refine hY ?_ ?_<;>intro hgd)|(refine jY ?_ ?_<;>intro _)|fail)
     (refine rt_Y (y:=()) (hrs:=Tryz.results17) (hv:=?_) (hφ:=?_))
     ·rfl
     ·trivial
    ·have hS2:=steps_spec kb b nm mb 0 v3 _ [(Value.func (.func 68) #[] #[.pointer (some ⟨b1,0,none⟩),.pointer (some ⟨b10,0,none⟩)])] _ _ _ (Vw.row (e:=41)) (by show 1≤1000;decide) (.bad hv1 e3)
     repeat'(first|(refine gY ?_;intros)|(refine hY ?_ ?_<;>intro hgd)|(refine jY ?_ ?_<;>intro _)|fail)
     refine cl_Y (hS2) ?_
     intro _ _
     refine opsL_mapL (fun h s=>hback2 _ _ h s) ?_
     repeat'(first|(refine gY ?_;intros)|(refine hY ?_ ?_<;>intro hgd)|(refine jY ?_ ?_<;>intro _)|fail)
     (refine rt_Y (y:=()) (hrs:=Tryz.results17) (hv:=?_) (hφ:=?_))
     ·rfl
     ·trivial
   ·rw[e1]at h1
    have hfl:K.cmp nm=({K with d:=(K.c2 nm).1},(K.c2 nm).2):=by unfold Kv.cmp;rw[if_neg (fun h=>h e1),if_pos e2]
    rw[hfl]
    have hSt:=steps_spec kb b nm mb 0 v _ [(Value.func (.func 65) #[] #[.pointer (some ⟨b1,0,none⟩),.pointer (some ⟨b9,0,none⟩),.pointer (some ⟨b7,0,none⟩)]),(Value.func (.func 66) #[] #[.pointer (some ⟨b1,0,none⟩),.pointer (some ⟨b6,0,none⟩)]),(Value.func (.func 67) #[] #[.pointer (some ⟨b1,0,none⟩),.pointer (some ⟨b6,0,none⟩)])] _ _ _ (Vw.row (e:=41)) (by show 3≤1000;decide) (.ok h1 (.bad h2 e2))
    have f2:(!decide ((K.c2 nm).2=0))=true:=by simp[e2]
    repeat'(first|(refine gY ?_;intros)|(refine hY ?_ ?_<;>intro hgd)|(refine jY ?_ ?_<;>intro _)|fail)
    refine cl_Y (hSt) ?_
    intro _ _
    refine opsL_mapL (fun h s=>hback _ _ _ h s) ?_
    repeat'(first|(refine gY ?_;intros)|(refine hY ?_ ?_<;>intro hgd)|(refine jY ?_ ?_<;>intro _)|fail)
    (refine rt_Y (y:=()) (hrs:=Tryz.results17) (hv:=?_) (hφ:=?_))
    ·rfl
    ·trivial
  ·have hfl:K.cmp nm=({K with d:=(K.c1 nm).1},(K.c1 nm).2):=by unfold Kv.cmp;rw[if_pos e1]
   rw[hfl]
   have hSt:=steps_spec kb b nm mb 0 v _ [(Value.func (.func 65) #[] #[.pointer (some ⟨b1,0,none⟩),.pointer (some ⟨b9,0,none⟩),.pointer (some ⟨b7,0,none⟩)]),(Value.func (.func 66) #[] #[.pointer (some ⟨b1,0,none⟩),.pointer (some ⟨b6,0,none⟩)]),(Value.func (.func 67) #[] #[.pointer (some ⟨b1,0,none⟩),.pointer (some ⟨b6,0,none⟩)])] _ _ _ (Vw.row (e:=41)) (by show 3≤1000;decide) (.bad h1 e1)
   have f2:(!decide ((K.c1 nm).2=0))=true:=by simp[e1]
   repeat'(first|(refine gY ?_;intros)|(refine hY ?_ ?_<;>intro hgd)|(refine jY ?_ ?_<;>intro _)|fail)
   refine cl_Y (hSt) ?_
   intro _ _
   refine opsL_mapL (fun h s=>hback _ _ _ h s) ?_
   repeat'(first|(refine gY ?_;intros)|(refine hY ?_ ?_<;>intro hgd)|(refine jY ?_ ?_<;>intro _)|fail)
   (refine rt_Y (y:=()) (hrs:=Tryz.results17) (hv:=?_) (hφ:=?_))
   ·rfl
   ·trivial
end Go.Proofs.YtgbmjoenbocfcaaGreat
