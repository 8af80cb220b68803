/- Texts merged: EvE EvQ EvR. -/
import Derived.Test.YtmnafjonbeihiaaGreatDoorG13
import Derived.Test.YtmnafjonbeihiaaGreatDoorFwFv
set_option linter.unusedSimpArgs false
set_option linter.unusedVariables false
set_option maxRecDepth 100000
namespace Go.Pl
open Go Go.Fx
def putEB(tx total nth:Int)(c:Chg):BA:=
 (hasE c).foldl (fun s l=>s++putRB l) (numB (u64N tx) 8++numB (u64N total) 2++numB (u64N nth) 2++⟨#[b8 c.table,b8 c.kind]⟩)
theorem putRB_size{l:List Vl}(h:rowB l=true):(putRB l).size≤817:=by
 unfold rowB at h
 simp only[Bool.and_eq_true,decide_eq_true_eq,List.all_eq_true]at h
 have h1:=putLB_size h.2.2 (oneB l.length)
 rw[oneB_size]at h1
 unfold putRB
 omega
theorem foldR_size{ls:List (List Vl)}(h:∀ l∈ls,rowB l=true)(s:BA):(ls.foldl (fun s l=>s++putRB l) s).size≤s.size+817*ls.length:=by
 induction ls generalizing s with
 |nil=>simp
 |cons a l ih=>
  have h1:=ih (fun v hv=>h v (List.mem_cons_of_mem _ hv)) (s++putRB a)
  have h2:=putRB_size (h a (List.mem_cons_self ..))
  simp only[List.foldl_cons,List.length_cons]
  rw[ByteArray.size_append]at h1
  omega
end Go.Pl
namespace Go.Proofs.YtmnafjonbeihiaaGreatDoor
open Go Go.Fx Go.Proofs Go.Pl
theorem fits2{v:Nat}(h:v<65536):fitsB v 2 8=true:=by
 unfold fitsB
 rw[Bool.or_eq_true]
 refine .inr ?_
 rw[decide_eq_true_eq]
 show(v:Int).fdiv (2 ^ (min (2*8:Int).toNat IntKind.u64.bits))=0
 rw[show min (2*8:Int).toNat IntKind.u64.bits=16 from rfl,show(2:Int) ^ 16=65536 from rfl,Int.fdiv_eq_ediv_of_nonneg _ (by decide)]
 omega
theorem ePut64_spec(v:Int)(h0:0≤v)(h1:v≤18446744073709551615):FSpec Tryz.prog 152 [.int .u64 v,.int .i64 8] [] Unit (fun _=>True) (fun _=>.string (numB (u64N v) 8)) (fun _=>[]):=by
 have hp:=wput_spec (u64N v) 8 (u64N_lt v) (by omega) (by omega) (fits8 _)
 rw[u64N_eq,u64_eq h0 h1]at hp
 have hw:=u64_eq h0 h1
 refine spec_intro [] _ Tryz.func152 rfl Tryz.ntmps152 (by rfl) (fun w0 R=>?_)
 repeat'(first|(refine gY ?_;intros)|(refine hY ?_ ?_<;>intro hgd)|(refine jY ?_ ?_<;>intro _)|fail)
 refine cl_Y (hp) ?_
 intro _ _
 repeat'(first|(refine gY ?_;intros)|(refine hY ?_ ?_<;>intro hgd)|(refine jY ?_ ?_<;>intro _)|fail)
 (refine rt_Y (y:=()) (hrs:=Tryz.results152) (hv:=?_) (hφ:=?_))
 ·rfl
 ·trivial
theorem ePutI_spec(v:Int)(h0:0≤v)(h1:v<65536):FSpec Tryz.prog 153 [.int .i64 v,.int .i64 2] [] Unit (fun _=>True) (fun _=>.string (numB (u64N v) 2)) (fun _=>[]):=by
 have hw:=u64_eq h0 (by omega)
 have hp:=wput_spec (u64N v) 2 (u64N_lt v) (by omega) (by omega) (fits2 (by have:=u64N_eq v;omega))
 rw[u64N_eq,hw]at hp
 refine spec_intro [] _ Tryz.func153 rfl Tryz.ntmps153 (by rfl) (fun w0 R=>?_)
 repeat'(first|(refine gY ?_;intros)|(refine hY ?_ ?_<;>intro hgd)|(refine jY ?_ ?_<;>intro _)|fail)
 refine cl_Y (hp) ?_
 intro _ _
 repeat'(first|(refine gY ?_;intros)|(refine hY ?_ ?_<;>intro hgd)|(refine jY ?_ ?_<;>intro _)|fail)
 (refine rt_Y (y:=()) (hrs:=Tryz.results153) (hv:=?_) (hφ:=?_))
 ·rfl
 ·trivial
theorem mayE_all{total nth:Int}{c:Chg}(h:mayE total nth c=true):1≤c.kind∧c.kind≤4∧0≤c.table∧c.table<12∧0≤total∧total<200∧0≤nth∧nth≤total∧(∀ l∈hasE c,rowB l=true):=by
 unfold mayE at h
 simp only[Bool.and_eq_true,Bool.not_eq_true',Bool.or_eq_false_iff,decide_eq_false_iff_not,List.all_eq_true]at h
 obtain⟨⟨h1,h2,h3,h4,h5,h6,h7,h8⟩,h9,_⟩:=h
 exact⟨by omega,by omega,by omega,by omega,by omega,by omega,by omega,by omega,h9⟩
section
variable{X:Cx}{ops:Array Oper}{nb:NB}{N:Act→World→Prop}{i:Nat}{os:List Oper}{Ls:List HProp}{ds:List Deferred}{ρ:Regs}{L:List HProp}{ty:TypeId}{d:Nat}
theorem s_byte2 [NoT nb]{s t e:TypeId}[I:Ty X.P s (.slice e)][J:Ty X.P t .string][K:Ty X.P e (.int .u8)]{x:Operand}{v:Value}{c c2:Int}(hx:ev ρ x=v)(hc:(X.cv.contains s||X.cv.contains t)=true)
  (hr:VwIn L 1 v [[.int .u8 c],[.int .u8 c2]])(h0:0≤c)(h1:c≤255)(h2:0≤c2)(h3:c2≤255)(hd:Nat.blt d X.nt=true)(hk:∀ h,SatL L h→SatL Ls h)
  (h:OpsL X ops nb N (i+1) os Ls ds (upd ρ d (.string ⟨#[b8 c,b8 c2]⟩)) L):Op1 X ops nb N i (some d) (.convert s t x) ty os Ls ds ρ L:=
 s_bytes_string_nb (l:=[b8 c,b8 c2]) hx hc (by show VwIn L 1 v [[.int .u8 ((b8 c).toNat:Int)],[.int .u8 ((b8 c2).toNat:Int)]];rw[b8_nat h0 h1,b8_nat h2 h3];exact hr) hd hk h
end
theorem b8_wrap(n:Int):b8 (IntKind.u8.wrap n)=b8 n:=by
 unfold b8
 rw[u8_eq (u8_lo n).1 (u8_lo n).2]
theorem ok_meetE{X:Cx}{ds:List Deferred}{ρ:Regs}{L:List HProp}{Q:Exit→Act→World→Prop}{c:Code}{γ:Type}(I:γ→Regs→List HProp→Prop)(h1:Ok X c ds ρ L (Meet X I ds Q))(h2:∀ g ρ L,I g ρ L→Cont X Q .normal ds ρ L):Ok X c ds ρ L Q:=by
 refine foldOk fun a w ha hs=>?_
 refine wpIn_mono (unfoldOk h1 a w ha hs) fun e a' w' he=>?_
 unfold Meet at he
 cases e with
 |normal=>
  obtain⟨g,ρ',L',hI,ha',hs'⟩:=he
  exact unfoldCont (h2 g ρ' L' hI) a' w' ha' hs'
 |_=>exact he
theorem evPut_spec(e:Em)(A:HProp)(hA:UT A)(h:CmR A e.c)(hb:∀ v∈e.c.bef,v.wf)(ha:∀ v∈e.c.aft,v.wf)(lb:e.c.bef.length≤1000000)(la:e.c.aft.length≤1000000)(hm:mayE e.total e.nth e.c.c=true)(t0:0≤e.tx)(t1:e.tx≤18446744073709551615):
  FSpec Tryz.prog 101 [.agg (emV e).toArray] [A] Unit (fun _=>True) (fun _=>.tuple #[.string (putEB e.tx e.total e.nth e.c.c),.int .i64 0]) (fun _=>[A]):=by
 have hc:=evCheck_spec e A hA h hb ha lb la
 rw[hm,cond_true]at hc
 have e0:(!decide ((0:Int)=(0:Int)))=false:=by decide
 have hr:=evRows_spec e A h
 have hvw:=hasM_vw h
 have hmc:=hasM_c e.c
 have hlen:=hasM_len e.c
 have hin:=fun x=>@hasM_in e.c x
 obtain⟨k0,k1,b0,b1,tt0,tt1,n0,n1,hrow⟩:=mayE_all hm
 clear hm
 unfold putEB
 rw[← hmc]at hrow ⊢
 obtain⟨tx,total,nth,⟨k,t,⟨bv,hbv⟩,bef,⟨av,hav⟩,aft⟩⟩:=e
 dsimp only[Cm.c]at hb ha lb la hin k0 k1 b0 b1 tt0 tt1 n0 n1 t0 t1 hmc hrow ⊢
 generalize hasM ⟨k,t,⟨bv,hbv⟩,bef,⟨av,hav⟩,aft⟩=hs at hr hlen hvw hin hmc hrow
 dsimp only[emV]at hc hr ⊢
 have k0':0≤k:=by omega
 have k1':k≤255:=by omega
 have hp1:=ePut64_spec tx t0 t1
 have hp2:=ePutI_spec total tt0 (by omega)
 have hp3:=ePutI_spec nth n0 (by omega)
 have z1:=numB_size (u64N tx) 8
 have z2:=numB_size (u64N total) 2
 have z3:=numB_size (u64N nth) 2
 have z4:(numB (u64N tx) 8++numB (u64N total) 2).size=10:=by rw[ByteArray.size_append,z1,z2]
 have z5:(numB (u64N tx) 8++numB (u64N total) 2++numB (u64N nth) 2).size=12:=by rw[ByteArray.size_append,z4,z3]
 have z6:(⟨#[b8 t,b8 k]⟩:BA).size=2:=rfl
 have z7:(⟨#[b8 (IntKind.u8.wrap t),b8 k]⟩:BA).size=2:=rfl
 refine spec_intro [183] _ Tryz.func101 rfl Tryz.ntmps101 (by rfl) (fun w0 R=>?_)
 repeat'(first|(refine gY ?_;intros)|(refine hY ?_ ?_<;>intro hgd)|(refine jY ?_ ?_<;>intro _)|fail)
 rename_i b1
 refine cl_Y (hc) ?_
 intro _ _
 repeat'(first|(refine gY ?_;intros)|(refine hY ?_ ?_<;>intro hgd)|(refine jY ?_ ?_<;>intro _)|fail)
 refine ok_meetE (γ:=Unit) (fun _ ρ L=>Knows ρ [(1,.pointer (some ⟨b1,0,none⟩)),(5,.string (numB (u64N tx) 8++numB (u64N total) 2++numB (u64N nth) 2++⟨#[b8 t,b8 k]⟩))]∧
   L=[pts b1 (.cells [.int .u64 tx,.int .i64 total,.int .i64 nth,.int .u8 k,.int .i64 t,bv,av].toArray 177),A]++R) ?_ ?_
 ·refine ok_draw_node (cv:=[183]) 5 [2,5,9,18,19] [pts b1 (.cells [.int .u64 tx,.int .i64 total,.int .i64 nth,.int .u8 k,.int .i64 t,bv,av].toArray 177)] (by kernel_rfl) rfl (by decide +kernel) (by decide +kernel) (by decide +kernel) (takePre takeD) _ rfl ?_
  have d0:V1s:=⟨.slice none 0 0,rfl⟩
  refine node_have 0 [6,10,20,21] (γ:=V1s) (fun⟨va,hva⟩ ρ L=>Knows ρ [(1,.pointer (some ⟨b1,0,none⟩)),(19,.string (numB (u64N tx) 8)),(22,.string (numB (u64N total) 2)),(26,.string (numB (u64N nth) 2)),(36,.string ⟨#[b8 (IntKind.u8.wrap t),b8 k]⟩)]∧L=[pts b1 (.cells [.int .u64 tx,.int .i64 total,.int .i64 nth,.int .u8 k,.int .i64 t,bv,av].toArray 177),A]++R) ?_ ?_
  ·rintro⟨va,hva⟩ ρ L ⟨hk,rfl⟩
   refine cont_regs hk ?_
   refine cont_node0 (by decide +kernel) ?_
   repeat'(first|(refine gY ?_;intros)|fail)
   refine cont_map (L':=[pts b1 (.cells [.int .u64 tx,.int .i64 total,.int .i64 nth,.int .u8 k,.int .i64 t,bv,av].toArray 177),A]++R) entD ?_
   exact cont_meet () ⟨⟨rfl,by rw[← b8_wrap t];rfl,trivial⟩,rfl⟩
  intro n2_5_9_18_19
  refine node_have 1 [6,10,19,20,21] (γ:=V1s) (fun⟨va,hva⟩ ρ L=>Knows ρ [(1,.pointer (some ⟨b1,0,none⟩)),(19,.string (numB (u64N tx) 8)),(22,.string (numB (u64N total) 2)),(26,.string (numB (u64N nth) 2)),(35,va)]∧L=[pts b1 (.cells [.int .u64 tx,.int .i64 total,.int .i64 nth,.int .u8 k,.int .i64 t,bv,av].toArray 177),A,row 5 1 va [[.int .u8 (IntKind.u8.wrap t)],[.int .u8 k]]]++R) ?_ ?_
  ·rintro⟨va,hva⟩ ρ L ⟨hk,rfl⟩
   refine cont_regs hk ?_
   refine cont_node [183] [(19,[19],[6,10,20,21])] rfl (by decide +kernel) ?_
   refine nodeE1 ?_
   ·dsimp only[List.length_cons,List.length_nil]
    repeat'(first|(refine gY ?_;intros)|fail)
    refine ops_run (s_byte2 rfl rfl (by repeat(first|exact VwIn.here Vw.row|refine VwIn.there ?_)) (u8_lo _).1 (u8_lo _).2 k0' k1' rfl (takePre takeD) ?_)
    repeat'(first|(refine gY ?_;intros)|fail)
    refine cont_map (L':=[pts b1 (.cells [.int .u64 tx,.int .i64 total,.int .i64 nth,.int .u8 k,.int .i64 t,bv,av].toArray 177),A]++R) entD ?_
    exact n2_5_9_18_19 ⟨va,hva⟩ _ _ ⟨⟨rfl,rfl,rfl,rfl,rfl,trivial⟩,rfl⟩
  intro n2_5_9_18
  refine node_have 1 [6,7,8,9,10,20,21] (γ:=V1s) (fun⟨va,hva⟩ ρ L=>Knows ρ [(1,.pointer (some ⟨b1,0,none⟩)),(19,.string (numB (u64N tx) 8)),(22,.string (numB (u64N total) 2)),(36,.string ⟨#[b8 (IntKind.u8.wrap t),b8 k]⟩)]∧L=[pts b1 (.cells [.int .u64 tx,.int .i64 total,.int .i64 nth,.int .u8 k,.int .i64 t,bv,av].toArray 177),A]++R) ?_ ?_
  ·rintro⟨va,hva⟩ ρ L ⟨hk,rfl⟩
   refine cont_regs hk ?_
   refine cont_node [183] [(9,[7,8,9],[6,10,20,21])] rfl (by decide +kernel) ?_
   refine nodeE1 ?_
   ·dsimp only[List.length_cons,List.length_nil]
    repeat'(first|(refine gY ?_;intros)|fail)
    refine clN_Y (hp3) ?_
    intro _ _
    repeat'(first|(refine gY ?_;intros)|fail)
    refine cont_map (L':=[pts b1 (.cells [.int .u64 tx,.int .i64 total,.int .i64 nth,.int .u8 k,.int .i64 t,bv,av].toArray 177),A]++R) entD ?_
    exact n2_5_9_18_19 ⟨va,hva⟩ _ _ ⟨⟨rfl,rfl,rfl,rfl,rfl,trivial⟩,rfl⟩
  intro n2_5_18_19
  refine node_have 2 [6,10,11,12,13,14,15,16,17,18,19,20,21] (γ:=V1s) (fun⟨va,hva⟩ ρ L=>Knows ρ [(1,.pointer (some ⟨b1,0,none⟩)),(19,.string (numB (u64N tx) 8)),(22,.string (numB (u64N total) 2)),(26,.string (numB (u64N nth) 2))]∧L=[pts b1 (.cells [.int .u64 tx,.int .i64 total,.int .i64 nth,.int .u8 k,.int .i64 t,bv,av].toArray 177),A]++R) ?_ ?_
  ·rintro⟨va,hva⟩ ρ L ⟨hk,rfl⟩
   refine cont_regs hk ?_
   refine cont_node [183] [(18,[11,12,13,14,15,16,17,18],[6,10,19,20,21])] rfl (by decide +kernel) ?_
   refine nodeE1 ?_
   ·dsimp only[List.length_cons,List.length_nil]
    repeat'(first|(refine gY ?_;intros)|fail)
    rename_i w hw
    refine cont_map (L':=[pts b1 (.cells [.int .u64 tx,.int .i64 total,.int .i64 nth,.int .u8 k,.int .i64 t,bv,av].toArray 177),A,row 5 1 w [[.int .u8 (IntKind.u8.wrap t)],[.int .u8 k]]]++R) entD ?_
    exact n2_5_9_18 ⟨w,hw⟩ _ _ ⟨⟨rfl,rfl,rfl,rfl,rfl,trivial⟩,rfl⟩
  intro n2_5_9
  refine node_have 2 [6,7,8,9,10,19,20,21] (γ:=V1s) (fun⟨va,hva⟩ ρ L=>Knows ρ [(1,.pointer (some ⟨b1,0,none⟩)),(19,.string (numB (u64N tx) 8)),(22,.string (numB (u64N total) 2)),(35,va)]∧L=[pts b1 (.cells [.int .u64 tx,.int .i64 total,.int .i64 nth,.int .u8 k,.int .i64 t,bv,av].toArray 177),A,row 5 1 va [[.int .u8 (IntKind.u8.wrap t)],[.int .u8 k]]]++R) ?_ ?_
  ·rintro⟨va,hva⟩ ρ L ⟨hk,rfl⟩
   refine cont_regs hk ?_
   refine cont_node [183] [(9,[7,8,9],[6,10,19,20,21]),(19,[19],[6,7,8,9,10,20,21])] rfl (by decide +kernel) ?_
   refine nodeE2 ?_ ?_
   ·dsimp only[List.length_cons,List.length_nil]
    repeat'(first|(refine gY ?_;intros)|fail)
    refine clN_Y (hp3) ?_
    intro _ _
    repeat'(first|(refine gY ?_;intros)|fail)
    refine cont_map (L':=[pts b1 (.cells [.int .u64 tx,.int .i64 total,.int .i64 nth,.int .u8 k,.int .i64 t,bv,av].toArray 177),A,row 5 1 va [[.int .u8 (IntKind.u8.wrap t)],[.int .u8 k]]]++R) entD ?_
    exact n2_5_9_18 ⟨va,hva⟩ _ _ ⟨⟨rfl,rfl,rfl,rfl,rfl,trivial⟩,rfl⟩
   ·dsimp only[List.length_cons,List.length_nil]
    repeat'(first|(refine gY ?_;intros)|fail)
    refine ops_run (s_byte2 rfl rfl (by repeat(first|exact VwIn.here Vw.row|refine VwIn.there ?_)) (u8_lo _).1 (u8_lo _).2 k0' k1' rfl (takePre takeD) ?_)
    repeat'(first|(refine gY ?_;intros)|fail)
    refine cont_map (L':=[pts b1 (.cells [.int .u64 tx,.int .i64 total,.int .i64 nth,.int .u8 k,.int .i64 t,bv,av].toArray 177),A]++R) entD ?_
    exact n2_5_18_19 ⟨va,hva⟩ _ _ ⟨⟨rfl,rfl,rfl,rfl,trivial⟩,rfl⟩
  intro n2_5_18
  refine node_have 2 [3,4,5,6,7,8,9,10,20,21] (γ:=V1s) (fun⟨va,hva⟩ ρ L=>Knows ρ [(1,.pointer (some ⟨b1,0,none⟩)),(19,.string (numB (u64N tx) 8)),(36,.string ⟨#[b8 (IntKind.u8.wrap t),b8 k]⟩)]∧L=[pts b1 (.cells [.int .u64 tx,.int .i64 total,.int .i64 nth,.int .u8 k,.int .i64 t,bv,av].toArray 177),A]++R) ?_ ?_
  ·rintro⟨va,hva⟩ ρ L ⟨hk,rfl⟩
   refine cont_regs hk ?_
   refine cont_node [183] [(5,[3,4,5],[6,7,8,9,10,20,21])] rfl (by decide +kernel) ?_
   refine nodeE1 ?_
   ·dsimp only[List.length_cons,List.length_nil]
    repeat'(first|(refine gY ?_;intros)|fail)
    refine clN_Y (hp2) ?_
    intro _ _
    repeat'(first|(refine gY ?_;intros)|fail)
    refine cont_map (L':=[pts b1 (.cells [.int .u64 tx,.int .i64 total,.int .i64 nth,.int .u8 k,.int .i64 t,bv,av].toArray 177),A]++R) entD ?_
    exact n2_5_18_19 ⟨va,hva⟩ _ _ ⟨⟨rfl,rfl,rfl,rfl,trivial⟩,rfl⟩
  intro n2_18_19
  refine node_have 3 [6,7,8,9,10,11,12,13,14,15,16,17,18,19,20,21] (γ:=V1s) (fun⟨va,hva⟩ ρ L=>Knows ρ [(1,.pointer (some ⟨b1,0,none⟩)),(19,.string (numB (u64N tx) 8)),(22,.string (numB (u64N total) 2))]∧L=[pts b1 (.cells [.int .u64 tx,.int .i64 total,.int .i64 nth,.int .u8 k,.int .i64 t,bv,av].toArray 177),A]++R) ?_ ?_
  ·rintro⟨va,hva⟩ ρ L ⟨hk,rfl⟩
   refine cont_regs hk ?_
   refine cont_node [183] [(9,[7,8,9],[6,10,11,12,13,14,15,16,17,18,19,20,21]),(18,[11,12,13,14,15,16,17,18],[6,7,8,9,10,19,20,21])] rfl (by decide +kernel) ?_
   refine nodeE2 ?_ ?_
   ·dsimp only[List.length_cons,List.length_nil]
    repeat'(first|(refine gY ?_;intros)|fail)
    refine clN_Y (hp3) ?_
    intro _ _
    repeat'(first|(refine gY ?_;intros)|fail)
    refine cont_map (L':=[pts b1 (.cells [.int .u64 tx,.int .i64 total,.int .i64 nth,.int .u8 k,.int .i64 t,bv,av].toArray 177),A]++R) entD ?_
    exact n2_5_9 ⟨va,hva⟩ _ _ ⟨⟨rfl,rfl,rfl,rfl,trivial⟩,rfl⟩
   ·dsimp only[List.length_cons,List.length_nil]
    repeat'(first|(refine gY ?_;intros)|fail)
    rename_i w hw
    refine cont_map (L':=[pts b1 (.cells [.int .u64 tx,.int .i64 total,.int .i64 nth,.int .u8 k,.int .i64 t,bv,av].toArray 177),A,row 5 1 w [[.int .u8 (IntKind.u8.wrap t)],[.int .u8 k]]]++R) entD ?_
    exact n2_5_18 ⟨w,hw⟩ _ _ ⟨⟨rfl,rfl,rfl,rfl,trivial⟩,rfl⟩
  intro n2_5
  refine node_have 3 [3,4,5,6,7,8,9,10,19,20,21] (γ:=V1s) (fun⟨va,hva⟩ ρ L=>Knows ρ [(1,.pointer (some ⟨b1,0,none⟩)),(19,.string (numB (u64N tx) 8)),(35,va)]∧L=[pts b1 (.cells [.int .u64 tx,.int .i64 total,.int .i64 nth,.int .u8 k,.int .i64 t,bv,av].toArray 177),A,row 5 1 va [[.int .u8 (IntKind.u8.wrap t)],[.int .u8 k]]]++R) ?_ ?_
  ·rintro⟨va,hva⟩ ρ L ⟨hk,rfl⟩
   refine cont_regs hk ?_
   refine cont_node [183] [(5,[3,4,5],[6,7,8,9,10,19,20,21]),(19,[19],[3,4,5,6,7,8,9,10,20,21])] rfl (by decide +kernel) ?_
   refine nodeE2 ?_ ?_
   ·dsimp only[List.length_cons,List.length_nil]
    repeat'(first|(refine gY ?_;intros)|fail)
    refine clN_Y (hp2) ?_
    intro _ _
    repeat'(first|(refine gY ?_;intros)|fail)
    refine cont_map (L':=[pts b1 (.cells [.int .u64 tx,.int .i64 total,.int .i64 nth,.int .u8 k,.int .i64 t,bv,av].toArray 177),A,row 5 1 va [[.int .u8 (IntKind.u8.wrap t)],[.int .u8 k]]]++R) entD ?_
    exact n2_5_18 ⟨va,hva⟩ _ _ ⟨⟨rfl,rfl,rfl,rfl,trivial⟩,rfl⟩
   ·dsimp only[List.length_cons,List.length_nil]
    repeat'(first|(refine gY ?_;intros)|fail)
    refine ops_run (s_byte2 rfl rfl (by repeat(first|exact VwIn.here Vw.row|refine VwIn.there ?_)) (u8_lo _).1 (u8_lo _).2 k0' k1' rfl (takePre takeD) ?_)
    repeat'(first|(refine gY ?_;intros)|fail)
    refine cont_map (L':=[pts b1 (.cells [.int .u64 tx,.int .i64 total,.int .i64 nth,.int .u8 k,.int .i64 t,bv,av].toArray 177),A]++R) entD ?_
    exact n2_18_19 ⟨va,hva⟩ _ _ ⟨⟨rfl,rfl,rfl,trivial⟩,rfl⟩
  intro n2_18
  refine node_have 3 [0,1,2,3,4,5,6,7,8,9,10,20,21] (γ:=V1s) (fun⟨va,hva⟩ ρ L=>Knows ρ [(1,.pointer (some ⟨b1,0,none⟩)),(36,.string ⟨#[b8 (IntKind.u8.wrap t),b8 k]⟩)]∧L=[pts b1 (.cells [.int .u64 tx,.int .i64 total,.int .i64 nth,.int .u8 k,.int .i64 t,bv,av].toArray 177),A]++R) ?_ ?_
  ·rintro⟨va,hva⟩ ρ L ⟨hk,rfl⟩
   refine cont_regs hk ?_
   refine cont_node [183] [(2,[0,1,2],[3,4,5,6,7,8,9,10,20,21])] rfl (by decide +kernel) ?_
   refine nodeE1 ?_
   ·dsimp only[List.length_cons,List.length_nil]
    repeat'(first|(refine gY ?_;intros)|fail)
    refine clN_Y (hp1) ?_
    intro _ _
    repeat'(first|(refine gY ?_;intros)|fail)
    refine cont_map (L':=[pts b1 (.cells [.int .u64 tx,.int .i64 total,.int .i64 nth,.int .u8 k,.int .i64 t,bv,av].toArray 177),A]++R) entD ?_
    exact n2_18_19 ⟨va,hva⟩ _ _ ⟨⟨rfl,rfl,rfl,trivial⟩,rfl⟩
  intro n18_19
  refine node_have 4 [3,4,5,6,7,8,9,10,11,12,13,14,15,16,17,18,19,20,21] (γ:=V1s) (fun⟨va,hva⟩ ρ L=>Knows ρ [(1,.pointer (some ⟨b1,0,none⟩)),(19,.string (numB (u64N tx) 8))]∧L=[pts b1 (.cells [.int .u64 tx,.int .i64 total,.int .i64 nth,.int .u8 k,.int .i64 t,bv,av].toArray 177),A]++R) ?_ ?_
  ·rintro⟨va,hva⟩ ρ L ⟨hk,rfl⟩
   refine cont_regs hk ?_
   refine cont_node [183] [(5,[3,4,5],[6,7,8,9,10,11,12,13,14,15,16,17,18,19,20,21]),(18,[11,12,13,14,15,16,17,18],[3,4,5,6,7,8,9,10,19,20,21])] rfl (by decide +kernel) ?_
   refine nodeE2 ?_ ?_
   ·dsimp only[List.length_cons,List.length_nil]
    repeat'(first|(refine gY ?_;intros)|fail)
    refine clN_Y (hp2) ?_
    intro _ _
    repeat'(first|(refine gY ?_;intros)|fail)
    refine cont_map (L':=[pts b1 (.cells [.int .u64 tx,.int .i64 total,.int .i64 nth,.int .u8 k,.int .i64 t,bv,av].toArray 177),A]++R) entD ?_
    exact n2_5 ⟨va,hva⟩ _ _ ⟨⟨rfl,rfl,rfl,trivial⟩,rfl⟩
   ·dsimp only[List.length_cons,List.length_nil]
    repeat'(first|(refine gY ?_;intros)|fail)
    rename_i w hw
    refine cont_map (L':=[pts b1 (.cells [.int .u64 tx,.int .i64 total,.int .i64 nth,.int .u8 k,.int .i64 t,bv,av].toArray 177),A,row 5 1 w [[.int .u8 (IntKind.u8.wrap t)],[.int .u8 k]]]++R) entD ?_
    exact n2_18 ⟨w,hw⟩ _ _ ⟨⟨rfl,rfl,rfl,trivial⟩,rfl⟩
  intro n2
  refine node_have 4 [0,1,2,3,4,5,6,7,8,9,10,19,20,21] (γ:=V1s) (fun⟨va,hva⟩ ρ L=>Knows ρ [(1,.pointer (some ⟨b1,0,none⟩)),(35,va)]∧L=[pts b1 (.cells [.int .u64 tx,.int .i64 total,.int .i64 nth,.int .u8 k,.int .i64 t,bv,av].toArray 177),A,row 5 1 va [[.int .u8 (IntKind.u8.wrap t)],[.int .u8 k]]]++R) ?_ ?_
  ·rintro⟨va,hva⟩ ρ L ⟨hk,rfl⟩
   refine cont_regs hk ?_
   refine cont_node [183] [(2,[0,1,2],[3,4,5,6,7,8,9,10,19,20,21]),(19,[19],[0,1,2,3,4,5,6,7,8,9,10,20,21])] rfl (by decide +kernel) ?_
   refine nodeE2 ?_ ?_
   ·dsimp only[List.length_cons,List.length_nil]
    repeat'(first|(refine gY ?_;intros)|fail)
    refine clN_Y (hp1) ?_
    intro _ _
    repeat'(first|(refine gY ?_;intros)|fail)
    refine cont_map (L':=[pts b1 (.cells [.int .u64 tx,.int .i64 total,.int .i64 nth,.int .u8 k,.int .i64 t,bv,av].toArray 177),A,row 5 1 va [[.int .u8 (IntKind.u8.wrap t)],[.int .u8 k]]]++R) entD ?_
    exact n2_18 ⟨va,hva⟩ _ _ ⟨⟨rfl,rfl,rfl,trivial⟩,rfl⟩
   ·dsimp only[List.length_cons,List.length_nil]
    repeat'(first|(refine gY ?_;intros)|fail)
    refine ops_run (s_byte2 rfl rfl (by repeat(first|exact VwIn.here Vw.row|refine VwIn.there ?_)) (u8_lo _).1 (u8_lo _).2 k0' k1' rfl (takePre takeD) ?_)
    repeat'(first|(refine gY ?_;intros)|fail)
    refine cont_map (L':=[pts b1 (.cells [.int .u64 tx,.int .i64 total,.int .i64 nth,.int .u8 k,.int .i64 t,bv,av].toArray 177),A]++R) entD ?_
    exact n18_19 ⟨va,hva⟩ _ _ ⟨⟨rfl,rfl,trivial⟩,rfl⟩
  intro n18
  refine cont_node [183] [(2,[0,1,2],[3,4,5,6,7,8,9,10,11,12,13,14,15,16,17,18,19,20,21]),(18,[11,12,13,14,15,16,17,18],[0,1,2,3,4,5,6,7,8,9,10,19,20,21])] rfl (by decide +kernel) ?_
  refine nodeE2 ?_ ?_
  ·dsimp only[List.length_cons,List.length_nil]
   repeat'(first|(refine gY ?_;intros)|fail)
   refine clN_Y (hp1) ?_
   intro _ _
   repeat'(first|(refine gY ?_;intros)|fail)
   refine cont_map (L':=[pts b1 (.cells [.int .u64 tx,.int .i64 total,.int .i64 nth,.int .u8 k,.int .i64 t,bv,av].toArray 177),A]++R) entD ?_
   exact n2 d0 _ _ ⟨⟨rfl,rfl,trivial⟩,rfl⟩
  ·dsimp only[List.length_cons,List.length_nil]
   repeat'(first|(refine gY ?_;intros)|fail)
   rename_i w hw
   refine cont_map (L':=[pts b1 (.cells [.int .u64 tx,.int .i64 total,.int .i64 nth,.int .u8 k,.int .i64 t,bv,av].toArray 177),A,row 5 1 w [[.int .u8 (IntKind.u8.wrap t)],[.int .u8 k]]]++R) entD ?_
   exact n18 ⟨w,hw⟩ _ _ ⟨⟨rfl,rfl,trivial⟩,rfl⟩
 rintro _ ρ L ⟨hk,rfl⟩
 refine cont_regs hk ?_
 repeat'(first|(refine gY ?_;intros)|(refine hY ?_ ?_<;>intro hgd)|(refine jY ?_ ?_<;>intro _)|fail)
 refine cl_Y (hr) ?_
 rintro⟨⟨v1,hv1⟩,⟨v2,hv2⟩⟩ _
 dsimp only
 refine ops_learn (rowShapeS (e:=22) (n:=1) (v:=v1) (xs:=hs.map rwV) (by decide) takeD) ?_
 rintro⟨p1,c1,rfl,hc1,hs1⟩
 repeat'(first|(refine gY ?_;intros)|(refine hY ?_ ?_<;>intro hgd)|(refine jY ?_ ?_<;>intro _)|fail)
 refine ok_map (L':=[row 22 1 (.slice p1 (hs.map rwV).length c1) (hs.map rwV),A]++R) entD ?_
 have l1:(hs.map rwV).length=hs.length:=by simp
 have hH:(numB (u64N tx) 8++numB (u64N total) 2++numB (u64N nth) 2++(⟨#[b8 t,b8 k]⟩:BA)).size=14:=by rw[ByteArray.size_append,z5,z6]
 generalize numB (u64N tx) 8++numB (u64N total) 2++numB (u64N nth) 2++(⟨#[b8 t,b8 k]⟩:BA)=H at hH
 clear z1 z2 z3 z4 z5 z6 z7 hp1 hp2 hp3 hmc
 refine ok_loop' (γ:=Nat) (fun j ρ L=>j≤hs.length∧Knows ρ [(5,.string (((hs.take j).map (·.2)).foldl (fun s l=>s++putRB l) H)),(43,.slice p1 (hs.map rwV).length c1),(44,.int .i64 ((hs.map rwV).length:Int)),(45,.int .i64 (j:Int))]∧L=[row 22 1 (.slice p1 (hs.map rwV).length c1) (hs.map rwV),A]++R) (fun j=>hs.length-j) 0 ⟨by omega,⟨rfl,rfl,rfl,rfl,trivial⟩,rfl⟩ ?_
 rintro j ρ L ⟨hj,hk,rfl⟩
 refine ok_regs hk ?_
 cases t1:decide ((j:Int)<((hs.map rwV).length:Int))with
 |false=>
  have hje:j=hs.length:=by rw[decide_eq_false_iff_not]at t1;omega
  subst hje
  rw[List.take_length]
  repeat'(first|(refine gY ?_;intros)|(refine hY ?_ ?_<;>intro hgd)|(refine jY ?_ ?_<;>intro _)|fail)
  (refine rt_Y (y:=()) (hrs:=Tryz.results101) (hv:=?_) (hφ:=?_))
  ·rfl
  ·trivial
 |true=>
  have hj0:j<hs.length:=by rw[decide_eq_true_eq]at t1;omega
  have hx:(hs.map rwV)[j]? =some (rwV hs[j]):=by rw[List.getElem?_map,List.getElem?_eq_getElem hj0];rfl
  have hjn:j<(hs.map rwV).length:=by omega
  have hv:=hvw _ (List.getElem_mem hj0)
  have hi:=hin _ (List.getElem_mem hj0)
  have hrj:rowB hs[j].2=true:=hrow _ (List.mem_map_of_mem (List.getElem_mem hj0))
  refine ok_learn (VwIn.base (n:=1) (p:=p1) (len:=(hs.map rwV).length) (cap:=c1) (xs:=hs.map rwV) (VwIn.here Vw.row) (by intro e;rw[e]at hjn;simp at hjn)) ?_
  rintro⟨bl,ol,rfl⟩
  have hwx:∀ v∈hs[j].2,v.wf:=by rcases hi with e|e<;>rw[e]<;>assumption
  have hp:=putRow_spec hs[j].1.1 A hs[j].2 hA hv hwx hrj
  have hstep:((hs.take (j+1)).map (·.2)).foldl (fun s l=>s++putRB l) H=((hs.take j).map (·.2)).foldl (fun s l=>s++putRB l) H++putRB hs[j].2:=by
   rw[List.take_succ_eq_append_getElem hj0,List.map_append,List.foldl_append];rfl
  have hz1:=foldR_size (ls:=(hs.take j).map (·.2)) (fun l hl=>hrow l (by
   obtain⟨x,hx,rfl⟩:=List.mem_map.1 hl
   exact List.mem_map_of_mem (List.mem_of_mem_take hx))) H
  have hz2:=putRB_size hrj
  have hz4:((hs.take j).map (·.2)).length≤2:=by rw[List.length_map,List.length_take];omega
  generalize hs[j]=x at hx hp hv hstep hz2
  obtain⟨⟨xv,hxv⟩,xl⟩:=x
  dsimp only[rwV]at hx hp hv hstep hz2
  have hsz:(((hs.take j).map (·.2)).foldl (fun s l=>s++putRB l) H).size+(putRB xl).size≤9000:=by omega
  generalize hG:((hs.take j).map (·.2)).foldl (fun s l=>s++putRB l) H=G at hstep hsz
  repeat'(first|(refine gY ?_;intros)|(refine hY ?_ ?_<;>intro hgd)|(refine jY ?_ ?_<;>intro _)|fail)
  refine cl_Y (hp) ?_
  intro _ _
  repeat'(first|(refine gY ?_;intros)|(refine hY ?_ ?_<;>intro hgd)|(refine jY ?_ ?_<;>intro _)|fail)
  rw[← hstep]
  refine cont_map (L':=[row 22 1 (.slice (some ⟨bl,ol,none⟩) (hs.map rwV).length c1) (hs.map rwV),A]++R) entD ?_
  refine cont_back (j+1) ⟨hj0,⟨rfl,rfl,rfl,rfl,trivial⟩,rfl⟩ (by omega)
end Go.Proofs.YtmnafjonbeihiaaGreatDoor
namespace Go.Pl
open Go Go.Fx
def sumOk:List Int→Int→Bool
 | [],_=>true
 |n::l,s=>(decide (0≤n)&&decide (n≤200-s))&&sumOk l (s+n)
def wantM(k:Int)(qs:List Int):Int:=if k=2 then(qs.length:Int)else 0
def mayMk(k:Int)(cs qs:List Int):Bool:=
 (decide (k=1)||decide (k=2))&&((decide (1≤qs.length)&&(decide (qs.length≤12)&&decide ((cs.length:Int)=wantM k qs)))&&sumOk cs 0)
def numsB(l:List Int)(n:Nat)(s:BA):BA:=l.foldl (fun s x=>s++numB (u64N x) n) s
def putMB(k tx:Int)(cs qs:List Int):BA:=numsB cs 2 (numsB qs 8 (oneB k++numB (u64N tx) 8++oneB qs.length))
def sumTo(l:List Int)(j:Nat):Int:=(l.take j).sum
structure Ot where
 outs:List (BA×Int×BA)
 seqs:List Int
 counts:List Int
def gI(l:List Int)(t:Nat):Int:=(l[t]?).getD 0
def gT(l:List BA)(t:Nat):BA:=(l[t]?).getD ⟨#[]⟩
def ofStep(tx:Int)(ts:List BA)(k:Nat)(c:Chg)(z:Ot):Ot:=
 ⟨z.outs++[(gT ts (c.table.toNat+1),gI z.seqs c.table.toNat+1,putEB tx k (gI z.counts c.table.toNat) c)],
  z.seqs.set c.table.toNat (gI z.seqs c.table.toNat+1),z.counts.set c.table.toNat (gI z.counts c.table.toNat+1)⟩
def ofGo(tx:Int)(ts:List BA):Nat→List Chg→Ot→Ot
 |_,[],z=>z
 |k,c::l,z=>ofGo tx ts (k+1) l (ofStep tx ts k c z)
def marksT:BA:=⟨#[109,97,114,107,115]⟩
def dashT:BA:=⟨#[116,45]⟩
def topicsS(s:Sc):List BA:=marksT::s.map fun t=>dashT++t.name
def fitsP(n:Nat)(m:Int)(qs:List Int):Bool:=decide (qs.length=n)&&(decide (m≤4611686018427387904)&& !qs.any fun x=>decide (4611686018427387904<x))
def mayOf(s:Sc)(m:Int)(qs:List Int)(l:List Chg):Bool:=
 checkS s&&(fitsP s.length m qs&&(decide (l.length≤200)&&l.all fun c=>decide (c.table<s.length)&&mayE 0 0 c))
def of0(tx m:Int)(qs:List Int):Ot:=⟨[(marksT,m+1,putMB 1 tx [] qs)],qs,List.replicate qs.length 0⟩
def ofOuts(s:Sc)(tx m:Int)(qs:List Int)(l:List Chg):List (BA×Int×BA):=
 (ofGo tx (topicsS s) 0 l (of0 tx m qs)).outs++[(marksT,m+2,putMB 2 tx (ofGo tx (topicsS s) 0 l (of0 tx m qs)).counts (ofGo tx (topicsS s) 0 l (of0 tx m qs)).seqs)]
def ofSeqs(s:Sc)(tx m:Int)(qs:List Int)(l:List Chg):List Int:=(ofGo tx (topicsS s) 0 l (of0 tx m qs)).seqs
structure OtOk(n k:Nat)(z:Ot):Prop where
 sl:z.seqs.length=n
 cl:z.counts.length=n
 sq:∀ x∈z.seqs,0≤x∧x≤4611686018427387904+k
 cs:∀ x∈z.counts,0≤x∧x≤k
 sum:z.counts.sum=k
 ol:z.outs.length=k+1
theorem gI_mem{l:List Int}{t:Nat}(h:t<l.length):gI l t∈l:=by
 unfold gI;rw[List.getElem?_eq_getElem h];exact List.getElem_mem h
theorem gI_get{l:List Int}{t:Nat}(h:t<l.length):gI l t=l[t]:=by
 unfold gI;rw[List.getElem?_eq_getElem h];rfl
theorem sum_set(l:List Int)(t:Nat)(x:Int)(h:t<l.length):(l.set t x).sum=l.sum-l[t]+x:=by
 induction l generalizing t with
 |nil=>simp at h
 |cons a l ih=>
  cases t with
  |zero=>simp;omega
  |succ t=>
   have:=ih t (by simpa using h)
   simp only[List.set_cons_succ,List.sum_cons,List.getElem_cons_succ,this]
   omega
theorem OtOk.step{n k:Nat}{z:Ot}{tx:Int}{ts:List BA}{c:Chg}(h:OtOk n k z)(h0:0≤c.table)(h1:c.table<n):OtOk n (k+1) (ofStep tx ts k c z):=by
 obtain⟨a1,a2,a3,a4,a5,a6⟩:=h
 have ht:c.table.toNat<n:=by omega
 have g1:=gI_mem (l:=z.seqs) (t:=c.table.toNat) (by omega)
 have g2:=gI_mem (l:=z.counts) (t:=c.table.toNat) (by omega)
 refine⟨by show(z.seqs.set _ _).length=n;rw[List.length_set];exact a1,by show(z.counts.set _ _).length=n;rw[List.length_set];exact a2,fun x hx=>?_,fun x hx=>?_,?_,by show(z.outs++_).length=_;rw[List.length_append,a6];rfl⟩
 ·rcases List.mem_or_eq_of_mem_set hx with hx|rfl
  ·have:=a3 x hx;omega
  ·have:=a3 _ g1;omega
 ·rcases List.mem_or_eq_of_mem_set hx with hx|rfl
  ·have:=a4 x hx;omega
  ·have:=a4 _ g2;omega
 ·show(z.counts.set _ _).sum=_
  rw[sum_set _ _ _ (by omega),gI_get (by omega:c.table.toNat<z.counts.length),a5]
  omega
end Go.Pl
namespace Go.Pl
open Go Go.Fx
theorem wrap64(v:Nat)(h:v<18446744073709551616):IntKind.u64.wrap (v:Int)=(v:Int):=by
 have e4:(2:Int) ^ IntKind.u64.bits=18446744073709551616:=rfl
 unfold IntKind.wrap
 simp only[e4]
 rw[if_neg (by simp[IntKind.signed])]
 omega
theorem or64(a b:Nat)(ha:a<18446744073709551616)(hb:b<18446744073709551616):bitsOf .or .u64 (a:Int) (b:Int)=((a|||b:Nat):Int):=by
 have h1:a|||b<2 ^ 64:=Nat.or_lt_two_pow (by simpa using ha) (by simpa using hb)
 have e:bitsOf .or .u64 (a:Int) (b:Int)=IntKind.u64.wrap (((BitVec.ofInt 64 (a:Int)|||BitVec.ofInt 64 (b:Int)).toNat:Nat):Int):=rfl
 have e2:(BitVec.ofInt 64 (a:Int)|||BitVec.ofInt 64 (b:Int)).toNat=a|||b:=by
  rw[BitVec.toNat_or,BitVec.ofInt_natCast,BitVec.ofInt_natCast,BitVec.toNat_ofNat,BitVec.toNat_ofNat,Nat.mod_eq_of_lt (by simpa using ha),Nat.mod_eq_of_lt (by simpa using hb)]
 rw[e,e2]
 exact wrap64 _ (by simpa using h1)
def valN:List UInt8→Nat
 | []=>0
 |c::l=>c.toNat+256*valN l
theorem valN_app(a b:List UInt8):valN (a++b)=valN a+256 ^ a.length*valN b:=by
 induction a with
 |nil=>simp[valN]
 |cons c a ih=>rw[List.cons_append,valN,ih,valN,List.length_cons,Nat.pow_succ,Nat.mul_add,Nat.mul_comm (256 ^ a.length) 256,Nat.mul_assoc];omega
theorem valN_lt(l:List UInt8):valN l<256 ^ l.length:=by
 induction l with
 |nil=>decide
 |cons c l ih=>
  have hc:c.toNat<256:=c.toNat_lt
  rw[valN,List.length_cons,Nat.pow_succ]
  omega
theorem getL_take(l:List UInt8):∀ k,k≤l.length→k≤8→getL l k=((valN (l.take k):Nat):Int)
 |0,_,_=>by simp[getL,valN]
 |k+1,h,h8=>by
  have ih:=getL_take l k (by omega) (by omega)
  have hg:l[k]? =some l[k]:=List.getElem?_eq_getElem (by omega)
  show(match l[k]? with|some c=>getStep (getL l k) c k|none=>getL l k)=_
  rw[hg,ih]
  dsimp only
  have hlen:(l.take k).length=k:=by rw[List.length_take];omega
  have ha:=valN_lt (l.take k)
  rw[hlen]at ha
  have hp:(256:Nat) ^ k=2 ^ (8*k):=by rw[show(256:Nat)=2 ^ 8 from rfl,← Nat.pow_mul]
  have hc:l[k].toNat<256:=l[k].toNat_lt
  rw[List.take_succ_eq_append_getElem (by omega),valN_app,hlen]
  have h1:valN [l[k]]=l[k].toNat:=by simp[valN]
  rw[h1,hp]
  rw[hp]at ha
  generalize hcv:l[k]=cc at hc
  have hle:2 ^ (8*(k+1))≤18446744073709551616:=by
   have:(2:Nat) ^ (8*(k+1))≤2 ^ 64:=Nat.pow_le_pow_right (by decide) (by omega)
   simpa using this
  have hp1:2 ^ (8*(k+1))=2 ^ (8*k)*256:=by rw[Nat.mul_add,Nat.pow_add]
  generalize valN (l.take k)=a at ha
  have hlt:2 ^ (8*k)*cc.toNat+a<2 ^ (8*(k+1)):=by
   rw[hp1]
   have:2 ^ (8*k)*cc.toNat≤2 ^ (8*k)*255:=Nat.mul_le_mul_left _ (by omega)
   omega
  unfold getStep
  have e1:IntKind.u64.wrap (cc.toNat:Int)=(cc.toNat:Int):=wrap64 _ (by omega)
  have e2:shiftOf .shl .u64 (cc.toNat:Int) (8*(k:Int))=((2 ^ (8*k)*cc.toNat:Nat):Int):=by
   have e3:min (8*(k:Int)).toNat IntKind.u64.bits=8*k:=by show min (8*(k:Int)).toNat 64=8*k;omega
   show IntKind.u64.wrap ((cc.toNat:Int)*2 ^ (min (8*(k:Int)).toNat IntKind.u64.bits))=_
   rw[e3]
   have e4:((cc.toNat:Int)*2 ^ (8*k))=((2 ^ (8*k)*cc.toNat:Nat):Int):=by rw[Int.mul_comm];simp
   rw[e4]
   exact wrap64 _ (by omega)
  rw[e1,e2,or64 _ _ (by omega) (by omega),Nat.or_comm,← Nat.two_pow_add_eq_or_of_lt ha,Nat.add_comm]
def valB(s:BA):Int:=((valN s.data.toList:Nat):Int)
theorem getL_valB(s:BA)(h:s.size≤8):getL s.data.toList s.size=valB s:=by
 have e:s.data.toList.length=s.size:=by rw[Array.length_toList];rfl
 rw[getL_take _ _ (by omega) h,← e,List.take_length];rfl
theorem valB_rng(s:BA)(n:Nat)(h:s.size=n):0≤valB s∧valB s<256 ^ n:=by
 have e:s.data.toList.length=n:=by rw[Array.length_toList];exact h
 have:=valN_lt s.data.toList
 rw[e]at this
 unfold valB
 refine⟨by omega,?_⟩
 have e2:((256:Int) ^ n)=((256 ^ n:Nat):Int):=by rw[Int.natCast_pow];rfl
 rw[e2];omega
theorem ext_ext(s:BA)(a b:Nat)(h:a+b≤s.size):(s.extract a s.size).extract 0 b=s.extract a (a+b):=by
 rw[ByteArray.extract_extract]
 congr 1
 omega
def bI(s:BA)(i:Nat):Int:=(((s.data.toList[i]?).getD 0).toNat:Int)
structure Mk where
 kind:Int
 tx:Int
 counts:List Int
 seqs:List Int
def mk0:Mk:=⟨0,0,[],[]⟩
def nM(s:BA):Nat:=(bI s 9).toNat
def qsM(s:BA)(j:Nat):List Int:=(List.range j).map fun i=>valB (s.extract (10+8*i) (10+8*i+8))
def csM(s:BA)(j:Nat):List Int:=(List.range j).map fun i=>valB (s.extract (10+8*nM s+2*i) (10+8*nM s+2*i+2))
def cnM(s:BA):Nat:=if bI s 0=2 then nM s else 0
def getMK(s:BA):Mk×Int:=
 if s.size<10 then(mk0,7)
 else if s.size=10+8*nM s+2*cnM s then
  (if mayMk (bI s 0) (csM s (cnM s)) (qsM s (nM s))then(⟨bI s 0,valB (s.extract 1 9),csM s (cnM s),qsM s (nM s)⟩,0)else(mk0,7))
 else(mk0,7)
end Go.Pl
