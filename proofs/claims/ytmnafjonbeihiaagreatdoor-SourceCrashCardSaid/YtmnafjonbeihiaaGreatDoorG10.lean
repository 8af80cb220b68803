/- Texts merged: SvE SvF. -/
import Derived.Test.YtmnafjonbeihiaaGreatDoorG9
import Derived.Test.YtmnafjonbeihiaaGreatDoorG3
import Derived.Sort.Statements
import Derived.Test.YtmnafjonbeihiaaGreatDoorG4
set_option linter.unusedSimpArgs false
set_option linter.unusedVariables false
set_option maxRecDepth 100000
namespace Go.Proofs.YtmnafjonbeihiaaGreatDoor
open Go Go.Fx Go.Proofs Go.Pl
theorem ofInt_nat{c:Int}(h0:0≤c)(h1:c≤18446744073709551615):(BitVec.ofInt 64 c).toNat=c.toNat:=by
 rw[BitVec.toNat_ofInt]
 have e:((2 ^ 64:Nat):Int)=18446744073709551616:=by decide
 rw[e]
 omega
theorem keyR_val{n:Int}(h0:0≤canonR n)(h1:canonR n≤18446744073709551615):keyR n=if canonR n<9223372036854775808 then canonR n+9223372036854775808 else 18446744073709551615-canonR n:=by
 unfold keyR
 generalize canonR n=c at h0 h1
 have hs:shiftOf .shr .u64 c 63=c / 9223372036854775808:=by
  show c.fdiv (2 ^ (min (63:Int).toNat (IntKind.u64).bits))=_
  rw[show min (63:Int).toNat (IntKind.u64).bits=63 from by decide]
  rw[show(2:Int) ^ 63=9223372036854775808 from by decide]
  rw[Int.fdiv_eq_ediv_of_nonneg _ (by decide)]
 have hc:=ofInt_nat h0 h1
 by_cases hlt:c<9223372036854775808
 ·rw[if_pos (by rw[hs];omega),if_pos hlt]
  show IntKind.u64.wrap ((BitVec.ofInt 64 c|||BitVec.ofInt 64 9223372036854775808).toNat:Int)=_
  have e:(BitVec.ofInt 64 c|||BitVec.ofInt 64 9223372036854775808).toNat=c.toNat+9223372036854775808:=by
   have h2:=Nat.two_pow_add_eq_or_of_lt (b:=c.toNat) (i:=63) (by omega) 1
   rw[Nat.mul_one]at h2
   rw[BitVec.toNat_or,hc,show(BitVec.ofInt 64 9223372036854775808).toNat=2 ^ 63 from by decide,Nat.or_comm,← h2]
   omega
  rw[e]
  show(((c.toNat+9223372036854775808:Nat):Int)) % 18446744073709551616=_
  omega
 ·rw[if_neg (by rw[hs];omega),if_neg hlt]
  show IntKind.u64.wrap ((BitVec.ofInt 64 IntKind.u64.max ^^^ BitVec.ofInt 64 c).toNat:Int)=_
  have e:(BitVec.ofInt 64 IntKind.u64.max ^^^ BitVec.ofInt 64 c).toNat=18446744073709551615-c.toNat:=by
   rw[show BitVec.ofInt 64 IntKind.u64.max=BitVec.allOnes 64 from by decide,BitVec.allOnes_xor,BitVec.toNat_not,hc]
  rw[e]
  show(((18446744073709551615-c.toNat:Nat):Int)) % 18446744073709551616=_
  omega
theorem keyR_inj{a b:Int}(a0:0≤a)(a1:a≤18446744073709551615)(b0:0≤b)(b1:b≤18446744073709551615)(ha:canonR a=a)(hb:canonR b=b)(h:keyR a=keyR b):a=b:=by
 rw[keyR_val (by rw[ha];exact a0) (by rw[ha];exact a1),keyR_val (by rw[hb];exact b0) (by rw[hb];exact b1),ha,hb]at h
 split at h<;>split at h<;>omega
theorem check_real{v:Vl}(h:checkV v=true):canonR v.real=v.real:=by
 unfold checkV at h
 cases hw:wantV v with
 |none=>rw[hw]at h;cases h
 |some w=>
  rw[hw]at h
  simp only[Bool.and_eq_true,decide_eq_true_eq]at h
  obtain⟨rfl,_⟩:=h
  have z:canonR 0=0:=by decide +kernel
  unfold wantV at hw
  split at hw
  ·simp only[Option.some.injEq]at hw;rw[← hw];exact z
  split at hw
  ·split at hw
   ·cases hw
   ·simp only[Option.some.injEq]at hw;rw[← hw];exact z
  split at hw
  ·simp only[Option.some.injEq]at hw;rw[← hw];exact z
  split at hw
  ·simp only[Option.some.injEq]at hw
   exact(congrArg Vl.real hw)
  split at hw
  ·split at hw
   ·simp only[Option.some.injEq]at hw;rw[← hw];exact z
   ·cases hw
  split at hw
  ·simp only[Option.some.injEq]at hw;rw[← hw];exact z
  ·cases hw
theorem key_eq{a b:Vl}(ha:checkV a=true)(hb:checkV b=true)(wa:a.wf)(wb:b.wf)(h:compareV keyR a b=0):a=b:=
 compareV_zero h fun e=>keyR_inj wa.r0 wa.r1 wb.r0 wb.r1 (check_real ha) (check_real hb) e
theorem less_swo{α:Type}(f:α→Vl):Go.Sort.SWO (fun x y=>lessV (f x) (f y)):=by
 have t:=(compareV_tc keyR).map f
 refine⟨fun x=>?_,fun x y z h k=>?_,fun x y z h k=>?_⟩
 ·unfold lessV;rw[t.self x];decide
 ·unfold lessV at h k ⊢
  simp only[decide_eq_true_eq]at h k ⊢
  exact t.lt_le h (by omega)
 ·unfold lessV at h k ⊢
  simp only[decide_eq_false_iff_not,Int.not_lt]at h k ⊢
  have h1:=t.anti x y
  have h2:=t.anti y x
  have k1:=t.anti y z
  have k2:=t.anti z y
  have hz:=t.tr z y x (by omega) (by omega)
  have a1:=t.anti z x
  have a2:=t.anti x z
  omega
theorem less_parts{a b:Vl}(ha:checkV a=true)(hb:checkV b=true)(wa:a.wf)(wb:b.wf)(hne:a≠b)(h:lessV b a=false):lessV a b=true:=by
 unfold lessV at h ⊢
 simp only[decide_eq_false_iff_not,Int.not_lt,decide_eq_true_eq]at h ⊢
 have t:=compareV_tc keyR
 have h1:=t.anti a b
 have h2:=t.anti b a
 have hz:compareV keyR a b≠0:=fun e=>hne (key_eq ha hb wa wb e)
 omega
theorem less_asym(a b:Vl)(h:lessV a b=true):¬ lessV b a=true:=by
 unfold lessV at h ⊢
 simp only[decide_eq_true_eq]at h ⊢
 have t:=compareV_tc keyR
 have h1:=t.anti a b
 omega
end Go.Proofs.YtmnafjonbeihiaaGreatDoor
set_option pp.deepTerms true
set_option pp.maxSteps 200000
namespace Go.Proofs.YtmnafjonbeihiaaGreatDoor
open Go Go.Fx Go.Proofs Go.Pl
def Rl.Wf(r:Rl):Prop:=∀ x∈r.rows,∀ v∈x.2,v.wf
def pickK(r:Rl)(t:Int)(ask:List Vl→Bool)(ks:List Pc):List (List Vl):=ks.filterMap fun p=>if p.1=t∧ask ((aget p r.rows).getD [])=true then some ((aget p r.rows).getD [])else none
def rowsAt(r:Rl)(t:Int)(ask:List Vl→Bool):List (List Vl):=pickK r t ask (r.rows.map (·.1))
structure InOrder(r:Rl)(t:Int)(ask:List Vl→Bool)(l:List (List Vl)):Prop where
 perm:l.Perm (rowsAt r t ask)
 srt:l.Pairwise fun x y=>lessV (Pl.keyOf r.s t x) (Pl.keyOf r.s t y)=true
theorem InOrder.uniq{r r':Rl}{t:Int}{ask:List Vl→Bool}{l l':List (List Vl)}(h:InOrder r t ask l)(h':InOrder r' t ask l')(hs:r.s=r'.s)(hp:(rowsAt r t ask).Perm (rowsAt r' t ask)):l=l':=by
 have h2:=h'.srt
 rw[← hs]at h2
 exact perm_sorted (lt:=fun x y=>lessV (Pl.keyOf r.s t x) (Pl.keyOf r.s t y)=true) (fun x y=>less_asym _ _) ((h.perm.trans hp).trans h'.perm.symm) h.srt h2
theorem EsOk.keys{P:HProp}{es:List (Pc×Value)}{rows:RR}(h:EsOk P es rows):es.map (·.1)=rows.map (·.1):=by
 induction h with
 |nil=>rfl
 |cons h hs ih=>simp[ih]
theorem aget_of_mem{r:Rl}(h:r.Ok){p:Pc}{l:List Vl}(hm:(p,l)∈r.rows):aget p r.rows=some l:=by
 cases hg:aget p r.rows with
 |none=>exact absurd (List.mem_map_of_mem (f:=(·.1)) hm) (aget_none hg)
 |some l'=>rw[row_uniq h (aget_mem hg) hm]
theorem pickK_app(r:Rl)(t:Int)(ask:List Vl→Bool)(a b:List Pc):pickK r t ask (a++b)=pickK r t ask a++pickK r t ask b:=by unfold pickK;rw[List.filterMap_append]
theorem pickK_mid(r:Rl)(t:Int)(ask:List Vl→Bool)(a b:List Pc)(p:Pc):(pickK r t ask (a++p::b)).Perm (pickK r t ask [p]++pickK r t ask (a++b)):=by
 rw[show a++p::b=a++([p]++b)by simp,pickK_app,pickK_app,pickK_app,← List.append_assoc,← List.append_assoc]
 exact(List.perm_append_comm).append_right _
theorem rowsAt_len{r:Rl}(h:r.Ok)(t:Int)(ask:List Vl→Bool):(rowsAt r t ask).length≤200:=by
 unfold rowsAt pickK
 have:=List.length_filterMap_le (fun p:Pc=>if p.1=t∧ask ((aget p r.rows).getD [])=true then some ((aget p r.rows).getD [])else none) (r.rows.map (·.1))
 have h2:=h.len
 rw[List.length_map]at this
 omega
theorem rowsAt_mem{r:Rl}(h:r.Ok){t:Int}{ask:List Vl→Bool}{l:List Vl}(hm:l∈rowsAt r t ask):∃ p,(p,l)∈r.rows∧p.1=t:=by
 unfold rowsAt pickK at hm
 obtain⟨p,hp,e⟩:=List.mem_filterMap.1 hm
 obtain⟨⟨p',l'⟩,hx,rfl⟩:=List.mem_map.1 hp
 dsimp only at e
 rw[aget_of_mem h hx]at e
 split at e
 ·rename_i hc
  simp only[Option.some.injEq,Option.getD_some]at e
  subst e
  exact⟨p',hx,hc.1⟩
 ·cases e
theorem rowsAt_keys{r:Rl}(h:r.Ok)(t:Int)(ask:List Vl→Bool):(rowsAt r t ask).Pairwise fun x y=>Pl.keyOf r.s t x≠Pl.keyOf r.s t y:=by
 unfold rowsAt pickK
 rw[List.pairwise_filterMap]
 have hn:=h.nd
 rw[List.nodup_iff_pairwise_ne]at hn
 refine hn.imp_of_mem ?_
 intro p q hp hq hne x hx y hy e
 obtain⟨⟨p',l⟩,h1,rfl⟩:=List.mem_map.1 hp
 obtain⟨⟨q',l'⟩,h2,rfl⟩:=List.mem_map.1 hq
 dsimp only at hx hy hne
 rw[aget_of_mem h h1]at hx
 rw[aget_of_mem h h2]at hy
 split at hx
 ·rename_i c1
  split at hy
  ·rename_i c2
   simp only[Option.mem_def,Option.some.injEq,Option.getD_some]at hx hy
   subst hx hy
   have k1:=(h.rows _ h1).key
   have k2:=(h.rows _ h2).key
   dsimp only at k1 k2
   rw[c1.1]at k1
   rw[c2.1]at k2
   exact hne (Prod.ext (c1.1.trans c2.1.symm) (by rw[← k1,← k2,e]))
  ·cases hy
 ·cases hx
end Go.Proofs.YtmnafjonbeihiaaGreatDoor
