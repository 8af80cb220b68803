/- Texts merged: SdP RkP. -/
import Derived.Test.YtmnafjonbeihiaaGreatDoorK0
import Derived.Lib.ValidU
set_option linter.unusedVariables false
namespace Go.Pl
open Go
structure Vl where
 kind:Int
 int:Int
 real:Int
 text:BA
theorem Vl.ext_iff'{a b:Vl}:a=b↔a.kind=b.kind∧a.int=b.int∧a.real=b.real∧a.text=b.text:=by cases a;cases b;simp
instance:DecidableEq Vl:=fun a b=>if h:a.kind=b.kind∧a.int=b.int∧a.real=b.real∧a.text=b.text then .isTrue (Vl.ext_iff'.2 h)else .isFalse fun e=>h (Vl.ext_iff'.1 e)
instance:Inhabited Vl:=⟨⟨0,0,0,⟨#[]⟩⟩⟩
def nul:Vl:=⟨0,0,0,⟨#[]⟩⟩
def valV(v:Vl):List Value:=[.int .u8 v.kind,.int .i64 v.int,.int .u64 v.real,.string v.text]
structure Vl.wf(v:Vl):Prop where
 k0:0≤v.kind
 k1:v.kind≤255
 i0: -9223372036854775808≤v.int
 i1:v.int≤9223372036854775807
 r0:0≤v.real
 r1:v.real≤18446744073709551615
 t:v.text.size≤140737488355328
def nanB(n:Int):Bool:= !Op.floatEq .f64 n.toNat n.toNat
def canonR(n:Int):Int:=if nanB n then 9221120237041090561 else n
def validS(s:BA):Bool:=Lib.validD s.data.toList
def wantV(v:Vl):Option Vl:=
 if v.kind=0 then some ⟨0,0,0,⟨#[]⟩⟩
 else if v.kind=1 then(if 1<IntKind.u64.wrap v.int then none else some ⟨1,v.int,0,⟨#[]⟩⟩)
 else if v.kind=2 then some ⟨2,v.int,0,⟨#[]⟩⟩
 else if v.kind=3 then some ⟨3,0,canonR v.real,⟨#[]⟩⟩
 else if v.kind=5 then(if validS v.text then some ⟨5,0,0,v.text⟩else none)
 else if v.kind=4 then some ⟨4,0,0,v.text⟩
 else none
def checkV(v:Vl):Bool:=match wantV v with
 |none=>false
 |some w=>decide (v=w)&&decide (v.text.size≤100)
structure Co where
 name:BA
 kind:Int
 null:Bool
structure Tc where
 name:BA
 cols:List Co
 key:Int
 ref:Int
 par:Int
abbrev Sc:=List Tc
instance:Inhabited Tc:=⟨⟨⟨#[]⟩,[],0,0,0⟩⟩
instance:Inhabited Co:=⟨⟨⟨#[]⟩,0,false⟩⟩
def coV(c:Co):List Value:=[.string c.name,.int .u8 c.kind,.bool c.null]
def nameC(c:UInt8):Bool:= !((decide ((c.toNat:Int)<97)||decide ((122:Int)<c.toNat))&&(decide ((c.toNat:Int)<48)||decide ((57:Int)<c.toNat)))
def nameS(s:BA):Bool:=s.data.toList.all nameC&&(!(s.toList==(⟨#[]⟩:BA).toList)&&decide (s.size≤16))
def namedS(l:List BA):Bool:=l.all nameS&&decide l.Nodup
def colAt(l:List Co)(k:Int):Co:=(l[k.toNat]?).getD default
def tabAt(s:Sc)(k:Int):Tc:=(s[k.toNat]?).getD default
def hasC(l:List Co)(k:Int):Bool:=decide (0≤k)&&decide (k<l.length)
def tableS(ahead:Sc)(ds:List Int)(t:Tc):Option Int:=
 if t.cols.any (fun c=>decide (c.kind<1)||decide (5<c.kind))then none
 else if t.cols.length<1∨8<t.cols.length∨namedS (t.cols.map (·.name))=false∨hasC t.cols t.key=false∨(colAt t.cols t.key).null=true then none
 else if t.ref= -1∧t.par= -1 then some 1
 else if hasC t.cols t.ref=false∨t.ref=t.key∨t.par<0∨(ahead.length:Int)≤t.par then none
 else if(colAt (tabAt ahead t.par).cols (tabAt ahead t.par).key).kind=(colAt t.cols t.ref).kind∧(ds[t.par.toNat]?).getD 0+1≤8 then some ((ds[t.par.toNat]?).getD 0+1)else none
def goD:Sc→List Int→Sc→Option (List Int)
 |_,ds,[]=>some ds
 |ahead,ds,t::rest=>match tableS ahead ds t with
  |none=>none
  |some d=>goD (ahead++[t]) (ds++[d]) rest
def depthsS(s:Sc):Option (List Int):=
 if s.length<1∨12<s.length then none
 else match goD [] [] s with
  |none=>none
  |some ds=>if namedS (s.map (·.name))then some ds else none
def checkS(s:Sc):Bool:=(depthsS s).isSome
def hasS(s:Sc)(k:Int):Bool:=checkS s&&(decide (0≤k)&&decide (k<s.length))
def fitsC(c:Co)(v:Vl):Bool:=checkV v&&(decide (v.kind=c.kind)||c.null&&decide (v=nul))
def fitsL:List Co→List Vl→Bool
 | [],[]=>true
 |c::cs,v::vs=>fitsC c v&&fitsL cs vs
 |_,_=>false
def rowS(s:Sc)(t:Int)(l:List Vl):Bool:=hasS s t&&fitsL (tabAt s t).cols l
def keyS(s:Sc)(t:Int)(v:Vl):Bool:=hasS s t&&fitsC (colAt (tabAt s t).cols (tabAt s t).key) v
structure TabOk(t:Tc):Prop where
 key0:0≤t.key
 keyL:t.key<t.cols.length
 len:t.cols.length≤8
 refL:t.ref<t.cols.length
theorem tableS_ok{ahead:Sc}{ds:List Int}{t:Tc}{d:Int}(h:tableS ahead ds t=some d):TabOk t:=by
 unfold tableS at h
 split at h
 ·cases h
 split at h
 ·cases h
 rename_i h2
 simp only[not_or]at h2
 obtain⟨_,h3,_,h4,_⟩:=h2
 have h4':hasC t.cols t.key=true:=by simpa using h4
 simp only[hasC,Bool.and_eq_true,decide_eq_true_eq]at h4'
 refine⟨h4'.1,h4'.2,by omega,?_⟩
 split at h
 ·rename_i h5;omega
 split at h
 ·cases h
 rename_i h6
 simp only[not_or]at h6
 have h7:hasC t.cols t.ref=true:=by simpa using h6.1
 simp only[hasC,Bool.and_eq_true,decide_eq_true_eq]at h7
 exact h7.2
theorem tableS_par{ahead:Sc}{ds:List Int}{t:Tc}{d:Int}(h:tableS ahead ds t=some d):(t.ref= -1∧t.par= -1)∨(0≤t.ref∧0≤t.par∧t.par<ahead.length):=by
 unfold tableS at h
 split at h
 ·cases h
 split at h
 ·cases h
 split at h
 ·rename_i h5;exact .inl h5
 split at h
 ·cases h
 rename_i h6
 simp only[not_or]at h6
 have h7:hasC t.cols t.ref=true:=by simpa using h6.1
 simp only[hasC,Bool.and_eq_true,decide_eq_true_eq]at h7
 exact .inr ⟨h7.1,by omega,by omega⟩
theorem tableS_dep{ahead:Sc}{ds:List Int}{t:Tc}{d:Int}(h:tableS ahead ds t=some d)(hds:∀ x∈ds,1≤x∧x≤8):1≤d∧d≤8:=by
 unfold tableS at h
 split at h
 ·cases h
 split at h
 ·cases h
 split at h
 ·cases h;omega
 split at h
 ·cases h
 split at h
 ·rename_i h8
  cases h
  have:0≤(ds[t.par.toNat]?).getD 0:=by
   cases hg:ds[t.par.toNat]? with
   |none=>simp
   |some x=>have:=hds x (List.mem_of_getElem? hg);simp;omega
  omega
 ·cases h
structure AheadOk(ahead:Sc)(ds:List Int):Prop where
 len:ds.length=ahead.length
 dep:∀ x∈ds,1≤x∧x≤8
 tab:∀ t∈ahead,TabOk t
theorem AheadOk.snoc{ahead:Sc}{ds:List Int}(h:AheadOk ahead ds){t:Tc}{d:Int}(ht:tableS ahead ds t=some d):AheadOk (ahead++[t]) (ds++[d]):=by
 refine⟨by simp[h.len],fun x hx=>?_,fun x hx=>?_⟩
 ·rcases List.mem_append.1 hx with hx|hx
  ·exact h.dep x hx
  ·rw[List.mem_singleton]at hx;subst hx;exact tableS_dep ht h.dep
 ·rcases List.mem_append.1 hx with hx|hx
  ·exact h.tab x hx
  ·rw[List.mem_singleton]at hx;subst hx;exact tableS_ok ht
theorem goD_ok:∀ {rest ahead:Sc} {ds out:List Int},AheadOk ahead ds→goD ahead ds rest=some out→AheadOk (ahead++rest) out
 | [],ahead,ds,out,h,e=>by simp only[goD,Option.some.injEq]at e;subst e;simpa using h
 |t::rest,ahead,ds,out,h,e=>by
  unfold goD at e
  split at e
  ·cases e
  ·rename_i d hd
   have:=goD_ok (h.snoc hd) e
   rwa [List.append_assoc]at this
theorem checkS_ok{s:Sc}(h:checkS s=true):∃ ds,depthsS s=some ds∧AheadOk s ds∧1≤s.length∧s.length≤12:=by
 unfold checkS at h
 obtain⟨ds,hd⟩:=Option.isSome_iff_exists.1 h
 refine⟨ds,hd,?_⟩
 unfold depthsS at hd
 split at hd
 ·cases hd
 ·rename_i hl
  split at hd
  ·cases hd
  ·rename_i ds' hg
   split at hd
   ·cases hd
    exact⟨by simpa using goD_ok (ahead:=[]) ⟨rfl,fun _ hx=>by simp at hx,fun _ hx=>by simp at hx⟩ hg,by omega,by omega⟩
   ·cases hd
theorem hasS_tab{s:Sc}{k:Int}(h:hasS s k=true):0≤k∧k<s.length∧s[k.toNat]? =some (tabAt s k)∧TabOk (tabAt s k)∧checkS s=true:=by
 simp only[hasS,Bool.and_eq_true,decide_eq_true_eq]at h
 obtain⟨hc,h0,h1⟩:=h
 obtain⟨ds,_,ha,_,_⟩:=checkS_ok hc
 have e:s[k.toNat]? =some (s[k.toNat]'(by omega)):=List.getElem?_eq_getElem _
 have e2:tabAt s k=s[k.toNat]'(by omega):=by unfold tabAt;rw[e];rfl
 exact⟨h0,h1,by rw[e2];exact e,by rw[e2];exact ha.tab _ (List.getElem_mem _),hc⟩
theorem fitsL_len:∀ {cs:List Co} {l:List Vl},fitsL cs l=true→l.length=cs.length
 | [],[],_=>rfl
 | [],_::_,h=>by simp[fitsL]at h
 |_::_,[],h=>by simp[fitsL]at h
 |c::cs,v::l,h=>by
  simp only[fitsL,Bool.and_eq_true]at h
  simp[fitsL_len h.2]
theorem fitsL_at:∀ {cs:List Co} {l:List Vl},fitsL cs l=true→∀ {k:Nat} {c:Co} {v:Vl},cs[k]? =some c→l[k]? =some v→fitsC c v=true
 | [],_,_,k,_,_,h,_=>by simp at h
 |c::cs,[],h,_,_,_,_,_=>by simp[fitsL]at h
 |c::cs,v::l,h,0,_,_,h1,h2=>by
  simp only[List.getElem?_cons_zero,Option.some.injEq]at h1 h2;subst h1 h2
  simp only[fitsL,Bool.and_eq_true]at h;exact h.1
 |c::cs,v::l,h,k+1,_,_,h1,h2=>by
  simp only[fitsL,Bool.and_eq_true]at h
  exact fitsL_at h.2 (by simpa using h1) (by simpa using h2)
section al
variable{α β:Type}[DecidableEq α]
def aget(a:α):List (α×β)→Option β
 | []=>none
 |(b,v)::l=>if a=b then some v else aget a l
def aput(a:α)(v:β):List (α×β)→List (α×β)
 | []=>[(a,v)]
 |(b,u)::l=>if a=b then(a,v)::l else(b,u)::aput a v l
def adel(a:α):List (α×β)→List (α×β)
 | []=>[]
 |(b,u)::l=>if a=b then l else(b,u)::adel a l
theorem aget_put(k j:α)(v:β):∀ l:List (α×β),aget j (aput k v l)=if j=k then some v else aget j l
 | []=>by simp only[aput,aget]
 |(b,u)::l=>by
  unfold aput
  by_cases h:k=b
  ·subst h
   simp only[if_true,aget]
   by_cases hj:j=k<;>simp[hj]
  ·simp only[h,if_false,aget]
   by_cases hj:j=b
   ·subst hj;simp[Ne.symm h]
   ·simp[hj,aget_put k j v l]
theorem aget_mem{a:α}{v:β}:∀ {l:List (α×β)},aget a l=some v→(a,v)∈l
 | [],h=>by simp[aget]at h
 |(b,u)::l,h=>by
  unfold aget at h
  split at h
  ·rename_i hb;cases h;subst hb;exact List.mem_cons_self ..
  ·exact List.mem_cons_of_mem _ (aget_mem h)
theorem aget_none{a:α}:∀ {l:List (α×β)},aget a l=none→a∉l.map (·.1)
 | [],_=>by simp
 |(b,u)::l,h=>by
  unfold aget at h
  split at h
  ·cases h
  ·rename_i hk
   simp only[List.map_cons,List.mem_cons,not_or]
   exact⟨hk,aget_none h⟩
theorem aget_del(k j:α):∀ {l:List (α×β)},(l.map (·.1)).Nodup→aget j (adel k l)=if j=k then none else aget j l
 | [],_=>by simp[adel,aget]
 |(b,u)::l,h=>by
  simp only[List.map_cons,List.nodup_cons]at h
  unfold adel
  split
  ·rename_i hk
   subst hk
   by_cases hj:j=k
   ·subst hj
    rw[if_pos rfl]
    cases hg:aget j l with
    |none=>rfl
    |some v=>exact absurd (List.mem_map_of_mem (f:=(·.1)) (aget_mem hg)) h.1
   ·rw[if_neg hj];simp only[aget];rw[if_neg hj]
  ·rename_i hk
   simp only[aget]
   rw[aget_del k j h.2]
   by_cases hj:j=b
   ·subst hj;rw[if_pos rfl,if_pos rfl,if_neg (Ne.symm hk)]
   ·rw[if_neg hj,if_neg hj]
theorem aput_len_some{a:α}{v u:β}:∀ {l:List (α×β)},aget a l=some u→(aput a v l).length=l.length
 | [],h=>by simp[aget]at h
 |(b,w)::l,h=>by
  unfold aget at h
  unfold aput
  split
  ·rfl
  ·rename_i hb;rw[if_neg hb]at h;simp[aput_len_some h]
theorem aput_len_none{a:α}{v:β}:∀ {l:List (α×β)},aget a l=none→(aput a v l).length=l.length+1
 | [],h=>rfl
 |(b,w)::l,h=>by
  unfold aget at h
  unfold aput
  split
  ·rename_i hb;rw[if_pos hb]at h;cases h
  ·rename_i hb;rw[if_neg hb]at h;simp[aput_len_none h]
theorem adel_len{a:α}{u:β}:∀ {l:List (α×β)},aget a l=some u→(adel a l).length+1=l.length
 | [],h=>by simp[aget]at h
 |(b,w)::l,h=>by
  unfold aget at h
  unfold adel
  split
  ·rfl
  ·rename_i hb;rw[if_neg hb]at h;simp[adel_len h]
theorem aput_keys(a:α)(v:β):∀ l:List (α×β),∀ x∈(aput a v l).map (·.1),x=a∨x∈l.map (·.1)
 | [],x,h=>by simp[aput]at h;exact .inl h
 |(b,u)::l,x,h=>by
  unfold aput at h
  split at h
  ·simp only[List.map_cons,List.mem_cons]at h ⊢
   rcases h with h|h
   ·exact .inl h
   ·exact .inr (.inr h)
  ·simp only[List.map_cons,List.mem_cons]at h ⊢
   rcases h with h|h
   ·exact .inr (.inl h)
   ·rcases aput_keys a v l x h with h|h
    ·exact .inl h
    ·exact .inr (.inr h)
theorem aput_nodup(a:α)(v:β):∀ {l:List (α×β)},(l.map (·.1)).Nodup→((aput a v l).map (·.1)).Nodup
 | [],_=>by simp[aput]
 |(b,u)::l,h=>by
  simp only[List.map_cons,List.nodup_cons]at h
  unfold aput
  split
  ·rename_i hb;subst hb;simp only[List.map_cons,List.nodup_cons];exact h
  ·rename_i hb
   simp only[List.map_cons,List.nodup_cons]
   refine⟨fun hm=>?_,aput_nodup a v h.2⟩
   rcases aput_keys a v l b hm with e|hm
   ·exact hb e.symm
   ·exact h.1 hm
theorem adel_sub(a:α):∀ (l:List (α×β)),∀ x∈adel a l,x∈l
 | [],x,h=>by simp[adel]at h
 |(b,u)::l,x,h=>by
  unfold adel at h
  split at h
  ·exact List.mem_cons_of_mem _ h
  ·rcases List.mem_cons.1 h with rfl|h
   ·exact List.mem_cons_self ..
   ·exact List.mem_cons_of_mem _ (adel_sub a l x h)
theorem adel_nodup(a:α):∀ {l:List (α×β)},(l.map (·.1)).Nodup→((adel a l).map (·.1)).Nodup
 | [],_=>by simp[adel]
 |(b,u)::l,h=>by
  simp only[List.map_cons,List.nodup_cons]at h
  unfold adel
  split
  ·exact h.2
  ·simp only[List.map_cons,List.nodup_cons]
   refine⟨fun hm=>?_,adel_nodup a h.2⟩
   obtain⟨x,hx,he⟩:=List.mem_map.1 hm
   exact h.1 (List.mem_map.2 ⟨x,adel_sub a l x hx,he⟩)
theorem aput_mem(a:α)(v:β):∀ (l:List (α×β)),∀ x∈aput a v l,x=(a,v)∨x∈l
 | [],x,h=>by simp[aput]at h;exact .inl h
 |(b,u)::l,x,h=>by
  unfold aput at h
  split at h
  ·rcases List.mem_cons.1 h with h|h
   ·exact .inl h
   ·exact .inr (List.mem_cons_of_mem _ h)
  ·rcases List.mem_cons.1 h with rfl|h
   ·exact .inr (List.mem_cons_self ..)
   ·rcases aput_mem a v l x h with h|h
    ·exact .inl h
    ·exact .inr (List.mem_cons_of_mem _ h)
end al
abbrev Pc:=Int×Vl
abbrev RR:=List (Pc×List Vl)
structure Opr where
 kind:Int
 table:Int
 row:List Vl
structure Rl where
 s:Sc
 rows:RR
 turns:Int
def keyOf(s:Sc)(t:Int)(l:List Vl):Vl:=(l[(tabAt s t).key.toNat]?).getD default
def placeS(s:Sc)(o:Opr):Option Pc:=
 if o.kind=3 then(match o.row with|[v]=>if keyS s o.table v then some (o.table,v)else none|_=>none)
 else if rowS s o.table o.row then some (o.table,keyOf s o.table o.row)else none
def Rl.doOp(r:Rl)(o:Opr):Rl×List Vl×List Vl×Int:=
 if o.kind≠1∧o.kind≠2∧o.kind≠3 then(r,[],[],2)else
 match placeS r.s o with
 |none=>(r,[],[],2)
 |some p=>
  let was:=(aget p r.rows).getD []
  if o.kind=1 then
   if(aget p r.rows).isSome then(r,[],[],9)else if 200≤r.rows.length then(r,[],[],4)
   else({r with rows:=aput p o.row r.rows,turns:=IntKind.u64.wrap (r.turns+1)},was,o.row,0)
  else if(aget p r.rows).isSome=false then(r,[],[],3)
  else if o.kind=2 then({r with rows:=aput p o.row r.rows,turns:=IntKind.u64.wrap (r.turns+1)},was,o.row,0)
  else({r with rows:=adel p r.rows,turns:=IntKind.u64.wrap (r.turns+1)},was,[],0)
def Rl.getOp(r:Rl)(t:Int)(k:Vl):List Vl×Int:=
 if keyS r.s t k then(match aget (t,k) r.rows with|some l=>(l,0)|none=>([],3))else([],2)
def refOk(s:Sc)(rows:RR)(x:Pc×List Vl):Bool:=
 let t:=tabAt s x.1.1
 if t.ref<0 then true else
 let v:=(x.2[t.ref.toNat]?).getD default
 if v.kind=0 then true else(aget (t.par,v) rows).isSome
def Rl.whole(r:Rl):Bool:=r.rows.all (refOk r.s r.rows)
structure RowOk(s:Sc)(x:Pc×List Vl):Prop where
 row:rowS s x.1.1 x.2=true
 key:keyOf s x.1.1 x.2=x.1.2
structure Rl.Ok(r:Rl):Prop where
 sch:checkS r.s=true
 nd:(r.rows.map (·.1)).Nodup
 len:r.rows.length≤200
 rows:∀ x∈r.rows,RowOk r.s x
 t0:0≤r.turns
 t1:r.turns≤18446744073709551615
theorem Rl.Ok.new{s:Sc}(h:checkS s=true):Rl.Ok ⟨s,[],0⟩:=⟨h,by simp,by simp,fun _ hx=>by simp at hx,by simp,by simp⟩
theorem wrap_rng(n:Int):0≤IntKind.u64.wrap n∧IntKind.u64.wrap n≤18446744073709551615:=by
 have h1:IntKind.u64.wrap n=n % 18446744073709551616:=rfl
 rw[h1];omega
theorem rowS_key{s:Sc}{t:Int}{l:List Vl}(h:rowS s t l=true):keyS s t (keyOf s t l)=true∧l[(tabAt s t).key.toNat]? =some (keyOf s t l)∧l.length=(tabAt s t).cols.length:=by
 simp only[rowS,Bool.and_eq_true]at h
 obtain⟨h0,h1,_,ht,_⟩:=hasS_tab h.1
 have hl:=fitsL_len h.2
 have k0:=ht.key0
 have kL:=ht.keyL
 have e1:l[(tabAt s t).key.toNat]? =some (l[(tabAt s t).key.toNat]'(by omega)):=List.getElem?_eq_getElem _
 have e2:(tabAt s t).cols[(tabAt s t).key.toNat]? =some ((tabAt s t).cols[(tabAt s t).key.toNat]'(by omega)):=List.getElem?_eq_getElem _
 have e3:keyOf s t l=l[(tabAt s t).key.toNat]'(by omega):=by unfold keyOf;rw[e1];rfl
 have e4:colAt (tabAt s t).cols (tabAt s t).key=(tabAt s t).cols[(tabAt s t).key.toNat]'(by omega):=by unfold colAt;rw[e2];rfl
 refine⟨?_,by rw[e3];exact e1,hl⟩
 simp only[keyS,Bool.and_eq_true]
 refine⟨h.1,?_⟩
 rw[e4,e3]
 exact fitsL_at h.2 e2 e1
theorem placeS_tab{s:Sc}{o:Opr}{p:Pc}(h:placeS s o=some p):p.1=o.table∧keyS s o.table p.2=true∧(o.kind≠3→RowOk s (p,o.row))∧(o.kind=3→o.row=[p.2]):=by
 unfold placeS at h
 split at h
 ·rename_i h3
  split at h
  ·split at h
   ·rename_i v hr hk
    cases h
    exact⟨rfl,hk,fun hn=>absurd h3 hn,fun _=>hr⟩
   ·cases h
  ·cases h
 ·rename_i h3
  split at h
  ·rename_i hr
   cases h
   exact⟨rfl,(rowS_key hr).1,fun _=>⟨hr,rfl⟩,fun e=>absurd e h3⟩
  ·cases h
theorem Rl.Ok.doOp{r:Rl}(h:r.Ok)(o:Opr):(r.doOp o).1.Ok:=by
 unfold Rl.doOp
 split
 ·exact h
 split
 ·exact h
 ·rename_i p hp
  obtain⟨_,_,h3,_⟩:=placeS_tab hp
  have hw:=wrap_rng (r.turns+1)
  dsimp only
  split
  ·rename_i h1
   split
   ·exact h
   ·rename_i hn
    split
    ·exact h
    ·rename_i hl
     have hg:aget p r.rows=none:=by simpa using hn
     refine⟨h.sch,aput_nodup _ _ h.nd,by show(aput p o.row r.rows).length≤200;rw[aput_len_none hg];omega,fun x hx=>?_,hw.1,hw.2⟩
     rcases aput_mem _ _ _ x hx with rfl|hx
     ·exact h3 (by omega)
     ·exact h.rows x hx
  ·split
   ·exact h
   ·rename_i h1 hs
    obtain⟨u,hu⟩:∃ u,aget p r.rows=some u:=by
     cases hu:aget p r.rows with
     |none=>rw[hu]at hs;simp at hs
     |some u=>exact⟨u,rfl⟩
    split
    ·rename_i h2
     refine⟨h.sch,aput_nodup _ _ h.nd,by show(aput p o.row r.rows).length≤200;rw[aput_len_some hu];exact h.len,fun x hx=>?_,hw.1,hw.2⟩
     rcases aput_mem _ _ _ x hx with rfl|hx
     ·exact h3 (by omega)
     ·exact h.rows x hx
    ·refine⟨h.sch,adel_nodup _ h.nd,by show(adel p r.rows).length≤200;have:=adel_len hu;have:=h.len;omega,fun x hx=>h.rows x (adel_sub _ _ x hx),hw.1,hw.2⟩
end Go.Pl
set_option linter.unusedSimpArgs false
namespace Go.Pl
open Go
structure Did(r:Rl)(o:Opr)(p:Pc)(r':Rl)(was now:List Vl):Prop where
 pl:placeS r.s o=some p
 s:r'.s=r.s
 turns:r'.turns=IntKind.u64.wrap (r.turns+1)
 was:was=(aget p r.rows).getD []
 kind:(o.kind=1∧aget p r.rows=none∧r'.rows=aput p o.row r.rows∧now=o.row)∨(o.kind=2∧(aget p r.rows).isSome=true∧r'.rows=aput p o.row r.rows∧now=o.row)∨
  (o.kind=3∧(aget p r.rows).isSome=true∧r'.rows=adel p r.rows∧now=[])
theorem doOp_did(r:Rl)(o:Opr):((r.doOp o).2.2.2≠0∧(r.doOp o).1=r∧(r.doOp o).2.1=[]∧(r.doOp o).2.2.1=[])∨((r.doOp o).2.2.2=0∧∃ p,Did r o p (r.doOp o).1 (r.doOp o).2.1 (r.doOp o).2.2.1):=by
 unfold Rl.doOp
 split
 ·exact .inl ⟨by simp,rfl,rfl,rfl⟩
 rename_i hk
 split
 ·exact .inl ⟨by simp,rfl,rfl,rfl⟩
 ·rename_i p hp
  dsimp only
  split
  ·rename_i h1
   split
   ·exact .inl ⟨by simp,rfl,rfl,rfl⟩
   ·rename_i hn
    split
    ·exact .inl ⟨by simp,rfl,rfl,rfl⟩
    ·have hg:aget p r.rows=none:=by simpa using hn
     exact .inr ⟨rfl,p,⟨hp,rfl,rfl,rfl,.inl ⟨h1,hg,rfl,rfl⟩⟩⟩
  ·split
   ·exact .inl ⟨by simp,rfl,rfl,rfl⟩
   ·rename_i h1 hs
    have hs':(aget p r.rows).isSome=true:=by cases hq:(aget p r.rows).isSome with
     |true=>rfl
     |false=>exact absurd hq hs
    split
    ·rename_i h2
     exact .inr ⟨rfl,p,⟨hp,rfl,rfl,rfl,.inr (.inl ⟨h2,hs',rfl,rfl⟩)⟩⟩
    ·rename_i h2
     exact .inr ⟨rfl,p,⟨hp,rfl,rfl,rfl,.inr (.inr ⟨by omega,hs',rfl,rfl⟩)⟩⟩
theorem Did.one{r r':Rl}{o:Opr}{p:Pc}{was now:List Vl}(hr:r.Ok)(d:Did r o p r' was now):
  p.1=o.table∧hasS r.s o.table=true∧(if o.kind=3 then was else now)[(tabAt r.s o.table).key.toNat]? =some p.2∧0≤(tabAt r.s o.table).key∧keyS r.s o.table p.2=true:=by
 obtain⟨h1,h2,h3,h4⟩:=placeS_tab d.pl
 have hh:hasS r.s o.table=true:=by simp only[keyS,Bool.and_eq_true]at h2;exact h2.1
 obtain⟨_,_,_,ht,_⟩:=hasS_tab hh
 refine⟨h1,hh,?_,ht.key0,h2⟩
 have lay:o.kind≠3→o.row[(tabAt r.s o.table).key.toNat]? =some p.2:=fun hk=>by
  have hro:=h3 hk
  have hx:=rowS_key hro.row
  have hy:=hro.key
  dsimp only at hx hy
  rw[h1]at hx hy
  rw[hx.2.1,hy]
 rcases d.kind with⟨hk,_,_,hn⟩|⟨hk,_,_,hn⟩|⟨hk,hs,_,_⟩
 ·rw[if_neg (by omega),hn];exact lay (by omega)
 ·rw[if_neg (by omega),hn];exact lay (by omega)
 ·rw[if_pos hk,d.was]
  obtain⟨u,hu⟩:=Option.isSome_iff_exists.1 hs
  rw[hu]
  have hro:=hr.rows _ (aget_mem hu)
  have hx:=rowS_key hro.row
  have hy:=hro.key
  dsimp only at hx hy
  rw[h1]at hx hy
  show u[_]? =_
  rw[hx.2.1,hy]
theorem Did.len{r r':Rl}{o:Opr}{p:Pc}{was now:List Vl}(d:Did r o p r' was now):(o.kind=1∧r'.rows.length=r.rows.length+1)∨(o.kind=2∧r'.rows.length=r.rows.length)∨(o.kind=3∧r'.rows.length+1=r.rows.length):=by
 rcases d.kind with⟨h,hn,e,_⟩|⟨h,hs,e,_⟩|⟨h,hs,e,_⟩
 ·exact .inl ⟨h,by rw[e,aput_len_none hn]⟩
 ·obtain⟨u,hu⟩:=Option.isSome_iff_exists.1 hs
  exact .inr (.inl ⟨h,by rw[e,aput_len_some hu]⟩)
 ·obtain⟨u,hu⟩:=Option.isSome_iff_exists.1 hs
  exact .inr (.inr ⟨h,by rw[e,adel_len hu]⟩)
end Go.Pl
