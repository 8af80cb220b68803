/- Texts merged: SvC SvD. -/
import Derived.Test.YtmnafjonbeihiaaGreatDoorSls
import Derived.Test.YtmnafjonbeihiaaGreatDoorG9
set_option linter.unusedSimpArgs false
set_option linter.unusedVariables false
set_option linter.unusedSectionVars false
set_option maxRecDepth 100000
namespace Go.Proofs.YtmnafjonbeihiaaGreatDoor
open Go Go.Fx Go.Proofs Go.Pl Go.Sort Go.Shelf Go.RowKit
section
variable{α:Type}[Inhabited α]
theorem sats_ahead{w0:W0}{w:World}{L:List HProp}(s:Sats w0 w L)(n:Nat):Sats w0 (Sort.ahead w n) L:=⟨s.os,s.tape,s.output,⟨s.size.1,fun h=>Nat.le_trans (s.size.2 h) (Nat.le_add_right _ _)⟩,s.heap⟩
theorem sats_grow{w0:W0}{w:World}{L:List HProp}(s:Sats w0 w L)(os:Array Obj):Sats w0 (Go.Sort.grow w os) L:=by
 refine⟨s.os,s.tape,s.output,⟨?_,s.size.2⟩,s.heap.mono ?_⟩
 ·show _≤(w.heap++os).size
  have:=s.size.1
  rw[Array.size_append];omega
 ·intro b o hb
  show(w.heap++os)[b]? =some o
  have hlt:=(Array.getElem?_eq_some_iff.1 hb).1
  rw[Array.getElem?_append_left hlt];exact hb
theorem putRow_at(enc:α→Value)(w:World)(g e:Nat)(d d':Array α)(rest:List Value)(hs:d'.size=d.size)(hb:w.heap[g]? =some (.cells (d.toList.map enc++rest).toArray e)):
  (putRow enc w g 0 d').heap[g]? =some (.cells (d'.toList.map enc++rest).toArray e):=by
 unfold putRow mapBlock
 simp only[Array.getElem?_modify,if_true,hb,Option.map_some,onCells,Option.some.injEq,Obj.cells.injEq,and_true]
 unfold putCells
 apply Array.ext_getElem?
 intro k
 simp only[Array.getElem?_mapIdx,List.getElem?_toArray,Nat.zero_le,true_and,Nat.zero_add,Nat.sub_zero]
 by_cases hk:k<d'.size
 ·have h1:k<(d.toList.map enc).length:=by simp;omega
  have h2:k<(d'.toList.map enc).length:=by simp;omega
  rw[List.getElem?_append_left h1,List.getElem?_append_left h2]
  simp only[List.getElem?_map,Array.getElem?_toList]
  rw[Array.getElem?_eq_getElem (by omega:k<d.size),Array.getElem?_eq_getElem hk]
  simp only[Option.map_some,hk,if_true,Option.some.injEq]
  rw[getElem!_pos d' k hk]
 ·have h1:(d.toList.map enc).length≤k:=by simp;omega
  have h2:(d'.toList.map enc).length≤k:=by simp;omega
  rw[List.getElem?_append_right h1,List.getElem?_append_right h2]
  simp only[List.length_map,Array.length_toList,hs,hk,if_false]
  have hk':¬ k<d.size:=by omega
  cases rest[k-d.size]? with
  |none=>rfl
  |some v=>simp only[Option.map_some,if_neg hk']
theorem putRow_else(enc:α→Value)(w:World)(g k:Nat)(d':Array α)(h:k≠g):(putRow enc w g 0 d').heap[k]? =w.heap[k]? :=by
 unfold putRow mapBlock
 simp only[Array.getElem?_modify]
 rw[if_neg (Ne.symm h)]
theorem flat1(enc:α→Value):∀ l:List α,(l.map fun x=>[enc x]).flatten=l.map enc
 | []=>rfl
 |x::l=>by simp[flat1 enc l]
theorem sats_sort{w0:W0}{w:World}{L:List HProp}(enc:α→Value)(h1:∀ x,(enc x).oneCell'=true)(g e n cap m:Nat)(d d':Array α)(os:Array Obj)(hs:d'.size=d.size)
  (s:Sats w0 w (row e 1 (.slice (some ⟨g,0,none⟩) n cap) (d.toList.map fun x=>[enc x])::L)):
  Sats w0 (sortWorld enc w g 0 m d' os) (row e 1 (.slice (some ⟨g,0,none⟩) n cap) (d'.toList.map fun x=>[enc x])::L):=by
 obtain⟨f1,f2,ha,l1,l2,⟨gd,hrow⟩,hR⟩:=s.heap
 rcases hrow with⟨e1,_⟩|⟨b,c,rest,e1,hl,hbk⟩
 ·cases e1
 simp only[Value.slice.injEq,Option.some.injEq,Addr.mk.injEq,and_true]at e1
 obtain⟨rfl,hn,rfl⟩:=e1
 rw[flat1]at hbk hl
 have s2:Sats w0 w (pts g (.cells (d.toList.map enc++rest).toArray e)::L):=⟨s.os,s.tape,s.output,s.size,⟨f1,f2,ha,l1,l2,hbk,hR⟩⟩
 have hb:=(RdIn.here (Rd.pts _ _)).heap s2
 have s3:=sats_ahead s2 m
 have s4:Sats w0 (putRow enc (Sort.ahead w m) g 0 d') (pts g (.cells (d'.toList.map enc++rest).toArray e)::L):=
  s3.update rfl rfl rfl (by unfold putRow mapBlock;simp) (putRow_at enc (Sort.ahead w m) g e d d' rest hs hb) (fun k hk=>putRow_else enc (Sort.ahead w m) g k d' hk)
 refine(sats_grow s4 os).map fun _ hh=>hh.headMono fun f hp=>⟨?_,.inr ⟨g,cap,rest,?_,?_,?_⟩⟩
 ·intro y hy
  obtain⟨x,_,rfl⟩:=List.mem_map.1 hy
  refine⟨rfl,?_⟩
  show([enc x].all fun v=>v.oneCell')=true
  simp[h1 x]
 ·rw[hn];simp[hs]
 ·rw[flat1,List.length_append,List.length_map]
  rw[List.length_append,List.length_map]at hl
  simp only[Array.length_toList]at hl ⊢
  rw[hs];exact hl
 ·rw[flat1];exact hp
theorem ext_sort{w0:W0}{w:World}{L:List HProp}(enc:α→Value)(g e n cap m:Nat)(d d':Array α)(os:Array Obj)(PP:HProp)
  (s:Sats w0 w (row e 1 (.slice (some ⟨g,0,none⟩) n cap) (d.toList.map fun x=>[enc x])::PP::L)):Ext PP (orig (sortWorld enc w g 0 m d' os)):=by
 intro h hh
 obtain⟨f1,f2,ha,l1,l2,⟨gd,hrow⟩,⟨f3,f4,ha2,l3,l4,hPP,hR⟩⟩:=s.heap
 refine⟨f3,?_,hPP⟩
 rcases hrow with⟨e1,_⟩|⟨b,c,rest,e1,hl,hbk⟩
 ·cases e1
 simp only[Value.slice.injEq,Option.some.injEq,Addr.mk.injEq,and_true]at e1
 obtain⟨rfl,hn,rfl⟩:=e1
 intro k o hk
 have hkg:k≠g:=fun e=>by subst e;exact ha _ _ _ hbk (l3 _ _ hk)
 have hw:w.heap[k]? =some o:=l2 _ _ (l3 _ _ hk)
 have hlt:=(Array.getElem?_eq_some_iff.1 hw).1
 have h1:(putRow enc (Sort.ahead w m) g 0 d').heap[k]? =some o:=by rw[putRow_else enc _ g k d' hkg];exact hw
 have hlt1:=(Array.getElem?_eq_some_iff.1 h1).1
 have h2:(sortWorld enc w g 0 m d' os).heap[k]? =some o:=by
  show((putRow enc (Sort.ahead w m) g 0 d').heap++os)[k]? =some o
  rw[Array.getElem?_append_left hlt1];exact h1
 rw[hh k (Array.getElem?_eq_some_iff.1 h2).1];exact h2
theorem grown_of{W w':World}(s:Sats ⟨W,true⟩ w' [orig W]):∃ q os,w'=Go.Sort.grow (W.drewN q) os:=by
 have hB:=below_of (L:=[]) s
 have hd:=s.size.2 rfl
 refine⟨w'.drawn-W.drawn,w'.heap.extract W.heap.size w'.heap.size,?_⟩
 have hh:w'.heap=W.heap++w'.heap.extract W.heap.size w'.heap.size:=by
  apply Array.ext_getElem?
  intro k
  by_cases hk:k<W.heap.size
  ·rw[Array.getElem?_append_left hk];exact hB.block k hk
  ·rw[Array.getElem?_append_right (by omega),Array.getElem?_extract]
   by_cases h2:k<w'.heap.size
   ·rw[if_pos (by omega)];congr 1;omega
   ·rw[if_neg (by omega)];exact Array.getElem?_eq_none (by omega)
 obtain⟨hp,tp,dr,os,out⟩:=w'
 obtain⟨hp',tp',dr',os',out'⟩:=W
 have h1:=hB.os
 have h2:=hB.tape
 have h3:=hB.output
 dsimp only at h1 h2 h3 hd hh ⊢
 subst h1 h2 h3
 unfold Go.Sort.grow World.drewN
 dsimp only
 rw[← hh]
 congr 1
 omega
end
end Go.Proofs.YtmnafjonbeihiaaGreatDoor
namespace Go.Proofs.YtmnafjonbeihiaaGreatDoor
open Go Go.Fx Go.Proofs Go.Pl Go.Sort Go.Shelf Go.RowKit
section
variable{α:Type}[Inhabited α]
theorem sort_none{m:Bool}(e:TypeId)(fv:Value)(v:Value)(PP:HProp):FSpecM m Tryz.prog 117 [v,fv] [row e 1 v [],PP] Unit (fun _=>True) (fun _=>.tuple #[]) (fun _=>[row e 1 v [],PP]):=by
 intro w0 w R hs
 obtain⟨p,cap,rfl⟩:∃ p cap,v= .slice p 0 cap:=by
  obtain⟨f1,f2,ha,l1,l2,⟨gd,hrow⟩,hR⟩:=hs.heap
  rcases hrow with⟨e1,_⟩|⟨b,c,rest,e1,hl,hbk⟩
  ·exact⟨none,0,e1⟩
  ·exact⟨_,c,e1⟩
 have hc:Calls Tryz.prog 117 #[.slice p 0 cap,fv] w fun e w'=>e= .returned (.tuple #[])∧w'=w:=AnyF.slices_SortFunc_none {Tryz.sortF with} p cap fv w
 refine hc.mono ?_
 rintro e w' ⟨rfl,rfl⟩
 exact⟨(),trivial,rfl,hs⟩
theorem sort_spec{m:Bool}(enc:α→Value)(h1:∀ x,(enc x).oneCell'=true)(cf:α→α→Int)(hO:SWO (ltOf cf))(gf:FuncId)[K:FnI Tryz.prog gf](caps:List Value)(PP:HProp)(e:TypeId)(v:Value)(l:List α)(hlen:l.length≤1000000)
  (hord:∀ (x y:α) (A:HProp),Ext PP A→FSpecM true Tryz.prog gf ([enc x,enc y]++caps) [A] Unit (fun _=>True) (fun _=>.int .i64 (cf x y)) (fun _=>[A])):
  FSpecM m Tryz.prog 117 [v,.func (.func gf) #[] caps.toArray] [row e 1 v (l.map fun x=>[enc x]),PP] (List α) (fun l'=>l'.Perm l∧l'.Pairwise (fun x y=>ltOf cf y x=false)) (fun _=>.tuple #[]) (fun l'=>[row e 1 v (l'.map fun x=>[enc x]),PP]):=by
 cases l with
 |nil=>
  intro w0 w R hs
  refine(sort_none (m:=m) e (.func (.func gf) #[] caps.toArray) v PP w0 w R hs).mono ?_
  rintro en w' ⟨_,_,rfl,hs'⟩
  exact⟨[],⟨.refl _,.nil⟩,rfl,hs'⟩
 |cons a l=>
  intro w0 w R hs
  generalize hL:a::l=L at hs hlen
  have hne:L≠[]:=by rw[← hL];simp
  clear hL
  obtain⟨g,cap,rfl,hcap⟩:∃ g cap,v= .slice (some ⟨g,0,none⟩) L.length cap∧w.heap[g]? ≠none:=by
   obtain⟨f1,f2,ha,l1,l2,⟨gd,hrow⟩,hR⟩:=hs.heap
   rcases hrow with⟨_,e1⟩|⟨b,c,rest,e1,hl,hbk⟩
   ·simp at e1;exact absurd e1 hne
   ·refine⟨b,c,by simpa using e1,?_⟩
    have hh:w.heap[b]? =_:=l1 _ _ hbk
    rw[hh];simp
  have hlt:g<w.heap.size:=by
   rcases Nat.lt_or_ge g w.heap.size with h|h
   ·exact h
   ·exact absurd (Array.getElem?_eq_none h) hcap
  have hs':Sats ⟨w0,m⟩ w (row e 1 (.slice (some ⟨g,0,none⟩) L.length cap) (L.toArray.toList.map fun x=>[enc x])::PP::R):=hs
  have hH:Holds enc w g 0 L.toArray:=by
   obtain⟨f1,f2,ha,l1,l2,⟨gd,hrow⟩,hR⟩:=hs.heap
   rcases hrow with⟨e1,_⟩|⟨b,c,rest,e1,hl,hbk⟩
   ·cases e1
   simp only[Value.slice.injEq,Option.some.injEq,Addr.mk.injEq,and_true]at e1
   obtain⟨rfl,hn,rfl⟩:=e1
   rw[flat1]at hbk
   have hb:w.heap[g]? =some (.cells (L.map enc++rest).toArray e):=l1 _ _ hbk
   intro j hj
   have hj':j<L.length:=by simpa using hj
   refine⟨?_,?_⟩
   ·unfold World.cell?
    rw[hb]
    simp only[Option.isSome_none,Bool.false_eq_true,if_false,Nat.zero_add,List.getElem?_toArray]
    rw[List.getElem?_append_left (by simpa using hj'),List.getElem?_map,List.getElem?_eq_getElem hj']
    simp only[Option.map_some,Option.some.injEq]
    rw[getElem!_pos L.toArray j hj];rfl
   ·unfold World.frozen?
    rw[hb]
    simp
  have hcmp:CmpLays1 Tryz.prog gf caps.toArray enc cf g 0 L.toArray.size w:=by
   intro mm os dk hdk x y
   have hE:Ext PP (orig (sortWorld enc w g 0 mm dk os)):=ext_sort enc g e L.length cap mm L.toArray dk os PP hs'
   have hr:=hord x y _ hE (sortWorld enc w g 0 mm dk os) (sortWorld enc w g 0 mm dk os) [] (orig_self _)
   have ea:([enc x,enc y]++caps).toArray=#[enc x,enc y]++caps.toArray:=by simp
   rw[ea]at hr
   refine hr.mono ?_
   rintro en w' ⟨_,_,rfl,hw'⟩
   exact⟨rfl,grown_of hw'⟩
  have hc:=Any.slices_SortFunc Tryz.sortF enc h1 cf hO gf caps.toArray g 0 cap L.toArray w K.call hcmp hH hlt (by simp;omega)
  have hc':Calls Tryz.prog 117 #[.slice (some ⟨g,0,none⟩) L.toArray.size cap,.func (.func gf) #[] caps.toArray] w _:=hc
  rw[List.size_toArray]at hc'
  refine hc'.mono ?_
  rintro en w' ⟨rfl,d',n,os,hp,hsr,rfl⟩
  have hsz:d'.size=L.toArray.size:=hp.1
  have hperm:d'.toList.Perm L:=by
   have:=hp.2.2
   have e1:(d'.extract 0 L.length)=d':=by
    have:L.length=d'.size:=by rw[hsz];simp
    rw[this];simp
   have e2:(L.toArray.extract 0 L.length).toList=L:=by simp
   rw[e1,e2]at this
   exact this
  refine⟨d'.toList,⟨hperm,?_⟩,rfl,?_⟩
  ·rw[List.pairwise_iff_getElem]
   intro i j hi hj hij
   have hj':j<d'.size:=by simpa using hj
   have:=hsr i j (Nat.zero_le _) hij (by rw[hsz]at hj';simpa using hj')
   rw[getElem!_pos d' j hj',getElem!_pos d' i (by omega)]at this
   simpa using this
  ·exact sats_sort enc h1 g e L.length cap n L.toArray d' os hsz hs'
end
end Go.Proofs.YtmnafjonbeihiaaGreatDoor
