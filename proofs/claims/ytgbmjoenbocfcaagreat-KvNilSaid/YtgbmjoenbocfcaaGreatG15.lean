/- Texts merged: DkN DkY. -/
import Derived.Test.YtgbmjoenbocfcaaGreatSlp
import Derived.Test.YtgbmjoenbocfcaaGreatG7
import Derived.Test.YtgbmjoenbocfcaaGreatG0
import Derived.Test.YtgbmjoenbocfcaaGreatY
set_option linter.unusedVariables false
namespace Go.Proofs.YtgbmjoenbocfcaaGreat
open Go Go.Fx Go.Proofs Go.Pl Go.Maps Go.Sort Go.Shelf Go.RowKit Go.ChangeMaps Go.MapKept Go.WideMaps Go.WideShapes
def sortN(l:List BA):List BA:=((l.map fun s=>s.data.toList).mergeSort (fun x y=>decide (x≤y))).map fun x=>⟨x.toArray⟩
def Rt:Value→Option (DataW Unit×List MemPlace):=fun _=>some (.lit (.bool true),[])
theorem data_inj{a b:BA}(h:a.data.toList=b.data.toList):a=b:=ByteArray.ext (Array.ext' h)
theorem fit_map{es:List MapEntry}{clock:Nat}{l:List (BA×Value)}(h:MOK KStr es clock l)(hn:l.length≤1099511627776)(hk:∀ x∈l,x.1.size≤1099511627776):
  Go.WideElems.Fit Tryz.prog 9 Rt es.toArray clock∧es.map (Go.WideElems.rg Tryz.prog 9 Rt)=l.map (fun x=>(Lit.string x.1.data.toList,DataW.lit (.bool true))):=by
 have hm:maxLen=9223372036854775807:=rfl
 have hl:es.length=l.length:=by have:=congrArg List.length h.kv;simpa using this
 have hkey:∀ x∈l,keyOf Tryz.prog 9 (.string x.1)=some (.string x.1.data.toList):=fun x hx=>keyOf_string_mk Tryz.underlying9 (by have:=hk x hx;omega)
 have hks:es.map (·.key)=l.map (fun x=>Value.string x.1):=by
  have:=congrArg (List.map Prod.fst) h.kv
  simpa [List.map_map,Function.comp_def]using this
 refine⟨⟨?_,⟨?_,?_,?_⟩,?_⟩,?_⟩
 ·simp;omega
 ·simpa using h.lt
 ·simpa using h.bnd
 ·show(es.map (·.key)).Nodup
  rw[hks]
  have hnd:=h.nd
  have e:l.map (fun x=>Value.string x.1)=(l.map (·.1)).map Value.string:=by simp[List.map_map,Function.comp_def]
  rw[e]
  exact List.Pairwise.map _ (fun a b hab e=>hab (by simpa using e)) hnd
 ·intro x hx
  have hx':x∈es:=by simpa using hx
  have hmem:x.key∈l.map (fun x=>Value.string x.1):=by rw[← hks];exact List.mem_map_of_mem hx'
  obtain⟨y,hy,e⟩:=List.mem_map.1 hmem
  refine⟨(.string y.1.data.toList,.lit (.bool true)),?_⟩
  unfold Go.WideElems.rd
  rw[← e,hkey y hy];rfl
 ·have e:∀ (es:List MapEntry) (l:List (BA×Value)),es.map (·.key)=l.map (fun x=>Value.string x.1)→(∀ x∈l,keyOf Tryz.prog 9 (.string x.1)=some (.string x.1.data.toList))→es.map (Go.WideElems.rg Tryz.prog 9 Rt)=l.map (fun x=>(Lit.string x.1.data.toList,DataW.lit (.bool true))):=by
   intro es
   induction es with
   |nil=>intro l h _;cases l with|nil=>rfl|cons _ _=>simp at h
   |cons e es ih=>
    intro l h hk
    cases l with
    |nil=>simp at h
    |cons y l=>
     simp only[List.map_cons,List.cons.injEq]at h
     simp only[List.map_cons,List.cons.injEq]
     refine⟨?_,ih l h.2 (fun x hx=>hk x (List.mem_cons_of_mem _ hx))⟩
     unfold Go.WideElems.rg Go.WideElems.rd
     rw[h.1,hk y (List.mem_cons_self ..)];rfl
  exact e es l hks hkey
theorem sorts_in(m:Nat):AnyZ.SortsIn Tryz.prog Tryz.sortedL_ren Fence.wide m:=
 ⟨fun blk off cap ss W hH hblk hsz=>callsIn_wide.2 (AnyM.slices_Sort_string Tryz.sortL blk off cap ss W hH hblk hsz),
  fun p cap W=>callsIn_wide.2 (AnyM.slices_Sort_string_none Tryz.sortL p cap W)⟩
theorem keysM_spec(m:Nat):FSpec Tryz.prog 82 [.map (some m)] [] Nat (fun _=>True) (fun p=>.func (.func 127) #[] #[.pointer (some ⟨p,0,none⟩)]) (fun p=>[pts p (.cells [.map (some m)].toArray 93)]):=by
 intro w0 w R hs
 refine(callsIn_wide.1 (AnyZ.keys_in Tryz.keysMk Fence.wide 5 trivial rfl (some m) w)).mono ?_
 rintro e w' ⟨rfl,rfl⟩
 exact⟨w.heap.size,trivial,rfl,hs.alloc _⟩
set_option maxHeartbeats 1000000 in
theorem sortedM_spec(p m:Nat)(l:List (BA×Value))(hn:l.length≤1099511627776)(hk:∀ x∈l,x.1.size≤1099511627776):
  FSpec Tryz.prog 81 [.func (.func 127) #[] #[.pointer (some ⟨p,0,none⟩)]] [pts p (.cells [.map (some m)].toArray 93),mapK KStr m l] {v:Value // v.oneCell'=true} (fun _=>True) (fun y=>y.1)
   (fun y=>[row 9 1 y.1 ((sortN (l.map (·.1))).map fun s=>[.string s]),pts p (.cells [.map (some m)].toArray 93),mapK KStr m l]):=by
 intro w0 w R hs
 have hm:maxLen=9223372036854775807:=rfl
 have hp:w.heap[p]? =some (.cells [.map (some m)].toArray 93 (0,0)):=(RdIn.here (Rd.pts _ _)).heap hs
 obtain⟨es,clock,hb,hM⟩:∃ es clock,w.heap[m]? =some (.map es clock)∧MOK KStr es.toList clock l:=by
  obtain⟨h1,h2,_,l1,l2,_,h3,h4,_,l3,l4,⟨es,clock,hh,hM⟩,_⟩:=hs.heap
  exact⟨es,clock,l2 _ _ (l3 _ _ hh),hM⟩
 obtain⟨hF,hrg⟩:=fit_map hM hn hk
 have hle:es.size=l.length:=by have:=congrArg List.length hM.kv;simpa using this
 have hown:w.ownsMap (H:=Unit) Tryz.prog 9 Rt m es.size (.map ((es.toList.map (Go.WideElems.rg Tryz.prog 9 Rt)).foldr DataW.insert [])):=
  ⟨es,clock,hb,by simpa using hF,Nat.le_refl _,rfl⟩
 have hlt:p<w.heap.size:=(Array.getElem?_eq_some_iff.1 hp).1
 have hcell:w.cell? ⟨p,0,none⟩=some (.map (some m)):=cell_of_heap hp rfl
 have hsz:Maps.size (H:=Unit) (.map ((es.toList.map (Go.WideElems.rg Tryz.prog 9 Rt)).foldr DataW.insert []))=l.length:=by
  rw[size_eq,(sorted_perm _).length_eq,List.length_map,Array.length_toList,hle]
 have hkeys:(strKeys (H:=Unit) (.map ((es.toList.map (Go.WideElems.rg Tryz.prog 9 Rt)).foldr DataW.insert []))).Perm ((l.map (·.1)).map fun s=>s.data.toList):=by
  show(((es.toList.map (Go.WideElems.rg Tryz.prog 9 Rt)).foldr DataW.insert []).map fun p=>strOf p.1).Perm _
  refine((sorted_perm _).map _).trans ?_
  rw[hrg,List.map_map,List.map_map]
  exact List.Perm.of_eq rfl
 generalize (DataW.map ((es.toList.map (Go.WideElems.rg Tryz.prog 9 Rt)).foldr DataW.insert []):DataW Unit)=D0 at hown hsz hkeys
 have hseq:SeqGives Fence.wide 2 Tryz.prog 127 #[.pointer (some ⟨p,0,none⟩)] encStr (fun ss=>ss.Perm (strKeys D0)) (Maps.size D0) w:=
  AnyZ.keys_gives Tryz.keysIt Fence.wide 2 trivial rfl (by omega) p m es.size D0 w hlt hcell hown
 have hc:=AnyZ.sorted_in Tryz.sortedL Fence.wide 5 trivial trivial trivial trivial rfl (by omega) (sorts_in _) (enters_of Tryz.func126 (by kernel_rfl) rfl) 127 #[.pointer (some ⟨p,0,none⟩)] trivial (enters_of Tryz.func127 (by kernel_rfl) rfl) _ _ (by rw[hsz];omega) (by rw[hsz];omega) w hseq
 refine(callsIn_wide.1 hc).mono ?_
 rintro e w' ⟨v,ss,rfl,hS,hrow,hnil,hB⟩
 have hsort:ss.mergeSort (fun x y=>decide (x≤y))=((l.map (·.1)).map fun s=>s.data.toList).mergeSort (fun x y=>decide (x≤y)):=mergeSort_of_perm (hS.trans hkeys)
 have hxs:(sortN (l.map (·.1))).map (fun s=>[Value.string s])=(ss.mergeSort (fun x y=>decide (x≤y))).map fun x=>[encStr x]:=by
  unfold sortN
  rw[← hsort,List.map_map]
  apply List.map_congr_left
  intro x _;rfl
 have hfl:((ss.mergeSort (fun x y=>decide (x≤y))).map fun x=>[encStr x]).flatten=(ss.mergeSort (fun x y=>decide (x≤y))).map encStr:=by
  generalize ss.mergeSort (fun x y=>decide (x≤y))=zs
  induction zs with
  |nil=>rfl
  |cons z zs ih=>simp[ih]
 have hgood:good 1 ((ss.mergeSort (fun x y=>decide (x≤y))).map fun x=>[encStr x]):=by
  intro x hx
  obtain⟨z,_,rfl⟩:=List.mem_map.1 hx
  exact⟨rfl,rfl⟩
 have hlen:(ss.mergeSort (fun x y=>decide (x≤y))).length=ss.length:=List.length_mergeSort _
 have hrest:Sats ⟨w0,false⟩ w' ([pts p (.cells [.map (some m)].toArray 93),mapK KStr m l]++R)∧∀ (H:HProp),(∃ h1:Frag,(∀ b o,h1 b=some o→w.heap.size≤b∧w'.heap[b]? =some o)∧H h1)→Sats ⟨w0,false⟩ w' (H::([pts p (.cells [.map (some m)].toArray 93),mapK KStr m l]++R)):=by
  have hle:Frag.le (fun b=>if b<w.heap.size then w.heap[b]? else none) (fun b=>w'.heap[b]?):=by
   intro b o hb
   dsimp only at hb ⊢
   split at hb
   ·rename_i hlt;rw[hB.block b hlt];exact hb
   ·cases hb
  have hle0:Frag.le (fun b=>w.heap[b]?) (fun b=>if b<w.heap.size then w.heap[b]? else none):=by
   intro b o hb
   dsimp only at hb ⊢
   rw[if_pos (Array.getElem?_eq_some_iff.1 hb).1];exact hb
  refine⟨⟨hB.os.trans hs.os,hB.tape.trans hs.tape,hB.output.trans hs.output,⟨Nat.le_trans hs.size.1 hB.size,fun e=>by cases e⟩,(hs.heap.mono hle0).mono hle⟩,?_⟩
  rintro H ⟨h1,hh1,hH⟩
  refine⟨hB.os.trans hs.os,hB.tape.trans hs.tape,hB.output.trans hs.output,⟨Nat.le_trans hs.size.1 hB.size,fun e=>by cases e⟩,h1,_,?_,fun b o hb=>(hh1 b o hb).2,hle,hH,hs.heap.mono hle0⟩
  intro b o o' hb hb'
  dsimp only at hb'
  rw[if_neg (by have:=(hh1 b o hb).1;omega)]at hb'
  cases hb'
 have hone:v.oneCell'=true:=by
  rcases hrow.2 with⟨rfl,_⟩|⟨g,cap,cur,rfl,_⟩<;>rfl
 refine⟨⟨v,hone⟩,trivial,rfl,?_⟩
 refine hrest.2 _ ?_
 rw[hxs]
 rcases hrow.2 with⟨rfl,hz⟩|⟨g,cap,cur,rfl,hbase,hgb,r1,r2,r3,r4⟩
 ·have hss:ss=[]:=List.eq_nil_of_length_eq_zero hz
  subst hss
  refine⟨fun _=>none,⟨?_,?_⟩⟩
  ·intro b o hb;cases hb
  ·exact⟨by intro x hx;simp at hx,.inl ⟨rfl,by simp⟩⟩
 ·refine⟨fun b=>if b=g then some (.cells cur 9 (0,0))else none,⟨?_,?_⟩⟩
  rotate_left
  refine⟨hgood,.inr ⟨g,cap,cur.toList.drop ss.length,?_,?_,?_⟩⟩
  ·rw[List.length_map,hlen]
  ·rw[hfl]
   simp only[Nat.mul_one]at r3 r4
   rw[← r4,List.take_append_drop,Array.length_toList,r3];omega
  ·rw[hfl]
   simp only[Nat.mul_one]at r4
   rw[← r4,List.take_append_drop,Array.toArray_toList];simp
  ·intro b o hb
   dsimp only at hb
   split at hb
   ·rename_i e;subst e;cases hb;exact⟨hbase,hgb⟩
   ·cases hb
end Go.Proofs.YtgbmjoenbocfcaaGreat
set_option linter.unusedSimpArgs false
set_option maxRecDepth 100000
namespace Go.Proofs.YtgbmjoenbocfcaaGreat
open Go Go.Fx Go.Proofs Go.Pl
theorem sortN_perm(l:List BA):(sortN l).Perm l:=by
 unfold sortN
 refine((List.mergeSort_perm _ _).map _).trans ?_
 rw[List.map_map]
 refine List.Perm.of_eq ?_
 have:∀ x∈l,((fun x:List UInt8=>(⟨x.toArray⟩:BA)) ∘ fun s:BA=>s.data.toList) x=x:=fun x _=>data_inj (by simp)
 rw[List.map_congr_left this];simp
theorem sortN_len(l:List BA):(sortN l).length=l.length:=(sortN_perm l).length_eq
theorem sortN_mem{l:List BA}{x:BA}(h:x∈sortN l):x∈l:=(sortN_perm l).mem_iff.1 h
theorem mayN_size{s:BA}(h:mayN s=true):s.size≤64:=by
 unfold mayN at h
 simp only[Bool.and_eq_true,decide_eq_true_eq]at h
 exact h.2
theorem Names_spec(b:Nat)(d:Dk)(hnm:∀ x∈d.files.map (·.1),mayN x=true)(hc:d.files.length≤1099511627776):
  FSpec Tryz.prog 29 [.pointer (some ⟨b,0,none⟩)] [diskP b d] {v:Value // v.oneCell'=true} (fun _=>True) (fun y=>y.1) (fun y=>[row 9 1 y.1 ((sortN (d.files.map (·.1))).map fun s=>[.string s]),diskP b d]):=by
 refine fspec_ex ?_
 rintro⟨⟨m1,m2,v,vs⟩,hv,hvs⟩
 unfold diskL
 dsimp only at hv hvs ⊢
 have hl:(encF d.files).map (·.1)=d.files.map (·.1):=by simp[encF,List.map_map,Function.comp_def]
 have hS:=fun p=>sortedM_spec p m1 (encF d.files) (by simp[encF];omega) (fun x hx=>by
  have h1:x.1∈(encF d.files).map (·.1):=List.mem_map_of_mem hx
  rw[hl]at h1
  have:=mayN_size (hnm _ h1);omega)
 rw[hl]at hS
 refine spec_intro [] _ Tryz.func29 rfl Tryz.ntmps29 (by rfl) (fun w0 R=>?_)
 repeat'(first|(refine gY ?_;intros)|(refine hY ?_ ?_<;>intro hgd)|(refine jY ?_ ?_<;>intro _)|fail)
 refine cl_Y (keysM_spec m1) ?_
 intro p _
 repeat'(first|(refine gY ?_;intros)|(refine hY ?_ ?_<;>intro hgd)|(refine jY ?_ ?_<;>intro _)|fail)
 refine cl_Y (hS p) ?_
 rintro⟨w,hw⟩ _
 repeat'(first|(refine gY ?_;intros)|(refine hY ?_ ?_<;>intro hgd)|(refine jY ?_ ?_<;>intro _)|fail)
 refine cont_map (fun _ h=>disk_in (b:=b) (m1:=m1) (m2:=m2) (d:=d) (v:=v) (vs:=vs) hv hvs (Take.out takeD h)) ?_
 (refine rt_Y (y:=⟨w,hw⟩) (hrs:=Tryz.results29) (hv:=?_) (hφ:=?_))
 ·rfl
 ·trivial
def fileV(x:BA×BA):List Value:=[.string x.1,.string x.2]
def fileN(T:FS)(n:BA):BA×BA:=(n,cut (ftext n T) 0 16777216)
def filesL(T:FS):List (BA×BA):=(sortN (T.map (·.1))).map (fileN T)
end Go.Proofs.YtgbmjoenbocfcaaGreat
