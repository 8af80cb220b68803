import Derived.Test.YtgbmjoenbocfcaaGreatFwY
import Derived.Laws.Cover4
set_option linter.unusedSimpArgs false
set_option linter.unusedVariables false
namespace Go.Fx
open Go
section
variable{X:Cx}{ops:Array Oper}{nb:NB}{N:Act→World→Prop}{i:Nat}{os:List Oper}{Ls:List HProp}{ds:List Deferred}{ρ:Regs}{L:List HProp}{ty:TypeId}{d:Nat}
theorem s_runes_string [NoT nb]{s t e:TypeId}[I:Ty X.P s (.slice e)][J:Ty X.P t .string][K:Ty X.P e (.int .i32)]{x:Operand}{v:Value}{l:List Int}(hx:ev ρ x=v)(hc:(X.cv.contains s||X.cv.contains t)=true)
  (hr:VwIn L 1 v (l.map fun n=>[.int .i32 n]))(hne:l≠[])(hd:Nat.blt d X.nt=true)(hb:nb.contains i=false)
  (h:OpsL X ops nb N (i+1) os L ds (upd ρ d (.string (runesBytes l))) L):Op1 X ops nb N i (some d) (.convert s t x) ty os Ls ds ρ L:=by
 refine op_eff (Y:=Unit) (φ:=fun _=>True) (v:=fun _=>.string (runesBytes l)) (L':=fun _=>L) ⟨(fun _ e=>by cases e),fun pos after gd=>⟨by simp only[qk,hc];simp,fun w hs=>?_⟩⟩ (fun _ e=>by cases e;exact hd) hb fun _ _=>h
 obtain⟨g,p,cap,hv,h2,h2',h3⟩:=hr.satL hs.heap
 have hlen:(l.map fun n=>([.int .i32 n]:List Value)).length=l.length:=by simp
 rw[hlen]at hv
 have hne2:(l.map fun n=>([.int .i32 n]:List Value))≠[]:=by intro h;exact hne (List.map_eq_nil_iff.1 h)
 rcases h2 with hnil|⟨b,o,rfl⟩
 ·exact absurd hnil hne2
 have hrun:(convert s t (.slice (some ⟨b,o,none⟩) l.length cap)).run X.P w= .ok (.string (runesBytes l)) w:=by
  have:=run_convert_runes w s t e ⟨b,o,none⟩ l.length cap l (Nat.le_refl _) I.und K.und J.und (fun j hj=>?_)
  ·rwa [List.take_length]at this
  ·obtain⟨cs,T,fr,hbk,hcs⟩:=h3 b o rfl hne2
   have hfl:(l.map fun n=>([.int .i32 n]:List Value)).flatten=l.map fun n=>Value.int .i32 n:=by
    clear hne2 hcs hj g h3 h2' hlen h hr hv hx hne
    induction l with
    |nil=>rfl
    |cons y l ih=>simp[ih]
   rw[add_plain]
   refine cell_of_heap hbk (hcs j _ ?_)
   rw[hfl,List.getElem?_map,List.getElem?_eq_getElem hj]
   simp[List.getD,List.getElem?_eq_getElem hj]
 unfold OpVal
 simp only[execOp,hx,hv,Sem.run_bind,hrun,Result.andThen_ok,Sem.run_pure]
 exact⟨(),trivial,trivial,hs⟩
end
end Go.Fx
