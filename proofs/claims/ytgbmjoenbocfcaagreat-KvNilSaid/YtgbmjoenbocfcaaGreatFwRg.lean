import Derived.Test.YtgbmjoenbocfcaaGreatFwY
set_option linter.unusedVariables false
namespace Go.Fx
open Go
section
variable{X:Cx}{ops:Array Oper}{nb:NB}{N:Act→World→Prop}{i:Nat}{os:List Oper}{Ls:List HProp}{ds:List Deferred}{ρ:Regs}{L:List HProp}{ty:TypeId}{d:Nat}
theorem ok_rangeW{α:Type}{xs:List α}{enc:α→List Value}{f:FuncId}{cap:List Value}{A L1 R':List HProp}{g:Operand}{params:Array Tmp}{assign body:Code}{Q:Exit→Act→World→Prop}[F:FnI X.P f]
  (go:List α→Bool)(K:List α→List HProp)(jp:List α→Code)(it:IterSpec X.P f cap A xs enc)(hr:X.r=none)(hg:ev ρ g= .func (.func f) #[] cap.toArray)
  (ht:Take L A L1)(hK:∀ h,SatL L1 h→SatL (K []++R') h)(hlen:∀ p,(enc p).length=params.size)(hps:params.toList.all (Nat.blt · X.nt)=true)
  (round:∀ l pre p,pre++[p] <+:xs→∀ (w0:World) (R:List HProp) (LP0 LP1:HProp) (QB QE:Exit→Act→World→Prop),
   (∀ {ds ρ' L L'},Take L [LP0] L'→Ok ⟨X.P,some l,X.nt,⟨w0,false⟩,X.cv⟩ body ds ρ' (LP1::L') QE→Cont ⟨X.P,some l,X.nt,⟨w0,false⟩,X.cv⟩ QB .normal ds ρ' L)→
   (∀ {ds ρ' L L'},go (pre++[p])=true→Take L [LP1] L'→(∀ h,SatL L' h→SatL (K (pre++[p])++R) h)→Cont ⟨X.P,some l,X.nt,⟨w0,false⟩,X.cv⟩ QE .normal ds ρ' L)→
   (∀ {ds ρ' L L' id},go (pre++[p])=false→jp (pre++[p])= .exit id→Take L [LP1] L'→(∀ h,SatL L' h→SatL (K (pre++[p])++R) h)→Cont ⟨X.P,some l,X.nt,⟨w0,false⟩,X.cv⟩ QE (.exit id) ds ρ' L)→
   (∀ {ds ρ' L L'},go (pre++[p])=false→jp (pre++[p])= .ret→Take L [LP1] L'→(∀ h,SatL L' h→SatL (K (pre++[p])++R) h)→Cont ⟨X.P,some l,X.nt,⟨w0,false⟩,X.cv⟩ QE .ret ds ρ' L)→
   Ok ⟨X.P,some l,X.nt,⟨w0,false⟩,X.cv⟩ assign [] (updMany ρ (params.toList.zip (enc p))) (LP0::K pre++R) QB)
  (done:∀ dk,(eat go [] xs).2=true→Cont X Q .normal (mark dk::ds) ρ (marked dk::K xs++(A++R')))
  (stop:∀ dk q,eat go [] xs=(q,false)→Ok X (jp q) (mark dk::ds) ρ (marked dk::K q++(A++R')) Q)(hm:X.w0.m=false:=by rfl):Ok X (.rangeFunc g params assign body) ds ρ L Q:=by
 refine ok_rangeFunc hr hg fun dk l=>?_
 have hspec:=it (.func (.yield l) #[] #[]) (fun q h=>SatL (loopP X.nt ρ params assign body dk l .ready none::K q) h) (fun q h=>SatL (loopP X.nt ρ params assign body dk l .done (some (jp q))::K q) h) go (by
  intro pre p hp
  cases hgo:go (pre++[p])with
  |true=>
   refine yield_on X.cv (hlen p) hps fun w0 R=>round l pre p hp w0 R _ _ _ _ (fun ht h=>cont_round rfl ht h) ?_ ?_ ?_
   ·exact fun _ ht hk=>cont_round_end () ht rfl hk trivial
   ·exact fun e=>by rw[hgo]at e;cases e
   ·exact fun e=>by rw[hgo]at e;cases e
  |false=>
   refine yield_off X.cv (jp (pre++[p])) (hlen p) hps fun w0 R=>round l pre p hp w0 R _ _ _ _ (fun ht h=>cont_round rfl ht h) ?_ ?_ ?_
   ·exact fun e=>by rw[hgo]at e;cases e
   ·exact fun _ e ht hk=>cont_round_exit () ht (by rw[e]) hk trivial
   ·exact fun _ e ht hk=>cont_round_ret () ht (by rw[e]) hk trivial)
 refine⟨Unit,fun _=>True,_,_,marked dk::R',_,FSpecM.of hm hspec,?_,?_⟩
 ·intro h s
  have s1:SatL (marked dk::loopP X.nt ρ params assign body dk l .ready none::(A++(K []++R'))) h:=
   (SatL.swap s).consMono fun _ s=>s.consMono fun _ s=>satL_append_mono A hK (ht.out s)
  have s2:SatL (marked dk::(A++[fun h=>SatL (loopP X.nt ρ params assign body dk l .ready none::K []) h]++R')) h:=s1.consMono fun _ s=>by
   refine satL_rot A ?_
   have s3:SatL ((loopP X.nt ρ params assign body dk l .ready none::K [])++(A++R')) _:=s.consMono fun _ s=>satL_comm A s
   exact SatL.unflat s3
  have:=satL_comm [marked dk] (B:=A++[fun h=>SatL (loopP X.nt ρ params assign body dk l .ready none::K []) h]) (L:=R') s2
  exact this
 ·intro _ _
  cases hb:(eat go [] xs).2 with
  |true=>
   refine⟨.ready,none,marked dk::K xs++(A++R'),by simp,?_,done dk hb⟩
   intro h s
   rw[eat_true hb]at s
   have s1:SatL ((loopP X.nt ρ params assign body dk l .ready none::K ([]++xs))++(A++marked dk::R')) h:=SatL.flat s
   refine SatL.consMono (A:=loopP X.nt ρ params assign body dk l .ready none) s1 fun _ s=>?_
   have s2:=satL_append_mono (K ([]++xs)) (fun _ k=>satL_comm A (B:=[marked dk]) (L:=R') k) s
   exact satL_comm (K ([]++xs)) (B:=[marked dk]) (L:=A++R') s2
  |false=>
   refine⟨.done,some (jp (eat go [] xs).1),marked dk::K (eat go [] xs).1++(A++R'),by simp,?_,stop dk _ (by rw[← hb])⟩
   intro h s
   have s1:SatL ((loopP X.nt ρ params assign body dk l .done (some (jp (eat go [] xs).1))::K (eat go [] xs).1)++(A++marked dk::R')) h:=SatL.flat s
   refine SatL.consMono (A:=loopP X.nt ρ params assign body dk l .done (some (jp (eat go [] xs).1))) s1 fun _ s=>?_
   have s2:=satL_append_mono (K (eat go [] xs).1) (fun _ k=>satL_comm A (B:=[marked dk]) (L:=R') k) s
   exact satL_comm (K (eat go [] xs).1) (B:=[marked dk]) (L:=A++R') s2
end
end Go.Fx
