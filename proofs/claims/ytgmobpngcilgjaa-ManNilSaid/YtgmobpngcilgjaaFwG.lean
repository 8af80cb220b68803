/- THE FRAMEWORK, PART G: function values; a range over a function. -/
import Derived.Test.YtgmobpngcilgjaaFwF
namespace Go.Fx
open Go

/-! ### Function values -/
def Runs (P : Program) (s : Sem Next) (w : World) (J : Value → World → Prop) : Prop :=
  match s.run P w with
  | .ok (.value v) w' => J v w'
  | .ok .skip w' => J undef w'
  | .ok (.enter f args) w' => Calls P f args w' fun
      | .returned v, w'' => J v w''
      | _, _ => False
  | .ok (.row row args) w' => RowsIn (Fw none) 0 P row args w' J
  | .ok (.round l f tmps assign body) w' => RoundIn (Fw none) 0 P l f tmps assign body w' fun
      | .returned v, w'' => J v w''
      | _, _ => False
  | _ => False

theorem opVal_runs {P : Program} {o : Oper} {e : Operand → Value} {w : World} {J : Value → World → Prop} : OpVal P o e w J ↔ Runs P (execOp e o) w J := Iff.rfl

theorem Runs.mono {P : Program} {s : Sem Next} {w : World} {J J' : Value → World → Prop} (h : Runs P s w J) (hj : ∀ v w', J v w' → J' v w') : Runs P s w J' := by
  unfold Runs at *
  split
  · rename_i hr; rw [hr] at h; exact hj _ _ h
  · rename_i hr; rw [hr] at h; exact hj _ _ h
  · rename_i hr; rw [hr] at h
    refine Calls.mono h fun e w'' he => ?_
    cases e <;> first | exact hj _ _ he | exact he
  · rename_i hr; rw [hr] at h; exact RowsIn.mono h fun _ _ he => hj _ _ he
  · rename_i hr; rw [hr] at h
    refine RoundIn.mono h fun e w'' he => ?_
    cases e <;> first | exact hj _ _ he | exact he
  · rename_i h1 h2 h3 h4 h5
    split at h <;> first | (rename_i hr; exact absurd hr (h1 _ _)) | (rename_i hr; exact absurd hr (h2 _)) | (rename_i hr; exact absurd hr (h3 _ _ _)) | (rename_i hr; exact absurd hr (h4 _ _ _)) | (rename_i hr; exact absurd hr (h5 _ _ _ _ _ _)) | exact h

/-- The call of a function value. -/
def callV (fv : Value) (args : List Value) : Sem Next := do
  let d ← Deferred.ofValue fv args.toArray
  invoke d.target d.args

/-- The contract of a function value. -/
def VSpec (P : Program) (fv : Value) (args : List Value) (pre : List HProp) (Y : Type) (φ : Y → Prop) (ret : Y → Value) (post : Y → List HProp) : Prop :=
  ∀ (w0 w : World) (R : List HProp), Sats w0 w (pre ++ R) → Runs P (callV fv args) w fun v w' => ∃ y, φ y ∧ v = ret y ∧ Sats w0 w' (post y ++ R)

theorem VSpec.conseq {P : Program} {fv : Value} {args : List Value} {pre pre' : List HProp} {Y Y' : Type} {φ : Y → Prop} {φ' : Y' → Prop} {ret : Y → Value} {ret' : Y' → Value} {post : Y → List HProp} {post' : Y' → List HProp}
    (s : VSpec P fv args pre Y φ ret post) (hp : ∀ R h, SatL (pre' ++ R) h → SatL (pre ++ R) h) (hq : ∀ y, φ y → ∃ y', φ' y' ∧ ret' y' = ret y ∧ ∀ R h, SatL (post y ++ R) h → SatL (post' y' ++ R) h) : VSpec P fv args pre' Y' φ' ret' post' := by
  intro w0 w R hs
  refine (s w0 w R (hs.map (hp R))).mono ?_
  rintro v w' ⟨y, hy, rfl, hs'⟩
  obtain ⟨y', hy', hr, hq'⟩ := hq y hy
  exact ⟨y', hy', by rw [hr], hs'.map (hq' R)⟩

/-- A closure: the function, called with what was captured behind the arguments. -/
theorem vspec_func {P : Program} {f : FuncId} [K : FnI P f] {args cap : List Value} {pre : List HProp} {Y : Type} {φ : Y → Prop} {ret : Y → Value} {post : Y → List HProp}
    (s : FSpec P f (args ++ cap) pre Y φ ret post) : VSpec P (.func (.func f) #[] cap.toArray) args pre Y φ ret post := by
  intro w0 w R hs
  unfold Runs callV
  have e : args.toArray ++ cap.toArray = (args ++ cap).toArray := by simp
  simp only [Deferred.ofValue, invoke, Sem.run_bind, Sem.run_pure, Result.andThen_ok, Array.empty_append, e, K.call]
  refine (s w0 w R hs).mono ?_
  rintro e w' ⟨y, hy, rfl, hs'⟩
  exact ⟨y, hy, rfl, hs'⟩

section
variable {X : Cx} {ops : Array Oper} {nb : List Nat} {N : Act → World → Prop} {i : Nat} {os : List Oper} {Ls : List HProp} {ds : List Deferred} {ρ : Regs} {L : List HProp} {ty : TypeId} {d : Nat}

theorem e_callv {x : Operand} {fv : Value} {args : Array Operand} {at_ : Array TypeId} {vs : List Value} {d : Option Nat} {pre R : List HProp} {Y : Type} {φ : Y → Prop} {ret : Y → Value} {post : Y → List HProp}
    (hx : ev ρ x = fv) (ha : EvA ρ args.toList vs) (hs : VSpec X.P fv vs pre Y φ ret post) (ht : Take L pre R) :
    Eff X d (.call { callee := .value x, args := args, argTypes := at_ }) ty ρ L Y φ ret (fun y => post y ++ R) := by
  have ha' := ha.map
  subst ha' hx
  refine ⟨(fun _ e => by cases e), fun pos after gd => ⟨rfl, fun w hw => ?_⟩⟩
  have e : (args.map (ev ρ)) = (args.toList.map (ev ρ)).toArray := by apply Array.ext'; simp
  rw [opVal_runs]
  have he : execOp (ev ρ) ⟨d, .call { callee := .value x, args := args, argTypes := at_ }, ty, pos, after, gd⟩ = callV (ev ρ x) (args.toList.map (ev ρ)) := by
    simp only [execOp, resolve, callV, e]
  rw [he]
  exact hs X.w0 w R (hw.take ht)

theorem s_callv {x : Operand} {fv : Value} {args : Array Operand} {at_ : Array TypeId} {vs : List Value} {pre R : List HProp} {Y : Type} {φ : Y → Prop} {ret : Y → Value} {post : Y → List HProp}
    (hx : ev ρ x = fv) (ha : EvA ρ args.toList vs) (hs : VSpec X.P fv vs pre Y φ ret post) (ht : Take L pre R) (hd : Nat.blt d X.nt = true) (hb : nb.contains i = false)
    (h : ∀ y, φ y → OpsL X ops nb N (i + 1) os (post y ++ R) ds (upd ρ d (ret y)) (post y ++ R)) : Op1 X ops nb N i (some d) (.call { callee := .value x, args := args, argTypes := at_ }) ty os Ls ds ρ L :=
  op_eff (e_callv hx ha hs ht) (fun _ e => by cases e; exact hd) hb h
theorem s_callv_none {x : Operand} {fv : Value} {args : Array Operand} {at_ : Array TypeId} {vs : List Value} {pre R : List HProp} {Y : Type} {φ : Y → Prop} {ret : Y → Value} {post : Y → List HProp}
    (hx : ev ρ x = fv) (ha : EvA ρ args.toList vs) (hs : VSpec X.P fv vs pre Y φ ret post) (ht : Take L pre R) (hb : nb.contains i = false)
    (h : ∀ y, φ y → OpsL X ops nb N (i + 1) os (post y ++ R) ds ρ (post y ++ R)) : Op1 X ops nb N i none (.call { callee := .value x, args := args, argTypes := at_ }) ty os Ls ds ρ L :=
  op_eff (e_callv hx ha hs ht) (fun _ e => by cases e) hb h
end

/-! ### A range over a function -/
/-- The record of such a loop. -/
def loopP (nt : Nat) (ρ : Regs) (params : Array Tmp) (assign body : Code) (dk l : Nat) (st : LoopState) (pend : Option Code) : HProp :=
  fun h => ∃ fn tmps, h l = some (.loop { state := st, pending := pend, fn := fn, tmps := tmps, params := params, assign := assign, body := body, defers := dk }) ∧ tmps.size = nt ∧ ∀ t, tmps.getD t undef = ρ t

section loops
variable {w0 w : World} {L : List HProp} {nt : Nat} {ρ : Regs} {params : Array Tmp} {assign body : Code} {dk l : Nat} {st : LoopState} {pend : Option Code} {P : Program}

theorem loopP.get (s : Sats w0 w (loopP nt ρ params assign body dk l st pend :: L)) : ∃ fn tmps, w.heap[l]? = some (.loop { state := st, pending := pend, fn := fn, tmps := tmps, params := params, assign := assign, body := body, defers := dk }) ∧ tmps.size = nt ∧ (∀ t, tmps.getD t undef = ρ t) ∧
    ∀ st' pend', Sats w0 { w with heap := w.heap.setIfInBounds l (.loop { state := st', pending := pend', fn := fn, tmps := tmps, params := params, assign := assign, body := body, defers := dk }) } (loopP nt ρ params assign body dk l st' pend' :: L) := by
  obtain ⟨h1, h2, ha, l1, l2, ⟨fn, tmps, e1, e2, e3⟩, hL⟩ := s.heap
  have hw : w.heap[l]? = some (.loop { state := st, pending := pend, fn := fn, tmps := tmps, params := params, assign := assign, body := body, defers := dk }) := l1 _ _ e1
  refine ⟨fn, tmps, hw, e2, e3, fun st' pend' => ?_⟩
  have s' : Sats w0 w (pts l (.loop { state := st, pending := pend, fn := fn, tmps := tmps, params := params, assign := assign, body := body, defers := dk }) :: L) :=
    ⟨s.os, s.tape, s.output, s.size, ⟨h1, h2, ha, l1, l2, e1, hL⟩⟩
  refine (s'.setObj (.loop { state := st', pending := pend', fn := fn, tmps := tmps, params := params, assign := assign, body := body, defers := dk })).map fun _ hh => hh.headMono fun _ hp => ?_
  exact ⟨fn, tmps, hp, e2, e3⟩

theorem run_getObj {b : Nat} {o : Obj} (h : w.heap[b]? = some o) (hc : ∀ c t f, o ≠ .cells c t f) : (getObj b).run P w = .ok o w := by
  unfold getObj Sem.run
  rw [h]
  cases o <;> first | rfl | exact absurd rfl (hc _ _ _)
theorem run_setObj {b : Nat} {o o' : Obj} (h : w.heap[b]? = some o) (hc : ∀ c t f, o ≠ .cells c t f) : (setObj b o').run P w = .ok () { w with heap := w.heap.setIfInBounds b o' } := by
  unfold setObj Sem.run
  rw [h]
  cases o <;> first | rfl | exact absurd rfl (hc _ _ _)

theorem run_getLoop {r : Loop} (h : w.heap[l]? = some (.loop r)) : (Instr.getLoop l).run P w = .ok r w := by
  unfold Instr.getLoop
  rw [Sem.run_bind, run_getObj h (fun _ _ _ e => by cases e), Result.andThen_ok]
  rfl
end loops

/-- The temporaries of a round: the loop's, and what yield was handed. -/
def updMany (ρ : Regs) : List (Nat × Value) → Regs
  | [] => ρ
  | (t, v) :: l => updMany (upd ρ t v) l

theorem fold_params {nt : Nat} : ∀ (ps : List (Nat × Value)) (tmps : Array Value) (ρ : Regs), tmps.size = nt → (∀ t, tmps.getD t undef = ρ t) → (∀ x ∈ ps, x.1 < nt) →
    Agr nt (updMany ρ ps) [] { tmps := ps.foldl (fun tmps x => tmps.setIfInBounds x.1 x.2) tmps, defers := [] }
  | [], tmps, ρ, h1, h2, _ => ⟨h1, h2, rfl⟩
  | (t, v) :: ps, tmps, ρ, h1, h2, h3 => by
    have ha : Agr nt ρ [] { tmps := tmps, defers := [] } := ⟨h1, h2, rfl⟩
    have hb := ha.put (h3 (t, v) (List.mem_cons_self ..)) v
    exact fold_params ps _ _ hb.size hb.get (fun x hx => h3 x (List.mem_cons_of_mem _ hx))

/-- What is asked at a round's end: 'pend y': the jump that it leaves behind, if any. -/
def FinR (X : Cx) (l : Nat) (nt : Nat) (ρ : Regs) (params : Array Tmp) (assign body : Code) (dk : Nat) (Y : Type) (φ : Y → Prop) (pend : Y → Option Code) (post : Y → List HProp) (R : List HProp) : Exit → Act → World → Prop :=
  roundPost X.P l fun e w' => ∃ y, φ y ∧ e = .returned (.bool (pend y).isNone) ∧ Sats X.w0 w' (loopP nt ρ params assign body dk l (if (pend y).isNone then .ready else .done) (pend y) :: post y ++ R)

/-- Behind the assignments of a round: its body. -/
def BodyR (X : Cx) (l : Nat) (nt : Nat) (ρ : Regs) (params : Array Tmp) (assign body : Code) (dk : Nat) (Y : Type) (φ : Y → Prop) (pend : Y → Option Code) (post : Y → List HProp) (R : List HProp) : Exit → Act → World → Prop :=
  Exit.then (fun a₁ w₁ => ∃ w₂, (Instr.beginRound l).run X.P w₁ = .ok () w₂ ∧ body.wpIn (Fw (some l)) 0 X.P (FinR X l nt ρ params assign body dk Y φ pend post R) a₁ w₂) (fun _ _ _ => False)

theorem yield_spec {P : Program} {nt : Nat} {ρ : Regs} {params : Array Tmp} {assign body : Code} {dk l : Nat} {args : List Value} {pre : List HProp} {Y : Type} {φ : Y → Prop} {pend : Y → Option Code} {post : Y → List HProp} (cv : List TypeId)
    (hlen : args.length = params.size) (hps : params.toList.all (Nat.blt · nt) = true)
    (h : ∀ w0 R, Ok ⟨P, some l, nt, w0, cv⟩ assign [] (updMany ρ (params.toList.zip args)) (loopP nt ρ params assign body dk l .ready none :: pre ++ R) (BodyR ⟨P, some l, nt, w0, cv⟩ l nt ρ params assign body dk Y φ pend post R)) :
    VSpec P (.func (.yield l) #[] #[]) args (loopP nt ρ params assign body dk l .ready none :: pre) Y φ (fun y => .bool (pend y).isNone) (fun y => loopP nt ρ params assign body dk l (if (pend y).isNone then .ready else .done) (pend y) :: post y) := by
  intro w0 w R hs
  obtain ⟨fn, tmps, hw, h1, h2, _⟩ := loopP.get hs
  have hrun : (callV (.func (.yield l) #[] #[]) args).run P w = .ok (.round l fn ((params.zip args.toArray).foldl (fun tmps (t, a) => tmps.setIfInBounds t a) tmps) assign body) w := by
    simp only [callV, Deferred.ofValue, invoke, Instr.yield, Sem.run_bind, Sem.run_pure, Result.andThen_ok, Array.empty_append, run_getLoop hw]
    rw [if_neg (by simp [hlen])]
    rfl
  unfold Runs
  rw [hrun]
  refine RoundIn.mono (R := fun e w' => ∃ y, φ y ∧ e = .returned (.bool (pend y).isNone) ∧ Sats w0 w' (loopP nt ρ params assign body dk l (if (pend y).isNone then .ready else .done) (pend y) :: post y ++ R)) ?_ ?_
  · refine roundIn_of_wpIn trivial ?_
    have ha := fold_params (nt := nt) (params.toList.zip args) tmps ρ h1 h2 (by
      intro x hx
      have := List.all_eq_true.1 hps x.1 (List.of_mem_zip hx).1
      simpa using this)
    have e : (params.zip args.toArray).foldl (fun tmps (t, a) => tmps.setIfInBounds t a) tmps = (params.toList.zip args).foldl (fun tmps x => tmps.setIfInBounds x.1 x.2) tmps := by
      rw [← Array.foldl_toList]
      simp [Array.toList_zip]
    rw [e]
    exact (unfoldOk (h w0 R)) _ w ha hs
  · rintro e w' ⟨y, hy, rfl, hs'⟩
    exact ⟨y, hy, rfl, hs'⟩

section rounds
variable {X : Cx} {l nt dk : Nat} {ρ ρ' : Regs} {params : Array Tmp} {assign body : Code} {Y : Type} {φ : Y → Prop} {pend : Y → Option Code} {post : Y → List HProp} {R L L' : List HProp} {ds : List Deferred}

/-- The assignments are made: the body. -/
theorem cont_round (hr : X.r = some l) (ht : Take L [loopP nt ρ params assign body dk l .ready none] L') (h : Ok X body ds ρ' (loopP nt ρ params assign body dk l .busy none :: L') (FinR X l nt ρ params assign body dk Y φ pend post R)) :
    Cont X (BodyR X l nt ρ params assign body dk Y φ pend post R) .normal ds ρ' L := by
  refine foldCont fun a w ha hs => ?_
  obtain ⟨fn, tmps, hw, h1, h2, h3⟩ := loopP.get (hs.take ht)
  have hb := unfoldOk h _ _ ha (h3 .busy none)
  rw [hr] at hb
  exact ⟨_, run_beginRound hw rfl, hb⟩

theorem endRound_of {w : World} (y : Y) (hy : φ y) (hs : Sats X.w0 w (loopP nt ρ params assign body dk l .busy none :: L')) (hp : ∀ h, SatL L' h → SatL (post y ++ R) h) :
    ∃ v w', (Instr.endRound l (pend y)).run X.P w = .ok v w' ∧ ∃ y, φ y ∧ (Ending.returned v = .returned (.bool (pend y).isNone)) ∧ Sats X.w0 w' (loopP nt ρ params assign body dk l (if (pend y).isNone then .ready else .done) (pend y) :: post y ++ R) := by
  obtain ⟨fn, tmps, hw, h1, h2, h3⟩ := loopP.get hs
  exact ⟨_, _, run_endRound (pend y) hw, y, hy, rfl, (h3 _ _).map fun _ k => k.consMono hp⟩

theorem cont_round_end (y : Y) (ht : Take L [loopP nt ρ params assign body dk l .busy none] L') (hn : pend y = none) (hp : ∀ h, SatL L' h → SatL (post y ++ R) h) (hy : φ y) :
    Cont X (FinR X l nt ρ params assign body dk Y φ pend post R) .normal ds ρ' L := by
  refine foldCont fun a w ha hs => ?_
  have := endRound_of (X := X) (pend := pend) y hy (hs.take ht) hp
  rw [hn] at this
  exact this
theorem cont_round_exit {id : Nat} (y : Y) (ht : Take L [loopP nt ρ params assign body dk l .busy none] L') (hn : pend y = some (.exit id)) (hp : ∀ h, SatL L' h → SatL (post y ++ R) h) (hy : φ y) :
    Cont X (FinR X l nt ρ params assign body dk Y φ pend post R) (.exit id) ds ρ' L := by
  refine foldCont fun a w ha hs => ?_
  have := endRound_of (X := X) (pend := pend) y hy (hs.take ht) hp
  rw [hn] at this
  exact this
theorem cont_round_ret (y : Y) (ht : Take L [loopP nt ρ params assign body dk l .busy none] L') (hn : pend y = some .ret) (hp : ∀ h, SatL L' h → SatL (post y ++ R) h) (hy : φ y) :
    Cont X (FinR X l nt ρ params assign body dk Y φ pend post R) .ret ds ρ' L := by
  refine foldCont fun a w ha hs => ?_
  have := endRound_of (X := X) (pend := pend) y hy (hs.take ht) hp
  rw [hn] at this
  exact this

/-- The statement 'for .. := range g { .. }', outermost. -/
theorem ok_rangeFunc {g : Operand} {Q : Exit → Act → World → Prop} {f : FuncId} [K : FnI X.P f] {cap : List Value} (hr : X.r = none) (hg : ev ρ g = .func (.func f) #[] cap.toArray)
    (h : ∀ dk l, ∃ (Z : Type) (ψ : Z → Prop) (ret : Z → Value) (pre R' : List HProp) (postz : Z → List HProp), FSpec X.P f (.func (.yield l) #[] #[] :: cap) pre Z ψ ret postz ∧
      (∀ h, SatL (loopP X.nt ρ params assign body dk l .ready none :: marked dk :: L) h → SatL (pre ++ R') h) ∧
      ∀ z, ψ z → ∃ st pe L', st ≠ .busy ∧ (∀ h, SatL (postz z ++ R') h → SatL (loopP X.nt ρ params assign body dk l st pe :: L') h) ∧
        match (generalizing := false) pe with
        | none => Cont X Q .normal (mark dk :: ds) ρ L'
        | some c => Ok X c (mark dk :: ds) ρ L' Q) : Ok X (.rangeFunc g params assign body) ds ρ L Q := by
  refine foldOk fun a w ha hs => ?_
  refine wpIn_rangeFunc fun fn _ => ?_
  obtain ⟨Z, ψ, ret, pre, R', postz, hspec, hpre, hz⟩ := h w.heap.size (w.heap.size + 1)
  have hround : (Fw X.r).round = none := by rw [hr]; rfl
  rw [hround]
  obtain ⟨W1, hW1⟩ : ∃ W1, ((w.alloc (.deferred (some []))).alloc (.loop { state := .ready, pending := none, fn, tmps := a.tmps, params := params, assign, body, defers := w.heap.size })) = W1 := ⟨_, rfl⟩
  refine ⟨w.heap.size + 1, [{ target := .collected w.heap.size, args := #[] }], W1, { target := .fn (.func f) cap.toArray, args := #[.func (.yield (w.heap.size + 1)) #[] #[]] }, W1, f, #[.func (.yield (w.heap.size + 1)) #[] #[]] ++ cap.toArray, W1, ?_, ?_, ?_, ?_, ?_, ?_⟩
  · rw [← hW1]; exact run_enterLoop_outer _ _ _ _ _
  · have he : a.eval g = .func (.func f) #[] cap.toArray := by rw [ha.eval]; exact hg
    simp only [resolve, he]
    simp [go_sem]
  · intro f' _; trivial
  · simp only [invoke]
    exact K.call _ _
  · intro h0; cases h0
  · have hs1 := (hs.alloc (.deferred (some []))).alloc (.loop { state := .ready, pending := none, fn, tmps := a.tmps, params := params, assign, body, defers := w.heap.size })
    have hsz : (w.alloc (.deferred (some []))).heap.size = w.heap.size + 1 := by simp
    rw [hsz, hW1] at hs1
    have hs2 : Sats X.w0 W1 (loopP X.nt ρ params assign body w.heap.size (w.heap.size + 1) .ready none :: marked w.heap.size :: L) :=
      hs1.map fun _ k => k.headMono fun _ hp => ⟨fn, a.tmps, hp, ha.size, ha.get⟩
    have hc := hspec X.w0 _ R' (hs2.map hpre)
    have e : (#[.func (.yield (w.heap.size + 1)) #[] #[]] ++ cap.toArray : Array Value) = (Value.func (.yield (w.heap.size + 1)) #[] #[] :: cap).toArray := by simp
    rw [e]
    have hc' := (callsIn_Fw (r := X.r) (n := 0 - 1)).2 hc
    refine CallsIn.mono hc' ?_
    rintro en w' ⟨z, hz1, rfl, hs3⟩
    obtain ⟨st, pe, L', hst, hm, hk⟩ := hz z hz1
    obtain ⟨fn', tmps', hw, h1, h2, h3⟩ := loopP.get (hs3.map hm)
    refine ⟨pe, _, run_endLoop hw hst, ?_⟩
    have hs4 := (h3 .exhausted pe).map fun _ k => k.tail
    have ha' : Agr X.nt ρ (mark w.heap.size :: ds) { a with defers := [{ target := .collected w.heap.size, args := #[] }] ++ a.defers } := ⟨ha.size, ha.get, by simp [mark, ha.defers]⟩
    cases pe with
    | none => exact unfoldCont hk _ _ ha' hs4
    | some c => exact unfoldOk hk _ _ ha' hs4
end rounds
end Go.Fx
