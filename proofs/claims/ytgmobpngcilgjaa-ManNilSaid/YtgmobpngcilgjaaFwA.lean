/- THE FRAMEWORK, PART A: a region of operations that draws its order is walked ONCE, in the order of the text. Conditions: the static check 'regionOk' (by the kernel), and the walk 'OkT'. -/
import Derived.OrdersIn
import Derived.OrdersHeld
import Derived.RangeFuncIn
import Derived.Below
namespace Go.Fx
open Go

/-- The fence that lets all in, of a frame of a function (none) or of a round (some l). -/
def Fw (r : Option Nat) : Fence := { fn := fun _ => True, depth := none, alive := false, round := r }

theorem Fw_room (r : Option Nat) (n : Nat) : (Fw r).room n := fun _ h => by simp [Fw] at h

theorem callsIn_Fw {r : Option Nat} {n : Nat} {P : Program} {f : FuncId} {args : Array Value} {w : World} {R : Ending → World → Prop} : CallsIn (Fw r) n P f args w R ↔ Calls P f args w R :=
  callsIn_wide (n := n)

variable {P : Program} {ops : Array Oper} {r : Option Nat}

/-- What an operation does when it is carried out: it ends with a value, no panic. -/
def OpVal (P : Program) (o : Oper) (e : Operand → Value) (w : World) (J : Value → World → Prop) : Prop :=
  match (execOp e o).run P w with
  | .ok (.value v) w' => J v w'
  | .ok .skip w' => J undef w'
  | .ok (.enter f args) w' => Calls P f args w' fun
      | .returned v, w'' => J v w''
      | _, _ => False
  | .ok (.row row args) w' => RowsIn (Fw none) 0 P row args w' J
  | .ok (.round l f tmps assign body) w' => RoundIn (Fw none) 0 P l f tmps assign body w' fun
      | .returned v, w'' => J v w''
      | _, _ => False
  | _ => False

theorem OpVal.mono {o : Oper} {e : Operand → Value} {w : World} {J J' : Value → World → Prop} (h : OpVal P o e w J) (hj : ∀ v w', J v w' → J' v w') : OpVal P o e w J' := by
  unfold OpVal at *
  split
  · rename_i hr; rw [hr] at h; exact hj _ _ h
  · rename_i hr; rw [hr] at h; exact hj _ _ h
  · rename_i hr; rw [hr] at h
    refine Calls.mono h fun e w'' he => ?_
    cases e <;> first | exact hj _ _ he | exact he
  · rename_i hr; rw [hr] at h; exact RowsIn.mono h fun _ _ he => hj _ _ he
  · rename_i hr; rw [hr] at h
    refine RoundIn.mono h fun e w'' he => ?_
    cases e <;> first | exact hj _ _ he | exact he
  · rename_i h1 h2 h3 h4 h5
    split at h <;> first | (rename_i hr; exact absurd hr (h1 _ _)) | (rename_i hr; exact absurd hr (h2 _)) | (rename_i hr; exact absurd hr (h3 _ _ _)) | (rename_i hr; exact absurd hr (h4 _ _ _)) | (rename_i hr; exact absurd hr (h5 _ _ _ _ _ _)) | exact h

theorem OpVal.outcome {o : Oper} {e : Operand → Value} {w : World} {J : Value → World → Prop} (h : OpVal P o e w J) : ∃ v w', J v w' := by
  unfold OpVal at h
  split at h
  · exact ⟨_, _, h⟩
  · exact ⟨_, _, h⟩
  · obtain ⟨e, w'', fr, hR, _⟩ := h []
    cases e with
    | returned v => exact ⟨v, w'', hR⟩
    | panicked c => exact hR.elim
    | outgrown => exact hR.elim
  · obtain ⟨v, w'', hR, _⟩ := h default [] (Fw_room _ _)
    exact ⟨v, w'', hR⟩
  · obtain ⟨e, w'', hR, _⟩ := h.2 default [] (Fw_room _ _)
    cases e with
    | returned v => exact ⟨v, w'', hR⟩
    | panicked c => exact hR.elim
    | outgrown => exact hR.elim
  · exact h.elim

theorem OpVal.congr {o : Oper} {e e' : Operand → Value} {w : World} {J : Value → World → Prop} (he : execOp e' o = execOp e o) (h : OpVal P o e w J) : OpVal P o e' w J := by
  unfold OpVal at *; rw [he]; exact h

/-- It is the calculus's own step. -/
theorem OpVal.wpOpIn {Q : Exit → Act → World → Prop} {i : Nat} {o : Oper} {K : Act → World → Prop} {a : Act} {w : World} (hi : ops[i]? = some o) (hd : ∀ c, o.op ≠ .defer c)
    (hw : Region.wanted o (yielded ops a.tmps) = true) (h : OpVal P o a.eval w (fun v w' => K (a.put o.dst v) w')) : wpOpIn (Fw r) 0 P ops Q i K a w := by
  unfold Go.wpOpIn
  simp only [hi, hw, if_true, Oper.wpIn]
  refine ⟨fun _ _ => trivial, ?_⟩
  rw [Oper.semAt_eq _ _ _ hd]
  unfold OpVal at h
  split at h
  · rename_i hr; rw [hr]; exact h
  · rename_i hr; rw [hr]; exact h
  · rename_i hr; rw [hr]
    refine ⟨fun h => by simp [Fw] at h, callsIn_Fw.2 (Calls.mono h fun e w'' he => ?_)⟩
    cases e <;> first | exact he | exact he.elim
  · rename_i hr; rw [hr]
    exact ⟨fun h => by simp [Fw] at h, h⟩
  · rename_i hr; rw [hr]
    refine ⟨fun h => by simp [Fw] at h, RoundIn.mono (F := Fw none) h fun e w'' he => ?_⟩
    cases e <;> first | exact he | exact he.elim
  · exact h.elim

/-! ### The walk in the order of the text -/

/-- A quiet operation: kind 0: in every world; kind 1: in every world of S; one that is passed over by its guard. -/
def Quiet (P : Program) (ops : Array Oper) (S : World → Prop) (k : Nat) (o : Oper) (v : Value) (a : Act) : Prop :=
  (Region.wanted o (yielded ops a.tmps) = true ∧ (∀ w, (k = 0 ∨ (k = 1 ∧ S w)) → (execOp a.eval o).run P w = .ok (.value v) w) ∧ k ≤ 1) ∨
  (Region.wanted o (yielded ops a.tmps) = false ∧ v = undef)

def OkT (P : Program) (ops : Array Oper) (kd : Nat → Nat) (nb : List Nat) (N : Act → World → Prop) : List Nat → (World → Prop) → Act → World → Prop
  | [], _, a, w => N a w
  | i :: R, S, a, w => ∃ o, ops[i]? = some o ∧ (∀ c, o.op ≠ .defer c) ∧
      ((kd i = 2 ∧ Region.wanted o (yielded ops a.tmps) = true ∧
          OpVal P o a.eval w (fun v w' => ∃ S' : World → Prop, (nb.contains i = false ∨ S' = S) ∧ S' w' ∧ OkT P ops kd nb N R S' (a.put o.dst v) w')) ∨
       (∃ v, Quiet P ops S (kd i) o v a ∧ OkT P ops kd nb N R S (a.put o.dst v) w))

variable {kd : Nat → Nat} {nb : List Nat} {N : Act → World → Prop}

theorem Quiet.run {S : World → Prop} {k : Nat} {o : Oper} {v : Value} {a : Act} {w : World} (h : Quiet P ops S k o v a) (hS : S w) (hw : Region.wanted o (yielded ops a.tmps) = true) :
    (execOp a.eval o).run P w = .ok (.value v) w := by
  rcases h with ⟨_, h, hk⟩ | ⟨h, _⟩
  · refine h w ?_
    rcases Nat.lt_or_ge k 1 with h1 | h1
    · exact .inl (by omega)
    · exact .inr ⟨by omega, hS⟩
  · rw [h] at hw; cases hw

theorem Quiet.same {S : World → Prop} {k : Nat} {o : Oper} {v v' : Value} {a : Act} {w : World} (h : Quiet P ops S k o v a) (h' : Quiet P ops S k o v' a) (hS : S w) : v = v' := by
  cases hw : Region.wanted o (yielded ops a.tmps) with
  | true =>
    have e1 := h.run hS hw
    have e2 := h'.run hS hw
    rw [e1] at e2
    injection e2 with e3
    injection e3
  | false =>
    rcases h with ⟨h1, _⟩ | ⟨_, h1⟩
    · rw [hw] at h1; cases h1
    · rcases h' with ⟨h2, _⟩ | ⟨_, h2⟩
      · rw [hw] at h2; cases h2
      · rw [h1, h2]

theorem Quiet.of_same {S S' : World → Prop} {k : Nat} {o : Oper} {v : Value} {a a' : Act} (h : Quiet P ops S k o v a) (hS : k = 1 → S' = S) (he : execOp a'.eval o = execOp a.eval o)
    (hw : Region.wanted o (yielded ops a'.tmps) = Region.wanted o (yielded ops a.tmps)) : Quiet P ops S' k o v a' := by
  unfold Quiet at *
  rw [he, hw]
  rcases h with ⟨h1, h2, h3⟩ | h
  · refine .inl ⟨h1, fun w hk => h2 w ?_, h3⟩
    rcases hk with h0 | ⟨h0, hs⟩
    · exact .inl h0
    · exact .inr ⟨h0, hS h0 ▸ hs⟩
  · exact .inr h

/-- Without a draw: the walk is the calculus's own. -/
theorem OkT.wpOpsIn {Q : Exit → Act → World → Prop} (hN : ∀ a w, N a w → Q .normal a w) : ∀ (R : List Nat) (S : World → Prop) (a : Act) (w : World), S w → OkT P ops kd nb N R S a w → wpOpsIn (Fw r) 0 P ops Q R a w
  | [], _, a, w, _, h => hN a w h
  | i :: R, S, a, w, hS, h => by
    obtain ⟨o, hi, hd, h⟩ := h
    rw [wpOpsIn_cons]
    rcases h with ⟨_, hw, h⟩ | ⟨v, hq, h⟩
    · exact OpVal.wpOpIn hi hd hw (h.mono fun v w' ⟨S', _, hS', h'⟩ => OkT.wpOpsIn hN R S' _ _ hS' h')
    · have h' := OkT.wpOpsIn hN R S _ _ hS h
      cases hw : Region.wanted o (yielded ops a.tmps) with
      | true =>
        refine OpVal.wpOpIn hi hd hw ?_
        unfold OpVal
        rw [hq.run hS hw]
        exact h'
      | false =>
        unfold Go.wpOpIn
        simp only [hi, hw, Bool.false_eq_true, if_false]
        rcases hq with ⟨h1, _⟩ | ⟨_, rfl⟩
        · rw [hw] at h1; cases h1
        · exact ⟨fun _ _ => trivial, h'⟩

/-- What serves in more worlds serves in fewer (where all that act stand apart from the loads). -/
theorem OkT.weaken : ∀ (R : List Nat) {S S' : World → Prop} {a : Act} {w : World}, (∀ w, S w → S' w) → OkT P ops kd [] N R S' a w → OkT P ops kd [] N R S a w
  | [], _, _, _, _, _, h => h
  | i :: R, S, S', a, w, hS, h => by
    obtain ⟨o, hi, hd, h⟩ := h
    refine ⟨o, hi, hd, ?_⟩
    rcases h with ⟨hk, hw, h⟩ | ⟨v, hq, h⟩
    · exact .inl ⟨hk, hw, h.mono fun v w' ⟨S'', hb, hS', h'⟩ => ⟨S'', .inl rfl, hS', h'⟩⟩
    · refine .inr ⟨v, ?_, OkT.weaken R hS h⟩
      rcases hq with ⟨h1, h2, h3⟩ | hq
      · exact .inl ⟨h1, fun w hk => h2 w (hk.imp id fun ⟨x, y⟩ => ⟨x, hS w y⟩), h3⟩
      · exact .inr hq

/-! ### Any order -/
def commPair (ops : Array Oper) (kd : Nat → Nat) (nb : List Nat) (j i : Nat) : Bool :=
  match ops[j]?, ops[i]? with
  | some oj, some oi => oj.apart ops oi && oi.apart ops oj &&
      (kd j == 0 || kd i == 0 || (kd j == 1 && kd i == 1) || (kd j == 1 && kd i == 2 && nb.contains i) || (kd j == 2 && kd i == 1 && nb.contains j))
  | _, _ => false

theorem commPair_spec {j i : Nat} {oj oi : Oper} (hj : ops[j]? = some oj) (hi : ops[i]? = some oi) (h : commPair ops kd nb j i = true) :
    oj.apart ops oi = true ∧ oi.apart ops oj = true ∧ (kd j = 0 ∨ kd i = 0 ∨ (kd j = 1 ∧ kd i = 1) ∨ (kd j = 1 ∧ kd i = 2 ∧ nb.contains i = true) ∨ (kd j = 2 ∧ kd i = 1 ∧ nb.contains j = true)) := by
  simp only [commPair, hj, hi, Bool.and_eq_true, Bool.or_eq_true, beq_iff_eq] at h
  obtain ⟨⟨h1, h2⟩, h3⟩ := h
  refine ⟨h1, h2, ?_⟩
  rcases h3 with (((h | h) | h) | h) | h
  · exact .inl h
  · exact .inr (.inl h)
  · exact .inr (.inr (.inl h))
  · exact .inr (.inr (.inr (.inl ⟨h.1.1, h.1.2, h.2⟩)))
  · exact .inr (.inr (.inr (.inr ⟨h.1.1, h.1.2, h.2⟩)))

/-- One that may come up is taken out of the middle of the walk. -/
theorem OkT.take {i : Nat} {rest : List Nat} (hsel : ∀ (j : Nat) (o : Oper) cs b, ops[j]? = some o → o.op ≠ .select cs b) : ∀ (l : List Nat) (S : World → Prop) (a : Act) (w : World), S w → (∀ j ∈ l, commPair ops kd nb j i = true) →
    OkT P ops kd nb N (l ++ i :: rest) S a w →
    ∃ oi, ops[i]? = some oi ∧ (∀ c, oi.op ≠ .defer c) ∧
      ((kd i = 2 ∧ Region.wanted oi (yielded ops a.tmps) = true ∧
          OpVal P oi a.eval w (fun v w' => ∃ S' : World → Prop, (nb.contains i = false ∨ S' = S) ∧ S' w' ∧ OkT P ops kd nb N (l ++ rest) S' (a.put oi.dst v) w')) ∨
       (∃ v, Quiet P ops S (kd i) oi v a ∧ OkT P ops kd nb N (l ++ rest) S (a.put oi.dst v) w))
  | [], _, _, _, _, _, h => h
  | j :: l, S, a, w, hS, hc, h => by
    obtain ⟨oj, hj, hdj, h⟩ := h
    have hcl : ∀ j ∈ l, commPair ops kd nb j i = true := fun k hk => hc k (List.mem_cons_of_mem _ hk)
    have hcj := hc j (List.mem_cons_self ..)
    rcases h with ⟨hkj, hwj, h⟩ | ⟨vj, hqj, h⟩
    · -- j acts: i is quiet
      have step : ∀ u w', (∃ S' : World → Prop, (nb.contains j = false ∨ S' = S) ∧ S' w' ∧ OkT P ops kd nb N (l ++ i :: rest) S' (a.put oj.dst u) w') →
          ∃ oi v, ops[i]? = some oi ∧ (∀ c, oi.op ≠ .defer c) ∧ Quiet P ops S (kd i) oi v a ∧
            ∃ S' : World → Prop, (nb.contains j = false ∨ S' = S) ∧ S' w' ∧ OkT P ops kd nb N (l ++ rest) S' ((a.put oi.dst v).put oj.dst u) w' := by
        rintro u w' ⟨S', hb, hS', h'⟩
        obtain ⟨oi, hi, hdi, h'⟩ := OkT.take hsel l S' _ _ hS' hcl h'
        obtain ⟨ha1, ha2, hk⟩ := commPair_spec hj hi hcj
        obtain ⟨x1, x2, x3⟩ := Oper.apart_spec ha1
        rcases h' with ⟨hki, _, _⟩ | ⟨v, hq, h'⟩
        · exfalso; rcases hk with h | h | h | h | h <;> omega
        · have hSS : kd i = 1 → S = S' := fun h1 => by
            rcases hb with hb | hb
            · rcases hk with h | h | h | h | h
              · omega
              · omega
              · omega
              · omega
              · rw [h.2.2] at hb; cases hb
            · exact hb.symm
          refine ⟨oi, v, hi, hdi, hq.of_same hSS (execOp_put oi (fun cs b => hsel i oi cs b hi) a oj.dst u x1).symm (wanted_put oi a oj.dst u x1).symm, S', hb, hS', ?_⟩
          rw [← Act.put_comm a u v x2]; exact h'
      obtain ⟨u0, w0, h0⟩ := h.outcome
      obtain ⟨oi, v, hi, hdi, hq, _⟩ := step u0 w0 h0
      obtain ⟨ha1, ha2, hk⟩ := commPair_spec hj hi hcj
      obtain ⟨y1, y2, y3⟩ := Oper.apart_spec ha2
      refine ⟨oi, hi, hdi, .inr ⟨v, hq, oj, hj, hdj, .inl ⟨hkj, ?_, ?_⟩⟩⟩
      · rw [wanted_put oj a oi.dst v y1]; exact hwj
      · refine OpVal.congr (execOp_put oj (fun cs b => hsel j oj cs b hj) a oi.dst v y1) (h.mono fun u w' hu => ?_)
        obtain ⟨oi', v', hi', _, hq', S', hb, hS', h'⟩ := step u w' hu
        rw [hi] at hi'; cases hi'
        have := hq.same hq' hS
        subst this
        exact ⟨S', hb, hS', h'⟩
    · obtain ⟨oi, hi, hdi, h'⟩ := OkT.take hsel l S _ _ hS hcl h
      obtain ⟨ha1, ha2, hk⟩ := commPair_spec hj hi hcj
      obtain ⟨x1, x2, x3⟩ := Oper.apart_spec ha1
      obtain ⟨y1, y2, y3⟩ := Oper.apart_spec ha2
      have ei : execOp (a.put oj.dst vj).eval oi = execOp a.eval oi := execOp_put oi (fun cs b => hsel i oi cs b hi) a oj.dst vj x1
      have wi := wanted_put oi a oj.dst vj x1
      have back : ∀ (S' : World → Prop) v w', (kd j = 1 → S' = S) → OkT P ops kd nb N (l ++ rest) S' ((a.put oj.dst vj).put oi.dst v) w' → OkT P ops kd nb N (j :: l ++ rest) S' (a.put oi.dst v) w' := fun S' v w' hSS h =>
        ⟨oj, hj, hdj, .inr ⟨vj, hqj.of_same hSS (execOp_put oj (fun cs b => hsel j oj cs b hj) a oi.dst v y1) (wanted_put oj a oi.dst v y1), by rw [Act.put_comm a v vj y2]; exact h⟩⟩
      refine ⟨oi, hi, hdi, ?_⟩
      rcases h' with ⟨hki, hwi, h'⟩ | ⟨v, hq, h'⟩
      · refine .inl ⟨hki, by rw [← wi]; exact hwi, OpVal.congr ei.symm (h'.mono ?_)⟩
        rintro v w' ⟨S', hb, hS', h''⟩
        refine ⟨S', hb, hS', back S' v w' (fun h1 => ?_) h''⟩
        rcases hb with hb | hb
        · rcases hk with h | h | h | h | h
          · omega
          · omega
          · omega
          · rw [h.2.2] at hb; cases hb
          · omega
        · exact hb
      · exact .inr ⟨v, hq.of_same (fun _ => rfl) ei.symm wi.symm, back S v w (fun _ => rfl) h'⟩

/-! ### The static check -/
def preds (ops : Array Oper) (i : Nat) : List Nat :=
  ((ops[i]?).map fun o => (o.after.toList.filter (Region.binds .any ·)).map (·.on)).getD []

def maskOf (T : Array Nat) (l : List Nat) : Nat := l.foldl (fun s m => s ||| 2 ^ m ||| T.getD m 0) 0

def regionOkT (ops : Array Oper) (kd : Nat → Nat) (nb : List Nat) (T : Array Nat) : Bool :=
  Region.noSelect ops && (List.range ops.size).all fun i =>
    (preds ops i).all (· < i) && T.getD i 0 == maskOf T (preds ops i) && (List.range i).all fun j => (T.getD i 0).testBit j || commPair ops kd nb j i

def regionOk (ops : Array Oper) (kd : Nat → Nat) (nb : List Nat) : Bool := regionOkT ops kd nb (Region.before ops)

theorem maskOf_spec (T : Array Nat) (j : Nat) : ∀ (l : List Nat) (s : Nat), (l.foldl (fun s m => s ||| 2 ^ m ||| T.getD m 0) s).testBit j = true → s.testBit j = true ∨ ∃ m ∈ l, m = j ∨ (T.getD m 0).testBit j = true
  | [], s, h => .inl h
  | m :: l, s, h => by
    rcases maskOf_spec T j l _ h with h | ⟨m', hm, h⟩
    · rw [Nat.testBit_or, Nat.testBit_or, Bool.or_eq_true, Bool.or_eq_true, Nat.testBit_two_pow] at h
      rcases h with (h | h) | h
      · exact .inl h
      · exact .inr ⟨m, List.mem_cons_self .., .inl (by simpa using h)⟩
      · exact .inr ⟨m, List.mem_cons_self .., .inr h⟩
    · exact .inr ⟨m', List.mem_cons_of_mem _ hm, h⟩

/-- Those that have not come up, in the order of the text. -/
def rem (ops : Array Oper) (listed : Array Bool) : List Nat := (List.range ops.size).filter fun i => !listed.getD i true

theorem ready_preds {listed : Array Bool} {i : Nat} : i ∈ Region.ready .any ops listed ↔ i < ops.size ∧ listed.getD i true = false ∧ ∀ m ∈ preds ops i, listed.getD m false = true := by
  simp only [Region.ready, List.mem_filter, List.mem_range, Bool.and_eq_true, Bool.not_eq_true']
  constructor
  · rintro ⟨h1, h2, h3⟩
    refine ⟨h1, h2, ?_⟩
    cases ho : ops[i]? with
    | none => rw [ho] at h3; simp at h3
    | some o =>
      rw [ho] at h3
      simp only [Option.map_some, Option.getD_some] at h3
      simp only [preds, ho, Option.map_some, Option.getD_some, List.mem_map, List.mem_filter]
      rintro m ⟨e, ⟨he, hb⟩, rfl⟩
      have := Array.all_eq_true_iff_forall_mem.1 h3 e (by simpa using he)
      simpa [hb] using this
  · rintro ⟨h1, h2, h3⟩
    refine ⟨h1, h2, ?_⟩
    cases ho : ops[i]? with
    | none => rw [Array.getElem?_eq_none_iff] at ho; omega
    | some o =>
      simp only [Option.map_some, Option.getD_some]
      refine Array.all_eq_true_iff_forall_mem.2 fun e he => ?_
      cases hb : Region.binds .any e with
      | false => simp
      | true =>
        have := h3 e.on (by
          simp only [preds, ho, Option.map_some, Option.getD_some, List.mem_map, List.mem_filter]
          exact ⟨e, ⟨by simpa using he, hb⟩, rfl⟩)
        simpa using this

theorem filter_split {α : Type} [DecidableEq α] (p : α → Bool) (x : α) : ∀ (l : List α), l.Nodup → x ∈ l → p x = true → ∃ l1 l2, l.filter p = l1 ++ x :: l2 ∧ l.filter (fun y => p y && !(y == x)) = l1 ++ l2 ∧ (∃ r1 r2, l = r1 ++ x :: r2 ∧ ∀ y ∈ l1, y ∈ r1 ∧ p y = true)
  | [], _, h, _ => by cases h
  | y :: l, hn, h, hp => by
    rw [List.nodup_cons] at hn
    by_cases hy : y = x
    · subst hy
      refine ⟨[], l.filter p, by simp [hp], ?_, [], l, rfl, by simp⟩
      simp only [List.filter_cons, hp, beq_self_eq_true, Bool.not_true, Bool.and_false, Bool.false_eq_true, if_false, List.nil_append]
      apply List.filter_congr
      intro z hz
      have : z ≠ y := fun e => hn.1 (e ▸ hz)
      simp [this]
    · have hx : x ∈ l := by
        rcases List.mem_cons.1 h with h | h
        · exact absurd h.symm hy
        · exact h
      obtain ⟨l1, l2, e1, e2, r1, r2, e3, hm⟩ := filter_split p x l hn.2 hx hp
      cases hpy : p y with
      | true => exact ⟨y :: l1, l2, by simp [hpy, e1], by simp [hpy, hy, e2], y :: r1, r2, by simp [e3], fun z hz => by
          rcases List.mem_cons.1 hz with rfl | hz
          · exact ⟨List.mem_cons_self .., hpy⟩
          · exact ⟨List.mem_cons_of_mem _ (hm z hz).1, (hm z hz).2⟩⟩
      | false => exact ⟨l1, l2, by simp [hpy, e1], by simp [hpy, e2], y :: r1, r2, by simp [e3], fun z hz => ⟨List.mem_cons_of_mem _ (hm z hz).1, (hm z hz).2⟩⟩

theorem OkT.any_go {Q : Exit → Act → World → Prop} (hN : ∀ a w, N a w → Q .normal a w) {T : Array Nat} (hok : regionOkT ops kd nb T = true) :
    ∀ (fuel : Nat) (listed : Array Bool) (S : World → Prop) (a : Act) (w : World), listed.size = ops.size → (rem ops listed).length ≤ fuel →
      (∀ i, listed.getD i false = true → ∀ m ∈ preds ops i, listed.getD m false = true) → S w → OkT P ops kd nb N (rem ops listed) S a w → wpAnyIn (Fw r) 0 P .any ops Q fuel listed a w := by
  simp only [regionOkT, Bool.and_eq_true, List.all_eq_true, List.mem_range] at hok
  obtain ⟨hsel, hok⟩ := hok
  have hnone : ∀ listed : Array Bool, Region.ready .any ops listed = [] → (∀ i, listed.getD i false = true → ∀ m ∈ preds ops i, listed.getD m false = true) → listed.size = ops.size → rem ops listed = [] := by
    intro listed hr _ hsz
    cases hrem : rem ops listed with
    | nil => rfl
    | cons x xs =>
      exfalso
      -- the least one that has not come up is ready
      have hall : ∀ n i, i ≤ n → i < ops.size → listed.getD i true = true := by
        intro n
        induction n with
        | zero =>
          intro i h0 hi
          obtain rfl : i = 0 := by omega
          cases h : listed.getD 0 true with
          | true => rfl
          | false =>
            have : 0 ∈ Region.ready .any ops listed := ready_preds.2 ⟨hi, h, fun m hm => by
              have := (hok 0 hi).1.1
              have := this m hm
              simp at this⟩
            rw [hr] at this; cases this
        | succ n ih =>
          intro i h0 hi
          rcases Nat.lt_or_ge n i with hlt | hge
          · obtain rfl : i = n + 1 := by omega
            cases h : listed.getD (n + 1) true with
            | true => rfl
            | false =>
              have : n + 1 ∈ Region.ready .any ops listed := ready_preds.2 ⟨hi, h, fun m hm => by
                have h1 := (hok (n + 1) hi).1.1
                have h2 : m < n + 1 := by simpa using h1 m hm
                have h3 := ih m (by omega) (by omega)
                have hms : m < listed.size := by omega
                simp [hms] at h3 ⊢
                exact h3⟩
              rw [hr] at this; cases this
          · exact ih i hge hi
      have hx : x ∈ rem ops listed := by rw [hrem]; exact List.mem_cons_self ..
      simp only [rem, List.mem_filter, List.mem_range, Bool.not_eq_true'] at hx
      have := hall x x (Nat.le_refl _) hx.1
      rw [hx.2] at this; cases this
  intro fuel
  induction fuel with
  | zero =>
    intro listed S a w hsz hlen hdown hS h
    have hnil : rem ops listed = [] := List.length_eq_zero_iff.1 (by omega)
    rw [hnil] at h
    refine ⟨?_, hN _ _ h⟩
    cases hr : Region.ready .any ops listed with
    | nil => rfl
    | cons x xs =>
      have hx : x ∈ Region.ready .any ops listed := by rw [hr]; exact List.mem_cons_self ..
      obtain ⟨h1, h2, _⟩ := ready_preds.1 hx
      have : x ∈ rem ops listed := by simp only [rem, List.mem_filter, List.mem_range, Bool.not_eq_true']; exact ⟨h1, h2⟩
      rw [hnil] at this; cases this
  | succ fuel ih =>
    intro listed S a w hsz hlen hdown hS h
    refine ⟨fun hr => ?_, fun i hi => ?_⟩
    · rw [hnone listed hr hdown hsz] at h; exact hN _ _ h
    · obtain ⟨h1, h2, h3⟩ := ready_preds.1 hi
      have hmem : i ∈ List.range ops.size := List.mem_range.2 h1
      obtain ⟨l1, l2, e1, e2, r1, r2, e3, hm⟩ := filter_split (fun i => !listed.getD i true) i (List.range ops.size) List.nodup_range hmem (by simpa using h2)
      have hrem : rem ops listed = l1 ++ i :: l2 := e1
      have hlt : i < listed.size := by omega
      have hrem' : rem ops (listed.setIfInBounds i true) = l1 ++ l2 := by
        rw [← e2]
        unfold rem
        apply List.filter_congr
        intro y hy
        by_cases hyi : y = i
        · subst hyi; simp [hlt]
        · rw [getD_set_ne true (Ne.symm hyi)]; simp [hyi]
      -- who stands ahead of i in the text and has not come up commutes with it
      have hbefore : ∀ n j, j ≤ n → listed.getD j true = false → ∀ k, k ≤ n → (∀ m ∈ preds ops k, listed.getD m false = true) → k < ops.size → (T.getD k 0).testBit j = true → False := by
        intro n
        induction n with
        | zero =>
          intro j hj hlj k hk hpk hks hb
          obtain rfl : k = 0 := by omega
          have hT := (hok 0 hks).1.2
          rw [beq_iff_eq] at hT
          rw [hT] at hb
          rcases maskOf_spec T j _ 0 hb with hb | ⟨m, hm, _⟩
          · simp at hb
          · have := (hok 0 hks).1.1 m hm
            simp at this
        | succ n ihn =>
          intro j hj hlj k hk hpk hks hb
          have hT := (hok k hks).1.2
          rw [beq_iff_eq] at hT
          rw [hT] at hb
          rcases maskOf_spec T j _ 0 hb with hb | ⟨m, hm, hb⟩
          · simp at hb
          · have hmk : m < k := by simpa using (hok k hks).1.1 m hm
            have hlm := hpk m hm
            rcases hb with rfl | hb
            · have hms : m < listed.size := by omega
              simp [hms] at hlm hlj
              rw [hlm] at hlj; cases hlj
            · rcases Nat.lt_or_ge n j with hjn | hjn
              · -- j = n + 1 > m: no bit
                have hjs : ∀ n' k', k' ≤ n' → k' < ops.size → ∀ j', k' ≤ j' → (T.getD k' 0).testBit j' = true → False := by
                  intro n'
                  induction n' with
                  | zero =>
                    intro k' hk' hks' j' hj' hb'
                    obtain rfl : k' = 0 := by omega
                    have hT := (hok 0 hks').1.2
                    rw [beq_iff_eq] at hT
                    rw [hT] at hb'
                    rcases maskOf_spec T j' _ 0 hb' with hb' | ⟨m', hm', _⟩
                    · simp at hb'
                    · have := (hok 0 hks').1.1 m' hm'
                      simp at this
                  | succ n' ih' =>
                    intro k' hk' hks' j' hj' hb'
                    have hT := (hok k' hks').1.2
                    rw [beq_iff_eq] at hT
                    rw [hT] at hb'
                    rcases maskOf_spec T j' _ 0 hb' with hb' | ⟨m', hm', hb'⟩
                    · simp at hb'
                    · have hmk' : m' < k' := by simpa using (hok k' hks').1.1 m' hm'
                      rcases hb' with rfl | hb'
                      · omega
                      · exact ih' m' (by omega) (by omega) j' (by omega) hb'
                exact hjs m m (Nat.le_refl _) (by omega) j (by omega) hb
              · exact ihn j hjn hlj m (by omega) (hdown m hlm) (by omega) hb
      have hcomm : ∀ j ∈ l1, commPair ops kd nb j i = true := by
        intro j hj
        obtain ⟨hjr, hpj⟩ := hm j hj
        have hji : j < i := by
          have hlen : i = r1.length := by
            have := congrArg (fun l => l[r1.length]?) e3
            simp only [List.getElem?_append_right (Nat.le_refl _), Nat.sub_self, List.getElem?_cons_zero] at this
            rw [List.getElem?_eq_some_iff] at this
            obtain ⟨hl, he⟩ := this
            rw [List.getElem_range] at he
            exact he.symm
          obtain ⟨k, hk, he⟩ := List.getElem_of_mem hjr
          have := congrArg (fun l => l[k]?) e3
          simp only [List.getElem?_append_left hk, List.getElem?_eq_getElem hk, he] at this
          rw [List.getElem?_eq_some_iff] at this
          obtain ⟨hl, he'⟩ := this
          rw [List.getElem_range] at he'
          omega
        have h4 := (hok i h1).2 j hji
        rw [Bool.or_eq_true] at h4
        rcases h4 with h4 | h4
        · exact (hbefore (max i j) j (by omega) (by simpa using hpj) i (by omega) h3 h1 h4).elim
        · exact h4
      rw [hrem] at h hlen
      obtain ⟨oi, hio, hdi, h⟩ := OkT.take (Region.noSelect_spec hsel) l1 S a w hS hcomm h
      have hdown' : ∀ k, (listed.setIfInBounds i true).getD k false = true → ∀ m ∈ preds ops k, (listed.setIfInBounds i true).getD m false = true := by
        intro k hk m hm
        by_cases hki : k = i
        · subst hki; exact getD_set_true (h3 m hm)
        · rw [getD_set_ne false (Ne.symm hki)] at hk
          exact getD_set_true (hdown k hk m hm)
      have hnext : ∀ S' a' w', S' w' → OkT P ops kd nb N (l1 ++ l2) S' a' w' → wpAnyIn (Fw r) 0 P .any ops Q fuel (listed.setIfInBounds i true) a' w' := fun S' a' w' hS' h' =>
        ih _ S' a' w' (by simpa using hsz) (by rw [hrem']; simp at hlen ⊢; omega) hdown' hS' (by rw [hrem']; exact h')
      rcases h with ⟨_, hw, h⟩ | ⟨v, hq, h⟩
      · exact OpVal.wpOpIn hio hdi hw (h.mono fun v w' ⟨S', _, hS', h'⟩ => hnext S' _ _ hS' h')
      · cases hw : Region.wanted oi (yielded ops a.tmps) with
        | true =>
          refine OpVal.wpOpIn hio hdi hw ?_
          unfold OpVal
          rw [hq.run hS hw]
          exact hnext S _ _ hS h
        | false =>
          unfold Go.wpOpIn
          simp only [hio, hw, Bool.false_eq_true, if_false]
          rcases hq with ⟨h1, _⟩ | ⟨_, rfl⟩
          · rw [hw] at h1; cases h1
          · exact ⟨fun _ _ => trivial, hnext S _ _ hS h⟩

theorem OkT.wpAnyIn {Q : Exit → Act → World → Prop} (hN : ∀ a w, N a w → Q .normal a w) (hok : regionOk ops kd nb = true) {S : World → Prop} {a : Act} {w : World} (hS : S w)
    (h : OkT P ops kd nb N (List.range ops.size) S a w) : wpAnyIn (Fw r) 0 P .any ops Q ops.size (Array.replicate ops.size false) a w := by
  have hrem : rem ops (Array.replicate ops.size false) = List.range ops.size := by
    unfold rem
    rw [List.filter_eq_self]
    intro i hi
    have := List.mem_range.1 hi
    simp [this]
  refine OkT.any_go hN hok ops.size _ S a w (by simp) (by rw [hrem]; simp) (fun i hi m _ => ?_) hS (by rw [hrem]; exact h)
  exfalso
  rcases Nat.lt_or_ge i ops.size with h1 | h1
  · simp [h1] at hi
  · simp [Array.getD] at hi

end Go.Fx
