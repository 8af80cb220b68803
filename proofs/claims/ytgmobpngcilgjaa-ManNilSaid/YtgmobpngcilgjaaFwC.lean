/- THE FRAMEWORK, PART C: the judgements ('Ok', 'Cont', 'OpsL'), the rules of code, the contract of a function ('FSpec'). -/
import Derived.Test.YtgmobpngcilgjaaFwB
import Derived.RangeFuncLeaves
import Derived.RangeFuncRecord
namespace Go.Fx
open Go

structure Cx where
  P : Program
  r : Option Nat
  nt : Nat
  w0 : World
  cv : List TypeId

variable {X : Cx} {ds : List Deferred} {ρ : Regs} {L : List HProp} {Q : Exit → Act → World → Prop}

/-- Code, begun with these temporaries and pieces, ends as Q says. -/
def Ok (X : Cx) (c : Code) (ds : List Deferred) (ρ : Regs) (L : List HProp) (Q : Exit → Act → World → Prop) : Prop :=
  ∀ a w, Agr X.nt ρ ds a → Sats X.w0 w L → c.wpIn (Fw X.r) 0 X.P Q a w

/-- What is asked of an exit. -/
def Cont (X : Cx) (Q : Exit → Act → World → Prop) (e : Exit) (ds : List Deferred) (ρ : Regs) (L : List HProp) : Prop :=
  ∀ a w, Agr X.nt ρ ds a → Sats X.w0 w L → Q e a w

/-- What runs behind a piece of code. -/
def Then (X : Cx) (c : Code) (Q : Exit → Act → World → Prop) : Exit → Act → World → Prop := Exit.then (c.wpIn (Fw X.r) 0 X.P Q) Q

theorem ok_skip (h : Cont X Q .normal ds ρ L) : Ok X .skip ds ρ L Q := fun a w ha hs => wpIn_skip (h a w ha hs)
theorem ok_label {l : Nat} (h : Cont X Q .normal ds ρ L) : Ok X (.label l) ds ρ L Q := fun a w ha hs => wpIn_label (h a w ha hs)
theorem ok_ret (h : Cont X Q .ret ds ρ L) : Ok X .ret ds ρ L Q := fun a w ha hs => wpIn_ret (h a w ha hs)
theorem ok_exit {id : Nat} (h : Cont X Q (.exit id) ds ρ L) : Ok X (.exit id) ds ρ L Q := fun a w ha hs => wpIn_exit (h a w ha hs)
theorem ok_seq {x y : Code} (h : Ok X x ds ρ L (Then X y Q)) : Ok X (.seq x y) ds ρ L Q := fun a w ha hs => wpIn_seq (h a w ha hs)
theorem ok_block {id : Nat} {c : Code} (h : Ok X c ds ρ L (Exit.inBlock id Q)) : Ok X (.block id c) ds ρ L Q := fun a w ha hs => wpIn_block (h a w ha hs)
theorem ok_cond {c : Operand} {x y : Code} {t : Bool} (hc : ev ρ c = .bool t) (ht : t = true → Ok X x ds ρ L Q) (hf : t = false → Ok X y ds ρ L Q) : Ok X (.cond c x y) ds ρ L Q :=
  fun a w ha hs => wpIn_cond_split (by rw [ha.eval]; exact hc) (fun h => ht h a w ha hs) (fun h => hf h a w ha hs)
theorem ok_cond_true {c : Operand} {x y : Code} (hc : ev ρ c = .bool true) (h : Ok X x ds ρ L Q) : Ok X (.cond c x y) ds ρ L Q := ok_cond hc (fun _ => h) (by simp)
theorem ok_cond_false {c : Operand} {x y : Code} (hc : ev ρ c = .bool false) (h : Ok X y ds ρ L Q) : Ok X (.cond c x y) ds ρ L Q := ok_cond hc (by simp) (fun _ => h)

theorem cont_then {c : Code} (h : Ok X c ds ρ L Q) : Cont X (Then X c Q) .normal ds ρ L := h
theorem cont_then_ret {c : Code} (h : Cont X Q .ret ds ρ L) : Cont X (Then X c Q) .ret ds ρ L := h
theorem cont_then_exit {c : Code} {id : Nat} (h : Cont X Q (.exit id) ds ρ L) : Cont X (Then X c Q) (.exit id) ds ρ L := h
theorem cont_block {id : Nat} (h : Cont X Q .normal ds ρ L) : Cont X (Exit.inBlock id Q) .normal ds ρ L := h
theorem cont_block_ret {id : Nat} (h : Cont X Q .ret ds ρ L) : Cont X (Exit.inBlock id Q) .ret ds ρ L := h
theorem cont_block_here {id id' : Nat} (he : Nat.beq id' id = true) (h : Cont X Q .normal ds ρ L) : Cont X (Exit.inBlock id Q) (.exit id') ds ρ L := by
  have := Nat.eq_of_beq_eq_true he
  subst this
  intro a w ha hs
  simp only [Exit.inBlock, if_true]
  exact h a w ha hs
theorem cont_block_past {id id' : Nat} (he : Nat.beq id' id = false) (h : Cont X Q (.exit id') ds ρ L) : Cont X (Exit.inBlock id Q) (.exit id') ds ρ L := by
  intro a w ha hs
  have : id' ≠ id := fun e => by subst e; simp at he
  simp only [Exit.inBlock, if_neg this]
  exact h a w ha hs

/-- The pieces may be told otherwise. -/
theorem ok_map {c : Code} {L' : List HProp} (k : ∀ h, SatL L h → SatL L' h) (h : Ok X c ds ρ L' Q) : Ok X c ds ρ L Q := fun a w ha hs => h a w ha (hs.map k)
theorem cont_map {e : Exit} {L' : List HProp} (k : ∀ h, SatL L h → SatL L' h) (h : Cont X Q e ds ρ L') : Cont X Q e ds ρ L := fun a w ha hs => h a w ha (hs.map k)
/-- What the pieces imply. -/
theorem cont_learn {e : Exit} {φ : Prop} (k : ∀ h, SatL L h → φ) (h : φ → Cont X Q e ds ρ L) : Cont X Q e ds ρ L := fun a w ha hs => h (k _ hs.heap) a w ha hs
theorem ok_learn {c : Code} {φ : Prop} (k : ∀ h, SatL L h → φ) (h : φ → Ok X c ds ρ L Q) : Ok X c ds ρ L Q := fun a w ha hs => h (k _ hs.heap) a w ha hs

/-! ### A loop: 'St' says of which temporaries and pieces a round begins, by a ghost 'g' -/
theorem ok_loop {c : Code} {γ : Type} (I : γ → Regs → List HProp → Prop) (μ : γ → Nat) (g0 : γ) (h0 : I g0 ρ L)
    (round : ∀ g ρ L, I g ρ L → Ok X c ds ρ L (Exit.then (fun a w => ∃ g' ρ' L', I g' ρ' L' ∧ μ g' < μ g ∧ Agr X.nt ρ' ds a ∧ Sats X.w0 w L') Q)) : Ok X (.loop c) ds ρ L Q := by
  intro a w ha hs
  -- the measure stands in the ghost: a measure of the state is had by choice
  have key : ∀ n g ρ L a w, μ g = n → I g ρ L → Agr X.nt ρ ds a → Sats X.w0 w L → ∀ (b : Frame) (k : List Item) (cs : List Frame), b.roundOf = (Fw X.r).round →
      ∃ e a' w', Q e a' w' ∧ ArrivesIn (Machine.fenced X.P (Fw X.r)) X.P (lone (b.atR a (.code c :: .inLoop c :: k)) cs w) b k cs e a' w' := by
    intro n
    induction n using Nat.strongRecOn with
    | _ n ih =>
      intro g ρ L a w hn hI ha hs b k cs hro
      obtain ⟨e, a₁, w₁, hq, harr⟩ := round g ρ L hI a w ha hs b (.inLoop c :: k) cs hro trivial (Fw_room _ _)
      cases e with
      | normal =>
        obtain ⟨g', ρ', L', hI', hlt, ha', hs'⟩ := hq
        obtain ⟨e₂, a₂, w₂, hq₂, harr₂⟩ := ih (μ g') (hn ▸ hlt) g' ρ' L' a₁ w₁ rfl hI' ha' hs' b k cs hro
        refine ⟨e₂, a₂, w₂, hq₂, .of_steps (StepsIn.trans harr (.one ?_ stepR_inLoop)) harr₂⟩
        exact fenced_calm (fr := b.atR a₁ (.inLoop c :: k)) (F := Fw X.r) (n := 0) trivial (Fw_room _ _) rfl
      | exit id => exact ⟨_, a₁, w₁, hq, .pass (x := .inLoop c) rfl (fun _ _ => .inl (by simp)) harr⟩
      | goto l => exact ⟨_, a₁, w₁, hq, .pass (x := .inLoop c) rfl (fun _ _ => .inl (by simp)) harr⟩
      | ret => exact ⟨_, a₁, w₁, hq, .pass (x := .inLoop c) rfl (fun _ _ => .inl (by simp)) harr⟩
      | panic ch => exact ⟨_, a₁, w₁, hq, .pass (x := .inLoop c) rfl (fun _ _ => .inl (by simp)) harr⟩
      | outgrown => exact ⟨_, a₁, w₁, hq, .pass (x := .inLoop c) rfl (fun _ _ => .inl (by simp)) harr⟩
  intro b k cs hro hb hr
  obtain ⟨e, a', w', hq, harr⟩ := key _ g0 ρ L a w rfl h0 ha hs b k cs hro
  refine ⟨e, a', w', hq, .of_steps (.one ?_ stepR_loop) harr⟩
  exact fenced_calm (fr := b.atR a (.code (.loop c) :: k)) (F := Fw X.r) (n := 0) trivial (Fw_room _ _) rfl

/-- The back edge of a loop. -/
def Back (X : Cx) {γ : Type} (I : γ → Regs → List HProp → Prop) (μ : γ → Nat) (g : γ) (ds : List Deferred) (Q : Exit → Act → World → Prop) : Exit → Act → World → Prop :=
  Exit.then (fun a w => ∃ g' ρ' L', I g' ρ' L' ∧ μ g' < μ g ∧ Agr X.nt ρ' ds a ∧ Sats X.w0 w L') Q

theorem ok_loop' {c : Code} {γ : Type} (I : γ → Regs → List HProp → Prop) (μ : γ → Nat) (g0 : γ) (h0 : I g0 ρ L)
    (round : ∀ g ρ L, I g ρ L → Ok X c ds ρ L (Back X I μ g ds Q)) : Ok X (.loop c) ds ρ L Q := ok_loop I μ g0 h0 round

section
variable {γ : Type} {I : γ → Regs → List HProp → Prop} {μ : γ → Nat} {g : γ}
theorem cont_back (g' : γ) (hI : I g' ρ L) (hμ : μ g' < μ g) : Cont X (Back X I μ g ds Q) .normal ds ρ L := fun _ _ ha hs => ⟨g', ρ, L, hI, hμ, ha, hs⟩
theorem cont_back_ret (h : Cont X Q .ret ds ρ L) : Cont X (Back X I μ g ds Q) .ret ds ρ L := h
theorem cont_back_exit {id : Nat} (h : Cont X Q (.exit id) ds ρ L) : Cont X (Back X I μ g ds Q) (.exit id) ds ρ L := h
end

/-! ### Regions -/
def qk (cv : List TypeId) (o : Oper) : Nat :=
  match o.op with
  | .move _ | .assign _ | .pick .. | .build .. | .unOp .. | .fieldAddr .. | .field .. | .indexAddr .. | .index .. | .extract .. | .makeFunc .. | .makeInterface .. | .slice .. | .nilCheck .. => 0
  | .binOp op .. => match op with | .eql | .neq => 1 | _ => 0
  | .load .. | .lookup .. | .entry .. => 1
  | .convert s d _ => if cv.contains s || cv.contains d then 2 else 0
  | .call { callee := .builtin b, .. } => match b with | .len => 1 | .min | .max => 0 | _ => 2
  | _ => 2

def kdf (cv : List TypeId) (ops : Array Oper) (i : Nat) : Nat := match ops[i]? with | some o => qk cv o | none => 0

variable {ops : Array Oper} {nb : List Nat} {N : Act → World → Prop} {i : Nat} {os : List Oper} {Ls : List HProp}

/-- The operations that are left of a region, from number i on. -/
def OpsL (X : Cx) (ops : Array Oper) (nb : List Nat) (N : Act → World → Prop) (i : Nat) (os : List Oper) (Ls : List HProp) (ds : List Deferred) (ρ : Regs) (L : List HProp) : Prop :=
  ops.toList.drop i = os → ∀ a w, Agr X.nt ρ ds a → Sats X.w0 w L → OkT X.P ops (kdf X.cv ops) nb N (List.range' i os.length) (fun w => Sats X.w0 w Ls) a w

theorem ok_region {id : Nat} (h : OpsL X ops [] (Q .normal) 0 ops.toList L ds ρ L) : Ok X (.region id ops false) ds ρ L Q := fun a w ha hs =>
  wpIn_region (OkT.wpOpsIn (fun _ _ h => h) _ _ a w hs (by
    have := h rfl a w ha hs
    rw [List.range_eq_range']
    simpa using this))

/-- A region that draws its order. nb: the numbers of those that act and do not stand between the loads ahead of them and behind them; for these, Ls is what stays. -/
theorem ok_draw (nb : List Nat) (Ls : List HProp) {id : Nat} {cv : List TypeId} (hm : X.P.follows .mixedOrders = true) (hcv : X.cv = cv) (hok : regionOk ops (kdf cv ops) nb = true) (hsub : ∀ h, SatL L h → SatL Ls h)
    (h : OpsL X ops nb (Q .normal) 0 ops.toList Ls ds ρ L) : Ok X (.region id ops true) ds ρ L Q := fun a w ha hs =>
  wpIn_region_any hm (OkT.wpAnyIn (fun _ _ h => h) (hcv ▸ hok) (S := fun w => Sats X.w0 w Ls) (hs.drew.map hsub) (by
    have := h rfl a _ ha hs.drew
    rw [List.range_eq_range']
    simpa using this))

theorem opsL_nil (h : Cont X Q .normal ds ρ L) : OpsL X ops nb (Q .normal) i [] Ls ds ρ L := fun _ a w ha hs => h a w ha hs

/-- The pieces may be told otherwise. -/
theorem opsL_map {L' : List HProp} (k : ∀ h, SatL L h → SatL L' h) (h : OpsL X ops [] N i os L' ds ρ L') : OpsL X ops [] N i os L ds ρ L := fun hd a w ha hs =>
  OkT.weaken _ (fun _ hw => hw.map k) (h hd a w ha (hs.map k))

/-- One operation, its guard being settled. -/
def Op1 (X : Cx) (ops : Array Oper) (nb : List Nat) (N : Act → World → Prop) (i : Nat) (d : Option Nat) (op : Op) (ty : TypeId) (os : List Oper) (Ls : List HProp) (ds : List Deferred) (ρ : Regs) (L : List HProp) : Prop :=
  ∀ (pos : String) (after : Array Edge) (gd : Option (Nat × Bool)), ops[i]? = some ⟨d, op, ty, pos, after, gd⟩ → ops.toList.drop (i + 1) = os → ∀ a w, Agr X.nt ρ ds a → Sats X.w0 w L →
    Region.wanted ⟨d, op, ty, pos, after, gd⟩ (yielded ops a.tmps) = true → OkT X.P ops (kdf X.cv ops) nb N (i :: List.range' (i + 1) os.length) (fun w => Sats X.w0 w Ls) a w

theorem drop_cons {o : Oper} (h : ops.toList.drop i = o :: os) : ops[i]? = some o ∧ ops.toList.drop (i + 1) = os := by
  have h1 : (ops.toList.drop i)[0]? = some o := by rw [h]; rfl
  rw [List.getElem?_drop] at h1
  refine ⟨by simpa using h1, ?_⟩
  have : ops.toList.drop (i + 1) = (ops.toList.drop i).drop 1 := by rw [List.drop_drop]
  rw [this, h]; rfl

theorem ops_run {d : Option Nat} {op : Op} {ty : TypeId} {pos : String} {after : Array Edge} (h : Op1 X ops nb N i d op ty os Ls ds ρ L) :
    OpsL X ops nb N i (⟨d, op, ty, pos, after, none⟩ :: os) Ls ds ρ L := fun hd a w ha hs => by
  obtain ⟨h1, h2⟩ := drop_cons hd
  have := h pos after none h1 h2 a w ha hs rfl
  simpa [List.range'_succ] using this

theorem yielded_eq {nt : Nat} {a : Act} (ha : Agr nt ρ ds a) {g : Nat} {t : Nat} {b : Bool} (hg : (ops.toList[g]?).bind (·.dst) = some t) (ht : t < nt) (hb : ρ t = .bool b) : yielded ops a.tmps g = some b := by
  have h1 : (ops[g]?).bind (·.dst) = some t := by simpa using hg
  have h2 : a.tmps[t]? = some (.bool b) := by
    have := ha.get t
    rw [hb, Array.getD_eq_getD_getElem?, Array.getElem?_eq_getElem (by rw [ha.size]; exact ht), Option.getD_some] at this
    rw [Array.getElem?_eq_getElem (by rw [ha.size]; exact ht), this]
  simp [yielded, h1, h2]

theorem ops_guard_run {d : Option Nat} {op : Op} {ty : TypeId} {pos : String} {after : Array Edge} {g t : Nat} {b : Bool} (hg : (ops.toList[g]?).bind (·.dst) = some t) (ht : Nat.blt t X.nt = true) (hb : ρ t = .bool b)
    (h : Op1 X ops nb N i d op ty os Ls ds ρ L) : OpsL X ops nb N i (⟨d, op, ty, pos, after, some (g, b)⟩ :: os) Ls ds ρ L := fun hd a w ha hs => by
  obtain ⟨h1, h2⟩ := drop_cons hd
  have hy := yielded_eq ha hg (by simpa using ht) hb
  have := h pos after (some (g, b)) h1 h2 a w ha hs (by simp [Region.wanted, hy])
  simpa [List.range'_succ] using this

theorem ops_guard_split {d : Option Nat} {op : Op} {ty : TypeId} {pos : String} {after : Array Edge} {g t : Nat} {b b' : Bool} (hg : (ops.toList[g]?).bind (·.dst) = some t) (ht : Nat.blt t X.nt = true) (hb : ρ t = .bool b')
    (hnd : ∀ c, op ≠ .defer c) (hd : ∀ x, d = some x → Nat.blt x X.nt = true)
    (h1 : b' = b → Op1 X ops nb N i d op ty os Ls ds ρ L) (h2 : b' = (!b) → OpsL X ops nb N (i + 1) os Ls ds (updO ρ d undef) L) : OpsL X ops nb N i (⟨d, op, ty, pos, after, some (g, b)⟩ :: os) Ls ds ρ L := by
  by_cases hbb : b' = b
  · exact ops_guard_run hg ht (hbb ▸ hb) (h1 hbb)
  · have hn : (b' == b) = false := by simpa using hbb
    intro hdr a w ha hs
    obtain ⟨h1', h2'⟩ := drop_cons hdr
    have hy := yielded_eq ha hg (by simpa using ht) hb
    have := h2 (by cases b <;> cases b' <;> simp_all) h2' _ w (ha.putO (fun x hx => by simpa using hd x hx) undef) hs
    simp only [List.length_cons, List.range'_succ]
    exact ⟨_, h1', hnd, .inr ⟨undef, .inr ⟨by simp [Region.wanted, hy, hbb], rfl⟩, this⟩⟩

theorem ops_guard_skip {d : Option Nat} {op : Op} {ty : TypeId} {pos : String} {after : Array Edge} {g t : Nat} {b b' : Bool} (hg : (ops.toList[g]?).bind (·.dst) = some t) (ht : Nat.blt t X.nt = true) (hb : ρ t = .bool b')
    (hne : (b' == b) = false) (hnd : ∀ c, op ≠ .defer c) (hd : ∀ x, d = some x → Nat.blt x X.nt = true)
    (h : OpsL X ops nb N (i + 1) os Ls ds (updO ρ d undef) L) : OpsL X ops nb N i (⟨d, op, ty, pos, after, some (g, b)⟩ :: os) Ls ds ρ L := fun hdr a w ha hs => by
  obtain ⟨h1, h2⟩ := drop_cons hdr
  have hy := yielded_eq ha hg (by simpa using ht) hb
  have := h h2 _ w (ha.putO (fun x hx => by simpa using hd x hx) undef) hs
  simp only [List.length_cons, List.range'_succ]
  refine ⟨_, h1, hnd, .inr ⟨undef, .inr ⟨?_, rfl⟩, this⟩⟩
  have : b' ≠ b := by simpa using hne
  simp [Region.wanted, hy, this]

/-- A guard that was itself passed over. -/
theorem ops_guard_undef {d : Option Nat} {op : Op} {ty : TypeId} {pos : String} {after : Array Edge} {g t : Nat} {b : Bool} (hg : (ops.toList[g]?).bind (·.dst) = some t) (ht : Nat.blt t X.nt = true) (hb : ρ t = undef)
    (hnd : ∀ c, op ≠ .defer c) (hd : ∀ x, d = some x → Nat.blt x X.nt = true)
    (h : OpsL X ops nb N (i + 1) os Ls ds (updO ρ d undef) L) : OpsL X ops nb N i (⟨d, op, ty, pos, after, some (g, b)⟩ :: os) Ls ds ρ L := fun hdr a w ha hs => by
  obtain ⟨h1, h2⟩ := drop_cons hdr
  have hy : yielded ops a.tmps g = none := by
    have h1 : (ops[g]?).bind (·.dst) = some t := by simpa using hg
    have h2 : a.tmps[t]? = some undef := by
      have ht' : t < X.nt := by simpa using ht
      have := ha.get t
      rw [hb, Array.getD_eq_getD_getElem?, Array.getElem?_eq_getElem (by rw [ha.size]; exact ht'), Option.getD_some] at this
      rw [Array.getElem?_eq_getElem (by rw [ha.size]; exact ht'), this]
    simp [yielded, h1, h2, undef]
  have := h h2 _ w (ha.putO (fun x hx => by simpa using hd x hx) undef) hs
  simp only [List.length_cons, List.range'_succ]
  refine ⟨_, h1, hnd, .inr ⟨undef, .inr ⟨?_, rfl⟩, this⟩⟩
  simp [Region.wanted, hy]

/-- A quiet operation. -/
theorem op_quiet {d : Option Nat} {op : Op} {ty : TypeId} {v : Value} (hnd : ∀ c, op ≠ .defer c) (hk : ∀ pos after gd, qk X.cv ⟨d, op, ty, pos, after, gd⟩ ≤ 1) (hd : ∀ x, d = some x → Nat.blt x X.nt = true)
    (hrun : ∀ pos after gd w, (qk X.cv ⟨d, op, ty, pos, after, gd⟩ = 0 ∨ Sats X.w0 w Ls) → (execOp (ev ρ) ⟨d, op, ty, pos, after, gd⟩).run X.P w = .ok (.value v) w)
    (h : OpsL X ops nb N (i + 1) os Ls ds (updO ρ d v) L) : Op1 X ops nb N i d op ty os Ls ds ρ L := by
  intro pos after gd h1 h2 a w ha hs hw
  have hkd : kdf X.cv ops i = qk X.cv ⟨d, op, ty, pos, after, gd⟩ := by simp [kdf, h1]
  refine ⟨_, h1, hnd, .inr ⟨v, .inl ⟨hw, fun w' hk' => ?_, by rw [hkd]; exact hk _ _ _⟩, h h2 _ w (ha.putO (fun x hx => by simpa using hd x hx) v) hs⟩⟩
  rw [ha.eval]
  refine hrun _ _ _ _ ?_
  rw [hkd] at hk'
  exact hk'.imp id (·.2)

/-- Quiet in every world. -/
theorem op_pure {d : Option Nat} {op : Op} {ty : TypeId} {v : Value} (hnd : ∀ c, op ≠ .defer c) (hk : ∀ pos after gd, qk X.cv ⟨d, op, ty, pos, after, gd⟩ ≤ 1) (hd : ∀ x, d = some x → Nat.blt x X.nt = true)
    (hrun : ∀ pos after gd w, (execOp (ev ρ) ⟨d, op, ty, pos, after, gd⟩).run X.P w = .ok (.value v) w)
    (h : OpsL X ops nb N (i + 1) os Ls ds (updO ρ d v) L) : Op1 X ops nb N i d op ty os Ls ds ρ L :=
  op_quiet hnd hk hd (fun pos after gd w _ => hrun pos after gd w) h

/-- What an operation that acts does: with a ghost. -/
def Eff (X : Cx) (d : Option Nat) (op : Op) (ty : TypeId) (ρ : Regs) (L : List HProp) (Y : Type) (φ : Y → Prop) (v : Y → Value) (L' : Y → List HProp) : Prop :=
  (∀ c, op ≠ .defer c) ∧ ∀ pos after gd, qk X.cv ⟨d, op, ty, pos, after, gd⟩ = 2 ∧ ∀ w, Sats X.w0 w L →
    OpVal X.P ⟨d, op, ty, pos, after, gd⟩ (ev ρ) w fun u w' => ∃ y, φ y ∧ u = v y ∧ Sats X.w0 w' (L' y)

section
variable {d : Option Nat} {op : Op} {ty : TypeId} {Y : Type} {φ : Y → Prop} {v : Y → Value} {L' : Y → List HProp}
theorem op_eff (he : Eff X d op ty ρ L Y φ v L') (hd : ∀ x, d = some x → Nat.blt x X.nt = true) (hb : nb.contains i = false)
    (h : ∀ y, φ y → OpsL X ops nb N (i + 1) os (L' y) ds (updO ρ d (v y)) (L' y)) : Op1 X ops nb N i d op ty os Ls ds ρ L := by
  intro pos after gd h1 h2 a w ha hs hw
  have hkd : kdf X.cv ops i = 2 := by simp [kdf, h1, (he.2 pos after gd).1]
  refine ⟨_, h1, he.1, .inl ⟨hkd, hw, ?_⟩⟩
  rw [ha.eval]
  refine ((he.2 pos after gd).2 w hs).mono fun u w' ⟨y, hy, hu, hs'⟩ => ?_
  subst hu
  exact ⟨_, .inl hb, hs', h y hy h2 _ w' (ha.putO (fun x hx => by simpa using hd x hx) _) hs'⟩

theorem op_eff_nb (he : Eff X d op ty ρ L Y φ v L') (hd : ∀ x, d = some x → Nat.blt x X.nt = true) (hk : ∀ y, φ y → ∀ h, SatL (L' y) h → SatL Ls h)
    (h : ∀ y, φ y → OpsL X ops nb N (i + 1) os Ls ds (updO ρ d (v y)) (L' y)) : Op1 X ops nb N i d op ty os Ls ds ρ L := by
  intro pos after gd h1 h2 a w ha hs hw
  have hkd : kdf X.cv ops i = 2 := by simp [kdf, h1, (he.2 pos after gd).1]
  refine ⟨_, h1, he.1, .inl ⟨hkd, hw, ?_⟩⟩
  rw [ha.eval]
  refine ((he.2 pos after gd).2 w hs).mono fun u w' ⟨y, hy, hu, hs'⟩ => ?_
  subst hu
  exact ⟨_, .inr rfl, hs'.map (hk y hy), h y hy h2 _ w' (ha.putO (fun x hx => by simpa using hd x hx) _) hs'⟩
end

/-! ### The contract of a function -/
/-- Called with these arguments where 'pre' holds, it returns 'ret y' for some y, and 'post y' holds; whatever else there is stays. -/
def FSpec (P : Program) (f : FuncId) (args : List Value) (pre : List HProp) (Y : Type) (φ : Y → Prop) (ret : Y → Value) (post : Y → List HProp) : Prop :=
  ∀ (w0 w : World) (R : List HProp), Sats w0 w (pre ++ R) → Calls P f args.toArray w fun e w' => ∃ y, φ y ∧ e = .returned (ret y) ∧ Sats w0 w' (post y ++ R)

/-- What is asked at a function's end. -/
def Fin (X : Cx) (fn : Func) (Y : Type) (φ : Y → Prop) (ret : Y → Value) (post : Y → List HProp) (R : List HProp) : Exit → Act → World → Prop :=
  bodyPostM (Fw none) 0 X.P fn fun e w' => ∃ y, φ y ∧ e = .returned (ret y) ∧ Sats X.w0 w' (post y ++ R)

theorem spec_intro {P : Program} {f : FuncId} {fn : Func} {c : Code} {args : List Value} {pre : List HProp} {Y : Type} {φ : Y → Prop} {ret : Y → Value} {post : Y → List HProp} (cv : List TypeId) (nt : Nat)
    (hf : P.funcs[f]? = some fn) (hb : fn.body = some c) (hn : fn.ntmps = nt) (hl : Nat.ble args.length nt = true)
    (h : ∀ w0 R, Ok ⟨P, none, nt, w0, cv⟩ c [] (regsOf args) (pre ++ R) (Fin ⟨P, none, nt, w0, cv⟩ fn Y φ ret post R)) : FSpec P f args pre Y φ ret post := by
  intro w0 w R hs
  subst hn
  refine (callsIn_Fw (r := none) (n := 0)).1 (callsIn_of_wp_marks hf hb trivial ?_)
  exact h w0 R _ w (Agr.start (by simpa using hl)) hs

/-- The results of a function, read off its temporaries and pieces. -/
def Res (P : Program) (w0 : World) (ρ : Regs) (L : List HProp) : List ResultVar → List Value → Prop
  | [], vs => vs = []
  | x :: xs, vs => ∃ v vs', vs = v :: vs' ∧ Res P w0 ρ L xs vs' ∧
      match x with
      | .tmp t => ρ t = v
      | .cell a t => ∃ p, ρ a = .pointer (some p) ∧ ∀ w, Sats w0 w L → (loadVar t p).run P w = .ok v w

def retOf (vs : List Value) : Value := match vs with | [v] => v | vs => .tuple vs.toArray

def resStep (tmps : Array Value) : ResultVar → Sem Value
  | .tmp t => pure (tmps.getD t undef)
  | .cell a t => do loadVar t (← asAddr (tmps.getD a undef))

theorem results_eq (fn : Func) (tmps : Array Value) : results fn tmps = (fn.results.mapM (resStep tmps)) >>= fun vs => pure (if h : vs.size = 1 then vs[0] else .tuple vs) := rfl

theorem results_run {P : Program} {w0 w : World} {nt : Nat} {a : Act} (ha : Agr nt ρ ds a) (hs : Sats w0 w L) {fn : Func} {vs : List Value} (h : Res P w0 ρ L fn.results.toList vs) :
    (results fn a.tmps).run P w = .ok (retOf vs) w := by
  have key : ∀ (xs : List ResultVar) (vs : List Value), Res P w0 ρ L xs vs → (xs.mapM (resStep a.tmps)).run P w = .ok vs w := by
    intro xs
    induction xs with
    | nil => intro vs h; cases h; rfl
    | cons x xs ih =>
      intro vs h
      obtain ⟨v, vs', rfl, hr, hx⟩ := h
      have hi := ih vs' hr
      have h1 : (resStep a.tmps x).run P w = .ok v w := by
        cases x with
        | tmp t =>
          have hv : a.tmps.getD t undef = v := (ha.get t).trans hx
          simp only [resStep, Sem.run_pure, hv]
        | cell a' t =>
          obtain ⟨p, hp, hl⟩ := hx
          have hv : a.tmps.getD a' undef = .pointer (some p) := (ha.get a').trans hp
          have hA : (asAddr (a.tmps.getD a' undef)).run P w = .ok p w := by rw [hv]; rfl
          simp only [resStep, Sem.run_bind, hA, Result.andThen_ok, hl w hs]
      rw [List.mapM_cons]
      simp only [Sem.run_bind, Sem.run_pure, h1, hi, Result.andThen_ok]
  have hk := key _ _ h
  rw [results_eq, Array.mapM_eq_mapM_toList]
  simp only [Sem.run_bind, Sem.run_map, Sem.run_pure, hk, Result.andThen_ok]
  cases vs with
  | nil => simp [retOf]
  | cons v vs =>
    cases vs with
    | nil => simp [retOf]
    | cons u vs => simp [retOf]

theorem cont_fin {w0 : World} {P : Program} {nt : Nat} {cv : List TypeId} {r : Option Nat} {fn : Func} {Y : Type} {φ : Y → Prop} {ret : Y → Value} {post : Y → List HProp} {R : List HProp} {e : Exit} (he : e = .normal ∨ e = .ret)
    (vs : List Value) (hr : Res P w0 ρ L fn.results.toList vs) (y : Y) (hφ : φ y) (hv : retOf vs = ret y) (hp : ∀ h, SatL L h → SatL (post y ++ R) h) :
    Cont ⟨P, r, nt, w0, cv⟩ (Fin ⟨P, r, nt, w0, cv⟩ fn Y φ ret post R) e [] ρ L := by
  intro a w ha hs
  have h1 := results_run (P := P) ha hs hr
  have h2 : LeavesInM (Fw none) 0 P fn a.tmps (fun e w' => ∃ y, φ y ∧ e = .returned (ret y) ∧ Sats w0 w' (post y ++ R)) a.defers .returning w := by
    rw [ha.defers]
    exact ⟨_, h1, y, hφ, by rw [hv], hs.map hp⟩
  rcases he with rfl | rfl <;> exact h2

/-! ### Where a range over a function ran: a mark is left -/
def mark (r : Nat) : Deferred := { target := .collected r, args := #[] }
def marked (dk : Nat) : HProp := pts dk (.deferred (some []))

theorem leaves_marks {P : Program} {F : Fence} {n : Nat} {w0 : World} {fn : Func} {tmps : Array Value} {R : Ending → World → Prop} (h : ∀ w', Sats w0 w' L → ∃ v, (results fn tmps).run P w' = .ok v w' ∧ R (.returned v) w') :
    ∀ (dks : List Nat) (w : World), Sats w0 w (dks.map marked ++ L) → LeavesInM F n P fn tmps R (dks.map mark) .returning w
  | [], w, hs => h w hs
  | d :: dks, w, hs => by
    have hb : w.heap[d]? = some (.deferred (some [])) := (RdIn.here (Rd.pts _ _)).heap hs
    refine ⟨by simp, .inl ⟨d, _, rfl, run_takeDeferred hb, ?_⟩⟩
    refine leaves_marks h dks _ ?_
    have := hs.setObj (.deferred none)
    exact this.map fun _ k => k.tail

theorem cont_finM {w0 : World} {P : Program} {nt : Nat} {cv : List TypeId} {r : Option Nat} {fn : Func} {Y : Type} {φ : Y → Prop} {ret : Y → Value} {post : Y → List HProp} {R L' : List HProp} {e : Exit} (he : e = .normal ∨ e = .ret)
    (dks : List Nat) (hd : ds = dks.map mark) (ht : ∀ h, SatL L h → SatL (dks.map marked ++ L') h) (vs : List Value) (hr : Res P w0 ρ L' fn.results.toList vs) (y : Y) (hφ : φ y) (hv : retOf vs = ret y) (hp : ∀ h, SatL L' h → SatL (post y ++ R) h) :
    Cont ⟨P, r, nt, w0, cv⟩ (Fin ⟨P, r, nt, w0, cv⟩ fn Y φ ret post R) e ds ρ L := by
  intro a w ha hs
  have h2 : LeavesInM (Fw none) 0 P fn a.tmps (fun e w' => ∃ y, φ y ∧ e = .returned (ret y) ∧ Sats w0 w' (post y ++ R)) a.defers .returning w := by
    rw [ha.defers, hd]
    refine leaves_marks (L := L') (fun w' hs' => ?_) dks w (hs.map ht)
    exact ⟨_, results_run (P := P) ha hs' hr, y, hφ, by rw [hv], hs'.map hp⟩
  rcases he with rfl | rfl <;> exact h2

theorem unfoldOk {c : Code} (h : Ok X c ds ρ L Q) : ∀ a w, Agr X.nt ρ ds a → Sats X.w0 w L → c.wpIn (Fw X.r) 0 X.P Q a w := h
theorem foldOk {c : Code} (h : ∀ a w, Agr X.nt ρ ds a → Sats X.w0 w L → c.wpIn (Fw X.r) 0 X.P Q a w) : Ok X c ds ρ L Q := h
theorem unfoldCont {e : Exit} (h : Cont X Q e ds ρ L) : ∀ a w, Agr X.nt ρ ds a → Sats X.w0 w L → Q e a w := h
theorem foldCont {e : Exit} (h : ∀ a w, Agr X.nt ρ ds a → Sats X.w0 w L → Q e a w) : Cont X Q e ds ρ L := h

attribute [irreducible] Ok Cont OpsL Op1 Then Fin Back
end Go.Fx
