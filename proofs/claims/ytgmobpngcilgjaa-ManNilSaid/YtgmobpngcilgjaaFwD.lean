/- THE FRAMEWORK, PART D: the rules of the operations that need no memory, and of loads and stores. -/
import Derived.Test.YtgmobpngcilgjaaFwC
namespace Go.Fx
open Go

/-! ### What a program says of its types: classes, an instance a fact -/
def isAggD : TypeDesc → Bool
  | .struct _ | .array _ _ => true
  | _ => false

class Ty (P : Program) (t : TypeId) (d : outParam TypeDesc) : Prop where
  und : P.underlying t = some d
class TyA (P : Program) (t : TypeId) : Prop where
  agg : (P.underlying t).map isAggD = some true
class Sz (P : Program) (t : TypeId) (n : outParam Nat) : Prop where
  size : (P.info? t).map (fun i => i.size) = some n
class Zr (P : Program) (t : TypeId) (z : outParam Value) : Prop where
  zero : (P.info? t).map (fun i => i.zero) = some (some z)
class By (P : Program) (t : TypeId) (b : outParam Nat) : Prop where
  bytes : (P.info? t).map (fun i => i.bytes) = some b

def fldInfo (P : Program) (s f : Nat) : Option (Nat × Nat × Bool) :=
  match P.underlying s with
  | some (.struct fs) => match fs[f]? with
    | some x => match P.info? x.type, P.underlying x.type with
      | some i, some d => some (x.offset, i.size, isAggD d)
      | _, _ => none
    | none => none
  | _ => none

class Fld (P : Program) (s f : Nat) (off sz : outParam Nat) (agg : outParam Bool) : Prop where
  info : fldInfo P s f = some (off, sz, agg)

def bdInfo (P : Program) (t : TypeId) : Option (List Value × List (Nat × Nat)) :=
  match P.underlying t, (P.info? t).map (·.zero) with
  | some (.struct fs), some (some z) => (fs.toList.mapM fun f => (P.info? f.type).map fun i => (f.offset, i.size)).map fun pl => (z.cells.toList, pl)
  | _, _ => none

class Bd (P : Program) (t : TypeId) (zs : outParam (List Value)) (pl : outParam (List (Nat × Nat))) : Prop where
  info : bdInfo P t = some (zs, pl)

def slInfo (P : Program) (t : TypeId) : Option (TypeId × Nat × Nat × List Value) :=
  match P.underlying t with
  | some (.slice e) => match P.info? e with
    | some i => i.zero.map fun z => (e, i.size, i.bytes, z.cells.toList)
    | none => none
  | _ => none

class Sl (P : Program) (t : TypeId) (e n b : outParam Nat) (zs : outParam (List Value)) : Prop where
  info : slInfo P t = some (e, n, b, zs)

/-- A function with a body of Go's. -/
class FnI (P : Program) (f : FuncId) : Prop where
  call : ∀ args w, (callFunc f args).run P w = .ok (.enter f args) w

class Mp (P : Program) (t : TypeId) (k e : outParam Nat) : Prop where
  und : P.underlying t = some (.map k e)

section facts
variable {P : Program} {w : World} {t : TypeId} {d : TypeDesc} {n b : Nat} {z : Value}
theorem run_underlying_of (h : P.underlying t = some d) : (underlying t).run P w = .ok d w := by simp [underlying, h]
theorem Ty.run_underlying [I : Ty P t d] : (underlying t).run P w = .ok d w := run_underlying_of I.und
theorem Sz.run_sizeOf [I : Sz P t n] : (sizeOf t).run P w = .ok n w := by
  have h := I.size
  cases hi : P.info? t with
  | none => rw [hi] at h; cases h
  | some i => rw [hi] at h; simp at h; simp [sizeOf, typeInfo, hi, h]
theorem Zr.run_zero [I : Zr P t z] : (zeroValue t).run P w = .ok z w := by
  have h := I.zero
  cases hi : P.info? t with
  | none => rw [hi] at h; cases h
  | some i => rw [hi] at h; simp at h; simp [zeroValue, typeInfo, hi, h]
theorem Ty.run_isAgg [I : Ty P t d] (hd : isAggD d = false) : (isAgg t).run P w = .ok false w := by
  unfold isAgg
  rw [Sem.run_bind, I.run_underlying, Result.andThen_ok]
  cases d <;> first | rfl | cases hd
theorem TyA.run_isAgg [I : TyA P t] : (isAgg t).run P w = .ok true w := by
  have h := I.agg
  cases hu : P.underlying t with
  | none => rw [hu] at h; cases h
  | some d =>
    rw [hu] at h
    simp only [Option.map_some, Option.some.injEq] at h
    unfold isAgg
    rw [Sem.run_bind, run_underlying_of hu, Result.andThen_ok]
    cases d <;> first | rfl | cases h
end facts

section
variable {X : Cx} {ops : Array Oper} {nb : List Nat} {N : Act → World → Prop} {i : Nat} {os : List Oper} {Ls : List HProp} {ds : List Deferred} {ρ : Regs} {L : List HProp} {ty : TypeId} {d : Nat}

/-- Operands and their values, one by one. -/
inductive EvA (ρ : Regs) : List Operand → List Value → Prop
  | nil : EvA ρ [] []
  | cons {x : Operand} {v : Value} {xs : List Operand} {vs : List Value} (h : ev ρ x = v) (t : EvA ρ xs vs) : EvA ρ (x :: xs) (v :: vs)
theorem EvA.map {ρ : Regs} {xs : List Operand} {vs : List Value} (h : EvA ρ xs vs) : xs.map (ev ρ) = vs := by
  induction h with
  | nil => rfl
  | cons h _ ih => simp [h, ih]
inductive EvP (ρ : Regs) : List (Nat × Operand) → List (Nat × Value) → Prop
  | nil : EvP ρ [] []
  | cons {k : Nat} {x : Operand} {v : Value} {xs : List (Nat × Operand)} {vs : List (Nat × Value)} (h : ev ρ x = v) (t : EvP ρ xs vs) : EvP ρ ((k, x) :: xs) ((k, v) :: vs)
theorem EvP.map {ρ : Regs} {xs : List (Nat × Operand)} {vs : List (Nat × Value)} (h : EvP ρ xs vs) : xs.map (fun x => (x.1, ev ρ x.2)) = vs := by
  induction h with
  | nil => rfl
  | cons h _ ih => simp [h, ih]

theorem op_pure1 {d : Nat} {op : Op} {ty : TypeId} {v : Value} (hnd : ∀ c, op ≠ .defer c) (hk : ∀ pos after gd, qk X.cv ⟨some d, op, ty, pos, after, gd⟩ ≤ 1) (hd : Nat.blt d X.nt = true)
    (hrun : ∀ pos after gd w, (execOp (ev ρ) ⟨some d, op, ty, pos, after, gd⟩).run X.P w = .ok (.value v) w)
    (h : OpsL X ops nb N (i + 1) os Ls ds (upd ρ d v) L) : Op1 X ops nb N i (some d) op ty os Ls ds ρ L :=
  op_pure hnd hk (fun x hx => by cases hx; exact hd) hrun h

theorem a_move {x : Operand} {v : Value} (hx : ev ρ x = v) (hd : Nat.blt d X.nt = true) (h : OpsL X ops nb N (i + 1) os Ls ds (upd ρ d v) L) : Op1 X ops nb N i (some d) (.move x) ty os Ls ds ρ L := by
  (refine op_pure1 (fun _ e => by cases e) (fun _ _ _ => by simp [qk]) hd ?_ h; intro pos after gd w); simp [execOp, hx]
theorem a_assign {x : Operand} {v : Value} (hx : ev ρ x = v) (hd : Nat.blt d X.nt = true) (h : OpsL X ops nb N (i + 1) os Ls ds (upd ρ d v) L) : Op1 X ops nb N i (some d) (.assign x) ty os Ls ds ρ L := by
  (refine op_pure1 (fun _ e => by cases e) (fun _ _ _ => by simp [qk]) hd ?_ h; intro pos after gd w); simp [execOp, hx]
theorem a_pick_true {c x y : Operand} {v : Value} (hc : ev ρ c = .bool true) (hv : ev ρ x = v) (hd : Nat.blt d X.nt = true) (h : OpsL X ops nb N (i + 1) os Ls ds (upd ρ d v) L) :
    Op1 X ops nb N i (some d) (.pick c x y) ty os Ls ds ρ L := by
  (refine op_pure1 (fun _ e => by cases e) (fun _ _ _ => by simp [qk]) hd ?_ h; intro pos after gd w); simp [execOp, asBool, hc, hv]
theorem a_pick_false {c x y : Operand} {v : Value} (hc : ev ρ c = .bool false) (hv : ev ρ y = v) (hd : Nat.blt d X.nt = true) (h : OpsL X ops nb N (i + 1) os Ls ds (upd ρ d v) L) :
    Op1 X ops nb N i (some d) (.pick c x y) ty os Ls ds ρ L := by
  (refine op_pure1 (fun _ e => by cases e) (fun _ _ _ => by simp [qk]) hd ?_ h; intro pos after gd w); simp [execOp, asBool, hc, hv]
theorem a_nilCheck {x : Operand} {p : Addr} (hx : ev ρ x = .pointer (some p)) (hd : Nat.blt d X.nt = true) (h : OpsL X ops nb N (i + 1) os Ls ds (upd ρ d (.pointer (some p))) L) :
    Op1 X ops nb N i (some d) (.nilCheck x) ty os Ls ds ρ L := by
  (refine op_pure1 (fun _ e => by cases e) (fun _ _ _ => by simp [qk]) hd ?_ h; intro pos after gd w); simp [execOp, hx]
theorem a_nilCheck_func {x : Operand} {f : FuncId} {fs cs : Array Value} (hx : ev ρ x = .func (.func f) fs cs) (hd : Nat.blt d X.nt = true) (h : OpsL X ops nb N (i + 1) os Ls ds (upd ρ d (.func (.func f) fs cs)) L) :
    Op1 X ops nb N i (some d) (.nilCheck x) ty os Ls ds ρ L := by
  (refine op_pure1 (fun _ e => by cases e) (fun _ _ _ => by simp [qk]) hd ?_ h; intro pos after gd w); simp [execOp, hx]
theorem a_nilCheck_yield {x : Operand} {l : Nat} {fs cs : Array Value} (hx : ev ρ x = .func (.yield l) fs cs) (hd : Nat.blt d X.nt = true) (h : OpsL X ops nb N (i + 1) os Ls ds (upd ρ d (.func (.yield l) fs cs)) L) :
    Op1 X ops nb N i (some d) (.nilCheck x) ty os Ls ds ρ L := by
  (refine op_pure1 (fun _ e => by cases e) (fun _ _ _ => by simp [qk]) hd ?_ h; intro pos after gd w); simp [execOp, hx]

/-! numbers -/
def arith : BinOp → Int → Int → Int
  | .add, a, b => a + b
  | .sub, a, b => a - b
  | .mul, a, b => a * b
  | _, _, _ => 0
def isArith : BinOp → Bool | .add | .sub | .mul => true | _ => false
theorem a_arith {op : BinOp} {xt yt : TypeId} {x y : Operand} {k : IntKind} {a b : Int} (hx : ev ρ x = .int k a) (hy : ev ρ y = .int k b) (ho : isArith op = true) (hd : Nat.blt d X.nt = true)
    (h : OpsL X ops nb N (i + 1) os Ls ds (upd ρ d (.int k (k.wrap (arith op a b)))) L) : Op1 X ops nb N i (some d) (.binOp op xt x y yt) ty os Ls ds ρ L := by
  cases op <;> first | (simp [isArith] at ho; done) | ((refine op_pure1 (fun _ e => by cases e) (fun _ _ _ => by simp [qk]) hd ?_ h; intro pos after gd w); simp [execOp, hx, hy, eqGuard, binOp, Op.intArith, arith])

theorem wrap_i64 {n : Int} (h1 : -9223372036854775808 ≤ n) (h2 : n ≤ 9223372036854775807) : IntKind.i64.wrap n = n := by
  have e : (2 : Int) ^ IntKind.i64.bits = 18446744073709551616 := rfl
  have e' : (2 : Int) ^ (IntKind.i64.bits - 1) = 9223372036854775808 := rfl
  unfold IntKind.wrap
  simp only [e, e']
  split
  · rename_i h; simp only [IntKind.signed, Bool.true_and, decide_eq_true_eq] at h; omega
  · rename_i h; simp only [IntKind.signed, Bool.true_and, decide_eq_true_eq] at h; omega

theorem a_arith64 {op : BinOp} {xt yt : TypeId} {x y : Operand} {a b c : Int} (hx : ev ρ x = .int .i64 a) (hy : ev ρ y = .int .i64 b) (ho : isArith op = true) (hc : arith op a b = c) (hr : -9223372036854775808 ≤ c ∧ c ≤ 9223372036854775807) (hd : Nat.blt d X.nt = true)
    (h : OpsL X ops nb N (i + 1) os Ls ds (upd ρ d (.int .i64 c)) L) : Op1 X ops nb N i (some d) (.binOp op xt x y yt) ty os Ls ds ρ L := by
  refine a_arith hx hy ho hd ?_
  rw [hc, wrap_i64 hr.1 hr.2]; exact h

def cmpB : BinOp → Int → Int → Bool
  | .eql, a, b => decide (a = b)
  | .neq, a, b => !decide (a = b)
  | .lss, a, b => decide (a < b)
  | .leq, a, b => decide (a ≤ b)
  | .gtr, a, b => decide (b < a)
  | .geq, a, b => decide (b ≤ a)
  | _, _, _ => false
def isCmp : BinOp → Bool | .eql | .neq | .lss | .leq | .gtr | .geq => true | _ => false
theorem a_cmp {op : BinOp} {xt yt : TypeId} {x y : Operand} {k : IntKind} {a b : Int} {v : Bool} (hx : ev ρ x = .int k a) (hy : ev ρ y = .int k b) (ho : isCmp op = true) (hv : cmpB op a b = v) (hd : Nat.blt d X.nt = true)
    (h : OpsL X ops nb N (i + 1) os Ls ds (upd ρ d (.bool v)) L) : Op1 X ops nb N i (some d) (.binOp op xt x y yt) ty os Ls ds ρ L := by
  subst hv
  cases op <;> first | (simp [isCmp] at ho; done) | ((refine op_pure1 (fun _ e => by cases e) (fun _ _ _ => by simp [qk]) hd ?_ h; intro pos after gd w); simp [execOp, hx, hy, eqGuard, binOp, Op.intCmp, cmpB, bne, BEq.beq])

def isBits : BinOp → Bool | .and | .or | .xor | .andNot => true | _ => false
def bitsOf (op : BinOp) (k : IntKind) (a b : Int) : Int :=
  let x := BitVec.ofInt k.bits a
  let y := BitVec.ofInt k.bits b
  k.wrap (match op with | .and => x &&& y | .or => x ||| y | .xor => x ^^^ y | _ => x &&& ~~~y).toNat
theorem a_bits {op : BinOp} {xt yt : TypeId} {x y : Operand} {k : IntKind} {a b : Int} (hx : ev ρ x = .int k a) (hy : ev ρ y = .int k b) (ho : isBits op = true) (hd : Nat.blt d X.nt = true)
    (h : OpsL X ops nb N (i + 1) os Ls ds (upd ρ d (.int k (bitsOf op k a b))) L) : Op1 X ops nb N i (some d) (.binOp op xt x y yt) ty os Ls ds ρ L := by
  cases op <;> first | (simp [isBits] at ho; done) | ((refine op_pure1 (fun _ e => by cases e) (fun _ _ _ => by simp [qk]) hd ?_ h; intro pos after gd w); simp [execOp, hx, hy, eqGuard, binOp, Op.intBits, bitsOf])

def shiftOf (op : BinOp) (k : IntKind) (a b : Int) : Int := match op with | .shl => k.wrap (a * 2 ^ (min b.toNat k.bits)) | _ => a.fdiv (2 ^ (min b.toNat k.bits))
def isShift : BinOp → Bool | .shl | .shr => true | _ => false
theorem a_shift {op : BinOp} {xt yt : TypeId} {x y : Operand} {k k' : IntKind} {a b : Int} (hx : ev ρ x = .int k a) (hy : ev ρ y = .int k' b) (hb : 0 ≤ b) (ho : isShift op = true) (hd : Nat.blt d X.nt = true)
    (h : OpsL X ops nb N (i + 1) os Ls ds (upd ρ d (.int k (shiftOf op k a b))) L) : Op1 X ops nb N i (some d) (.binOp op xt x y yt) ty os Ls ds ρ L := by
  have hn : ¬ b < 0 := by omega
  cases op <;> first | (simp [isShift] at ho; done) | ((refine op_pure1 (fun _ e => by cases e) (fun _ _ _ => by simp [qk]) hd ?_ h; intro pos after gd w); simp [execOp, hx, hy, eqGuard, binOp, Op.shift, shiftOf, hn])

theorem a_not {xt : TypeId} {x : Operand} {t v : Bool} (hx : ev ρ x = .bool t) (hv : (!t) = v) (hd : Nat.blt d X.nt = true) (h : OpsL X ops nb N (i + 1) os Ls ds (upd ρ d (.bool v)) L) :
    Op1 X ops nb N i (some d) (.unOp .not xt x) ty os Ls ds ρ L := by
  subst hv; (refine op_pure1 (fun _ e => by cases e) (fun _ _ _ => by simp [qk]) hd ?_ h; intro pos after gd w); simp [execOp, hx, Op.unary]
theorem a_neg {xt : TypeId} {x : Operand} {k : IntKind} {a : Int} (hx : ev ρ x = .int k a) (hd : Nat.blt d X.nt = true) (h : OpsL X ops nb N (i + 1) os Ls ds (upd ρ d (.int k (k.wrap (0 - a)))) L) :
    Op1 X ops nb N i (some d) (.unOp .neg xt x) ty os Ls ds ρ L := by
  (refine op_pure1 (fun _ e => by cases e) (fun _ _ _ => by simp [qk]) hd ?_ h; intro pos after gd w); simp [execOp, hx, Op.unary, Op.intArith]

/-! strings -/
def strB : BinOp → ByteArray → ByteArray → Bool
  | .eql, a, b => a.toList == b.toList
  | .neq, a, b => !(a.toList == b.toList)
  | .lss, a, b => Op.bytesLess a.toList b.toList
  | .leq, a, b => Op.bytesLess a.toList b.toList || a.toList == b.toList
  | .gtr, a, b => !(Op.bytesLess a.toList b.toList || a.toList == b.toList)
  | .geq, a, b => !(Op.bytesLess a.toList b.toList)
  | _, _, _ => false
theorem a_strcmp {op : BinOp} {xt yt : TypeId} {x y : Operand} {a b : ByteArray} {v : Bool} (hx : ev ρ x = .string a) (hy : ev ρ y = .string b) (ho : isCmp op = true) (hv : strB op a b = v) (hd : Nat.blt d X.nt = true)
    (h : OpsL X ops nb N (i + 1) os Ls ds (upd ρ d (.bool v)) L) : Op1 X ops nb N i (some d) (.binOp op xt x y yt) ty os Ls ds ρ L := by
  subst hv
  cases op <;> first | (simp [isCmp] at ho; done) | ((refine op_pure1 (fun _ e => by cases e) (fun _ _ _ => by simp [qk]) hd ?_ h; intro pos after gd w); simp [execOp, hx, hy, eqGuard, binOp, Op.stringOp, strB])
theorem a_concat {xt yt : TypeId} {x y : Operand} {a b : ByteArray} (hx : ev ρ x = .string a) (hy : ev ρ y = .string b) (hr : a.size + b.size ≤ 9223372036854775807) (hd : Nat.blt d X.nt = true)
    (h : OpsL X ops nb N (i + 1) os Ls ds (upd ρ d (.string (a ++ b))) L) : Op1 X ops nb N i (some d) (.binOp .add xt x y yt) ty os Ls ds ρ L := by
  have e : IntKind.i64.max = 9223372036854775807 := rfl
  have hn : ¬ ((a.size + b.size : Nat) : Int) > IntKind.i64.max := by rw [e]; omega
  (refine op_pure1 (fun _ e => by cases e) (fun _ _ _ => by simp [qk]) hd ?_ h; intro pos after gd w)
  simp only [execOp, hx, hy, eqGuard, binOp, Op.stringOp]
  rw [if_neg hn]; simp

/-! equality by '==' of the type -/
def isEq : BinOp → Bool | .eql | .neq => true | _ => false
def nilB : BinOp → Bool → Bool | .eql, t => t | _, t => !t

theorem equal_unfold (t : TypeId) (x y : Value) : Op.equal t x y = Op.equalIn (9999 + 1) t x y := rfl

theorem a_eq {op : BinOp} {xt yt : TypeId} {x y : Operand} {a b : Value} {t v : Bool} (hx : ev ρ x = a) (hy : ev ρ y = b) (ho : isEq op = true)
    (hg : ∀ op' w, (eqGuard op' xt x y a b).run X.P w = .ok () w) (hb1 : binOp .eql xt a b = (do pure (.bool (← Op.equal xt a b)))) (hb2 : binOp .neq xt a b = (do pure (.bool (!(← Op.equal xt a b))))) (hq : ∀ w, (w.heap = w.heap) → (Op.equal xt a b).run X.P w = .ok t w)
    (hv : nilB op t = v) (hd : Nat.blt d X.nt = true)
    (h : OpsL X ops nb N (i + 1) os Ls ds (upd ρ d (.bool v)) L) : Op1 X ops nb N i (some d) (.binOp op xt x y yt) ty os Ls ds ρ L := by
  subst hv
  cases op <;> first | (simp [isEq] at ho; done) | skip
  · (refine op_pure1 (fun _ e => by cases e) (fun _ _ _ => by simp [qk]) hd ?_ h; intro pos after gd w)
    simp only [execOp, hx, hy, Sem.run_bind, hg, Result.andThen_ok, hb1, hq w rfl, Sem.run_pure, nilB]
  · (refine op_pure1 (fun _ e => by cases e) (fun _ _ _ => by simp [qk]) hd ?_ h; intro pos after gd w)
    simp only [execOp, hx, hy, Sem.run_bind, hg, Result.andThen_ok, hb2, hq w rfl, Sem.run_pure, nilB]

theorem a_booleq {op : BinOp} {xt yt : TypeId} [I : Ty X.P xt .bool] {x y : Operand} {s t v : Bool} (hx : ev ρ x = .bool s) (hy : ev ρ y = .bool t) (ho : isEq op = true) (hv : nilB op (s == t) = v) (hd : Nat.blt d X.nt = true)
    (h : OpsL X ops nb N (i + 1) os Ls ds (upd ρ d (.bool v)) L) : Op1 X ops nb N i (some d) (.binOp op xt x y yt) ty os Ls ds ρ L := by
  refine a_eq hx hy ho (fun op' w => by cases op' <;> rfl) rfl rfl (t := s == t) (fun w _ => ?_) hv hd h
  rw [equal_unfold, Op.equalIn]
  simp only [Sem.run_bind, I.run_underlying, Result.andThen_ok]
  rfl

/-! pointers against nil -/
theorem a_ptr_nil {op : BinOp} {xt yt e : Nat} [I : Ty X.P xt (.pointer e)] {x y : Operand} {p : Option Addr} {v : Bool} (hx : ev ρ x = .pointer p) (hy : ev ρ y = .pointer none) (ho : isEq op = true) (hv : nilB op p.isNone = v) (hd : Nat.blt d X.nt = true)
    (h : OpsL X ops nb N (i + 1) os Ls ds (upd ρ d (.bool v)) L) : Op1 X ops nb N i (some d) (.binOp op xt x y yt) ty os Ls ds ρ L := by
  refine a_eq hx hy ho (fun op' w => by cases op' <;> cases p <;> rfl) (by cases p <;> rfl) (by cases p <;> rfl) (t := p.isNone) (fun w _ => ?_) hv hd h
  rw [equal_unfold, Op.equalIn]
  simp only [Sem.run_bind, I.run_underlying, Result.andThen_ok]
  cases p <;> rfl
theorem a_nil_ptr {op : BinOp} {xt yt e : Nat} [I : Ty X.P xt (.pointer e)] {x y : Operand} {p : Option Addr} {v : Bool} (hx : ev ρ x = .pointer none) (hy : ev ρ y = .pointer p) (ho : isEq op = true) (hv : nilB op p.isNone = v) (hd : Nat.blt d X.nt = true)
    (h : OpsL X ops nb N (i + 1) os Ls ds (upd ρ d (.bool v)) L) : Op1 X ops nb N i (some d) (.binOp op xt x y yt) ty os Ls ds ρ L := by
  refine a_eq hx hy ho (fun op' w => by cases op' <;> cases p <;> rfl) (by cases p <;> rfl) (by cases p <;> rfl) (t := p.isNone) (fun w _ => ?_) hv hd h
  rw [equal_unfold, Op.equalIn]
  simp only [Sem.run_bind, I.run_underlying, Result.andThen_ok]
  cases p <;> rfl

/-! structs, tuples, functions -/
theorem fld_run {P : Program} {w : World} {s f off sz : Nat} {agg : Bool} [I : Fld P s f off sz agg] : ∃ fs x, (underlying s).run P w = .ok (.struct fs) w ∧ fs[f]? = some x ∧ x.offset = off ∧ (sizeOf x.type).run P w = .ok sz w ∧ (isAgg x.type).run P w = .ok agg w := by
  have h := I.info
  unfold fldInfo at h
  cases hu : P.underlying s with
  | none => rw [hu] at h; cases h
  | some dd =>
    rw [hu] at h
    cases dd <;> first | (cases h; done) | skip
    rename_i fs
    simp only at h
    cases hf : fs[f]? with
    | none => rw [hf] at h; cases h
    | some x =>
      rw [hf] at h
      simp only at h
      cases hi : P.info? x.type with
      | none => rw [hi] at h; cases h
      | some j =>
        cases hd : P.underlying x.type with
        | none => rw [hi, hd] at h; cases h
        | some dx =>
          rw [hi, hd] at h
          simp only [Option.some.injEq, Prod.mk.injEq] at h
          obtain ⟨h1, h2, h3⟩ := h
          refine ⟨fs, x, run_underlying_of hu, hf, h1, by simp [sizeOf, typeInfo, hi, h2], ?_⟩
          unfold isAgg
          rw [Sem.run_bind, run_underlying_of hd, Result.andThen_ok, ← h3]
          cases dx <;> rfl

def addOff (p : Addr) (n : Nat) : Addr := ⟨p.block, p.off + n, none⟩
theorem add_plain {b o n : Nat} : (⟨b, o, none⟩ : Addr).add n = ⟨b, o + n, none⟩ := by
  unfold Addr.add; split
  · rename_i h; subst h; rfl
  · rfl

theorem a_fieldAddr {s f off sz b o : Nat} {agg : Bool} [I : Fld X.P s f off sz agg] {x : Operand} (hx : ev ρ x = .pointer (some ⟨b, o, none⟩)) (hz : Nat.beq sz 0 = false) {o' : Nat} (ho : o + off = o') (hd : Nat.blt d X.nt = true)
    (h : OpsL X ops nb N (i + 1) os Ls ds (upd ρ d (.pointer (some ⟨b, o', none⟩))) L) : Op1 X ops nb N i (some d) (.fieldAddr s x f) ty os Ls ds ρ L := by
  subst ho
  have hz' : sz ≠ 0 := fun e => by subst e; simp at hz
  (refine op_pure1 (fun _ e => by cases e) (fun _ _ _ => by simp [qk]) hd ?_ h; intro pos after gd w)
  obtain ⟨fs, fl, h1, h2, h3, h4, _⟩ := fld_run (I := I) (w := w)
  simp [execOp, hx, Instr.fieldAt, Instr.sureAddr, h1, h2, fieldPlace, h4, hz', h3, add_plain]

theorem a_field1 {s f off sz : Nat} [I : Fld X.P s f off sz false] {x : Operand} {cs : List Value} {v : Value} (hx : ev ρ x = .agg cs.toArray) (hc : cs[off]? = some v) (hd : Nat.blt d X.nt = true)
    (h : OpsL X ops nb N (i + 1) os Ls ds (upd ρ d v) L) : Op1 X ops nb N i (some d) (.field s x f) ty os Ls ds ρ L := by
  (refine op_pure1 (fun _ e => by cases e) (fun _ _ _ => by simp [qk]) hd ?_ h; intro pos after gd w)
  obtain ⟨fs, fl, h1, h2, h3, h4, h5⟩ := fld_run (I := I) (w := w)
  simp [execOp, hx, Instr.field, h1, h2, asAgg, part, h5, h3, hc]

theorem a_fieldA {s f off sz : Nat} [I : Fld X.P s f off sz true] {x : Operand} {cs vs : List Value} (hx : ev ρ x = .agg cs.toArray) (hc : (cs.drop off).take sz = vs) (hd : Nat.blt d X.nt = true)
    (h : OpsL X ops nb N (i + 1) os Ls ds (upd ρ d (.agg vs.toArray)) L) : Op1 X ops nb N i (some d) (.field s x f) ty os Ls ds ρ L := by
  subst hc
  (refine op_pure1 (fun _ e => by cases e) (fun _ _ _ => by simp [qk]) hd ?_ h; intro pos after gd w)
  obtain ⟨fs, fl, h1, h2, h3, h4, h5⟩ := fld_run (I := I) (w := w)
  simp [execOp, hx, Instr.field, h1, h2, asAgg, part, h5, h3, h4]

theorem a_extract {x : Operand} {ix : Nat} {vs : List Value} {v : Value} (hx : ev ρ x = .tuple vs.toArray) (hv : vs[ix]? = some v) (hd : Nat.blt d X.nt = true)
    (h : OpsL X ops nb N (i + 1) os Ls ds (upd ρ d v) L) : Op1 X ops nb N i (some d) (.extract x ix) ty os Ls ds ρ L := by
  (refine op_pure1 (fun _ e => by cases e) (fun _ _ _ => by simp [qk]) hd ?_ h; intro pos after gd w); simp [execOp, hx, Instr.extract, hv]

theorem a_makeFunc {fn : Fn} {xs ys : Array Operand} {us vs : List Value} (hx' : EvA ρ xs.toList us) (hy' : EvA ρ ys.toList vs) (hd : Nat.blt d X.nt = true)
    (h : OpsL X ops nb N (i + 1) os Ls ds (upd ρ d (.func fn us.toArray vs.toArray)) L) : Op1 X ops nb N i (some d) (.makeFunc fn xs ys) ty os Ls ds ρ L := by
  have hx := hx'.map
  have hy := hy'.map
  subst hx hy
  (refine op_pure1 (fun _ e => by cases e) (fun _ _ _ => by simp [qk]) hd ?_ h; intro pos after gd w)
  simp [execOp, Instr.makeFunc]
  exact ⟨by apply Array.ext'; simp, by apply Array.ext'; simp⟩

/-- The cells of a struct, out of its parts. -/
def fillL (pl : List (Nat × Nat)) : List Value → List (Nat × Value) → Option (List Value)
  | cs, [] => some cs
  | cs, (k, v) :: rest => match pl[k]? with
    | none => none
    | some (off, size) => if v.cells.toList.length = size ∧ off + size ≤ cs.length then fillL pl (cs.take off ++ v.cells.toList ++ cs.drop (off + size)) rest else none

theorem splice_fold (off : Nat) : ∀ (vs : List Value) (j : Nat) (cs : List Value), off + j + vs.length ≤ cs.length →
    (vs.zipIdx j).foldl (fun (cs : Array Value) (x : Value × Nat) => cs.setIfInBounds (off + x.2) x.1) cs.toArray = (cs.take (off + j) ++ vs ++ cs.drop (off + j + vs.length)).toArray
  | [], j, cs, _ => by simp
  | v :: vs, j, cs, h => by
    simp only [List.length_cons] at h
    simp only [List.zipIdx_cons, List.foldl_cons, List.setIfInBounds_toArray]
    rw [splice_fold off vs (j + 1) (cs.set (off + j) v) (by simp; omega)]
    congr 1
    rw [← Nat.add_assoc, List.take_add_one, List.take_set_of_le (Nat.le_refl _)]
    have hlt : off + j < cs.length := by omega
    simp only [List.getElem?_set_self hlt, Option.toList_some, List.append_assoc, List.cons_append, List.nil_append, List.length_cons]
    rw [List.drop_set_of_lt (by omega)]
    simp only [Nat.add_assoc, Nat.add_comm 1]

theorem fill_eq (pl : List (Nat × Nat)) (g : Nat → Option (Nat × Nat)) (hg : ∀ k, g k = pl[k]?) : ∀ (parts : List (Nat × Value)) (cs out : List Value), fillL pl cs parts = some out → Instr.fill g cs.toArray parts = some out.toArray
  | [], cs, out, h => by simp only [fillL, Option.some.injEq] at h; subst h; rfl
  | (k, v) :: rest, cs, out, h => by
    unfold fillL at h
    unfold Instr.fill
    rw [hg]
    cases hk : pl[k]? with
    | none => rw [hk] at h; cases h
    | some p =>
      obtain ⟨off, size⟩ := p
      rw [hk] at h
      simp only at h ⊢
      split at h
      · rename_i hc
        have hs : v.cells.size = size := by simpa using hc.1
        have h2 : ¬ (v.cells.size ≠ size || decide (off + v.cells.size > cs.toArray.size)) = true := by
          simp [hs]; omega
        rw [if_neg h2]
        have := splice_fold off v.cells.toList 0 cs (by simp; omega)
        simp only [Nat.add_zero, Array.length_toList] at this
        have e : v.cells.zipIdx.foldl (fun cs (x : Value × Nat) => cs.setIfInBounds (off + x.2) x.1) cs.toArray = (v.cells.toList.zipIdx 0).foldl (fun (cs : Array Value) (x : Value × Nat) => cs.setIfInBounds (off + x.2) x.1) cs.toArray := by
          rw [← Array.foldl_toList]; simp
        have e' : (Array.foldl (fun cs x => match x with | (c, j) => cs.setIfInBounds (off + j) c) cs.toArray v.cells.zipIdx) = (cs.take off ++ v.cells.toList ++ cs.drop (off + v.cells.size)).toArray := by
          rw [← this, ← e]
        rw [e', hs]
        exact fill_eq pl g hg rest _ out h
      · cases h

theorem bd_run {P : Program} {w : World} {t : TypeId} {zs : List Value} {pl : List (Nat × Nat)} [I : Bd P t zs pl] {parts : Array (Nat × Value)} {out : List Value} (h : fillL pl zs parts.toList = some out) :
    (Instr.build t parts).run P w = .ok (.agg out.toArray) w := by
  have hb := I.info
  unfold bdInfo at hb
  cases hu : P.underlying t with
  | none => rw [hu] at hb; cases hb
  | some dd =>
    cases hz : (P.info? t).map (·.zero) with
    | none => rw [hu, hz] at hb; cases dd <;> cases hb
    | some oz =>
      rw [hu, hz] at hb
      cases dd <;> cases oz <;> first | (cases hb; done) | skip
      rename_i fs z
      simp only at hb
      cases hp : fs.toList.mapM fun f => (P.info? f.type).map fun i => (f.offset, i.size) with
      | none => rw [hp] at hb; cases hb
      | some pl' =>
        rw [hp] at hb
        simp only [Option.map_some, Option.some.injEq, Prod.mk.injEq] at hb
        obtain ⟨hz1, rfl⟩ := hb
        have hzero : (zeroValue t).run P w = .ok z w := by
          cases hi : P.info? t with
          | none => rw [hi] at hz; cases hz
          | some j => rw [hi] at hz; simp at hz; simp [zeroValue, typeInfo, hi, hz]
        have hm : (fs.mapM (m := Sem) fun f => do pure (f.offset, ← sizeOf f.type)).run P w = .ok pl'.toArray w := by
          have key : ∀ (l : List Field) (pl' : List (Nat × Nat)), (l.mapM fun f => (P.info? f.type).map fun i => (f.offset, i.size)) = some pl' → (l.mapM (m := Sem) fun f => do pure (f.offset, ← sizeOf f.type)).run P w = .ok pl' w := by
            intro l
            induction l with
            | nil => intro pl' h; simp at h; subst h; rfl
            | cons f l ih =>
              intro pl' h
              rw [List.mapM_cons] at h
              cases hi : P.info? f.type with
              | none => rw [hi] at h; cases h
              | some j =>
                rw [hi] at h
                cases hl : l.mapM fun f => (P.info? f.type).map fun i => (f.offset, i.size) with
                | none => rw [hl] at h; simp at h
                | some pl'' =>
                  rw [hl] at h
                  simp at h
                  subst h
                  have hsz : (sizeOf f.type).run P w = .ok j.size w := by simp [sizeOf, typeInfo, hi]
                  rw [List.mapM_cons]
                  simp only [Sem.run_bind, hsz, Result.andThen_ok, Sem.run_pure, ih _ hl]
          simp only [Array.mapM_eq_mapM_toList, Sem.run_map, key _ _ hp, Result.andThen_ok]
        unfold Instr.build
        simp only [Sem.run_bind, hzero, Result.andThen_ok, run_underlying_of hu, hm]
        have hz2 : z.cells = zs.toArray := by rw [← hz1]
        rw [hz2, fill_eq pl' _ (fun k => by simp) _ _ _ h]
        rfl

theorem a_build {t : TypeId} {zs : List Value} {pl : List (Nat × Nat)} [I : Bd X.P t zs pl] {parts : Array (Nat × Operand)} {ps : List (Nat × Value)} {out out' : List Value}
    (hp' : EvP ρ parts.toList ps) (ho : fillL pl zs ps = some out) (ho' : out = out') (hd : Nat.blt d X.nt = true)
    (h : OpsL X ops nb N (i + 1) os Ls ds (upd ρ d (.agg out'.toArray)) L) : Op1 X ops nb N i (some d) (.build t parts) ty os Ls ds ρ L := by
  have hp := hp'.map
  subst hp
  subst ho'
  (refine op_pure1 (fun _ e => by cases e) (fun _ _ _ => by simp [qk]) hd ?_ h; intro pos after gd w)
  have e : (parts.map fun (i, x) => (i, ev ρ x)).toList = parts.toList.map (fun x => (x.1, ev ρ x.2)) := by simp
  simp [execOp, bd_run (P := X.P) (w := w) (t := t) (parts := parts.map fun (i, x) => (i, ev ρ x)) (out := out) (by rw [e]; exact ho)]

/-! lengths -/
theorem a_len_str {T : TypeId} [I : Ty X.P T .string] {x : Operand} {s : ByteArray} (hx : ev ρ x = .string s) (hd : Nat.blt d X.nt = true)
    (h : OpsL X ops nb N (i + 1) os Ls ds (upd ρ d (.int .i64 s.size)) L) : Op1 X ops nb N i (some d) (.call { callee := .builtin .len, args := #[x], argTypes := #[T] }) ty os Ls ds ρ L := by
  (refine op_pure1 (fun _ e => by cases e) (fun _ _ _ => by simp [qk]) hd ?_ h; intro pos after gd w)
  simp [execOp, resolve, invoke, builtin, hx, Builtin.len_, I.run_underlying, goInt]
theorem a_len_slice {T e : Nat} [I : Ty X.P T (.slice e)] {x : Operand} {p : Option Addr} {len cap : Nat} (hx : ev ρ x = .slice p len cap) (hd : Nat.blt d X.nt = true)
    (h : OpsL X ops nb N (i + 1) os Ls ds (upd ρ d (.int .i64 len)) L) : Op1 X ops nb N i (some d) (.call { callee := .builtin .len, args := #[x], argTypes := #[T] }) ty os Ls ds ρ L := by
  (refine op_pure1 (fun _ e => by cases e) (fun _ _ _ => by simp [qk]) hd ?_ h; intro pos after gd w)
  simp [execOp, resolve, invoke, builtin, hx, Builtin.len_, I.run_underlying, goInt]

/-! loads -/
theorem loadCells_list {P : Program} {w : World} {b o : Nat} {cs : Array Value} {T : TypeId} {fr : Nat × Nat} (hb : w.heap[b]? = some (.cells cs T fr)) :
    ∀ (n k : Nat) (acc : Array Value), o + k + n ≤ cs.size → (loadCellsFrom ⟨b, o, none⟩ k n acc).run P w = .ok (acc ++ cs.extract (o + k) (o + k + n)) w
  | 0, k, acc, _ => by simp [loadCellsFrom]; exact Nat.min_le_left _ _
  | n + 1, k, acc, h => by
    have hlt : o + k < cs.size := by omega
    have hc := cell_of_heap (off := o + k) hb (Array.getElem?_eq_getElem hlt)
    unfold loadCellsFrom
    simp only [Sem.run_bind, run_load, add_plain, hc, Result.andThen_ok]
    rw [loadCells_list hb n (k + 1) _ (by omega)]
    congr 1
    apply Array.ext'
    simp only [Array.toList_append, Array.toList_push, Array.toList_extract, List.extract_eq_take_drop, List.append_assoc]
    congr 1
    have e1 : o + k + (n + 1) - (o + k) = n + 1 := by omega
    have e2 : o + (k + 1) + n - (o + (k + 1)) = n := by omega
    rw [e1, e2]
    have : List.drop (o + k) cs.toList = cs[o + k] :: List.drop (o + k + 1) cs.toList := by
      rw [List.drop_eq_getElem_cons (by simpa using hlt)]; simp
    rw [this, List.take_succ_cons]; rfl

theorem run_loadVar1 {P : Program} {w : World} {t : TypeId} {dd : TypeDesc} [I : Ty P t dd] (ha : isAggD dd = false) {a : Addr} {v : Value} (hc : w.cell? a = some v) : (loadVar t a).run P w = .ok v w := by
  simp [loadVar, I.run_isAgg ha, hc]

theorem run_loadVarA {P : Program} {w : World} {t : TypeId} {n : Nat} [I : TyA P t] [J : Sz P t n] {b o : Nat} {cs : List Value} {T : TypeId} {fr : Nat × Nat} (hb : w.heap[b]? = some (.cells cs.toArray T fr)) (hn : o + n ≤ cs.length) :
    (loadVar t ⟨b, o, none⟩).run P w = .ok (.agg ((cs.drop o).take n).toArray) w := by
  have h0 := loadCells_list (P := P) (o := o) hb n 0 #[] (by simpa using hn)
  simp only [Nat.add_zero] at h0
  simp [loadVar, I.run_isAgg, J.run_sizeOf, loadCells, h0]

theorem a_load {t : TypeId} {dd : TypeDesc} [I : Ty X.P t dd] (ha : isAggD dd = false) {x : Operand} {b o : Nat} {cs : List Value} {T : TypeId} {fr : Nat × Nat} {v : Value}
    (hx : ev ρ x = .pointer (some ⟨b, o, none⟩)) (hr : RdIn Ls b (.cells cs.toArray T fr)) (hc : cs[o]? = some v) (hd : Nat.blt d X.nt = true)
    (h : OpsL X ops nb N (i + 1) os Ls ds (upd ρ d v) L) : Op1 X ops nb N i (some d) (.load t x) ty os Ls ds ρ L := by
  refine op_quiet (fun _ e => by cases e) (fun _ _ _ => by simp [qk]) (fun x hx => by cases hx; assumption) ?_ h
  intro pos after gd w hw
  have hs := hw.resolve_left (by simp [qk])
  have hcell := cell_of_heap (off := o) (hr.heap hs) (v := v) (by simpa using hc)
  simp [execOp, hx, Instr.loadAt, Instr.sureAddr, run_loadVar1 (P := X.P) (t := t) ha hcell]

theorem a_loadA {t : TypeId} {n : Nat} [I : TyA X.P t] [J : Sz X.P t n] {x : Operand} {b o : Nat} {cs vs : List Value} {T : TypeId} {fr : Nat × Nat}
    (hx : ev ρ x = .pointer (some ⟨b, o, none⟩)) (hr : RdIn Ls b (.cells cs.toArray T fr)) (hn : Nat.ble (o + n) cs.length = true) (hc : (cs.drop o).take n = vs) (hd : Nat.blt d X.nt = true)
    (h : OpsL X ops nb N (i + 1) os Ls ds (upd ρ d (.agg vs.toArray)) L) : Op1 X ops nb N i (some d) (.load t x) ty os Ls ds ρ L := by
  subst hc
  refine op_quiet (fun _ e => by cases e) (fun _ _ _ => by simp [qk]) (fun x hx => by cases hx; assumption) ?_ h
  intro pos after gd w hw
  have hs := hw.resolve_left (by simp [qk])
  simp [execOp, hx, Instr.loadAt, Instr.sureAddr, run_loadVarA (P := X.P) (t := t) (hr.heap hs) (by simpa using hn)]

/-! stores, new blocks -/
theorem agg_cells (l : List Value) : (Value.agg l.toArray).cells.toList = l := rfl
theorem one_cells {v : Value} (h : v.oneCell' = true) : v.cells.toList = [v] := by cases v <;> first | rfl | cases h

theorem eff_intro1 {d : Option Nat} {op : Op} {ty : TypeId} {u : Value} {L' : List HProp} (hnd : ∀ c, op ≠ .defer c) (hk : ∀ pos after gd, qk X.cv ⟨d, op, ty, pos, after, gd⟩ = 2)
    (hrun : ∀ pos after gd w, Sats X.w0 w L → OpVal X.P ⟨d, op, ty, pos, after, gd⟩ (ev ρ) w fun v w' => v = u ∧ Sats X.w0 w' L') : Eff X d op ty ρ L Unit (fun _ => True) (fun _ => u) (fun _ => L') :=
  ⟨hnd, fun pos after gd => ⟨hk pos after gd, fun w hs => (hrun pos after gd w hs).mono fun _ _ ⟨h1, h2⟩ => ⟨(), trivial, h1, h2⟩⟩⟩

theorem storeCells_list {P : Program} {b : Nat} {T : TypeId} : ∀ (vs : List Value) (k o : Nat) (cs : List Value) {w0 w : World} {L : List HProp} (R : List HProp), Sel L (pts b (.cells cs.toArray T)) R → Sats w0 w L → (∀ v ∈ vs, v.oneCell' = true) → o + k + vs.length ≤ cs.length →
    ∃ w', (storeCells ⟨b, o, none⟩ vs k).run P w = .ok () w' ∧ Sats w0 w' (pts b (.cells (cs.take (o + k) ++ vs ++ cs.drop (o + k + vs.length)).toArray T) :: R)
  | [], k, o, cs, w0, w, L, R, hsel, hs, _, _ => ⟨w, rfl, by simpa using hs.sel hsel⟩
  | v :: vs, k, o, cs, w0, w, L, R, hsel, hs, hv, hl => by
    simp only [List.length_cons] at hl
    have hs1 := hs.sel hsel
    have hb : w.heap[b]? = some (.cells cs.toArray T) := (RdIn.here (Rd.pts _ _)).heap hs1
    have hlt : o + k < cs.length := by omega
    have hcell : w.cell? ⟨b, o + k, none⟩ = some cs[o + k] := cell_of_heap hb (by simp [hlt])
    have hfr : w.frozen? ⟨b, o + k, none⟩ = false := by simp [World.frozen?, hb]
    have hs2 := hs1.setCell (off := o + k) v
    simp only [List.setIfInBounds_toArray] at hs2
    obtain ⟨w', h1, h2⟩ := storeCells_list vs (k + 1) o (cs.set (o + k) v) R Sel.here hs2 (fun u hu => hv u (List.mem_cons_of_mem _ hu)) (by simp; omega)
    refine ⟨w', ?_, ?_⟩
    · unfold storeCells
      rw [Sem.run_bind, run_store _ _ _ _ _ (hv v (List.mem_cons_self ..))]
      simp only [add_plain, hcell, hfr, Bool.false_eq_true, if_false, Result.andThen_ok]
      exact h1
    · refine h2.map fun h hh => ?_
      have e : List.take (o + (k + 1)) (cs.set (o + k) v) ++ vs ++ List.drop (o + (k + 1) + vs.length) (cs.set (o + k) v) = List.take (o + k) cs ++ v :: vs ++ List.drop (o + k + (vs.length + 1)) cs := by
        have e1 : o + k + (vs.length + 1) = o + k + 1 + vs.length := by omega
        rw [e1, ← Nat.add_assoc, List.take_add_one, List.take_set_of_le (Nat.le_refl _), List.getElem?_set_self hlt, List.drop_set_of_lt (by omega)]
        simp only [Option.toList_some, List.append_assoc, List.cons_append, List.nil_append]
      rw [e] at hh
      exact hh

def oneCells (vs : List Value) : Bool := vs.all (·.oneCell')

theorem one_one {v : Value} (h : v.oneCell' = true) : oneCells [v] = true := by simp [oneCells, h]

theorem e_store {t : TypeId} {n : Nat} [I : Sz X.P t n] {a x : Operand} {b o : Nat} {cs cs' vs : List Value} {T : TypeId} {R : List HProp} {v : Value}
    (hx : ev ρ a = .pointer (some ⟨b, o, none⟩)) (hv : ev ρ x = v) (hvs : v.cells.toList = vs) (hsel : Sel L (pts b (.cells cs.toArray T)) R) (h1 : oneCells vs = true) (hn : Nat.beq vs.length n = true) (hl : Nat.ble (o + n) cs.length = true)
    (hcs : cs.take o ++ vs ++ cs.drop (o + n) = cs') :
    Eff X none (.store t a x) ty ρ L Unit (fun _ => True) (fun _ => undef) (fun _ => pts b (.cells cs'.toArray T) :: R) := by
  subst hcs hv
  have hn' : vs.length = n := Nat.eq_of_beq_eq_true hn
  refine eff_intro1 (fun _ e => by cases e) (fun _ _ _ => rfl) fun pos after gd w hs => ?_
  have hle : o + n ≤ cs.length := by simpa using hl
  obtain ⟨w', h2, h3⟩ := storeCells_list (P := X.P) vs 0 o cs R hsel hs (by simpa [oneCells] using h1) (by omega)
  have hsz : (ev ρ x).cells.size = n := by rw [← hn', ← hvs]; simp
  unfold OpVal
  simp only [execOp, Instr.storeAt, Instr.sureAddr, hx, storeVar, Sem.run_bind, Sem.run_pure, Result.andThen_ok, I.run_sizeOf, hsz, ne_eq, not_true_eq_false, if_false, hvs, h2]
  refine ⟨trivial, ?_⟩
  simpa [hn'] using h3

theorem e_box {t : TypeId} {x : Operand} {vs : List Value} {v : Value} {d : Nat} (hv : ev ρ x = v) (hvs : v.cells.toList = vs) :
    Eff X (some d) (.box t x) ty ρ L Nat (fun _ => True) (fun b => .pointer (some ⟨b, 0, none⟩)) (fun b => pts b (.cells vs.toArray t) :: L) := by
  subst hvs hv
  refine ⟨(fun _ e => by cases e), fun pos after gd => ⟨rfl, fun w hs => ?_⟩⟩
  unfold OpVal
  simp only [execOp, Instr.box, newVar, newRow, Sem.run_bind, run_newObj, Sem.run_pure, Result.andThen_ok]
  exact ⟨w.heap.size, trivial, rfl, by simpa using hs.alloc (.cells (ev ρ x).cells t)⟩

theorem e_alloc {t : TypeId} {z : Value} [I : Zr X.P t z] {vs : List Value} {d : Nat} (hvs : z.cells.toList = vs) :
    Eff X (some d) (.alloc t) ty ρ L Nat (fun _ => True) (fun b => .pointer (some ⟨b, 0, none⟩)) (fun b => pts b (.cells vs.toArray t) :: L) := by
  subst hvs
  refine ⟨(fun _ e => by cases e), fun pos after gd => ⟨rfl, fun w hs => ?_⟩⟩
  unfold OpVal
  simp only [execOp, Instr.alloc, newVar, newRow, Sem.run_bind, I.run_zero, run_newObj, Sem.run_pure, Result.andThen_ok]
  exact ⟨w.heap.size, trivial, rfl, by simpa using hs.alloc (.cells z.cells t)⟩

/-! calls -/
theorem e_call {f : FuncId} [K : FnI X.P f] {args : Array Operand} {at_ : Array TypeId} {vs : List Value} {d : Option Nat} {pre R : List HProp} {Y : Type} {φ : Y → Prop} {ret : Y → Value} {post : Y → List HProp}
    (ha : EvA ρ args.toList vs) (hs : FSpec X.P f vs pre Y φ ret post) (ht : Take L pre R) :
    Eff X d (.call { callee := .value (.func f), args := args, argTypes := at_ }) ty ρ L Y φ ret (fun y => post y ++ R) := by
  have ha' := ha.map
  subst ha'
  refine ⟨(fun _ e => by cases e), fun pos after gd => ⟨rfl, fun w hw => ?_⟩⟩
  have e : (args.map (ev ρ)) = (args.toList.map (ev ρ)).toArray := by apply Array.ext'; simp
  unfold OpVal
  simp only [execOp, resolve, ev, Deferred.ofValue, invoke, Sem.run_bind, Sem.run_pure, Result.andThen_ok, K.call, Array.append_empty, Array.empty_append]
  rw [e]
  refine (hs X.w0 w R (hw.take ht)).mono ?_
  rintro e w' ⟨y, hy, rfl, hw'⟩
  exact ⟨y, hy, rfl, hw'⟩

/-! the same as steps -/
theorem s_store {t : TypeId} {n : Nat} [I : Sz X.P t n] {a x : Operand} {b o : Nat} {cs cs' vs : List Value} {T : TypeId} {R : List HProp} {v : Value}
    (hx : ev ρ a = .pointer (some ⟨b, o, none⟩)) (hv : ev ρ x = v) (hvs : v.cells.toList = vs) (hsel : Sel L (pts b (.cells cs.toArray T)) R) (h1 : oneCells vs = true) (hn : Nat.beq vs.length n = true) (hl : Nat.ble (o + n) cs.length = true)
    (hcs : cs.take o ++ vs ++ cs.drop (o + n) = cs') (hb : nb.contains i = false)
    (h : OpsL X ops nb N (i + 1) os (pts b (.cells cs'.toArray T) :: R) ds ρ (pts b (.cells cs'.toArray T) :: R)) : Op1 X ops nb N i none (.store t a x) ty os Ls ds ρ L :=
  op_eff (e_store hx hv hvs hsel h1 hn hl hcs) (fun _ e => by cases e) hb fun _ _ => h
theorem s_box {t : TypeId} {x : Operand} {vs : List Value} {v : Value} (hv : ev ρ x = v) (hvs : v.cells.toList = vs) (hd : Nat.blt d X.nt = true) (hb : nb.contains i = false)
    (h : ∀ b, OpsL X ops nb N (i + 1) os (pts b (.cells vs.toArray t) :: L) ds (upd ρ d (.pointer (some ⟨b, 0, none⟩))) (pts b (.cells vs.toArray t) :: L)) : Op1 X ops nb N i (some d) (.box t x) ty os Ls ds ρ L :=
  op_eff (e_box hv hvs) (fun _ e => by cases e; exact hd) hb fun b _ => h b
theorem s_alloc {t : TypeId} {z : Value} [I : Zr X.P t z] {vs : List Value} (hvs : z.cells.toList = vs) (hd : Nat.blt d X.nt = true) (hb : nb.contains i = false)
    (h : ∀ b, OpsL X ops nb N (i + 1) os (pts b (.cells vs.toArray t) :: L) ds (upd ρ d (.pointer (some ⟨b, 0, none⟩))) (pts b (.cells vs.toArray t) :: L)) : Op1 X ops nb N i (some d) (.alloc t) ty os Ls ds ρ L :=
  op_eff (e_alloc hvs) (fun _ e => by cases e; exact hd) hb fun b _ => h b
theorem s_call {f : FuncId} [K : FnI X.P f] {args : Array Operand} {at_ : Array TypeId} {vs : List Value} {pre R : List HProp} {Y : Type} {φ : Y → Prop} {ret : Y → Value} {post : Y → List HProp}
    (ha : EvA ρ args.toList vs) (hs : FSpec X.P f vs pre Y φ ret post) (ht : Take L pre R) (hd : Nat.blt d X.nt = true) (hb : nb.contains i = false)
    (h : ∀ y, φ y → OpsL X ops nb N (i + 1) os (post y ++ R) ds (upd ρ d (ret y)) (post y ++ R)) : Op1 X ops nb N i (some d) (.call { callee := .value (.func f), args := args, argTypes := at_ }) ty os Ls ds ρ L :=
  op_eff (e_call ha hs ht) (fun _ e => by cases e; exact hd) hb h
theorem s_call_none {f : FuncId} [K : FnI X.P f] {args : Array Operand} {at_ : Array TypeId} {vs : List Value} {pre R : List HProp} {Y : Type} {φ : Y → Prop} {ret : Y → Value} {post : Y → List HProp}
    (ha : EvA ρ args.toList vs) (hs : FSpec X.P f vs pre Y φ ret post) (ht : Take L pre R) (hb : nb.contains i = false)
    (h : ∀ y, φ y → OpsL X ops nb N (i + 1) os (post y ++ R) ds ρ (post y ++ R)) : Op1 X ops nb N i none (.call { callee := .value (.func f), args := args, argTypes := at_ }) ty os Ls ds ρ L :=
  op_eff (e_call ha hs ht) (fun _ e => by cases e) hb h

/-! the same where Ls is to stay -/
theorem s_call_nb {f : FuncId} [K : FnI X.P f] {args : Array Operand} {at_ : Array TypeId} {vs : List Value} {pre R : List HProp} {Y : Type} {φ : Y → Prop} {ret : Y → Value} {post : Y → List HProp}
    (ha : EvA ρ args.toList vs) (hs : FSpec X.P f vs pre Y φ ret post) (ht : Take L pre R) (hd : Nat.blt d X.nt = true) (hk : ∀ y, φ y → ∀ h, SatL (post y ++ R) h → SatL Ls h)
    (h : ∀ y, φ y → OpsL X ops nb N (i + 1) os Ls ds (upd ρ d (ret y)) (post y ++ R)) : Op1 X ops nb N i (some d) (.call { callee := .value (.func f), args := args, argTypes := at_ }) ty os Ls ds ρ L :=
  op_eff_nb (e_call ha hs ht) (fun _ e => by cases e; exact hd) hk h
theorem s_box_nb {t : TypeId} {x : Operand} {vs : List Value} {v : Value} (hv : ev ρ x = v) (hvs : v.cells.toList = vs) (hd : Nat.blt d X.nt = true) (hk : ∀ h, SatL L h → SatL Ls h)
    (h : ∀ b, OpsL X ops nb N (i + 1) os Ls ds (upd ρ d (.pointer (some ⟨b, 0, none⟩))) (pts b (.cells vs.toArray t) :: L)) : Op1 X ops nb N i (some d) (.box t x) ty os Ls ds ρ L :=
  op_eff_nb (e_box hv hvs) (fun _ e => by cases e; exact hd) (fun _ _ _ s => hk _ s.tail) fun b _ => h b
theorem s_alloc_nb {t : TypeId} {z : Value} [I : Zr X.P t z] {vs : List Value} (hvs : z.cells.toList = vs) (hd : Nat.blt d X.nt = true) (hk : ∀ h, SatL L h → SatL Ls h)
    (h : ∀ b, OpsL X ops nb N (i + 1) os Ls ds (upd ρ d (.pointer (some ⟨b, 0, none⟩))) (pts b (.cells vs.toArray t) :: L)) : Op1 X ops nb N i (some d) (.alloc t) ty os Ls ds ρ L :=
  op_eff_nb (e_alloc hvs) (fun _ e => by cases e; exact hd) (fun _ _ _ s => hk _ s.tail) fun b _ => h b

end
end Go.Fx
