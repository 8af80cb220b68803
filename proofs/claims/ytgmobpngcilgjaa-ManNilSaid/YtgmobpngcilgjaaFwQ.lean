/- THE FRAMEWORK, PART Q: cap, append of a make, elements that are structs of an array, bound methods. -/
import Derived.Test.YtgmobpngcilgjaaFwP
import Derived.Lib.AppendZeros
set_option linter.unusedSimpArgs false
set_option linter.unusedVariables false
namespace Go.Fx
open Go

theorem ix_lit (n : Nat) : (OfNat.ofNat n : Int) = ((OfNat.ofNat n : Nat) : Int) := rfl

section
variable {X : Cx} {ops : Array Oper} {nb : List Nat} {N : Act → World → Prop} {i : Nat} {os : List Oper} {Ls : List HProp} {ds : List Deferred} {ρ : Regs} {L : List HProp} {ty : TypeId} {d : Nat}

/-- What the pieces tell, amid a region. -/
theorem ops_learn {φ : Prop} (k : ∀ h, SatL L h → φ) (h : φ → OpsL X ops nb N i os Ls ds ρ L) : OpsL X ops nb N i os Ls ds ρ L := by
  unfold OpsL
  intro hd a w ha hs
  have := h (k _ hs.heap)
  unfold OpsL at this
  exact this hd a w ha hs

theorem s_callv_nb {x : Operand} {fv : Value} {args : Array Operand} {at_ : Array TypeId} {vs : List Value} {pre R : List HProp} {Y : Type} {φ : Y → Prop} {ret : Y → Value} {post : Y → List HProp}
    (hx : ev ρ x = fv) (ha : EvA ρ args.toList vs) (hs : VSpec X.P fv vs pre Y φ ret post) (ht : Take L pre R) (hd : Nat.blt d X.nt = true) (hk : ∀ y, φ y → ∀ h, SatL (post y ++ R) h → SatL Ls h)
    (h : ∀ y, φ y → OpsL X ops nb N (i + 1) os Ls ds (upd ρ d (ret y)) (post y ++ R)) : Op1 X ops nb N i (some d) (.call { callee := .value x, args := args, argTypes := at_ }) ty os Ls ds ρ L :=
  op_eff_nb (e_callv hx ha hs ht) (fun _ e => by cases e; exact hd) hk h

theorem s_cap {T e : Nat} [I : Ty X.P T (.slice e)] {x : Operand} {p : Option Addr} {len cap : Nat} (hx : ev ρ x = .slice p len cap) (hd : Nat.blt d X.nt = true) (hb : nb.contains i = false)
    (h : OpsL X ops nb N (i + 1) os L ds (upd ρ d (.int .i64 cap)) L) : Op1 X ops nb N i (some d) (.call { callee := .builtin .cap, args := #[x], argTypes := #[T] }) ty os Ls ds ρ L := by
  refine op_eff (Y := Unit) (φ := fun _ => True) (v := fun _ => .int .i64 cap) (L' := fun _ => L) ⟨(fun _ e => by cases e), fun pos after gd => ⟨rfl, fun w hs => ?_⟩⟩ (fun _ e => by cases e; exact hd) hb fun _ _ => h
  unfold OpVal
  simp [execOp, resolve, invoke, builtin, hx, Builtin.cap_, I.run_underlying, goInt]
  exact hs

/-- 'append([]T(nil), make([]T, n)...)', n above 0: what is there is told of as a row without elements. -/
theorem s_append_make {t tx e n by_ : Nat} {kn : IntKind} {zs : List Value} [I : Sl X.P t e n by_ zs] [J : Ty X.P tx (.int kn)] {s x : Operand} {k : IntKind} {m : Nat} {a : Int}
    (hz : Nat.beq zs.length n = true) (hs : ev ρ s = .slice none 0 0) (hx : ev ρ x = .int k a) (ha : a = (m : Int)) (h0 : 0 < m) (hn0 : Nat.blt 0 n = true) (hb : m * by_ ≤ 140737488355328) (hb' : m ≤ 4611686018427387904) (hd : Nat.blt d X.nt = true) (hnb : nb.contains i = false)
    (h : ∀ b cap, m ≤ cap → OpsL X ops nb N (i + 1) os (row e n (.slice (some ⟨b, 0, none⟩) 0 cap) [] :: L) ds (upd ρ d (.slice (some ⟨b, 0, none⟩) m cap)) (row e n (.slice (some ⟨b, 0, none⟩) 0 cap) [] :: L)) : Op1 X ops nb N i (some d) (.call { callee := .builtin .append, args := #[s, x], argTypes := #[t, tx] }) ty os Ls ds ρ L := by
  subst ha
  refine op_eff (Y := Nat × Nat) (φ := fun y => m ≤ y.2) (v := fun y => .slice (some ⟨y.1, 0, none⟩) m y.2) (L' := fun y => row e n (.slice (some ⟨y.1, 0, none⟩) 0 y.2) [] :: L) ⟨(fun _ e => by cases e), fun pos after gd => ⟨rfl, fun w hw => ?_⟩⟩ (fun _ e => by cases e; exact hd) hnb fun y hy => h y.1 y.2 hy
  obtain ⟨ht, kk, z, hk, hkz, rfl, rfl, hzc⟩ := I.get
  have hzs : z.cells.size = kk.size := by rw [← Nat.eq_of_beq_eq_true hz, ← hzc]; simp
  have hrun := Lib.run_append_nil_zeros (P := X.P) w t tx ty e kk z k kn ht J.und hk hkz m h0 (by simpa using hn0) (by omega) (by omega)
  have hop : execOp (ev ρ) ⟨some d, .call { callee := .builtin .append, args := #[s, x], argTypes := #[t, tx] }, ty, pos, after, gd⟩ = (do pure (.value (← Builtin.append_ #[t, tx] ty #[.slice none 0 0, .int k m]))) := by
    simp [execOp, resolve, invoke, builtin, hs, hx]
  unfold OpVal
  rw [hop]
  simp only [Sem.run_bind, hrun, Result.andThen_ok, Sem.run_pure]
  have hge : m ≤ grownCap w m 0 e := grownCap_ge w m 0 e
  generalize grownCap w m 0 e = C at hge
  refine ⟨(w.heap.size, C), hge, rfl, ?_⟩
  refine (hw.drew.alloc _).map fun _ hh => hh.headMono fun _ hp => ⟨fun _ hx => by simp at hx, .inr ⟨w.heap.size, C, (Builtin.zeroCells z.cells m ++ Builtin.zeroCells z.cells (C - m)).toList, rfl, ?_, ?_⟩⟩
  · simp only [List.flatten_nil, List.nil_append, Array.length_toList, Array.size_append, size_zeroCells, hzs, ← Nat.add_mul]
    congr 1
    omega
  · simp only [List.flatten_nil, List.nil_append, Array.toArray_toList]
    exact hp

/-- An element (of one cell, a struct) of an array. -/
theorem a_index_arrA {xt len e n : Nat} [I : ArI X.P xt len e n] [J : TyA X.P e] {x y : Operand} {cs vs : List Value} {k : IntKind} {a : Int} {m : Nat} (hx : ev ρ x = .agg cs.toArray) (hy : ev ρ y = .int k a) (ha : a = (m : Int)) (hm : m < len) (hc : (cs.drop (m * n)).take n = vs) (hd : Nat.blt d X.nt = true)
    (h : OpsL X ops nb N (i + 1) os Ls ds (upd ρ d (.agg vs.toArray)) L) : Op1 X ops nb N i (some d) (.index xt x y) ty os Ls ds ρ L := by
  subst ha hc
  (refine op_pure1 (fun _ e => by cases e) (fun _ _ _ => by simp [qk]) hd ?_ h; intro pos after gd w)
  have hs : (sizeOf e).run X.P w = .ok n w := (Sz.mk I.size : Sz X.P e n).run_sizeOf
  have hp : (part e cs.toArray (m * n)).run X.P w = .ok (.agg ((cs.drop (m * n)).take n).toArray) w := by
    simp [part, J.run_isAgg, hs]
  simp only [execOp, hx, hy, Instr.index, Sem.run_bind, run_underlying_of I.und, Result.andThen_ok, asIntOf, Sem.run_pure]
  rw [if_pos (by omega)]
  simp only [Sem.run_bind, hs, Result.andThen_ok, Int.toNat_natCast, hp, Sem.run_pure]

/-- A method, bound to its receiver. -/
theorem vspec_bound {P : Program} {f : FuncId} [K : FnI P f] {v : Value} {args : List Value} {pre : List HProp} {Y : Type} {φ : Y → Prop} {ret : Y → Value} {post : Y → List HProp}
    (s : FSpec P f (v :: args) pre Y φ ret post) : VSpec P (.func (.func f) #[v] #[]) args pre Y φ ret post := by
  intro w0 w R hs
  unfold Runs callV
  have e : #[v] ++ args.toArray = (v :: args).toArray := by simp
  simp only [Deferred.ofValue, invoke, Sem.run_bind, Sem.run_pure, Result.andThen_ok, Array.append_empty, e, K.call]
  refine (s w0 w R hs).mono ?_
  rintro e w' ⟨y, hy, rfl, hs'⟩
  exact ⟨y, hy, rfl, hs'⟩
end
end Go.Fx
