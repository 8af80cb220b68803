/- Texts merged: RlA RlB RlC RlD. -/
import Derived.Test.YtphaegcoldpclaaDoorSdE
set_option linter.unusedSimpArgs false
set_option linter.unusedVariables false
set_option maxRecDepth 100000
namespace Go.Proofs.YtphaegcoldpclaaDoor
open Go Go.Fx Go.Proofs Go.Pl

def placeV (p : Pc) : List Value := .int .i64 p.1 :: valV p.2
@[reducible] def KPlace : KT := ⟨Pc, inferInstance, fun p => .agg (placeV p).toArray⟩
instance {t k i r : Int} {s : ByteArray} : KeyV KPlace (.agg #[.int .i64 t, .int .u8 k, .int .i64 i, .int .u64 r, .string s]) (t, ⟨k, i, r, s⟩) := ⟨rfl⟩

theorem pl_part0 (p : Pc) (w : World) : (part 3 (placeV p).toArray 0).run Tryd.prog w = .ok (.int .i64 p.1) w := run_part1 Tryd.underlying3 rfl rfl
theorem pl_part1 (p : Pc) (w : World) : (part 71 (placeV p).toArray 1).run Tryd.prog w = .ok (.agg (valV p.2).toArray) w := by
  unfold part
  simp only [Sem.run_bind, Tryd.isAgg71, Tryd.sizeOf71, Result.andThen_ok, if_true, Sem.run_pure]
  rfl
theorem vl_leaf (v : Vl) (w : World) (e : Bool) (n : Nat) : (Instr.checkKey e (n + 2) 71 (.agg (valV v).toArray)).run Tryd.prog w = .ok () w := by
  have p0 : (part 5 (valV v).toArray 0).run Tryd.prog w = .ok (.int .u8 v.kind) w := run_part1 Tryd.underlying5 rfl rfl
  have p1 : (part 2 (valV v).toArray 1).run Tryd.prog w = .ok (.int .i64 v.int) w := run_part1 Tryd.underlying2 rfl rfl
  have p2 : (part 25 (valV v).toArray 2).run Tryd.prog w = .ok (.int .u64 v.real) w := run_part1 Tryd.underlying25 rfl rfl
  have p3 : (part 9 (valV v).toArray 3).run Tryd.prog w = .ok (.string v.text) w := run_part1 Tryd.underlying9 rfl rfl
  have k0 := MapKept.run_checkKey (P := Tryd.prog) (w := w) (k := .int .u8 v.kind) Tryd.underlying5 rfl e n
  have k1 := MapKept.run_checkKey (P := Tryd.prog) (w := w) (k := .int .i64 v.int) Tryd.underlying2 rfl e n
  have k2 := MapKept.run_checkKey (P := Tryd.prog) (w := w) (k := .int .u64 v.real) Tryd.underlying25 rfl e n
  have k3 := MapKept.run_checkKey (P := Tryd.prog) (w := w) (k := .string v.text) Tryd.underlying9 trivial e n
  rw [Instr.checkKey]
  simp only [Sem.run_bind, run_underlying Tryd.underlying71, Result.andThen_ok]
  rw [← Array.forIn_toList]
  simp [List.forIn_cons, Sem.run_bind, p0, p1, p2, p3, k0, k1, k2, k3, Result.andThen_ok]
theorem pl_check (e : Bool) (p : Pc) (w : World) : (Instr.checkKey e 10000 151 (KPlace.enc p)).run Tryd.prog w = .ok () w := by
  have k0 := MapKept.run_checkKey (P := Tryd.prog) (w := w) (k := .int .i64 p.1) Tryd.underlying3 rfl e 9998
  have k1 := vl_leaf p.2 w e 9997
  show (Instr.checkKey e (9999 + 1) 151 (.agg (placeV p).toArray)).run Tryd.prog w = .ok () w
  rw [Instr.checkKey]
  simp only [Sem.run_bind, run_underlying Tryd.underlying151, Result.andThen_ok]
  rw [← Array.forIn_toList]
  simp [List.forIn_cons, Sem.run_bind, pl_part0, pl_part1, k0, k1, Result.andThen_ok]
theorem vl_equal (a b : Vl) (w : World) (n : Nat) : (Op.equalIn (n + 2) 71 (.agg (valV a).toArray) (.agg (valV b).toArray)).run Tryd.prog w = .ok (decide (a = b)) w := by
  obtain ⟨fs, hu, hs, hg, hi⟩ := valEq.get
  have hfo : Tryd.prog.fieldsOf 71 = fs := by simp [Program.fieldsOf, hu]
  rw [show n + 2 = (n + 1) + 1 from rfl, run_equalIn_struct w (n + 1) 71 _ _ (by rw [hfo]; exact hu) hs, hfo]
  have h := run_eqFields (P := Tryd.prog) (w := w) (n := n) (xs := valV a) (ys := valV b) fs.toList 0 _ hi rfl
  rw [List.drop_zero, List.drop_zero, eqL_valV] at h
  exact h
theorem pl_equal (a b : Pc) (w : World) : (Op.equal 151 (KPlace.enc a) (KPlace.enc b)).run Tryd.prog w = .ok (decide (a = b)) w := by
  have hst : Tryd.prog.stoodInHeld 151 = false := by kernel_rfl
  have k0 : (Op.equalIn 9999 3 (.int .i64 a.1) (.int .i64 b.1)).run Tryd.prog w = .ok (decide (a.1 = b.1)) w := run_eqD (P := Tryd.prog) (n := 9998) Tryd.underlying3 (x := .int .i64 a.1) (y := .int .i64 b.1) rfl
  have k1 := vl_equal a.2 b.2 w 9997
  show (Op.equalIn (9999 + 1) 151 (.agg (placeV a).toArray) (.agg (placeV b).toArray)).run Tryd.prog w = _
  rw [run_equalIn_struct w 9999 151 _ _ (by simp [Program.fieldsOf, Tryd.underlying151]) hst]
  simp [Program.fieldsOf, Tryd.underlying151, Op.eqFields, Sem.run_bind, pl_part0, pl_part1, k0, k1, Result.andThen_ok, Sem.run_ite, Sem.run_pure]
  by_cases h1 : a.1 = b.1 <;> by_cases h2 : a.2 = b.2 <;> simp [h1, h2, Prod.ext_iff]
theorem pl_bits (p : Pc) : Instr.sameBits 10000 (KPlace.enc p) (KPlace.enc p) = true := by
  show Instr.sameBits (9999 + 1) (.agg (placeV p).toArray) (.agg (placeV p).toArray) = true
  simp [Instr.sameBits, placeV, valV]
  show (p.2.text.data == p.2.text.data) = true
  exact beq_self_eq_true _
instance keyPlace : KeyT Tryd.prog 151 KPlace := keyT_asking Tryd.underlying151 (fun _ _ => rfl) pl_check pl_equal pl_bits
instance keyU8 : KeyT Tryd.prog 5 (KInt .u8) := keyT_int Tryd.underlying5
end Go.Proofs.YtphaegcoldpclaaDoor
set_option linter.unusedSimpArgs false
set_option linter.unusedVariables false
set_option maxRecDepth 100000
namespace Go.Proofs.YtphaegcoldpclaaDoor
open Go Go.Fx Go.Proofs Go.Pl

end Go.Proofs.YtphaegcoldpclaaDoor
set_option linter.unusedSimpArgs false
set_option linter.unusedVariables false
set_option maxRecDepth 100000
namespace Go.Proofs.YtphaegcoldpclaaDoor
open Go Go.Fx Go.Proofs Go.Pl

theorem TbOk.ext {P P' : HProp} (e : Ext P P') {t : Tb} (h : TbOk P t) : TbOk P' t := ⟨e.vw h.vw, h.len, h.nm, h.cnm⟩
theorem SV.ext {P P' : HProp} (e : Ext P P') {vs : Value} {ts : List Tb} (h : SV P vs ts) : SV P' vs ts := ⟨e.vw h.vw, fun t ht => (h.tab t ht).ext e, h.len, h.cap⟩
theorem UT.ext {P P' : HProp} (e : Ext P P') (h : UT P) : UT P' := fun w ⟨f, l, hf⟩ => by
  obtain ⟨f', l', hf'⟩ := e f hf
  exact h w ⟨f', l'.trans l, hf'⟩
end Go.Proofs.YtphaegcoldpclaaDoor
set_option linter.unusedSimpArgs false
set_option linter.unusedVariables false
set_option maxRecDepth 100000
namespace Go.Proofs.YtphaegcoldpclaaDoor
open Go Go.Fx Go.Proofs Go.Pl

inductive EsOk (P : HProp) : List (Pc × Value) → RR → Prop
  | nil : EsOk P [] []
  | cons {a : Pc} {v : Value} {l : List Vl} {es : List (Pc × Value)} {rows : RR} (h : Vw P 4 v (l.map valV)) (hs : EsOk P es rows) : EsOk P ((a, v) :: es) ((a, l) :: rows)
theorem EsOk.ext {P P' : HProp} (a : Ext P P') {es : List (Pc × Value)} {rows : RR} (h : EsOk P es rows) : EsOk P' es rows := by
  induction h with
  | nil => exact .nil
  | cons h _ ih => exact .cons (a.vw h) ih
theorem EsOk.len {P : HProp} {es : List (Pc × Value)} {rows : RR} (h : EsOk P es rows) : es.length = rows.length := by
  induction h with
  | nil => rfl
  | cons _ _ ih => simp [ih]
theorem EsOk.get {P : HProp} {p : Pc} {es : List (Pc × Value)} {rows : RR} (h : EsOk P es rows) : (getK KPlace p es = none ∧ aget p rows = none) ∨ ∃ v l, getK KPlace p es = some v ∧ aget p rows = some l ∧ Vw P 4 v (l.map valV) := by
  induction h with
  | nil => exact .inl ⟨rfl, rfl⟩
  | @cons a v l es rows h hs ih =>
    simp only [getK, aget]
    by_cases hp : p = a
    · rw [if_pos hp, if_pos hp]; exact .inr ⟨v, l, rfl, rfl, h⟩
    · rw [if_neg hp, if_neg hp]; exact ih
theorem EsOk.put {P : HProp} {p : Pc} {v : Value} {l : List Vl} (hv : Vw P 4 v (l.map valV)) {es : List (Pc × Value)} {rows : RR} (h : EsOk P es rows) : EsOk P (putK KPlace p v es) (aput p l rows) := by
  induction h with
  | nil => exact .cons hv .nil
  | @cons a u k es rows h hs ih =>
    simp only [putK, aput]
    by_cases hp : p = a
    · rw [if_pos hp, if_pos hp]; exact .cons hv hs
    · rw [if_neg hp, if_neg hp]; exact .cons h ih
theorem EsOk.del {P : HProp} {p : Pc} {es : List (Pc × Value)} {rows : RR} (h : EsOk P es rows) : EsOk P (delK KPlace p es) (adel p rows) := by
  induction h with
  | nil => exact .nil
  | @cons a u k es rows h hs ih =>
    simp only [delK, adel]
    by_cases hp : p = a
    · rw [if_pos hp, if_pos hp]; exact hs
    · rw [if_neg hp, if_neg hp]; exact .cons h ih

structure RlY where
  vs : Value
  ts : List Tb
  m : Nat
  es : List (Pc × Value)
structure RlOK (P : HProp) (r : Rl) (y : RlY) : Prop where
  vc : y.vs.oneCell' = true
  sv : SV P y.vs y.ts
  s : y.ts.map Tb.c = r.s
  es : EsOk P y.es r.rows
def relC (b : Nat) (vs : Value) (m : Nat) (turns : Int) : HProp := pts b (.cells [vs, .map (some m), .int .u64 turns].toArray 145)
def relL (P : HProp) (b : Nat) (r : Rl) (y : { y : RlY // RlOK P r y }) : List HProp := [pts b (.cells [y.1.vs, .map (some y.1.m), .int .u64 r.turns].toArray 145), mapK KPlace y.1.m y.1.es]
def relP (P : HProp) (b : Nat) (r : Rl) : HProp := exP (relL P b r)
theorem RlOK.ext {P P' : HProp} (a : Ext P P') {r : Rl} {y : RlY} (h : RlOK P r y) : RlOK P' r y := ⟨h.vc, h.sv.ext a, h.s, h.es.ext a⟩
def Rl.ins (r : Rl) (p : Pc) (l : List Vl) : Rl × Int := if (aget p r.rows).isSome then (r, 9) else if 200 ≤ r.rows.length then (r, 4) else ({ r with rows := aput p l r.rows }, 0)
def Rl.upd (r : Rl) (p : Pc) (l : List Vl) : Rl × Int := if (aget p r.rows).isSome then ({ r with rows := aput p l r.rows }, 0) else (r, 3)
def Rl.rem (r : Rl) (p : Pc) (l : List Vl) : Rl × Int := if (aget p r.rows).isSome then ({ r with rows := adel p r.rows }, 0) else (r, 3)
def ActSpec (f : FuncId) (op : Rl → Pc → List Vl → Rl × Int) : Prop := ∀ (P : HProp) (b : Nat) (r : Rl) (p : Pc) (l : List Vl) (w : Value), Vw P 4 w (l.map valV) → l.length ≤ 1000000 →
  FSpec Tryd.prog f [.pointer (some ⟨b, 0, none⟩), .agg (placeV p).toArray, w] [relP P b r, P] HProp (fun P' => Ext P P') (fun _ => .int .i64 (op r p l).2) (fun P' => [relP P' b (op r p l).1, P'])

def fv (f : FuncId) : Value := .func (.func f) #[] #[]
end Go.Proofs.YtphaegcoldpclaaDoor
