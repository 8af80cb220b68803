/- THE FRAMEWORK, PART I: '==' of structs whose fields are bools, integers, strings. -/
import Derived.Test.YtgmobpngcilgjaaFwH
import Derived.Laws.StructEq
namespace Go.Fx
open Go

/-- The fields of such a struct, from place i on. -/
def seqInfo (P : Program) : List Field → Nat → Option (List TypeDesc)
  | [], _ => some []
  | f :: fs, i => if f.name ≠ "_" ∧ f.offset = i then
      match P.underlying f.type with
      | some .bool => (seqInfo P fs (i + 1)).map (TypeDesc.bool :: ·)
      | some (.int k) => (seqInfo P fs (i + 1)).map (TypeDesc.int k :: ·)
      | some .string => (seqInfo P fs (i + 1)).map (TypeDesc.string :: ·)
      | _ => none
    else none

def seqOk (P : Program) (t : TypeId) : Option (List TypeDesc) :=
  match P.underlying t with
  | some (.struct fs) => if P.stoodInHeld t = false ∧ P.eqGuardType P.depth t = false then seqInfo P fs.toList 0 else none
  | _ => none

class SEq (P : Program) (t : TypeId) (ds : outParam (List TypeDesc)) : Prop where
  info : seqOk P t = some ds

def fitD : TypeDesc → Value → Value → Bool
  | .bool, .bool _, .bool _ => true
  | .int _, .int k _, .int k' _ => decide (k = k')
  | .string, .string _, .string _ => true
  | _, _, _ => false
def eqD : Value → Value → Bool
  | .bool a, .bool b => a == b
  | .int _ a, .int _ b => a == b
  | .string a, .string b => a.toList == b.toList
  | _, _ => false
def fitL : List TypeDesc → List Value → List Value → Bool
  | [], _, _ => true
  | d :: ds, x :: xs, y :: ys => fitD d x y && fitL ds xs ys
  | _, _, _ => false
def eqL : List TypeDesc → List Value → List Value → Bool
  | [], _, _ => true
  | _ :: ds, x :: xs, y :: ys => eqD x y && eqL ds xs ys
  | _, _, _ => false

theorem run_part1 {P : Program} {w : World} {t : TypeId} {d : TypeDesc} (hu : P.underlying t = some d) (ha : isAggD d = false) {cs : Array Value} {i : Nat} {v : Value} (hv : cs[i]? = some v) : (part t cs i).run P w = .ok v w := by
  have : (isAgg t).run P w = .ok false w := Ty.run_isAgg (I := ⟨hu⟩) ha
  simp [part, this, hv]

theorem run_eqD {P : Program} {w : World} {n : Nat} {t : TypeId} {d : TypeDesc} (hu : P.underlying t = some d) {x y : Value} (hf : fitD d x y = true) : (Op.equalIn (n + 1) t x y).run P w = .ok (eqD x y) w := by
  unfold fitD at hf
  split at hf
  · exact run_equalIn_bool' w n t _ _ hu
  · simp only [decide_eq_true_eq] at hf
    subst hf
    exact run_equalIn_int w n t _ _ _ _ hu
  · exact run_equalIn_string w n t _ _ hu
  · cases hf

theorem run_eqFields {P : Program} {w : World} {n : Nat} {xs ys : List Value} : ∀ (fs : List Field) (i : Nat) (ds : List TypeDesc), seqInfo P fs i = some ds → fitL ds (xs.drop i) (ys.drop i) = true →
    (Op.eqFields (n + 1) xs.toArray ys.toArray fs).run P w = .ok (eqL ds (xs.drop i) (ys.drop i)) w
  | [], i, ds, h, _ => by
    simp only [seqInfo, Option.some.injEq] at h
    subst h
    rfl
  | f :: fs, i, ds, h, hf => by
    unfold seqInfo at h
    split at h
    · rename_i hn
      obtain ⟨hn1, hn2⟩ := hn
      have go : ∀ (d : TypeDesc) (ds' : List TypeDesc), P.underlying f.type = some d → isAggD d = false → seqInfo P fs (i + 1) = some ds' → ds = d :: ds' →
          (Op.eqFields (n + 1) xs.toArray ys.toArray (f :: fs)).run P w = .ok (eqL ds (xs.drop i) (ys.drop i)) w := by
        rintro d ds' hu ha hs rfl
        cases hx : xs.drop i with
        | nil => rw [hx] at hf; cases hf
        | cons x xs' =>
          cases hy : ys.drop i with
          | nil => rw [hx, hy] at hf; cases hf
          | cons y ys' =>
            rw [hx, hy] at hf
            simp only [fitL, Bool.and_eq_true] at hf
            have dx : xs.drop (i + 1) = xs' := by rw [← List.drop_drop, hx]; rfl
            have dy : ys.drop (i + 1) = ys' := by rw [← List.drop_drop, hy]; rfl
            have ex : xs.toArray[i]? = some x := by
              rw [List.getElem?_toArray]
              have : (xs.drop i)[0]? = some x := by rw [hx]; rfl
              rwa [List.getElem?_drop] at this
            have ey : ys.toArray[i]? = some y := by
              rw [List.getElem?_toArray]
              have : (ys.drop i)[0]? = some y := by rw [hy]; rfl
              rwa [List.getElem?_drop] at this
            have ih := run_eqFields (w := w) (n := n) (xs := xs) (ys := ys) fs (i + 1) ds' hs (by rw [dx, dy]; exact hf.2)
            rw [dx, dy] at ih
            simp only [Op.eqFields, if_pos hn1, Sem.run_bind, hn2, run_part1 hu ha ex, run_part1 hu ha ey, Result.andThen_ok, run_eqD hu hf.1, eqL]
            cases eqD x y with
            | true => simpa using ih
            | false => simp
      split at h
      · rename_i hu
        cases hs : seqInfo P fs (i + 1) with
        | none => simp [hs] at h
        | some ds' => simp only [hs, Option.map_some, Option.some.injEq] at h; exact go _ _ hu rfl hs h.symm
      · rename_i hu
        cases hs : seqInfo P fs (i + 1) with
        | none => simp [hs] at h
        | some ds' => simp only [hs, Option.map_some, Option.some.injEq] at h; exact go _ _ hu rfl hs h.symm
      · rename_i hu
        cases hs : seqInfo P fs (i + 1) with
        | none => simp [hs] at h
        | some ds' => simp only [hs, Option.map_some, Option.some.injEq] at h; exact go _ _ hu rfl hs h.symm
      · cases h
    · cases h

theorem SEq.get {P : Program} {t : TypeId} {ds : List TypeDesc} (I : SEq P t ds) : ∃ fs : Array Field, P.underlying t = some (.struct fs) ∧ P.stoodInHeld t = false ∧ P.eqGuardType P.depth t = false ∧ seqInfo P fs.toList 0 = some ds := by
  have h := I.info
  unfold seqOk at h
  split at h
  · rename_i fs hu
    split at h
    · rename_i hc
      exact ⟨fs, hu, hc.1, hc.2, h⟩
    · cases h
  · cases h

variable {X : Cx} {ops : Array Oper} {nb : List Nat} {N : Act → World → Prop} {i : Nat} {os : List Oper} {Ls : List HProp} {ds : List Deferred} {ρ : Regs} {L : List HProp} {ty : TypeId} {d : Nat}

theorem a_structeq {op : BinOp} {xt yt : TypeId} {tds : List TypeDesc} [I : SEq X.P xt tds] {x y : Operand} {a b : List Value} {v : Bool} (hx : ev ρ x = .agg a.toArray) (hy : ev ρ y = .agg b.toArray) (ho : isEq op = true) (hf : fitL tds a b = true) (hv : nilB op (eqL tds a b) = v) (hd : Nat.blt d X.nt = true)
    (h : OpsL X ops nb N (i + 1) os Ls ds (upd ρ d (.bool v)) L) : Op1 X ops nb N i (some d) (.binOp op xt x y yt) ty os Ls ds ρ L := by
  obtain ⟨fs, hu, hs, hg, hi⟩ := I.get
  refine a_eq hx hy ho (fun op' w => run_eqGuard_agg w op' xt x y _ _ hg) rfl rfl (t := eqL tds a b) (fun w _ => ?_) hv hd h
  have hfo : X.P.fieldsOf xt = fs := by simp [Program.fieldsOf, hu]
  rw [equal_unfold, run_equalIn_struct w 9999 xt _ _ (by rw [hfo]; exact hu) hs, hfo]
  have := run_eqFields (P := X.P) (w := w) (n := 9998) (xs := a) (ys := b) fs.toList 0 tds hi (by simpa using hf)
  simpa using this
end Go.Fx
