/- THE FRAMEWORK, PART E: a function's end. -/
import Derived.Test.YtgmobpngcilgjaaFwD
namespace Go.Fx
open Go

inductive Keep : List HProp → List HProp → Prop
  | refl {L : List HProp} : Keep L L
  | drop {A : HProp} {L L' : List HProp} (h : Keep L L') : Keep (A :: L) L'

theorem Keep.out {L L' : List HProp} (k : Keep L L') : ∀ {h : Frag}, SatL L h → SatL L' h := by
  induction k with
  | refl => exact fun h => h
  | drop _ ih => exact fun h => ih h.tail

theorem satL_append_mono : ∀ (pre : List HProp) {A B : List HProp} (_ : ∀ h, SatL A h → SatL B h) {h : Frag}, SatL (pre ++ A) h → SatL (pre ++ B) h
  | [], _, _, k, _, s => k _ s
  | _ :: pre, _, _, k, _, s => SatL.consMono (A := _) s fun _ s' => satL_append_mono pre k s'

theorem ent {L pre rest R : List HProp} (t : Take L pre rest) (k : Keep rest R) {h : Frag} (s : SatL L h) : SatL (pre ++ R) h :=
  satL_append_mono pre (fun _ s => k.out s) (t.out s)

theorem Take.out1 {L R : List HProp} {A : HProp} (t : Take L [A] R) {h : Frag} (s : SatL L h) : SatL (A :: R) h := t.out s
theorem Take.out2 {L R : List HProp} {A B : HProp} (t : Take L [A, B] R) {h : Frag} (s : SatL L h) : SatL (A :: B :: R) h := t.out s
theorem Take.out3 {L R : List HProp} {A B C : HProp} (t : Take L [A, B, C] R) {h : Frag} (s : SatL L h) : SatL (A :: B :: C :: R) h := t.out s

variable {P : Program} {w0 : World} {ρ : Regs} {L : List HProp}
theorem res_nil : Res P w0 ρ L [] [] := rfl
theorem res_tmp {t : Nat} {v : Value} {xs : List ResultVar} {vs : List Value} (h : ev ρ (.tmp t) = v) (hr : Res P w0 ρ L xs vs) : Res P w0 ρ L (.tmp t :: xs) (v :: vs) := ⟨v, vs, rfl, hr, h⟩
theorem res_cell {a t : Nat} {dd : TypeDesc} [I : Ty P t dd] {b o : Nat} {cs : List Value} {T : TypeId} {fr : Nat × Nat} {v : Value} {xs : List ResultVar} {vs : List Value} (hd : isAggD dd = false)
    (hp : ev ρ (.tmp a) = .pointer (some ⟨b, o, none⟩)) (hr : RdIn L b (.cells cs.toArray T fr)) (hc : cs[o]? = some v) (h : Res P w0 ρ L xs vs) : Res P w0 ρ L (.cell a t :: xs) (v :: vs) :=
  ⟨v, vs, rfl, h, _, hp, fun _ hs => run_loadVar1 (t := t) hd (cell_of_heap (off := o) (hr.heap hs) (by simpa using hc))⟩
theorem res_cellA {a t n : Nat} [I : TyA P t] [J : Sz P t n] {b o : Nat} {cs us : List Value} {T : TypeId} {fr : Nat × Nat} {xs : List ResultVar} {vs : List Value}
    (hp : ev ρ (.tmp a) = .pointer (some ⟨b, o, none⟩)) (hr : RdIn L b (.cells cs.toArray T fr)) (hn : Nat.ble (o + n) cs.length = true) (hc : (cs.drop o).take n = us) (h : Res P w0 ρ L xs vs) : Res P w0 ρ L (.cell a t :: xs) (.agg us.toArray :: vs) := by
  subst hc
  exact ⟨_, vs, rfl, h, _, hp, fun _ hs => run_loadVarA (t := t) (hr.heap hs) (by simpa using hn)⟩

theorem cont_ret {nt : Nat} {cv : List TypeId} {r : Option Nat} {fn : Func} {Y : Type} {φ : Y → Prop} {ret : Y → Value} {post : Y → List HProp} {R : List HProp} {vs : List Value} {rs : Array ResultVar} {y : Y} (hrs : fn.results = rs) (hr : Res P w0 ρ L rs.toList vs) (hp : ∀ h, SatL L h → SatL (post y ++ R) h) (hv : retOf vs = ret y) (hφ : φ y) :
    Cont ⟨P, r, nt, w0, cv⟩ (Fin ⟨P, r, nt, w0, cv⟩ fn Y φ ret post R) .ret [] ρ L := cont_fin (.inr rfl) vs (by rw [hrs]; exact hr) y hφ hv hp
theorem cont_end {nt : Nat} {cv : List TypeId} {r : Option Nat} {fn : Func} {Y : Type} {φ : Y → Prop} {ret : Y → Value} {post : Y → List HProp} {R : List HProp} {vs : List Value} {rs : Array ResultVar} {y : Y} (hrs : fn.results = rs) (hr : Res P w0 ρ L rs.toList vs) (hp : ∀ h, SatL L h → SatL (post y ++ R) h) (hv : retOf vs = ret y) (hφ : φ y) :
    Cont ⟨P, r, nt, w0, cv⟩ (Fin ⟨P, r, nt, w0, cv⟩ fn Y φ ret post R) .normal [] ρ L := cont_fin (.inl rfl) vs (by rw [hrs]; exact hr) y hφ hv hp

/-- Out of a function in which a range over a function ran. -/
theorem cont_retM {nt : Nat} {cv : List TypeId} {r : Option Nat} {fn : Func} {Y : Type} {φ : Y → Prop} {ret : Y → Value} {post : Y → List HProp} {R L' : List HProp} {vs : List Value} {rs : Array ResultVar} {y : Y} {dk : Nat} (ht : Take L [marked dk] L') (hrs : fn.results = rs) (hr : Res P w0 ρ L' rs.toList vs) (hp : ∀ h, SatL L' h → SatL (post y ++ R) h) (hv : retOf vs = ret y) (hφ : φ y) :
    Cont ⟨P, r, nt, w0, cv⟩ (Fin ⟨P, r, nt, w0, cv⟩ fn Y φ ret post R) .ret [mark dk] ρ L := cont_finM (.inr rfl) [dk] rfl (fun _ k => ht.out k) vs (by rw [hrs]; exact hr) y hφ hv hp
theorem cont_endM {nt : Nat} {cv : List TypeId} {r : Option Nat} {fn : Func} {Y : Type} {φ : Y → Prop} {ret : Y → Value} {post : Y → List HProp} {R L' : List HProp} {vs : List Value} {rs : Array ResultVar} {y : Y} {dk : Nat} (ht : Take L [marked dk] L') (hrs : fn.results = rs) (hr : Res P w0 ρ L' rs.toList vs) (hp : ∀ h, SatL L' h → SatL (post y ++ R) h) (hv : retOf vs = ret y) (hφ : φ y) :
    Cont ⟨P, r, nt, w0, cv⟩ (Fin ⟨P, r, nt, w0, cv⟩ fn Y φ ret post R) .normal [mark dk] ρ L := cont_finM (.inl rfl) [dk] rfl (fun _ k => ht.out k) vs (by rw [hrs]; exact hr) y hφ hv hp

end Go.Fx
