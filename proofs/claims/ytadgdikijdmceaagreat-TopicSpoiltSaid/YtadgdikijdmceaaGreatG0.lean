/- Texts merged: FwZ FwFx. -/
import Derived.Test.YtadgdikijdmceaaGreatFwY
set_option linter.unusedSimpArgs false
set_option linter.unusedVariables false
namespace Go.Fx
open Go

theorem opsL_mapL {X : Cx} {ops : Array Oper} {nb : NB} {N : Act → World → Prop} {i : Nat} {os : List Oper} {Ls : List HProp} {ds : List Deferred} {ρ : Regs} {L L' : List HProp} (k : ∀ h, SatL L h → SatL L' h) (h : OpsL X ops nb N i os Ls ds ρ L') : OpsL X ops nb N i os Ls ds ρ L := by
  unfold OpsL at *
  intro hd a w ha hs
  exact h hd a w ha (hs.map k)
theorem rowShapeS {e n : Nat} {v : Value} {xs : List (List Value)} {L R : List HProp} (hn : 0 < n) (t : Take L [row e n v xs] R) (h : Frag) (s : SatL L h) : ∃ p c, v = .slice p xs.length c ∧ xs.length ≤ c ∧ ∀ q, p = some q → q.spot = none := by
  rcases rowShape hn t h s with ⟨rfl, rfl⟩ | ⟨g, cap, rfl, hc⟩
  · exact ⟨none, 0, rfl, Nat.le_refl 0, fun _ e => by cases e⟩
  · exact ⟨_, cap, rfl, hc, fun _ e => by cases e; rfl⟩

section
variable {X : Cx} {ops : Array Oper} {nb : NB} {N : Act → World → Prop} {i : Nat} {os : List Oper} {Ls : List HProp} {ds : List Deferred} {ρ : Regs} {L : List HProp} {ty : TypeId} {d : Nat}
theorem good.setA {n : Nat} {xs : List (List Value)} (g : good n xs) {m : Nat} {vs : List Value} (hl : vs.length = n) (h1 : oneCells vs = true) : good n (xs.set m vs) := by
  intro u hu
  rcases List.mem_or_eq_of_mem_set hu with hu | rfl
  · exact g u hu
  · exact ⟨hl, h1⟩
theorem flatten_setA {n : Nat} {xs : List (List Value)} {m : Nat} {vs : List Value} (g : good n xs) (hm : m < xs.length) (hl : vs.length = n) (rest : List Value) :
    (xs.set m vs).flatten ++ rest = (xs.flatten ++ rest).take (m * n) ++ vs ++ (xs.flatten ++ rest).drop (m * n + vs.length) := by
  have gt : good n (xs.take m) := fun x hx => g x (List.mem_of_mem_take hx)
  have lt : (xs.take m).flatten.length = m * n := by rw [gt.flatten_length, List.length_take, Nat.min_eq_left (by omega)]
  have ly : (xs[m]).length = n := (g _ (List.getElem_mem hm)).1
  have e0 : xs.flatten ++ rest = (xs.take m).flatten ++ (xs[m] ++ ((xs.drop (m + 1)).flatten ++ rest)) := by
    conv => lhs; rw [← List.take_append_drop m xs, List.drop_eq_getElem_cons hm]
    rw [List.flatten_append, List.flatten_cons, List.append_assoc, List.append_assoc]
  rw [e0, List.set_eq_take_append_cons_drop, if_pos hm, List.flatten_append, List.flatten_cons]
  have e2 : ∀ (a c : List Value) (k : Nat), (a ++ c).drop (a.length + k) = c.drop k := fun a c k => by rw [← List.drop_drop, List.drop_left]
  rw [← lt, List.take_left, e2, hl, ← ly, List.drop_left]
  simp only [List.append_assoc]
theorem s_storeRowA [NoT nb] {t : TypeId} {n : Nat} [I : Sz X.P t n] {a x : Operand} {b m len cap e : Nat} {v : Value} {vs : List Value} {xs : List (List Value)} {R : List HProp}
    (hx : ev ρ a = .pointer (some ⟨b, slot 0 n m 0, none⟩)) (hv : ev ρ x = v) (hc : v.cells.toList = vs) (h1 : oneCells vs = true) (hsel : Sel L (row e n (.slice (some ⟨b, 0, none⟩) len cap) xs) R) (hm : m < xs.length) (hl : Nat.beq vs.length n = true) (hb : nb.contains i = false)
    (h : OpsL X ops nb N (i + 1) os (row e n (.slice (some ⟨b, 0, none⟩) len cap) (xs.set m vs) :: R) ds ρ (row e n (.slice (some ⟨b, 0, none⟩) len cap) (xs.set m vs) :: R)) : Op1 X ops nb N i none (.store t a x) ty os Ls ds ρ L := by
  refine op_eff (Y := Unit) (φ := fun _ => True) (v := fun _ => undef) (L' := fun _ => row e n (.slice (some ⟨b, 0, none⟩) len cap) (xs.set m vs) :: R) ?_ (fun _ e => by cases e) hb fun _ _ => h
  subst hv
  have hl := Nat.eq_of_beq_eq_true hl
  refine eff_intro1 (fun _ e => by cases e) (fun _ _ _ => rfl) fun pos after gd w hs => ?_
  have hs1 := hs.sel hsel
  obtain ⟨f1, f2, ha, l1, l2, ⟨g, hrow⟩, hR⟩ := hs1.heap
  rcases hrow with ⟨hn, _⟩ | ⟨b', cap', rest, hv', hl', hbk⟩
  · cases hn
  simp only [Value.slice.injEq, Option.some.injEq, Addr.mk.injEq, and_true] at hv'
  obtain ⟨hbb, hlen, hcc⟩ := hv'
  subst hbb hlen hcc
  have hs2 : Sats X.w0 w (pts b (.cells (xs.flatten ++ rest).toArray e) :: R) := ⟨hs1.os, hs1.tape, hs1.output, hs1.size, ⟨f1, f2, ha, l1, l2, hbk, hR⟩⟩
  have hfl := g.flatten_length
  have hslot : slot 0 n m 0 = m * n := by unfold slot; omega
  rw [hslot] at hx
  have hle : m * n + n ≤ xs.length * n := by
    have h1 : (m + 1) * n ≤ xs.length * n := Nat.mul_le_mul_right n hm
    rwa [Nat.succ_mul] at h1
  obtain ⟨w', h2, h3⟩ := storeCells_list (P := X.P) vs 0 (m * n) (xs.flatten ++ rest) R Sel.here hs2 (fun u hu => List.all_eq_true.1 h1 u hu) (by rw [List.length_append, hfl]; omega)
  have hsz : (ev ρ x).cells.size = n := by have := congrArg List.length hc; rw [hl] at this; simpa using this
  have gs := g.setA (m := m) hl h1
  have h4 : (xs.set m vs).flatten.length = xs.flatten.length := by rw [gs.flatten_length, hfl, List.length_set]
  unfold OpVal
  simp only [execOp, Instr.storeAt, Instr.sureAddr, hx, storeVar, Sem.run_bind, Sem.run_pure, Result.andThen_ok, I.run_sizeOf, hsz, ne_eq, not_true_eq_false, if_false, hc, h2]
  refine ⟨trivial, h3.map fun _ hh => hh.headMono fun f hp => ⟨gs, .inr ⟨b, cap, rest, by rw [List.length_set], ?_, ?_⟩⟩⟩
  · rw [List.length_append, h4, ← List.length_append]; exact hl'
  · have e1 := flatten_setA g hm hl rest
    rw [e1]; exact hp
end
end Go.Fx
set_option linter.unusedSimpArgs false
set_option linter.unusedVariables false
namespace Go.Fx
open Go
section
variable {X : Cx} {ops : Array Oper} {nb : NB} {N : Act → World → Prop} {i : Nat} {os : List Oper} {Ls : List HProp} {ds : List Deferred} {ρ : Regs} {L : List HProp} {ty : TypeId} {d : Nat}
theorem a_slice_view2 {xt e n by_ : Nat} {zs : List Value} [I : Sl X.P xt e n by_ zs] {x y z : Operand} {p : Option Addr} {len cap : Nat} {k1 k2 : IntKind} {a b : Int} {m q : Nat} (hx : ev ρ x = .slice p len cap) (hy : ev ρ y = .int k1 a) (hz : ev ρ z = .int k2 b) (ha : a = (m : Int)) (hb : b = (q : Int)) (h0 : m ≤ q) (h1 : q ≤ cap) (hd : Nat.blt d X.nt = true)
    (h : OpsL X ops nb N (i + 1) os Ls ds (upd ρ d (dropV n p q cap m)) L) : Op1 X ops nb N i (some d) (.slice xt x (some y) (some z) none) ty os Ls ds ρ L := by
  subst ha hb
  (refine op_pure1 (fun _ e => by cases e) (fun _ _ _ => by simp [qk]) hd ?_ h; intro pos after gd w)
  obtain ⟨ht, kk, zz, hk, hkz, hsz, _, _⟩ := I.get
  have hb1 : (Instr.sliceBound (.int k2 (q : Int)) cap .sliceAcap).run X.P w = .ok q w := by have := run_sliceBound (P := X.P) (w := w) (k := k2) (a := (q : Int)) (n := cap) (c := .sliceAcap) (by omega) (by omega); simpa using this
  have hb2 : (Instr.sliceBound (.int k1 (m : Int)) q .sliceB).run X.P w = .ok m w := by have := run_sliceBound (P := X.P) (w := w) (k := k1) (a := (m : Int)) (n := q) (c := .sliceB) (by omega) (by omega); simpa using this
  simp [execOp, hx, hy, hz, Instr.sliceAt, Instr.slice, run_underlying_of ht, Instr.sliceBounds, hb1, hb2, sizeOf, typeInfo, hk, dropV, hsz]
end
theorem Vw.sub {H : HProp} {n : Nat} {p : Option Addr} {len cap : Nat} {xs : List (List Value)} (v : Vw H n (.slice p len cap) xs) {m q : Nat} (h1 : q ≤ len) (h2 : len ≤ cap) : Vw H n (dropV n p q cap m) ((xs.take q).drop m) := (v.take h1).drop (by omega)
end Go.Fx
