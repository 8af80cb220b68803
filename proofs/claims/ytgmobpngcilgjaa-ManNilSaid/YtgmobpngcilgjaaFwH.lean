/- THE FRAMEWORK, PART H: slices: rows that nobody else has ('row'), what is read of any slice ('view'), append, slice literals. -/
import Derived.Test.YtgmobpngcilgjaaFwG
import Derived.Deep.AppendSrc
import Derived.Laws.AppendOwn
import Derived.Great.BuildSlice
import Derived.Scope
namespace Go.Fx
open Go

/-- Elements of n cells each. -/
def good (n : Nat) (xs : List (List Value)) : Prop := ∀ x ∈ xs, x.length = n ∧ oneCells x = true

theorem good.flatten_length {n : Nat} : ∀ {xs : List (List Value)}, good n xs → xs.flatten.length = xs.length * n
  | [], _ => by simp
  | x :: xs, h => by
    have h1 := (h x (List.mem_cons_self ..)).1
    have h2 := good.flatten_length (xs := xs) fun y hy => h y (List.mem_cons_of_mem _ hy)
    simp only [List.flatten_cons, List.length_append, List.length_cons, h1, h2, Nat.add_mul, Nat.one_mul]
    omega
theorem good.append {n : Nat} {xs ys : List (List Value)} (h : good n xs) (k : good n ys) : good n (xs ++ ys) := fun x hx => (List.mem_append.1 hx).elim (h x) (k x)
theorem good.one {n : Nat} {xs : List (List Value)} (h : good n xs) : ∀ u ∈ xs.flatten, u.oneCell' = true := by
  intro u hu
  obtain ⟨x, hx, hu⟩ := List.mem_flatten.1 hu
  exact List.all_eq_true.1 (h x hx).2 u hu
theorem good.get {n : Nat} : ∀ {xs : List (List Value)}, good n xs → ∀ {i j : Nat} {x : List Value}, xs[i]? = some x → j < n → xs.flatten[i * n + j]? = x[j]?
  | [], _, _, _, _, hx, _ => by simp at hx
  | y :: xs, h, i, j, x, hx, hj => by
    have h1 := (h y (List.mem_cons_self ..)).1
    cases i with
    | zero =>
      simp only [List.getElem?_cons_zero, Option.some.injEq] at hx
      subst hx
      simp only [List.flatten_cons, Nat.zero_mul, Nat.zero_add]
      rw [List.getElem?_append_left (by omega)]
    | succ i =>
      simp only [List.getElem?_cons_succ] at hx
      have h2 := good.get (xs := xs) (fun z hz => h z (List.mem_cons_of_mem _ hz)) hx hj
      simp only [List.flatten_cons]
      rw [List.getElem?_append_right (by rw [h1, Nat.add_mul]; omega), h1]
      rw [← h2]
      congr 1
      rw [Nat.add_mul]; omega

/-- A slice that nobody else has: elements of type e, of n cells each. -/
def row (e n : Nat) (v : Value) (xs : List (List Value)) : HProp := fun h =>
  good n xs ∧ ((v = .slice none 0 0 ∧ xs = []) ∨ ∃ b cap rest, v = .slice (some ⟨b, 0, none⟩) xs.length cap ∧ (xs.flatten ++ rest).length = cap * n ∧ h b = some (.cells (xs.flatten ++ rest).toArray e))

/-- What is read of a slice. -/
def view (n : Nat) (v : Value) (xs : List (List Value)) (h : Frag) : Prop :=
  good n xs ∧ ∃ p cap, v = .slice p xs.length cap ∧ (xs = [] ∨ ∃ b o, p = some ⟨b, o, none⟩) ∧ (p = none → xs = []) ∧
    ∀ b o, p = some ⟨b, o, none⟩ → xs ≠ [] → ∃ cs T fr, h b = some (.cells cs T fr) ∧ ∀ j u, xs.flatten[j]? = some u → cs[o + j]? = some u

theorem view.mono {n : Nat} {v : Value} {xs : List (List Value)} {h h' : Frag} (k : view n v xs h) (l : h.le h') : view n v xs h' := by
  obtain ⟨g, p, cap, h1, h2, h2', h3⟩ := k
  refine ⟨g, p, cap, h1, h2, h2', fun b o hp hx => ?_⟩
  obtain ⟨cs, T, fr, hb, hc⟩ := h3 b o hp hx
  exact ⟨cs, T, fr, l _ _ hb, hc⟩

def Vw (H : HProp) (n : Nat) (v : Value) (xs : List (List Value)) : Prop := ∀ h, H h → view n v xs h

theorem Vw.row {e n : Nat} {v : Value} {xs : List (List Value)} : Vw (row e n v xs) n v xs := by
  rintro h ⟨g, (⟨rfl, rfl⟩ | ⟨b, cap, rest, rfl, hl, hb⟩)⟩
  · exact ⟨g, none, 0, rfl, .inl rfl, fun _ => rfl, fun _ _ e => by cases e⟩
  · refine ⟨g, _, cap, rfl, .inr ⟨b, 0, rfl⟩, (fun e => by cases e), fun b' o' hp hx => ?_⟩
    cases hp
    refine ⟨_, _, _, hb, fun j u hj => ?_⟩
    rw [Nat.zero_add, List.getElem?_toArray, List.getElem?_append_left (List.getElem?_eq_some_iff.1 hj).1]
    exact hj

inductive VwIn : List HProp → Nat → Value → List (List Value) → Prop
  | here {H : HProp} {L : List HProp} {n : Nat} {v : Value} {xs : List (List Value)} (h : Vw H n v xs) : VwIn (H :: L) n v xs
  | there {H : HProp} {L : List HProp} {n : Nat} {v : Value} {xs : List (List Value)} (h : VwIn L n v xs) : VwIn (H :: L) n v xs

theorem VwIn.satL {L : List HProp} {n : Nat} {v : Value} {xs : List (List Value)} (r : VwIn L n v xs) : ∀ {h : Frag}, SatL L h → view n v xs h := by
  induction r with
  | here hr => rintro h ⟨h1, _, _, l1, _, hA, _⟩; exact (hr _ hA).mono l1
  | there _ ih => exact fun s => ih s.tail

/-- A slice value, of what is known of it. -/
theorem VwIn.slice {L : List HProp} {n : Nat} {v : Value} {xs : List (List Value)} (r : VwIn L n v xs) (h : Frag) (s : SatL L h) : ∃ p cap, v = .slice p xs.length cap := by
  obtain ⟨_, p, cap, h1, _⟩ := r.satL s
  exact ⟨p, cap, h1⟩
theorem VwIn.base {L : List HProp} {n : Nat} {p : Option Addr} {len cap : Nat} {xs : List (List Value)} (r : VwIn L n (.slice p len cap) xs) (hx : xs ≠ []) (h : Frag) (s : SatL L h) : ∃ b o, p = some ⟨b, o, none⟩ := by
  obtain ⟨_, p', cap', h1, h2, _⟩ := r.satL s
  cases h1
  exact h2.resolve_left hx
theorem VwIn.good {L : List HProp} {n : Nat} {v : Value} {xs : List (List Value)} (r : VwIn L n v xs) (h : Frag) (s : SatL L h) : good n xs := (r.satL s).1

/-- Cell j of element i of a row of elements of n cells, from o on. -/
def slot (o n i j : Nat) : Nat := o + i * n + j
theorem slot_add {o n i j k : Nat} : slot o n i j + k = slot o n i (j + k) := by unfold slot; omega

variable {X : Cx} {ops : Array Oper} {nb : List Nat} {N : Act → World → Prop} {i : Nat} {os : List Oper} {Ls : List HProp} {ds : List Deferred} {ρ : Regs} {L : List HProp} {ty : TypeId} {d : Nat}

theorem Sl.get {P : Program} {t e n b : Nat} {zs : List Value} (I : Sl P t e n b zs) : P.underlying t = some (.slice e) ∧ ∃ k z, P.info? e = some k ∧ k.zero = some z ∧ k.size = n ∧ k.bytes = b ∧ z.cells.toList = zs := by
  have h := I.info
  unfold slInfo at h
  split at h
  · rename_i e' hu
    split at h
    · rename_i k hk
      cases hz : k.zero with
      | none => simp [hz] at h
      | some z =>
        simp only [hz, Option.map_some, Option.some.injEq, Prod.mk.injEq] at h
        obtain ⟨rfl, rfl, rfl, rfl⟩ := h
        exact ⟨hu, k, z, hk, hz, rfl, rfl, rfl⟩
    · cases h
  · cases h

theorem src_of_view {P : Program} {w : World} {tx e' n : Nat} {u : Value} {ys : List (List Value)} (J : Ty P tx (.slice e')) (v : view n u ys (fun b => w.heap[b]?)) : Src P n tx u ys.length ys.flatten w := by
  obtain ⟨g, p, cap, rfl, h2, h2', h3⟩ := v
  cases p with
  | none =>
    have : ys = [] := h2' rfl
    subst this
    exact Src.ofNil w J.und cap
  | some a =>
    refine Src.ofSlice w J.und a _ cap _ g.flatten_length ?_ g.one
    intro j u hj
    have hne : ys ≠ [] := by rintro rfl; simp at hj
    obtain ⟨b, o, hp⟩ := h2.resolve_left hne
    cases hp
    obtain ⟨cs, T, fr, hb, hc⟩ := h3 b o rfl hne
    rw [add_plain]
    exact cell_of_heap hb (hc j u hj)

theorem e_append {t tx e e' n by_ : Nat} {zs : List Value} [I : Sl X.P t e n by_ zs] [J : Ty X.P tx (.slice e')] {s x : Operand} {v u : Value} {xs ys : List (List Value)} {R : List HProp} {d : Option Nat}
    (hz : Nat.beq zs.length n = true) (hs : ev ρ s = v) (hx : ev ρ x = u) (hsel : Sel L (row e n v xs) R) (hr : VwIn R n u ys) (hb : (xs.length + ys.length) * by_ ≤ 140737488355328) (hb' : xs.length + ys.length ≤ 4611686018427387904) :
    Eff X d (.call { callee := .builtin .append, args := #[s, x], argTypes := #[t, tx] }) ty ρ L Value (fun v' => v'.oneCell' = true) (fun v' => v') (fun v' => row e n v' (xs ++ ys) :: R) := by
  subst hs hx
  refine ⟨(fun _ e => by cases e), fun pos after gd => ⟨rfl, fun w hw => ?_⟩⟩
  obtain ⟨ht, k, z, hk, hkz, rfl, rfl, hzc⟩ := I.get
  have hzs : z.cells.size = k.size := by rw [← Nat.eq_of_beq_eq_true hz, ← hzc]; simp
  have hw1 := hw.sel hsel
  obtain ⟨h1, h2, ha, l1, l2, ⟨g, hrow⟩, hR⟩ := hw1.heap
  have hv : view k.size (ev ρ x) ys (fun b => w.heap[b]?) := (hr.satL hR).mono l2
  have gy := hv.1
  have hsrc := src_of_view (P := X.P) (w := w) J hv
  have hop : execOp (ev ρ) ⟨d, .call { callee := .builtin .append, args := #[s, x], argTypes := #[t, tx] }, ty, pos, after, gd⟩ = (do pure (.value (← Builtin.append_ #[t, tx] ty #[ev ρ s, ev ρ x]))) := by
    simp [execOp, resolve, invoke, builtin]
  have fin : ∀ {v' : Value} {w' : World}, v'.oneCell' = true → (Builtin.append_ #[t, tx] ty #[ev ρ s, ev ρ x]).run X.P w = .ok v' w' → Sats X.w0 w' (row e k.size v' (xs ++ ys) :: R) →
      OpVal X.P ⟨d, .call { callee := .builtin .append, args := #[s, x], argTypes := #[t, tx] }, ty, pos, after, gd⟩ (ev ρ) w fun u' w' => ∃ y : Value, y.oneCell' = true ∧ u' = y ∧ Sats X.w0 w' (row e k.size y (xs ++ ys) :: R) := by
    intro v' w' h1' hrun hs'
    unfold OpVal
    rw [hop]
    simp only [Sem.run_bind, hrun, Result.andThen_ok, Sem.run_pure]
    exact ⟨v', h1', rfl, hs'⟩
  have grow : ∀ (p : Option Addr) (cap : Nat), ev ρ s = .slice p xs.length cap → cap < xs.length + ys.length → (Builtin.firstCells k.size xs.length (.slice p xs.length cap)).run X.P w.drew = .ok xs.flatten.toArray w.drew →
      OpVal X.P ⟨d, .call { callee := .builtin .append, args := #[s, x], argTypes := #[t, tx] }, ty, pos, after, gd⟩ (ev ρ) w fun u' w' => ∃ y : Value, y.oneCell' = true ∧ u' = y ∧ Sats X.w0 w' (row e k.size y (xs ++ ys) :: R) := by
    intro p cap hp hlt hold
    have hrun := run_append_grow_src (P := X.P) w t tx ty e k z ht hk hkz p xs.length cap xs.flatten hold (ev ρ x) ys.length ys.flatten hsrc hlt (by omega) (growslice_fits hlt hb)
    rw [← hp] at hrun
    refine fin rfl hrun ?_
    have hs0 : Sats X.w0 w R := hw1.map fun _ hh => hh.tail
    have hs1 := hs0.drew.alloc (.cells ((xs.flatten ++ ys.flatten).toArray ++ Builtin.zeroCells z.cells (grownCap w (xs.length + ys.length) cap e - (xs.length + ys.length))) e)
    refine hs1.map fun _ hh => hh.headMono fun _ hp' => ⟨g.append gy, .inr ⟨w.heap.size, _, (Builtin.zeroCells z.cells (grownCap w (xs.length + ys.length) cap e - (xs.length + ys.length))).toList, by rw [List.length_append], ?_, ?_⟩⟩
    · have hge := grownCap_ge w (xs.length + ys.length) cap e
      simp only [List.length_append, List.flatten_append, g.flatten_length, gy.flatten_length, Array.length_toList, size_zeroCells, hzs, ← Nat.add_mul]
      congr 1
      omega
    · have e1 : ((xs ++ ys).flatten ++ (Builtin.zeroCells z.cells (grownCap w (xs.length + ys.length) cap e - (xs.length + ys.length))).toList).toArray = (xs.flatten ++ ys.flatten).toArray ++ Builtin.zeroCells z.cells (grownCap w (xs.length + ys.length) cap e - (xs.length + ys.length)) := by
        apply Array.ext'; simp
      rw [e1]
      exact hp'
  rcases hrow with ⟨hnil, rfl⟩ | ⟨b, cap, rest, hv', hl, hbk⟩
  · by_cases hy : ys = []
    · subst hy
      have hrun : (Builtin.append_ #[t, tx] ty #[ev ρ s, ev ρ x]).run X.P w = .ok (.slice none 0 0) w := by
        rw [hnil]
        have h3 := hsrc.len w
        have h4 := hsrc.cells
        simp only [List.length_nil] at h3 h4
        simp [Builtin.append_, run_underlying ht, run_underlying J.und, sizeOf, typeInfo, hk, h3, h4]
      refine fin rfl hrun ?_
      refine hw1.map fun _ hh => hh.headMono fun _ _ => ⟨by simpa using g, .inl ⟨rfl, by simp⟩⟩
    · refine grow none 0 hnil ?_ ?_
      · have := List.length_pos_iff.2 hy
        simp; omega
      · exact run_firstCells_none w.drew _ _ _ _
  · have hbw : w.heap[b]? = some (.cells (xs.flatten ++ rest).toArray e) := l1 _ _ hbk
    by_cases hroom : xs.length + ys.length ≤ cap
    · have hle : xs.flatten.length + ys.flatten.length ≤ (xs.flatten ++ rest).length := by
        rw [hl, g.flatten_length, gy.flatten_length, ← Nat.add_mul]
        exact Nat.mul_le_mul_right _ hroom
      have hs2 : Sats X.w0 w (pts b (.cells (xs.flatten ++ rest).toArray e) :: R) := ⟨hw1.os, hw1.tape, hw1.output, hw1.size, ⟨h1, h2, ha, l1, l2, hbk, hR⟩⟩
      obtain ⟨w', hst, hs'⟩ := storeCells_list (P := X.P) ys.flatten 0 (xs.length * k.size) (xs.flatten ++ rest) R Sel.here hs2 gy.one (by rw [← g.flatten_length]; omega)
      have hrun : (Builtin.append_ #[t, tx] ty #[ev ρ s, ev ρ x]).run X.P w = .ok (.slice (some ⟨b, 0, none⟩) (xs.length + ys.length) cap) w' := by
        rw [hv']
        have h3 := hsrc.len w
        have h4 := hsrc.cells
        rcases hsrc.kind with ⟨e', hk'⟩ | hk' <;>
          simp [Builtin.append_, run_underlying ht, run_underlying hk', sizeOf, typeInfo, hk, h3, h4, hroom, Addr.add_lit, hst]
      refine fin rfl hrun ?_
      refine hs'.map fun _ hh => hh.headMono fun _ hp' => ⟨g.append gy, .inr ⟨b, cap, rest.drop ys.flatten.length, by rw [List.length_append], ?_, ?_⟩⟩
      · simp only [List.length_append] at hl hle ⊢
        simp only [List.flatten_append, List.length_append, List.length_drop]
        omega
      · have e1 : (xs ++ ys).flatten ++ rest.drop ys.flatten.length = (xs.flatten ++ rest).take (xs.length * k.size + 0) ++ ys.flatten ++ (xs.flatten ++ rest).drop (xs.length * k.size + 0 + ys.flatten.length) := by
          rw [Nat.add_zero, ← g.flatten_length, List.take_left, List.flatten_append, List.append_assoc, ← List.drop_drop, List.drop_left, List.append_assoc]
        rw [e1]
        exact hp'
    · refine grow _ cap hv' (by omega) ?_
      refine run_firstCells_some w.drew _ _ _ _ _ _ g.flatten_length ?_
      intro j u hj
      rw [add_plain]
      exact cell_of_heap (w := w.drew) (cs := (xs.flatten ++ rest).toArray) hbw (by rw [Nat.zero_add, List.getElem?_toArray, List.getElem?_append_left (List.getElem?_eq_some_iff.1 hj).1]; exact hj)

theorem s_append {t tx e e' n by_ : Nat} {zs : List Value} [I : Sl X.P t e n by_ zs] [J : Ty X.P tx (.slice e')] {s x : Operand} {v u : Value} {xs ys : List (List Value)} {R : List HProp}
    (hz : Nat.beq zs.length n = true) (hs : ev ρ s = v) (hx : ev ρ x = u) (hsel : Sel L (row e n v xs) R) (hr : VwIn R n u ys) (hb : (xs.length + ys.length) * by_ ≤ 140737488355328) (hb' : xs.length + ys.length ≤ 4611686018427387904) (hd : Nat.blt d X.nt = true) (hnb : nb.contains i = false)
    (h : ∀ v', v'.oneCell' = true → OpsL X ops nb N (i + 1) os (row e n v' (xs ++ ys) :: R) ds (upd ρ d v') (row e n v' (xs ++ ys) :: R)) : Op1 X ops nb N i (some d) (.call { callee := .builtin .append, args := #[s, x], argTypes := #[t, tx] }) ty os Ls ds ρ L :=
  op_eff (e_append hz hs hx hsel hr hb hb') (fun _ e => by cases e; exact hd) hnb h

theorem a_len_view {T e n : Nat} [I : Ty X.P T (.slice e)] {x : Operand} {v : Value} {xs : List (List Value)} (hx : ev ρ x = v) (hr : VwIn Ls n v xs) (hd : Nat.blt d X.nt = true)
    (h : OpsL X ops nb N (i + 1) os Ls ds (upd ρ d (.int .i64 xs.length)) L) : Op1 X ops nb N i (some d) (.call { callee := .builtin .len, args := #[x], argTypes := #[T] }) ty os Ls ds ρ L := by
  refine op_quiet (fun _ e => by cases e) (fun _ _ _ => by simp [qk]) (fun x hx => by cases hx; assumption) ?_ h
  intro pos after gd w hw
  have hs := hw.resolve_left (by simp [qk])
  obtain ⟨_, p, cap, rfl, _⟩ := hr.satL hs.heap
  simp [execOp, resolve, invoke, builtin, hx, Builtin.len_, I.run_underlying, goInt]

/-- A slice literal. -/
theorem e_buildSlice {t e n by_ len : Nat} {zs : List Value} [I : Sl X.P t e n by_ zs] {parts : Array (Nat × Operand)} {ps : List (Nat × Value)} {xs : List (List Value)} {d : Option Nat}
    (hp : EvP ρ parts.toList ps) (hf : Instr.fill (fun i => some (i * n, n)) ((Array.range (len * n)).map (zs.toArray[· % zs.toArray.size]!)) ps = some xs.flatten.toArray) (hl : xs.length = len) (hg : good n xs) (hs : Nat.ble (len * n) 16777216 = true) (h0 : Nat.beq (len * n) 0 = false) :
    Eff X d (.buildSlice t len parts) ty ρ L Value (fun v' => v'.oneCell' = true) (fun v' => v') (fun v' => row e n v' xs :: L) := by
  have hp' := hp.map
  subst hp' hl
  refine ⟨(fun _ e => by cases e), fun pos after gd => ⟨rfl, fun w hw => ?_⟩⟩
  obtain ⟨ht, k, z, hk, hkz, rfl, rfl, hzc⟩ := I.get
  have hzc' : zs.toArray = z.cells := by rw [← hzc]
  rw [hzc'] at hf
  have e1 : (parts.map fun (i, x) => (i, ev ρ x)).toList = parts.toList.map (fun x => (x.1, ev ρ x.2)) := by simp
  have hrun := run_buildSlice (P := X.P) w t e xs.length (parts.map fun (i, x) => (i, ev ρ x)) _ k z ht hk hkz (by have := Nat.le_of_ble_eq_true hs; omega) (by intro h; rw [h] at h0; cases h0) (by rw [e1]; exact hf)
  unfold OpVal
  simp only [execOp, Sem.run_bind, hrun, Result.andThen_ok, Sem.run_pure]
  refine ⟨_, rfl, rfl, (hw.alloc (.cells xs.flatten.toArray e)).map fun _ hh => hh.headMono fun _ hp' => ⟨hg, .inr ⟨w.heap.size, xs.length, [], rfl, ?_, by rw [List.append_nil]; exact hp'⟩⟩⟩
  simp [hg.flatten_length]

def goodB (n : Nat) (xs : List (List Value)) : Bool := xs.all fun x => Nat.beq x.length n && oneCells x
theorem good_of {n : Nat} {xs : List (List Value)} (h : goodB n xs = true) : good n xs := fun x hx => by
  have := List.all_eq_true.1 h x hx
  simp only [Bool.and_eq_true] at this
  exact ⟨Nat.eq_of_beq_eq_true this.1, this.2⟩

def seqB : Nat → List (Nat × Value) → Bool
  | _, [] => true
  | k, x :: l => Nat.beq x.1 k && seqB (k + 1) l
theorem seqB_eq : ∀ (ps : List (Nat × Value)) (k : Nat), seqB k ps = true → ((ps.map (·.2)).zipIdx k).map (fun x => (x.2, x.1)) = ps
  | [], _, _ => rfl
  | (i, v) :: l, k, h => by
    simp only [seqB, Bool.and_eq_true] at h
    have := Nat.eq_of_beq_eq_true h.1
    subst this
    simp only [List.map_cons, List.zipIdx_cons, seqB_eq l _ h.2]

theorem fill_seq {n len : Nat} {zs : Array Value} {ps : List (Nat × Value)} {xs : List (List Value)} (hxs : ps.map (fun x => x.2.cells.toList) = xs) (hk : seqB 0 ps = true) (hl : xs.length = len) (hg : good n xs) (h0 : len * n ≠ 0) :
    Instr.fill (fun i => some (i * n, n)) ((Array.range (len * n)).map (zs[· % zs.size]!)) ps = some xs.flatten.toArray := by
  subst hxs
  have hn : 0 < n := Nat.pos_of_ne_zero fun e => h0 (by rw [e, Nat.mul_zero])
  have h1 : ∀ v ∈ ps.map (·.2), v.cells.size = n := by
    intro v hv
    obtain ⟨x, hx, rfl⟩ := List.mem_map.1 hv
    have := (hg x.2.cells.toList (List.mem_map.2 ⟨x, hx, rfl⟩)).1
    simpa using this
  have := Great.fill_whole hn (ps.map (·.2)) ((Array.range (len * n)).map (zs[· % zs.size]!)) h1 (by simp at hl ⊢; rw [hl])
  rw [seqB_eq ps 0 hk] at this
  rw [this, List.flatMap_def, List.map_map]
  rfl

theorem s_buildSlice {t e n by_ len : Nat} {zs : List Value} [I : Sl X.P t e n by_ zs] {parts : Array (Nat × Operand)} {ps : List (Nat × Value)} {xs : List (List Value)}
    (hp : EvP ρ parts.toList ps) (hxs : ps.map (fun x => x.2.cells.toList) = xs) (hk : seqB 0 ps = true) (hl : Nat.beq xs.length len = true) (hg : goodB n xs = true) (hs : Nat.ble (len * n) 16777216 = true) (h0 : Nat.beq (len * n) 0 = false) (hd : Nat.blt d X.nt = true) (hnb : nb.contains i = false)
    (h : ∀ v', v'.oneCell' = true → OpsL X ops nb N (i + 1) os (row e n v' xs :: L) ds (upd ρ d v') (row e n v' xs :: L)) : Op1 X ops nb N i (some d) (.buildSlice t len parts) ty os Ls ds ρ L :=
  op_eff (e_buildSlice hp (fill_seq hxs hk (Nat.eq_of_beq_eq_true hl) (good_of hg) (by intro h; rw [h] at h0; cases h0)) (Nat.eq_of_beq_eq_true hl) (good_of hg) hs h0) (fun _ e => by cases e; exact hd) hnb h

/-- The address of an element. -/
theorem a_indexAddr {t e n by_ : Nat} {zs : List Value} [I : Sl X.P t e n by_ zs] {x y : Operand} {b o len cap m : Nat} {k : IntKind} {a : Int} (hx : ev ρ x = .slice (some ⟨b, o, none⟩) len cap) (hy : ev ρ y = .int k a) (ha : a = (m : Int)) (hm : m < len) (hd : Nat.blt d X.nt = true)
    (h : OpsL X ops nb N (i + 1) os Ls ds (upd ρ d (.pointer (some ⟨b, slot o n m 0, none⟩))) L) : Op1 X ops nb N i (some d) (.indexAddr t x y) ty os Ls ds ρ L := by
  subst ha
  (refine op_pure1 (fun _ e => by cases e) (fun _ _ _ => by simp [qk]) hd ?_ h; intro pos after gd w)
  obtain ⟨ht, kk, z, hk, hkz, rfl, rfl, hzc⟩ := I.get
  simp [execOp, hx, hy, Instr.indexAt, asIntOf, run_underlying ht, sizeOf, typeInfo, hk, slot, hm, Addr.add_lit]

theorem slot_cell {w : World} {n b o m j len cap : Nat} {x : List Value} {u : Value} {xs : List (List Value)} (hv : view n (.slice (some ⟨b, o, none⟩) len cap) xs (fun b => w.heap[b]?)) (hx : xs[m]? = some x) (hu : x[j]? = some u) : w.cell? ⟨b, slot o n m j, none⟩ = some u := by
  obtain ⟨g, p, cap', h1, h2, h2', h3⟩ := hv
  cases h1
  have hne : xs ≠ [] := by rintro rfl; simp at hx
  obtain ⟨cs, T, fr, hb, hc⟩ := h3 b o rfl hne
  have hmem := List.mem_of_getElem? hx
  have hj : j < n := by have := (List.getElem?_eq_some_iff.1 hu).1; rw [(g x hmem).1] at this; exact this
  refine cell_of_heap hb ?_
  unfold slot
  rw [Nat.add_assoc]
  exact hc _ _ (by rw [g.get hx hj]; exact hu)

theorem a_loadS {t : TypeId} {dd : TypeDesc} [I : Ty X.P t dd] (ha : isAggD dd = false) {x : Operand} {b o n m j len cap : Nat} {xs : List (List Value)} {y : List Value} {v : Value}
    (hx : ev ρ x = .pointer (some ⟨b, slot o n m j, none⟩)) (hr : VwIn Ls n (.slice (some ⟨b, o, none⟩) len cap) xs) (hy : xs[m]? = some y) (hc : y[j]? = some v) (hd : Nat.blt d X.nt = true)
    (h : OpsL X ops nb N (i + 1) os Ls ds (upd ρ d v) L) : Op1 X ops nb N i (some d) (.load t x) ty os Ls ds ρ L := by
  refine op_quiet (fun _ e => by cases e) (fun _ _ _ => by simp [qk]) (fun x hx => by cases hx; assumption) ?_ h
  intro pos after gd w hw
  have hs := hw.resolve_left (by simp [qk])
  have hcell := slot_cell (hr.satL hs.heap) hy hc
  simp [execOp, hx, Instr.loadAt, Instr.sureAddr, run_loadVar1 (P := X.P) (t := t) ha hcell]

theorem a_loadSA {t : TypeId} {k : Nat} [I : TyA X.P t] [K : Sz X.P t k] {x : Operand} {b o n m j len cap : Nat} {xs : List (List Value)} {y vs : List Value}
    (hx : ev ρ x = .pointer (some ⟨b, slot o n m j, none⟩)) (hr : VwIn Ls n (.slice (some ⟨b, o, none⟩) len cap) xs) (hy : xs[m]? = some y) (hk : Nat.ble (j + k) n = true) (hk0 : Nat.blt 0 k = true) (hc : (y.drop j).take k = vs) (hd : Nat.blt d X.nt = true)
    (h : OpsL X ops nb N (i + 1) os Ls ds (upd ρ d (.agg vs.toArray)) L) : Op1 X ops nb N i (some d) (.load t x) ty os Ls ds ρ L := by
  refine op_quiet (fun _ e => by cases e) (fun _ _ _ => by simp [qk]) (fun x hx => by cases hx; assumption) ?_ h
  intro pos after gd w hw
  have hs := hw.resolve_left (by simp [qk])
  have hk' : j + k ≤ n := Nat.le_of_ble_eq_true hk
  obtain ⟨g, p, cap', h1, h2, h2', h3⟩ := hr.satL hs.heap
  cases h1
  have hne : xs ≠ [] := by rintro rfl; simp at hy
  obtain ⟨cs, T, fr, hb, hcs⟩ := h3 b o rfl hne
  have hyn := (g y (List.mem_of_getElem? hy)).1
  have hget : ∀ q, q < k → cs[slot o n m j + q]? = y[j + q]? := by
    intro q hq
    have hyq : y[j + q]? = some (y[j + q]'(by omega)) := List.getElem?_eq_getElem _
    rw [hyq]
    have e1 : slot o n m j + q = o + (m * n + (j + q)) := by unfold slot; omega
    rw [e1]
    exact hcs _ _ (by rw [g.get hy (by omega)]; exact hyq)
  have hle : slot o n m j + k ≤ cs.size := by
    have hpos : 0 < k := by simpa using hk0
    have := hget (k - 1) (by omega)
    have hyq : y[j + (k - 1)]? = some (y[j + (k - 1)]'(by omega)) := List.getElem?_eq_getElem _
    rw [hyq] at this
    have := (Array.getElem?_eq_some_iff.1 this).1
    omega
  have hv : ((cs.toList.drop (slot o n m j)).take k) = vs := by
    rw [← hc]
    apply List.ext_getElem?
    intro q
    rcases Nat.lt_or_ge q k with hq | hq
    · rw [List.getElem?_take_of_lt hq, List.getElem?_take_of_lt hq, List.getElem?_drop, List.getElem?_drop, ← hget q hq]
      simp
    · rw [List.getElem?_take_eq_none hq, List.getElem?_take_eq_none hq]
  have hb' : w.heap[b]? = some (.cells cs.toList.toArray T fr) := by simpa using hb
  have := run_loadVarA (P := X.P) (t := t) hb' (o := slot o n m j) (n := k) (by simpa using hle)
  rw [hv] at this
  simp [execOp, hx, Instr.loadAt, Instr.sureAddr, this]
/-! ### Something that there is -/
def exP {α : Type} (M : α → List HProp) : HProp := fun h => ∃ a, SatL (M a) h

section
variable {Q : Exit → Act → World → Prop}
theorem ok_ex {c : Code} {α : Type} {M : α → List HProp} {L' : List HProp} (s : Sel L (exP M) L') (h : ∀ a, Ok X c ds ρ (M a ++ L') Q) : Ok X c ds ρ L Q := by
  refine foldOk fun a w ha hs => ?_
  obtain ⟨h1, h2, ha', l1, l2, ⟨x, hx⟩, hL⟩ := (hs.sel s).heap
  refine unfoldOk (h x) a w ha ⟨hs.os, hs.tape, hs.output, hs.size, ?_⟩
  exact SatL.flat (M := M x) ⟨h1, h2, ha', l1, l2, hx, hL⟩
theorem cont_ex {e : Exit} {α : Type} {M : α → List HProp} {L' : List HProp} (s : Sel L (exP M) L') (h : ∀ a, Cont X Q e ds ρ (M a ++ L')) : Cont X Q e ds ρ L := by
  refine foldCont fun a w ha hs => ?_
  obtain ⟨h1, h2, ha', l1, l2, ⟨x, hx⟩, hL⟩ := (hs.sel s).heap
  refine unfoldCont (h x) a w ha ⟨hs.os, hs.tape, hs.output, hs.size, ?_⟩
  exact SatL.flat (M := M x) ⟨h1, h2, ha', l1, l2, hx, hL⟩
end
theorem ex_in {α : Type} {M : α → List HProp} (a : α) {pre : List HProp} (e : M a = pre) {h : Frag} (s : SatL (pre ++ L) h) : SatL (exP M :: L) h := by
  subst e
  exact (SatL.unflat s).headMono fun _ k => ⟨a, k⟩
theorem satL_pack {M : List HProp} {h : Frag} (s : SatL (M ++ L) h) : SatL ((fun h => SatL M h) :: L) h := SatL.unflat s

/-! ### A yield that goes on, or not -/
section
variable {P : Program} {nt : Nat} {params : Array Tmp} {assign body : Code} {dk l : Nat} {args : List Value} {K K1 : List HProp}
theorem yield_on (cv : List TypeId) (hlen : args.length = params.size) (hps : params.toList.all (Nat.blt · nt) = true)
    (h : ∀ w0 R, Ok ⟨P, some l, nt, w0, cv⟩ assign [] (updMany ρ (params.toList.zip args)) (loopP nt ρ params assign body dk l .ready none :: K ++ R) (BodyR ⟨P, some l, nt, w0, cv⟩ l nt ρ params assign body dk Unit (fun _ => True) (fun _ => none) (fun _ => K1) R)) :
    VSpec P (.func (.yield l) #[] #[]) args [fun h => SatL (loopP nt ρ params assign body dk l .ready none :: K) h] Unit (fun _ => True) (fun _ => .bool true) (fun _ => [fun h => SatL (loopP nt ρ params assign body dk l .ready none :: K1) h]) :=
  (yield_spec cv hlen hps h).conseq (fun _ _ s => SatL.flat s) (fun y _ => ⟨y, trivial, rfl, fun _ _ s => SatL.unflat (M := loopP nt ρ params assign body dk l .ready none :: K1) s⟩)
theorem yield_off (cv : List TypeId) (jp : Code) (hlen : args.length = params.size) (hps : params.toList.all (Nat.blt · nt) = true)
    (h : ∀ w0 R, Ok ⟨P, some l, nt, w0, cv⟩ assign [] (updMany ρ (params.toList.zip args)) (loopP nt ρ params assign body dk l .ready none :: K ++ R) (BodyR ⟨P, some l, nt, w0, cv⟩ l nt ρ params assign body dk Unit (fun _ => True) (fun _ => some jp) (fun _ => K1) R)) :
    VSpec P (.func (.yield l) #[] #[]) args [fun h => SatL (loopP nt ρ params assign body dk l .ready none :: K) h] Unit (fun _ => True) (fun _ => .bool false) (fun _ => [fun h => SatL (loopP nt ρ params assign body dk l .done (some jp) :: K1) h]) :=
  (yield_spec cv hlen hps h).conseq (fun _ _ s => SatL.flat s) (fun y _ => ⟨y, trivial, rfl, fun _ _ s => SatL.unflat (M := loopP nt ρ params assign body dk l .done (some jp) :: K1) s⟩)
end
/-- What a row of elements does to what was seen ahead of it: until it does not go on. -/
def eat {α : Type} (go : List α → Bool) : List α → List α → List α × Bool
  | pre, [] => (pre, true)
  | pre, x :: l => if go (pre ++ [x]) then eat go (pre ++ [x]) l else (pre ++ [x], false)

theorem eat_true {α : Type} {go : List α → Bool} : ∀ {l pre : List α}, (eat go pre l).2 = true → (eat go pre l).1 = pre ++ l
  | [], pre, _ => by simp [eat]
  | x :: l, pre, h => by
    unfold eat at h ⊢
    split at h
    · rename_i hg
      rw [if_pos hg, eat_true h]
      simp
    · cases h

theorem eat_cons {α : Type} {go : List α → Bool} {pre l : List α} {x : α} : eat go pre (x :: l) = if go (pre ++ [x]) then eat go (pre ++ [x]) l else (pre ++ [x], false) := rfl

theorem eat_append {α : Type} {go : List α → Bool} : ∀ (l1 l2 pre : List α), eat go pre (l1 ++ l2) = if (eat go pre l1).2 then eat go (pre ++ l1) l2 else eat go pre l1
  | [], l2, pre => by simp [eat]
  | x :: l1, l2, pre => by
    cases hg : go (pre ++ [x]) with
    | true =>
      have h1 := eat_append l1 l2 (pre ++ [x]) (go := go)
      rw [List.append_assoc] at h1
      simp only [List.cons_append, eat_cons, hg, if_true, h1, List.nil_append]
    | false => simp only [List.cons_append, eat_cons, hg, Bool.false_eq_true, if_false]


/-- The contract of an iterator: it hands these to a yield, one by one, till it is told to stop; 'A' stays. -/
def IterSpec (P : Program) (f : FuncId) (cap : List Value) (A : List HProp) {α : Type} (xs : List α) (enc : α → List Value) : Prop :=
  ∀ (yv : Value) (St Sp : List α → HProp) (go : List α → Bool),
    (∀ pre p, pre ++ [p] <+: xs → VSpec P yv (enc p) [St pre] Unit (fun _ => True) (fun _ => .bool (go (pre ++ [p]))) (fun _ => [if go (pre ++ [p]) then St (pre ++ [p]) else Sp (pre ++ [p])])) →
    FSpec P f (yv :: cap) (A ++ [St []]) Unit (fun _ => True) (fun _ => .tuple #[]) (fun _ => (if (eat go [] xs).2 then St (eat go [] xs).1 else Sp (eat go [] xs).1) :: A)

theorem satL_rot : ∀ (A : List HProp) {B : HProp} {L : List HProp} {h : Frag}, SatL (B :: A ++ L) h → SatL (A ++ [B] ++ L) h
  | [], _, _, _, s => s
  | A :: As, B, L, h, s => by
    have s1 : SatL (A :: (B :: As ++ L)) h := SatL.swap s
    exact s1.consMono fun _ k => satL_rot As k

theorem satL_comm : ∀ (A : List HProp) {B L : List HProp} {h : Frag}, SatL (A ++ (B ++ L)) h → SatL (B ++ (A ++ L)) h
  | [], _, _, _, s => s
  | A :: As, B, L, h, s => by
    have s1 : SatL (A :: (B ++ (As ++ L))) h := s.consMono fun _ k => satL_comm As k
    have : ∀ (B : List HProp) {M : List HProp} {h : Frag}, SatL (A :: (B ++ M)) h → SatL (B ++ A :: M) h := by
      intro B
      induction B with
      | nil => exact fun k => k
      | cons b B ih => exact fun k => (SatL.swap k).consMono fun _ k => ih k
    exact this B s1

/-- A range over a function, by the contract of its iterator. -/
theorem ok_range {α : Type} {xs : List α} {enc : α → List Value} {f : FuncId} {cap : List Value} {A L1 R' : List HProp} {g : Operand} {params : Array Tmp} {assign body : Code} {Q : Exit → Act → World → Prop} [F : FnI X.P f]
    (go : List α → Bool) (K : List α → List HProp) (jp : List α → Code) (it : IterSpec X.P f cap A xs enc) (hr : X.r = none) (hg : ev ρ g = .func (.func f) #[] cap.toArray)
    (ht : Take L A L1) (hK : ∀ h, SatL L1 h → SatL (K [] ++ R') h) (hlen : ∀ p, (enc p).length = params.size) (hps : params.toList.all (Nat.blt · X.nt) = true)
    (round : ∀ l pre p, pre ++ [p] <+: xs → ∀ (w0 : World) (R : List HProp) (LP0 LP1 : HProp) (QB QE : Exit → Act → World → Prop),
      (∀ {ds ρ' L L'}, Take L [LP0] L' → Ok ⟨X.P, some l, X.nt, w0, X.cv⟩ body ds ρ' (LP1 :: L') QE → Cont ⟨X.P, some l, X.nt, w0, X.cv⟩ QB .normal ds ρ' L) →
      (∀ {ds ρ' L L'}, go (pre ++ [p]) = true → Take L [LP1] L' → (∀ h, SatL L' h → SatL (K (pre ++ [p]) ++ R) h) → Cont ⟨X.P, some l, X.nt, w0, X.cv⟩ QE .normal ds ρ' L) →
      (∀ {ds ρ' L L' id}, go (pre ++ [p]) = false → jp (pre ++ [p]) = .exit id → Take L [LP1] L' → (∀ h, SatL L' h → SatL (K (pre ++ [p]) ++ R) h) → Cont ⟨X.P, some l, X.nt, w0, X.cv⟩ QE (.exit id) ds ρ' L) →
      (∀ {ds ρ' L L'}, go (pre ++ [p]) = false → jp (pre ++ [p]) = .ret → Take L [LP1] L' → (∀ h, SatL L' h → SatL (K (pre ++ [p]) ++ R) h) → Cont ⟨X.P, some l, X.nt, w0, X.cv⟩ QE .ret ds ρ' L) →
      Ok ⟨X.P, some l, X.nt, w0, X.cv⟩ assign [] (updMany ρ (params.toList.zip (enc p))) (LP0 :: K pre ++ R) QB)
    (done : ∀ dk, (eat go [] xs).2 = true → Cont X Q .normal (mark dk :: ds) ρ (marked dk :: K xs ++ (A ++ R')))
    (stop : ∀ dk q, eat go [] xs = (q, false) → Ok X (jp q) (mark dk :: ds) ρ (marked dk :: K q ++ (A ++ R')) Q) : Ok X (.rangeFunc g params assign body) ds ρ L Q := by
  refine ok_rangeFunc hr hg fun dk l => ?_
  have hspec := it (.func (.yield l) #[] #[]) (fun q h => SatL (loopP X.nt ρ params assign body dk l .ready none :: K q) h) (fun q h => SatL (loopP X.nt ρ params assign body dk l .done (some (jp q)) :: K q) h) go (by
    intro pre p hp
    cases hgo : go (pre ++ [p]) with
    | true =>
      refine yield_on X.cv (hlen p) hps fun w0 R => round l pre p hp w0 R _ _ _ _ (fun ht h => cont_round rfl ht h) ?_ ?_ ?_
      · exact fun _ ht hk => cont_round_end () ht rfl hk trivial
      · exact fun e => by rw [hgo] at e; cases e
      · exact fun e => by rw [hgo] at e; cases e
    | false =>
      refine yield_off X.cv (jp (pre ++ [p])) (hlen p) hps fun w0 R => round l pre p hp w0 R _ _ _ _ (fun ht h => cont_round rfl ht h) ?_ ?_ ?_
      · exact fun e => by rw [hgo] at e; cases e
      · exact fun _ e ht hk => cont_round_exit () ht (by rw [e]) hk trivial
      · exact fun _ e ht hk => cont_round_ret () ht (by rw [e]) hk trivial)
  refine ⟨Unit, fun _ => True, _, _, marked dk :: R', _, hspec, ?_, ?_⟩
  · intro h s
    have s1 : SatL (marked dk :: loopP X.nt ρ params assign body dk l .ready none :: (A ++ (K [] ++ R'))) h :=
      (SatL.swap s).consMono fun _ s => s.consMono fun _ s => satL_append_mono A hK (ht.out s)
    have s2 : SatL (marked dk :: (A ++ [fun h => SatL (loopP X.nt ρ params assign body dk l .ready none :: K []) h] ++ R')) h := s1.consMono fun _ s => by
      refine satL_rot A ?_
      have s3 : SatL ((loopP X.nt ρ params assign body dk l .ready none :: K []) ++ (A ++ R')) _ := s.consMono fun _ s => satL_comm A s
      exact SatL.unflat s3
    have := satL_comm [marked dk] (B := A ++ [fun h => SatL (loopP X.nt ρ params assign body dk l .ready none :: K []) h]) (L := R') s2
    exact this
  · intro _ _
    cases hb : (eat go [] xs).2 with
    | true =>
      refine ⟨.ready, none, marked dk :: K xs ++ (A ++ R'), by simp, ?_, done dk hb⟩
      intro h s
      rw [eat_true hb] at s
      have s1 : SatL ((loopP X.nt ρ params assign body dk l .ready none :: K ([] ++ xs)) ++ (A ++ marked dk :: R')) h := SatL.flat s
      refine SatL.consMono (A := loopP X.nt ρ params assign body dk l .ready none) s1 fun _ s => ?_
      have s2 := satL_append_mono (K ([] ++ xs)) (fun _ k => satL_comm A (B := [marked dk]) (L := R') k) s
      exact satL_comm (K ([] ++ xs)) (B := [marked dk]) (L := A ++ R') s2
    | false =>
      refine ⟨.done, some (jp (eat go [] xs).1), marked dk :: K (eat go [] xs).1 ++ (A ++ R'), by simp, ?_, stop dk _ (by rw [← hb])⟩
      intro h s
      have s1 : SatL ((loopP X.nt ρ params assign body dk l .done (some (jp (eat go [] xs).1)) :: K (eat go [] xs).1) ++ (A ++ marked dk :: R')) h := SatL.flat s
      refine SatL.consMono (A := loopP X.nt ρ params assign body dk l .done (some (jp (eat go [] xs).1))) s1 fun _ s => ?_
      have s2 := satL_append_mono (K (eat go [] xs).1) (fun _ k => satL_comm A (B := [marked dk]) (L := R') k) s
      exact satL_comm (K (eat go [] xs).1) (B := [marked dk]) (L := A ++ R') s2

/-! ### A scope without jumps; registers that are known -/
section
variable {Q : Exit → Act → World → Prop}
theorem ok_scope {c : Code} (hr : X.r = none) (h : Ok X c ds ρ L (Exit.noGoto Q)) : Ok X (.scope c) ds ρ L Q := by
  refine foldOk fun a w ha hs => ?_
  have h1 := unfoldOk h a w ha hs
  rw [hr] at h1 ⊢
  exact (wpIn_wide (n := 0)).2 (wp_scope_straight ((wpIn_wide (n := 0)).1 h1))
theorem cont_scope (h : Cont X Q .normal ds ρ L) : Cont X (Exit.noGoto Q) .normal ds ρ L := foldCont fun a w ha hs => unfoldCont h a w ha hs
theorem cont_scope_ret (h : Cont X Q .ret ds ρ L) : Cont X (Exit.noGoto Q) .ret ds ρ L := foldCont fun a w ha hs => unfoldCont h a w ha hs
theorem cont_scope_exit {id : Nat} (h : Cont X Q (.exit id) ds ρ L) : Cont X (Exit.noGoto Q) (.exit id) ds ρ L := foldCont fun a w ha hs => unfoldCont h a w ha hs

theorem updMany_self : ∀ (l : List (Nat × Value)) {ρ : Regs}, (∀ x ∈ l, ρ x.1 = x.2) → updMany ρ l = ρ
  | [], _, _ => rfl
  | (t, v) :: l, ρ, h => by
    have h1 : upd ρ t v = ρ := upd_self (h (t, v) (List.mem_cons_self ..))
    show updMany (upd ρ t v) l = ρ
    rw [h1]
    exact updMany_self l fun x hx => h x (List.mem_cons_of_mem _ hx)
def Knows (ρ : Regs) : List (Nat × Value) → Prop
  | [] => True
  | x :: l => ρ x.1 = x.2 ∧ Knows ρ l
theorem Knows.all {ρ : Regs} : ∀ {l : List (Nat × Value)}, Knows ρ l → ∀ x ∈ l, ρ x.1 = x.2
  | [], _, _, hx => by cases hx
  | _ :: _, h, _, hx => by
    rcases List.mem_cons.1 hx with rfl | hx
    · exact h.1
    · exact Knows.all h.2 _ hx
theorem ok_regs {c : Code} {l : List (Nat × Value)} (k : Knows ρ l) (h : Ok X c ds (updMany ρ l) L Q) : Ok X c ds ρ L Q := by
  rw [updMany_self l k.all] at h; exact h
theorem cont_regs {e : Exit} {l : List (Nat × Value)} (k : Knows ρ l) (h : Cont X Q e ds (updMany ρ l) L) : Cont X Q e ds ρ L := by
  rw [updMany_self l k.all] at h; exact h
end
end Go.Fx
