/- THE FRAMEWORK, PART L: a law's arguments, read: slices of flat structs. -/
import Derived.Test.YtgmobpngcilgjaaFwJ
import Derived.Deep.Slices
namespace Go.Fx
open Go Go.ChangeShapes Go.WideShapes Go.ChangeAt Go.RowKit

variable {n : Nat} {H : Type} {enc : TypeId × Value → H} {P : Program} {W : World} {sp : Nat → Bool} {base : Nat} {held : Bool}

theorem weightsAll_mem : ∀ {ds : List (DataW H)} {e : TypeId} {i : Nat} {d : DataW H}, ds[i]? = some d → ∀ k ∈ d.weights P e, k ∈ DataW.weightsAll P e ds
  | [], _, i, _, h, _, _ => by simp at h
  | x :: ds, e, 0, d, h, k, hk => by
    simp at h
    subst h
    unfold DataW.weightsAll
    exact List.mem_append_left _ hk
  | x :: ds, e, i + 1, d, h, k, hk => by
    unfold DataW.weightsAll
    exact List.mem_append_right _ (weightsAll_mem (by simpa using h) k hk)

theorem spot_of_cell {a : Addr} {v : Value} (h : W.cell? (a.add (0 * n + 0)) = some v) : ∃ b o, a = ⟨b, o, none⟩ := by
  have e : a.add (0 * n + 0) = a := by rw [Nat.zero_mul]; simp [Addr.add]
  rw [e] at h
  obtain ⟨b, o, s⟩ := a
  cases s with
  | none => exact ⟨b, o, rfl⟩
  | some s =>
    exfalso
    unfold World.cell? at h
    split at h
    · simp at h
    · cases h

theorem open_view {t e n : Nat} {r : Reach} {b0 : Nat} {v : Value} {d : DataW H} {ps : List MemPlace} (ht : P.underlying t = some (.slice e)) (hc : P.cellsOf e = n) (hn : 0 < n) (hval : Value.okWide P W r b0 t v)
    (h : DataW.Trod enc P W 0 (fun _ => true) held t v d ps) (hw : ∀ k ∈ d.weights P t, k ≤ reachBytes) {α : Type} [Inhabited α] (f : α → List Value) (Pr : α → Prop) (hf : ∀ x, (f x).length = n ∧ oneCells (f x) = true)
    (hel : ∀ fuel cs y, DataW.trod enc P W 0 (fun _ => true) held fuel e cs = some y → (∀ k ∈ y.1.weights P e, k ≤ reachBytes) → ∃ x, cs = f x ∧ Pr x) :
    ∃ xs : List α, (∀ x ∈ xs, Pr x) ∧ Vw (orig W) n v (xs.map f) := by
  obtain ⟨a, len, cap, rfl⟩ := okWide_slice ht hval
  obtain ⟨fuel, hfu⟩ := h
  have hcs : (Value.slice a len cap).cells.toList = [.slice a len cap] := rfl
  rw [hcs] at hfu
  rcases Deep.open_slice ht hfu with ⟨h1, _⟩ | ⟨a', len', cap', m, nf, D, Pl, h1, _, hl, hm, hmm, hx, hread⟩
  · simp only [List.cons.injEq, Value.slice.injEq, and_true] at h1
    obtain ⟨rfl, rfl, rfl⟩ := h1
    refine ⟨[], by simp, fun h _ => ⟨fun x hx => by simp at hx, none, 0, rfl, .inl rfl, fun _ => rfl, fun _ _ e => by cases e⟩⟩
  · simp only [List.cons.injEq, Value.slice.injEq, and_true] at h1
    obtain ⟨rfl, rfl, rfl⟩ := h1
    simp only [if_true] at hmm
    subst hmm
    simp only [Prod.mk.injEq] at hx
    obtain ⟨rfl, _⟩ := hx
    rw [hc] at hread
    obtain ⟨X, hX⟩ := Deep.choose_lt (α := α) (n := len) (p := fun i x => Pr x ∧ W.cells? 0 (a'.add (i * n)) n = some (f x)) (fun i hi => by
      obtain ⟨cs', h2, h3⟩ := hread i (by omega)
      obtain ⟨x, rfl, hp⟩ := hel _ _ _ h3 (fun k hk => hw k (by
        unfold DataW.weights
        rw [ht]
        refine List.mem_cons_of_mem _ (List.mem_append_left _ ?_)
        exact weightsAll_mem (i := i) (d := D i) (by simp [hi]) k hk))
      exact ⟨x, hp, h2⟩)
    refine ⟨(List.range len).map X, ?_, ?_⟩
    · intro x hx
      obtain ⟨i, hi, rfl⟩ := List.mem_map.1 hx
      exact (hX i (List.mem_range.1 hi)).1
    · intro h hh
      have hg : good n (((List.range len).map X).map f) := by
        intro y hy
        obtain ⟨x, _, rfl⟩ := List.mem_map.1 hy
        exact hf x
      have hcell : ∀ i, i < len → ∀ j, j < n → W.cell? (a'.add (i * n + j)) = (f (X i))[j]? := by
        intro i hi j hj
        have h2 := (World.cells?_some (hX i hi).2).2.2 j hj
        rw [Deep.add_add] at h2
        exact h2
      have hcell0 : ∀ i, i < len → ∀ j, j < n → ∃ u, W.cell? (a'.add (i * n + j)) = some u := by
        intro i hi j hj
        rw [hcell i hi j hj]
        have : j < (f (X i)).length := by rw [(hf (X i)).1]; exact hj
        exact ⟨_, List.getElem?_eq_getElem this⟩
      refine ⟨hg, some a', _, by simp; rfl, ?_, (fun e => by cases e), ?_⟩
      · rcases Nat.eq_zero_or_pos len with h0 | h0
        · left; subst h0; rfl
        · right
          obtain ⟨u, hu⟩ := hcell0 0 h0 0 hn
          obtain ⟨b, o, rfl⟩ := spot_of_cell hu
          exact ⟨b, o, rfl⟩
      · intro b o hp hne
        cases hp
        have h0 : 0 < len := by
          rcases Nat.eq_zero_or_pos len with h0 | h0
          · subst h0; exact absurd rfl hne
          · exact h0
        obtain ⟨u0, hu0⟩ := hcell0 0 h0 0 hn
        have hblk : ∃ cs T fr, W.heap[b]? = some (.cells cs T fr) := by
          unfold World.cell? at hu0
          rw [add_plain] at hu0
          split at hu0
          · rename_i c T fr hb; exact ⟨c, T, fr, hb⟩
          · cases hu0
        obtain ⟨cs, T, fr, hb⟩ := hblk
        refine ⟨cs, T, fr, by rw [hh b (Array.getElem?_eq_some_iff.1 hb).1]; exact hb, fun j u hj => ?_⟩
        have hjl : j < len * n := by
          have := (List.getElem?_eq_some_iff.1 hj).1
          rw [hg.flatten_length] at this
          simpa using this
        have hi : j / n < len := Nat.div_lt_of_lt_mul (by rw [Nat.mul_comm]; exact hjl)
        have hr : j % n < n := Nat.mod_lt _ hn
        have hjd : j / n * n + j % n = j := by rw [Nat.mul_comm]; exact Nat.div_add_mod j n
        have hget := hg.get (i := j / n) (j := j % n) (x := f (X (j / n))) (by simp [hi]) hr
        rw [hjd, hj] at hget
        have hcl := hcell (j / n) hi (j % n) hr
        rw [hjd, ← hget, add_plain] at hcl
        unfold World.cell? at hcl
        rw [hb] at hcl
        simpa using hcl
end Go.Fx
