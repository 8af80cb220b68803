/- The reference's state (fascicleref14), in plain Lean: rows in order of (table, key); where a place stands; what an op does to them. -/
import Derived.Test.YtphaegcoldpclaaDoorG5
import Derived.Test.YtphaegcoldpclaaDoorSdE
import Derived.Test.YtphaegcoldpclaaDoorG2
set_option linter.unusedVariables false
set_option maxRecDepth 100000
namespace Go.Proofs.YtphaegcoldpclaaDoor
open Go Go.Fx Go.Proofs Go.Pl

/-- A row of the reference, in memory. -/
structure Rr where
  t : Int
  lv : V1s
  l : List Vl
def rrV (x : Rr) : List Value := [.int .i64 x.t, x.lv.1]
def Rr.pl (s : Sc) (x : Rr) : Pc × List Vl := ((x.t, Pl.keyOf s x.t x.l), x.l)
/-- A place ahead of another one. -/
def pltB (p q : Pc) : Bool := decide (p.1 < q.1) || (decide (p.1 = q.1) && lessV p.2 q.2)
theorem less_irr (a : Vl) : lessV a a = false := by
  cases h : lessV a a with
  | false => rfl
  | true => exact absurd h (less_asym a a h)
theorem less_tr {a b c : Vl} (h : lessV a b = true) (k : lessV b c = true) : lessV a c = true := by
  unfold lessV at h k ⊢
  simp only [decide_eq_true_eq] at h k ⊢
  exact (compareV_tc keyR).lt_le h (by omega)
theorem plt_iff {p q : Pc} : pltB p q = true ↔ p.1 < q.1 ∨ (p.1 = q.1 ∧ lessV p.2 q.2 = true) := by unfold pltB; simp
theorem plt_irr (p : Pc) : pltB p p = false := by unfold pltB; simp [less_irr]
theorem plt_tr {p q r : Pc} (h : pltB p q = true) (k : pltB q r = true) : pltB p r = true := by
  rw [plt_iff] at *
  rcases h with h | ⟨h, h'⟩ <;> rcases k with k | ⟨k, k'⟩
  · exact .inl (by omega)
  · exact .inl (by omega)
  · exact .inl (by omega)
  · exact .inr ⟨by omega, less_tr h' k'⟩
/-- A place whose value may be a key. -/
def goodP (p : Pc) : Prop := checkV p.2 = true ∧ p.2.wf
theorem plt_tri {p q : Pc} (hp : goodP p) (hq : goodP q) (hne : p ≠ q) (h : pltB q p = false) : pltB p q = true := by
  unfold pltB at h
  simp only [Bool.or_eq_false_iff, decide_eq_false_iff_not, Bool.and_eq_false_iff] at h
  rw [plt_iff]
  by_cases e : p.1 = q.1
  · refine .inr ⟨e, less_parts hp.1 hq.1 hp.2 hq.2 (fun e2 => hne (Prod.ext e e2)) ?_⟩
    rcases h.2 with h2 | h2
    · exact absurd e.symm h2
    · exact h2
  · exact .inl (by omega)

/-! ### Rows by places, up to their order -/
section al
variable {α β : Type} [DecidableEq α]
theorem adel_perm {a : α} {v : β} : ∀ {l : List (α × β)}, aget a l = some v → l.Perm ((a, v) :: adel a l)
  | [], h => by simp [aget] at h
  | (b, u) :: l, h => by
    unfold aget at h
    unfold adel
    split
    · rename_i hb; rw [if_pos hb] at h; cases h; subst hb; exact .refl _
    · rename_i hb; rw [if_neg hb] at h; exact ((adel_perm h).cons _).trans (List.Perm.swap ..)
theorem aput_perm_some {a : α} {v w : β} : ∀ {l : List (α × β)}, aget a l = some v → (aput a w l).Perm ((a, w) :: adel a l)
  | [], h => by simp [aget] at h
  | (b, u) :: l, h => by
    unfold aget at h
    unfold adel aput
    split
    · rename_i hb; exact .refl _
    · rename_i hb; rw [if_neg hb] at h; exact ((aput_perm_some h).cons _).trans (List.Perm.swap ..)
theorem aput_perm_none {a : α} {w : β} : ∀ {l : List (α × β)}, aget a l = none → (aput a w l).Perm ((a, w) :: l)
  | [], h => .refl _
  | (b, u) :: l, h => by
    unfold aget at h
    unfold aput
    split
    · rename_i hb; rw [if_pos hb] at h; cases h
    · rename_i hb; rw [if_neg hb] at h; exact ((aput_perm_none h).cons _).trans (List.Perm.swap ..)
end al

/-! ### The reference's rows are those of a state -/
structure RefQ (r : Rl) (q : List Rr) : Prop where
  perm : (q.map (Rr.pl r.s)).Perm r.rows
  srt : q.Pairwise fun x y => pltB (x.pl r.s).1 (y.pl r.s).1 = true
def atN (s : Sc) (q : List Rr) (p : Pc) : Nat := (q.takeWhile fun x => pltB (x.pl s).1 p).length
def isN (s : Sc) (q : List Rr) (p : Pc) : Bool := match q[atN s q p]? with | some x => decide ((x.pl s).1 = p) | none => false
theorem RefQ.len {r : Rl} {q : List Rr} (h : RefQ r q) : q.length = r.rows.length := by have := h.perm.length_eq; simpa using this
theorem RefQ.mem {r : Rl} {q : List Rr} (h : RefQ r q) {x : Rr} (hx : x ∈ q) : x.pl r.s ∈ r.rows := h.perm.subset (List.mem_map_of_mem hx)
theorem RefQ.rowOk {r : Rl} {q : List Rr} (h : RefQ r q) (hok : r.Ok) {x : Rr} (hx : x ∈ q) : rowS r.s x.t x.l = true := (hok.rows _ (h.mem hx)).row
theorem keyS_good {s : Sc} {t : Int} {v : Vl} (h : keyS s t v = true) (hw : v.wf) : goodP (t, v) := by
  simp only [keyS, fitsC, Bool.and_eq_true] at h
  exact ⟨h.2.1, hw⟩
theorem RefQ.good {r : Rl} {q : List Rr} (h : RefQ r q) (hok : r.Ok) (hwf : Rl.Wf r) {x : Rr} (hx : x ∈ q) : goodP (x.pl r.s).1 := by
  obtain ⟨h1, h2, _⟩ := rowS_key (h.rowOk hok hx)
  exact keyS_good h1 (hwf _ (h.mem hx) _ (List.mem_of_getElem? h2))
theorem tw_len {α : Type} {f : α → Bool} : ∀ {l : List α} {j : Nat} {x : α}, l[j]? = some x → f x = false → (∀ i y, i < j → l[i]? = some y → f y = true) → (l.takeWhile f).length = j
  | [], j, x, h, _, _ => by simp at h
  | a :: l, 0, x, h, hf, _ => by
    simp only [List.getElem?_cons_zero, Option.some.injEq] at h
    subst h
    simp [hf]
  | a :: l, j + 1, x, h, hf, hb => by
    have ha := hb 0 a (by omega) rfl
    rw [List.takeWhile_cons_of_pos ha, List.length_cons, tw_len (l := l) (j := j) (by simpa using h) hf (fun i y hi hy => hb (i + 1) y (by omega) (by simpa using hy))]
theorem tw_lt {α : Type} {f : α → Bool} : ∀ {l : List α} {i : Nat} {y : α}, i < (l.takeWhile f).length → l[i]? = some y → f y = true
  | [], i, y, h, _ => by simp at h
  | a :: l, i, y, h, hy => by
    by_cases ha : f a = true
    · rw [List.takeWhile_cons_of_pos ha] at h
      cases i with
      | zero => simp only [List.getElem?_cons_zero, Option.some.injEq] at hy; subst hy; exact ha
      | succ i => exact tw_lt (l := l) (by simpa using h) (by simpa using hy)
    · rw [List.takeWhile_cons_of_neg ha] at h; simp at h
theorem tw_at {α : Type} {f : α → Bool} : ∀ {l : List α} {y : α}, l[(l.takeWhile f).length]? = some y → f y = false
  | [], y, h => by simp at h
  | a :: l, y, h => by
    by_cases ha : f a = true
    · rw [List.takeWhile_cons_of_pos ha] at h; exact tw_at (l := l) (by simpa using h)
    · rw [List.takeWhile_cons_of_neg ha] at h; simp only [List.length_nil, List.getElem?_cons_zero, Option.some.injEq] at h; subst h; simpa using ha
theorem RefQ.pair {r : Rl} {q : List Rr} (h : RefQ r q) {i j : Nat} {x y : Rr} (hi : q[i]? = some x) (hj : q[j]? = some y) (hlt : i < j) : pltB (x.pl r.s).1 (y.pl r.s).1 = true := by
  obtain ⟨hi', rfl⟩ := List.getElem?_eq_some_iff.1 hi
  obtain ⟨hj', rfl⟩ := List.getElem?_eq_some_iff.1 hj
  exact List.pairwise_iff_getElem.1 h.srt i j hi' hj' hlt
theorem RefQ.found {r : Rl} {q : List Rr} (h : RefQ r q) {p : Pc} {l : List Vl} (hg : aget p r.rows = some l) : ∃ x, q[atN r.s q p]? = some x ∧ x.pl r.s = (p, l) := by
  have hm : (p, l) ∈ q.map (Rr.pl r.s) := h.perm.symm.subset (aget_mem hg)
  obtain ⟨x, hx, hxp⟩ := List.mem_map.1 hm
  obtain ⟨j, hj⟩ := List.getElem?_of_mem hx
  refine ⟨x, ?_, hxp⟩
  have : atN r.s q p = j := tw_len hj (by rw [hxp]; exact plt_irr p) (fun i y hi hy => by have := h.pair hy hj hi; rw [hxp] at this; exact this)
  rw [this]; exact hj
theorem RefQ.absent {r : Rl} {q : List Rr} (h : RefQ r q) {p : Pc} (hg : aget p r.rows = none) {x : Rr} (hx : x ∈ q) : (x.pl r.s).1 ≠ p := by
  intro e
  exact aget_none hg (by rw [← e]; exact List.mem_map_of_mem (f := (·.1)) (h.mem hx))
theorem RefQ.is {r : Rl} {q : List Rr} (h : RefQ r q) (p : Pc) : isN r.s q p = (aget p r.rows).isSome := by
  unfold isN
  cases hg : aget p r.rows with
  | some l =>
    obtain ⟨x, hx, hxp⟩ := h.found hg
    rw [hx]; simp [hxp]
  | none =>
    cases hx : q[atN r.s q p]? with
    | none => rfl
    | some x => simp [h.absent hg (List.mem_of_getElem? hx)]
theorem split_at {α : Type} {l : List α} {n : Nat} {x : α} (h : l[n]? = some x) : l = l.take n ++ x :: l.drop (n + 1) := by
  obtain ⟨hn, rfl⟩ := List.getElem?_eq_some_iff.1 h
  rw [← List.drop_eq_getElem_cons hn, List.take_append_drop]
theorem RefQ.insert {r r' : Rl} {q : List Rr} (h : RefQ r q) (hok : r.Ok) (hwf : Rl.Wf r) {x : Rr} (hg : aget (x.pl r.s).1 r.rows = none) (hx : goodP (x.pl r.s).1) (hs : r'.s = r.s) (hr : r'.rows = aput (x.pl r.s).1 x.l r.rows) :
    RefQ r' (q.take (atN r.s q (x.pl r.s).1) ++ [x] ++ q.drop (atN r.s q (x.pl r.s).1)) := by
  have hge : ∀ y ∈ q.drop (atN r.s q (x.pl r.s).1), pltB (x.pl r.s).1 (y.pl r.s).1 = true := by
    intro y hy
    obtain ⟨j, hj⟩ := List.getElem?_of_mem hy
    rw [List.getElem?_drop] at hj
    have hyq : y ∈ q := List.mem_of_mem_drop hy
    have hn : pltB (y.pl r.s).1 (x.pl r.s).1 = false := by
      cases hz : q[atN r.s q (x.pl r.s).1]? with
      | none =>
        rw [List.getElem?_eq_none_iff] at hz
        have := (List.getElem?_eq_some_iff.1 hj).1
        omega
      | some z =>
        have h1 : pltB (z.pl r.s).1 (x.pl r.s).1 = false := tw_at (f := fun z : Rr => pltB (z.pl r.s).1 (x.pl r.s).1) hz
        cases j with
        | zero => rw [Nat.add_zero, hz] at hj; cases hj; exact h1
        | succ j =>
          have h2 := h.pair hz hj (by omega)
          cases h3 : pltB (y.pl r.s).1 (x.pl r.s).1 with
          | false => rfl
          | true => rw [plt_tr h2 h3] at h1; cases h1
    exact plt_tri hx (h.good hok hwf hyq) (fun e => h.absent hg hyq e.symm) hn
  have hlt : ∀ y ∈ q.take (atN r.s q (x.pl r.s).1), pltB (y.pl r.s).1 (x.pl r.s).1 = true := by
    intro y hy
    obtain ⟨j, hj⟩ := List.getElem?_of_mem hy
    have hjl := (List.getElem?_eq_some_iff.1 hj).1
    rw [List.length_take] at hjl
    rw [List.getElem?_take_of_lt (by omega)] at hj
    exact tw_lt (f := fun z : Rr => pltB (z.pl r.s).1 (x.pl r.s).1) (show j < (q.takeWhile _).length from (by unfold atN at hjl; omega)) hj
  have hsrt := h.srt
  rw [← List.take_append_drop (atN r.s q (x.pl r.s).1) q, List.pairwise_append] at hsrt
  refine ⟨?_, ?_⟩
  · rw [hs, hr]
    refine List.Perm.trans ?_ (aput_perm_none hg).symm
    rw [List.append_assoc, List.map_append, List.map_append]
    refine List.Perm.trans (List.perm_append_comm_assoc ..) ?_
    rw [← List.map_append, List.take_append_drop]
    exact (h.perm.cons _)
  · rw [hs, List.append_assoc, List.pairwise_append]
    refine ⟨hsrt.1, ?_, ?_⟩
    · rw [List.singleton_append, List.pairwise_cons]
      exact ⟨hge, hsrt.2.1⟩
    · intro a ha b hb
      rw [List.singleton_append, List.mem_cons] at hb
      rcases hb with rfl | hb
      · exact hlt a ha
      · exact hsrt.2.2 a ha b hb
theorem RefQ.remove {r r' : Rl} {q : List Rr} (h : RefQ r q) {p : Pc} {l : List Vl} (hg : aget p r.rows = some l) (hs : r'.s = r.s) (hr : r'.rows = adel p r.rows) :
    RefQ r' (q.take (atN r.s q p) ++ q.drop (atN r.s q p + 1)) := by
  obtain ⟨x, hx, hxp⟩ := h.found hg
  have hq := split_at hx
  refine ⟨?_, ?_⟩
  · rw [hs, hr]
    have h1 := h.perm.trans (adel_perm hg)
    rw [hq, List.map_append, List.map_cons, hxp] at h1
    have h2 := (List.perm_middle.symm.trans h1).cons_inv
    rw [List.map_append]
    exact h2
  · rw [hs]
    exact h.srt.sublist (by
      conv => rhs; rw [hq]
      exact List.Sublist.append_left (List.sublist_cons_self ..) _)
theorem RefQ.update {r r' : Rl} {q : List Rr} (h : RefQ r q) {x : Rr} {l : List Vl} (hg : aget (x.pl r.s).1 r.rows = some l) (hs : r'.s = r.s) (hr : r'.rows = aput (x.pl r.s).1 x.l r.rows) :
    RefQ r' (q.set (atN r.s q (x.pl r.s).1) x) := by
  obtain ⟨y, hy, hyp⟩ := h.found hg
  have hn := (List.getElem?_eq_some_iff.1 hy).1
  refine ⟨?_, ?_⟩
  · rw [hs, hr, List.set_eq_take_append_cons_drop, if_pos hn]
    refine List.Perm.trans ?_ (aput_perm_some hg).symm
    have h1 := h.perm.trans (adel_perm hg)
    rw [split_at hy, List.map_append, List.map_cons, hyp] at h1
    have h2 := (List.perm_middle.symm.trans h1).cons_inv
    rw [List.map_append, List.map_cons]
    exact List.perm_middle.trans (h2.cons _)
  · rw [hs]
    rw [List.pairwise_iff_getElem]
    intro i j hi hj hij
    simp only [List.length_set] at hi hj
    have key : ∀ k (hk : k < q.length), (Rr.pl r.s ((q.set (atN r.s q (x.pl r.s).1) x)[k]'(by simpa using hk))).1 = (Rr.pl r.s q[k]).1 := by
      intro k hk
      rw [List.getElem_set]
      split
      · rename_i e
        subst e
        obtain ⟨_, e2⟩ := List.getElem?_eq_some_iff.1 hy
        rw [e2, hyp]
      · rfl
    rw [key i hi, key j hj]
    exact List.pairwise_iff_getElem.1 h.srt i j hi hj hij

/-! ### What is asked of a state -/
theorem rowsAt_filter {r : Rl} (hok : r.Ok) (t : Int) (ask : List Vl → Bool) : rowsAt r t ask = (r.rows.filter fun x => decide (x.1.1 = t) && ask x.2).map (·.2) := by
  unfold rowsAt pickK
  rw [List.filterMap_map]
  have : ∀ (m : RR), (∀ x ∈ m, x ∈ r.rows) → m.filterMap ((fun p : Pc => if p.1 = t ∧ ask ((aget p r.rows).getD []) = true then some ((aget p r.rows).getD []) else none) ∘ (·.1)) = (m.filter fun x => decide (x.1.1 = t) && ask x.2).map (·.2) := by
    intro m
    induction m with
    | nil => intro _; rfl
    | cons x m ih =>
      intro hm
      have h1 := ih fun y hy => hm y (List.mem_cons_of_mem _ hy)
      have h2 := aget_of_mem hok (p := x.1) (l := x.2) (hm x (List.mem_cons_self ..))
      simp only [List.filterMap_cons, Function.comp_apply, h2, Option.getD_some, List.filter_cons]
      by_cases hc : x.1.1 = t ∧ ask x.2 = true
      · rw [if_pos hc, if_pos (by simp [hc]), List.map_cons, h1]
      · rw [if_neg hc, if_neg (by simpa using hc), h1]
  exact this _ fun _ h => h
/-- The rows that are asked for, as the reference has them: they are those of the state, in order. -/
theorem RefQ.inOrder {r : Rl} {q : List Rr} (h : RefQ r q) (hok : r.Ok) (t : Int) (ask : List Vl → Bool) : InOrder r t ask ((q.filter fun x => decide (x.t = t) && ask x.l).map (·.l)) := by
  refine ⟨?_, ?_⟩
  · rw [rowsAt_filter hok]
    have h1 := (h.perm.filter (fun x => decide (x.1.1 = t) && ask x.2)).map (·.2)
    rw [List.filter_map, List.map_map] at h1
    exact h1
  · rw [List.pairwise_map]
    have h2 := h.srt.filter (fun x => decide (x.t = t) && ask x.l)
    refine h2.imp_of_mem ?_
    intro x y hx hy hp
    have e1 := (List.mem_filter.1 hx).2
    have e2 := (List.mem_filter.1 hy).2
    simp only [Bool.and_eq_true, decide_eq_true_eq] at e1 e2
    rw [plt_iff] at hp
    simp only [Rr.pl] at hp
    rw [e1.1, e2.1] at hp
    rcases hp with hp | hp
    · omega
    · exact hp.2
theorem RefQ.whole {r : Rl} {q : List Rr} (h : RefQ r q) : r.whole = q.all fun x => refOk r.s r.rows (x.pl r.s) := by
  unfold Rl.whole
  rw [← h.perm.all_eq, List.all_map]; rfl
theorem RefQ.nil (s : Sc) (t : Int) : RefQ ⟨s, [], t⟩ [] := ⟨.refl _, .nil⟩
theorem RefQ.turn {r : Rl} {q : List Rr} (h : RefQ r q) {r' : Rl} (hs : r'.s = r.s) (hr : r'.rows = r.rows) : RefQ r' q := ⟨by rw [hs, hr]; exact h.perm, by rw [hs]; exact h.srt⟩
end Go.Proofs.YtphaegcoldpclaaDoor
