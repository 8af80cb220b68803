/- Texts merged: QcP QcD QcE QcF. -/
import Derived.Test.YtphaegcoldpclaaGreatDoorG15
import Derived.Test.YtphaegcoldpclaaGreatDoorG18
import Derived.Test.YtphaegcoldpclaaGreatDoorG8
set_option linter.unusedVariables false
set_option maxRecDepth 100000
namespace Go.Proofs.YtphaegcoldpclaaGreatDoor
open Go Go.Fx Go.Proofs Go.Pl

structure Rr where
  t : Int
  lv : V1s
  l : List Vl
def rrV (x : Rr) : List Value := [.int .i64 x.t, x.lv.1]
def Rr.pl (s : Sc) (x : Rr) : Pc × List Vl := ((x.t, Pl.keyOf s x.t x.l), x.l)
def pltB (p q : Pc) : Bool := decide (p.1 < q.1) || (decide (p.1 = q.1) && lessV p.2 q.2)
theorem less_irr (a : Vl) : lessV a a = false := by
  cases h : lessV a a with
  | false => rfl
  | true => exact absurd h (less_asym a a h)
theorem less_tr {a b c : Vl} (h : lessV a b = true) (k : lessV b c = true) : lessV a c = true := by
  unfold lessV at h k ⊢
  simp only [decide_eq_true_eq] at h k ⊢
  exact (compareV_tc keyR).lt_le h (by omega)
theorem plt_iff {p q : Pc} : pltB p q = true ↔ p.1 < q.1 ∨ (p.1 = q.1 ∧ lessV p.2 q.2 = true) := by unfold pltB; simp
theorem plt_irr (p : Pc) : pltB p p = false := by unfold pltB; simp [less_irr]
theorem plt_tr {p q r : Pc} (h : pltB p q = true) (k : pltB q r = true) : pltB p r = true := by
  rw [plt_iff] at *
  rcases h with h | ⟨h, h'⟩ <;> rcases k with k | ⟨k, k'⟩
  · exact .inl (by omega)
  · exact .inl (by omega)
  · exact .inl (by omega)
  · exact .inr ⟨by omega, less_tr h' k'⟩
def goodP (p : Pc) : Prop := checkV p.2 = true ∧ p.2.wf
theorem plt_tri {p q : Pc} (hp : goodP p) (hq : goodP q) (hne : p ≠ q) (h : pltB q p = false) : pltB p q = true := by
  unfold pltB at h
  simp only [Bool.or_eq_false_iff, decide_eq_false_iff_not, Bool.and_eq_false_iff] at h
  rw [plt_iff]
  by_cases e : p.1 = q.1
  · refine .inr ⟨e, less_parts hp.1 hq.1 hp.2 hq.2 (fun e2 => hne (Prod.ext e e2)) ?_⟩
    rcases h.2 with h2 | h2
    · exact absurd e.symm h2
    · exact h2
  · exact .inl (by omega)

section al
variable {α β : Type} [DecidableEq α]
theorem adel_perm {a : α} {v : β} : ∀ {l : List (α × β)}, aget a l = some v → l.Perm ((a, v) :: adel a l)
  | [], h => by simp [aget] at h
  | (b, u) :: l, h => by
    unfold aget at h
    unfold adel
    split
    · rename_i hb; rw [if_pos hb] at h; cases h; subst hb; exact .refl _
    · rename_i hb; rw [if_neg hb] at h; exact ((adel_perm h).cons _).trans (List.Perm.swap ..)
theorem aput_perm_some {a : α} {v w : β} : ∀ {l : List (α × β)}, aget a l = some v → (aput a w l).Perm ((a, w) :: adel a l)
  | [], h => by simp [aget] at h
  | (b, u) :: l, h => by
    unfold aget at h
    unfold adel aput
    split
    · rename_i hb; exact .refl _
    · rename_i hb; rw [if_neg hb] at h; exact ((aput_perm_some h).cons _).trans (List.Perm.swap ..)
theorem aput_perm_none {a : α} {w : β} : ∀ {l : List (α × β)}, aget a l = none → (aput a w l).Perm ((a, w) :: l)
  | [], h => .refl _
  | (b, u) :: l, h => by
    unfold aget at h
    unfold aput
    split
    · rename_i hb; rw [if_pos hb] at h; cases h
    · rename_i hb; rw [if_neg hb] at h; exact ((aput_perm_none h).cons _).trans (List.Perm.swap ..)
end al

structure RefQ (r : Rl) (q : List Rr) : Prop where
  perm : (q.map (Rr.pl r.s)).Perm r.rows
  srt : q.Pairwise fun x y => pltB (x.pl r.s).1 (y.pl r.s).1 = true
def atN (s : Sc) (q : List Rr) (p : Pc) : Nat := (q.takeWhile fun x => pltB (x.pl s).1 p).length
def isN (s : Sc) (q : List Rr) (p : Pc) : Bool := match q[atN s q p]? with | some x => decide ((x.pl s).1 = p) | none => false
theorem RefQ.len {r : Rl} {q : List Rr} (h : RefQ r q) : q.length = r.rows.length := by have := h.perm.length_eq; simpa using this
theorem RefQ.mem {r : Rl} {q : List Rr} (h : RefQ r q) {x : Rr} (hx : x ∈ q) : x.pl r.s ∈ r.rows := h.perm.subset (List.mem_map_of_mem hx)
theorem RefQ.rowOk {r : Rl} {q : List Rr} (h : RefQ r q) (hok : r.Ok) {x : Rr} (hx : x ∈ q) : rowS r.s x.t x.l = true := (hok.rows _ (h.mem hx)).row
theorem keyS_good {s : Sc} {t : Int} {v : Vl} (h : keyS s t v = true) (hw : v.wf) : goodP (t, v) := by
  simp only [keyS, fitsC, Bool.and_eq_true] at h
  exact ⟨h.2.1, hw⟩
theorem RefQ.good {r : Rl} {q : List Rr} (h : RefQ r q) (hok : r.Ok) (hwf : Rl.Wf r) {x : Rr} (hx : x ∈ q) : goodP (x.pl r.s).1 := by
  obtain ⟨h1, h2, _⟩ := rowS_key (h.rowOk hok hx)
  exact keyS_good h1 (hwf _ (h.mem hx) _ (List.mem_of_getElem? h2))
theorem tw_len {α : Type} {f : α → Bool} : ∀ {l : List α} {j : Nat} {x : α}, l[j]? = some x → f x = false → (∀ i y, i < j → l[i]? = some y → f y = true) → (l.takeWhile f).length = j
  | [], j, x, h, _, _ => by simp at h
  | a :: l, 0, x, h, hf, _ => by
    simp only [List.getElem?_cons_zero, Option.some.injEq] at h
    subst h
    simp [hf]
  | a :: l, j + 1, x, h, hf, hb => by
    have ha := hb 0 a (by omega) rfl
    rw [List.takeWhile_cons_of_pos ha, List.length_cons, tw_len (l := l) (j := j) (by simpa using h) hf (fun i y hi hy => hb (i + 1) y (by omega) (by simpa using hy))]
theorem tw_lt {α : Type} {f : α → Bool} : ∀ {l : List α} {i : Nat} {y : α}, i < (l.takeWhile f).length → l[i]? = some y → f y = true
  | [], i, y, h, _ => by simp at h
  | a :: l, i, y, h, hy => by
    by_cases ha : f a = true
    · rw [List.takeWhile_cons_of_pos ha] at h
      cases i with
      | zero => simp only [List.getElem?_cons_zero, Option.some.injEq] at hy; subst hy; exact ha
      | succ i => exact tw_lt (l := l) (by simpa using h) (by simpa using hy)
    · rw [List.takeWhile_cons_of_neg ha] at h; simp at h
theorem tw_at {α : Type} {f : α → Bool} : ∀ {l : List α} {y : α}, l[(l.takeWhile f).length]? = some y → f y = false
  | [], y, h => by simp at h
  | a :: l, y, h => by
    by_cases ha : f a = true
    · rw [List.takeWhile_cons_of_pos ha] at h; exact tw_at (l := l) (by simpa using h)
    · rw [List.takeWhile_cons_of_neg ha] at h; simp only [List.length_nil, List.getElem?_cons_zero, Option.some.injEq] at h; subst h; simpa using ha
theorem tw_le {α : Type} {f : α → Bool} (l : List α) : (l.takeWhile f).length ≤ l.length := (List.takeWhile_sublist f).length_le
theorem atN_le (s : Sc) (q : List Rr) (p : Pc) : atN s q p ≤ q.length := tw_le q
theorem RefQ.pair {r : Rl} {q : List Rr} (h : RefQ r q) {i j : Nat} {x y : Rr} (hi : q[i]? = some x) (hj : q[j]? = some y) (hlt : i < j) : pltB (x.pl r.s).1 (y.pl r.s).1 = true := by
  obtain ⟨hi', rfl⟩ := List.getElem?_eq_some_iff.1 hi
  obtain ⟨hj', rfl⟩ := List.getElem?_eq_some_iff.1 hj
  exact List.pairwise_iff_getElem.1 h.srt i j hi' hj' hlt
theorem RefQ.found {r : Rl} {q : List Rr} (h : RefQ r q) {p : Pc} {l : List Vl} (hg : aget p r.rows = some l) : ∃ x, q[atN r.s q p]? = some x ∧ x.pl r.s = (p, l) := by
  have hm : (p, l) ∈ q.map (Rr.pl r.s) := h.perm.symm.subset (aget_mem hg)
  obtain ⟨x, hx, hxp⟩ := List.mem_map.1 hm
  obtain ⟨j, hj⟩ := List.getElem?_of_mem hx
  refine ⟨x, ?_, hxp⟩
  have : atN r.s q p = j := tw_len hj (by rw [hxp]; exact plt_irr p) (fun i y hi hy => by have := h.pair hy hj hi; rw [hxp] at this; exact this)
  rw [this]; exact hj
theorem RefQ.absent {r : Rl} {q : List Rr} (h : RefQ r q) {p : Pc} (hg : aget p r.rows = none) {x : Rr} (hx : x ∈ q) : (x.pl r.s).1 ≠ p := by
  intro e
  exact aget_none hg (by rw [← e]; exact List.mem_map_of_mem (f := (·.1)) (h.mem hx))
theorem RefQ.is {r : Rl} {q : List Rr} (h : RefQ r q) (p : Pc) : isN r.s q p = (aget p r.rows).isSome := by
  unfold isN
  cases hg : aget p r.rows with
  | some l =>
    obtain ⟨x, hx, hxp⟩ := h.found hg
    rw [hx]; simp [hxp]
  | none =>
    cases hx : q[atN r.s q p]? with
    | none => rfl
    | some x => simp [h.absent hg (List.mem_of_getElem? hx)]
theorem split_at {α : Type} {l : List α} {n : Nat} {x : α} (h : l[n]? = some x) : l = l.take n ++ x :: l.drop (n + 1) := by
  obtain ⟨hn, rfl⟩ := List.getElem?_eq_some_iff.1 h
  rw [← List.drop_eq_getElem_cons hn, List.take_append_drop]
theorem RefQ.insert {r r' : Rl} {q : List Rr} (h : RefQ r q) (hok : r.Ok) (hwf : Rl.Wf r) {x : Rr} (hg : aget (x.pl r.s).1 r.rows = none) (hx : goodP (x.pl r.s).1) (hs : r'.s = r.s) (hr : r'.rows = aput (x.pl r.s).1 x.l r.rows) :
    RefQ r' (q.take (atN r.s q (x.pl r.s).1) ++ [x] ++ q.drop (atN r.s q (x.pl r.s).1)) := by
  have hge : ∀ y ∈ q.drop (atN r.s q (x.pl r.s).1), pltB (x.pl r.s).1 (y.pl r.s).1 = true := by
    intro y hy
    obtain ⟨j, hj⟩ := List.getElem?_of_mem hy
    rw [List.getElem?_drop] at hj
    have hyq : y ∈ q := List.mem_of_mem_drop hy
    have hn : pltB (y.pl r.s).1 (x.pl r.s).1 = false := by
      cases hz : q[atN r.s q (x.pl r.s).1]? with
      | none =>
        rw [List.getElem?_eq_none_iff] at hz
        have := (List.getElem?_eq_some_iff.1 hj).1
        omega
      | some z =>
        have h1 : pltB (z.pl r.s).1 (x.pl r.s).1 = false := tw_at (f := fun z : Rr => pltB (z.pl r.s).1 (x.pl r.s).1) hz
        cases j with
        | zero => rw [Nat.add_zero, hz] at hj; cases hj; exact h1
        | succ j =>
          have h2 := h.pair hz hj (by omega)
          cases h3 : pltB (y.pl r.s).1 (x.pl r.s).1 with
          | false => rfl
          | true => rw [plt_tr h2 h3] at h1; cases h1
    exact plt_tri hx (h.good hok hwf hyq) (fun e => h.absent hg hyq e.symm) hn
  have hlt : ∀ y ∈ q.take (atN r.s q (x.pl r.s).1), pltB (y.pl r.s).1 (x.pl r.s).1 = true := by
    intro y hy
    obtain ⟨j, hj⟩ := List.getElem?_of_mem hy
    have hjl := (List.getElem?_eq_some_iff.1 hj).1
    rw [List.length_take] at hjl
    rw [List.getElem?_take_of_lt (by omega)] at hj
    exact tw_lt (f := fun z : Rr => pltB (z.pl r.s).1 (x.pl r.s).1) (show j < (q.takeWhile _).length from (by unfold atN at hjl; omega)) hj
  have hsrt := h.srt
  rw [← List.take_append_drop (atN r.s q (x.pl r.s).1) q, List.pairwise_append] at hsrt
  refine ⟨?_, ?_⟩
  · rw [hs, hr]
    refine List.Perm.trans ?_ (aput_perm_none hg).symm
    rw [List.append_assoc, List.map_append, List.map_append]
    refine List.Perm.trans (List.perm_append_comm_assoc ..) ?_
    rw [← List.map_append, List.take_append_drop]
    exact (h.perm.cons _)
  · rw [hs, List.append_assoc, List.pairwise_append]
    refine ⟨hsrt.1, ?_, ?_⟩
    · rw [List.singleton_append, List.pairwise_cons]
      exact ⟨hge, hsrt.2.1⟩
    · intro a ha b hb
      rw [List.singleton_append, List.mem_cons] at hb
      rcases hb with rfl | hb
      · exact hlt a ha
      · exact hsrt.2.2 a ha b hb
theorem RefQ.remove {r r' : Rl} {q : List Rr} (h : RefQ r q) {p : Pc} {l : List Vl} (hg : aget p r.rows = some l) (hs : r'.s = r.s) (hr : r'.rows = adel p r.rows) :
    RefQ r' (q.take (atN r.s q p) ++ q.drop (atN r.s q p + 1)) := by
  obtain ⟨x, hx, hxp⟩ := h.found hg
  have hq := split_at hx
  refine ⟨?_, ?_⟩
  · rw [hs, hr]
    have h1 := h.perm.trans (adel_perm hg)
    rw [hq, List.map_append, List.map_cons, hxp] at h1
    have h2 := (List.perm_middle.symm.trans h1).cons_inv
    rw [List.map_append]
    exact h2
  · rw [hs]
    exact h.srt.sublist (by
      conv => rhs; rw [hq]
      exact List.Sublist.append_left (List.sublist_cons_self ..) _)
theorem RefQ.update {r r' : Rl} {q : List Rr} (h : RefQ r q) {x : Rr} {l : List Vl} (hg : aget (x.pl r.s).1 r.rows = some l) (hs : r'.s = r.s) (hr : r'.rows = aput (x.pl r.s).1 x.l r.rows) :
    RefQ r' (q.set (atN r.s q (x.pl r.s).1) x) := by
  obtain ⟨y, hy, hyp⟩ := h.found hg
  have hn := (List.getElem?_eq_some_iff.1 hy).1
  refine ⟨?_, ?_⟩
  · rw [hs, hr, List.set_eq_take_append_cons_drop, if_pos hn]
    refine List.Perm.trans ?_ (aput_perm_some hg).symm
    have h1 := h.perm.trans (adel_perm hg)
    rw [split_at hy, List.map_append, List.map_cons, hyp] at h1
    have h2 := (List.perm_middle.symm.trans h1).cons_inv
    rw [List.map_append, List.map_cons]
    exact List.perm_middle.trans (h2.cons _)
  · rw [hs]
    rw [List.pairwise_iff_getElem]
    intro i j hi hj hij
    simp only [List.length_set] at hi hj
    have key : ∀ k (hk : k < q.length), (Rr.pl r.s ((q.set (atN r.s q (x.pl r.s).1) x)[k]'(by simpa using hk))).1 = (Rr.pl r.s q[k]).1 := by
      intro k hk
      rw [List.getElem_set]
      split
      · rename_i e
        subst e
        obtain ⟨_, e2⟩ := List.getElem?_eq_some_iff.1 hy
        rw [e2, hyp]
      · rfl
    rw [key i hi, key j hj]
    exact List.pairwise_iff_getElem.1 h.srt i j hi hj hij

theorem rowsAt_filter {r : Rl} (hok : r.Ok) (t : Int) (ask : List Vl → Bool) : rowsAt r t ask = (r.rows.filter fun x => decide (x.1.1 = t) && ask x.2).map (·.2) := by
  unfold rowsAt pickK
  rw [List.filterMap_map]
  have : ∀ (m : RR), (∀ x ∈ m, x ∈ r.rows) → m.filterMap ((fun p : Pc => if p.1 = t ∧ ask ((aget p r.rows).getD []) = true then some ((aget p r.rows).getD []) else none) ∘ (·.1)) = (m.filter fun x => decide (x.1.1 = t) && ask x.2).map (·.2) := by
    intro m
    induction m with
    | nil => intro _; rfl
    | cons x m ih =>
      intro hm
      have h1 := ih fun y hy => hm y (List.mem_cons_of_mem _ hy)
      have h2 := aget_of_mem hok (p := x.1) (l := x.2) (hm x (List.mem_cons_self ..))
      simp only [List.filterMap_cons, Function.comp_apply, h2, Option.getD_some, List.filter_cons]
      by_cases hc : x.1.1 = t ∧ ask x.2 = true
      · rw [if_pos hc, if_pos (by simp [hc]), List.map_cons, h1]
      · rw [if_neg hc, if_neg (by simpa using hc), h1]
  exact this _ fun _ h => h
theorem RefQ.inOrder {r : Rl} {q : List Rr} (h : RefQ r q) (hok : r.Ok) (t : Int) (ask : List Vl → Bool) : InOrder r t ask ((q.filter fun x => decide (x.t = t) && ask x.l).map (·.l)) := by
  refine ⟨?_, ?_⟩
  · rw [rowsAt_filter hok]
    have h1 := (h.perm.filter (fun x => decide (x.1.1 = t) && ask x.2)).map (·.2)
    rw [List.filter_map, List.map_map] at h1
    exact h1
  · rw [List.pairwise_map]
    have h2 := h.srt.filter (fun x => decide (x.t = t) && ask x.l)
    refine h2.imp_of_mem ?_
    intro x y hx hy hp
    have e1 := (List.mem_filter.1 hx).2
    have e2 := (List.mem_filter.1 hy).2
    simp only [Bool.and_eq_true, decide_eq_true_eq] at e1 e2
    rw [plt_iff] at hp
    simp only [Rr.pl] at hp
    rw [e1.1, e2.1] at hp
    rcases hp with hp | hp
    · omega
    · exact hp.2
theorem RefQ.whole {r : Rl} {q : List Rr} (h : RefQ r q) : r.whole = q.all fun x => refOk r.s r.rows (x.pl r.s) := by
  unfold Rl.whole
  rw [← h.perm.all_eq, List.all_map]; rfl
theorem RefQ.nil (s : Sc) (t : Int) : RefQ ⟨s, [], t⟩ [] := ⟨.refl _, .nil⟩
theorem RefQ.turn {r : Rl} {q : List Rr} (h : RefQ r q) {r' : Rl} (hs : r'.s = r.s) (hr : r'.rows = r.rows) : RefQ r' q := ⟨by rw [hs, hr]; exact h.perm, by rw [hs]; exact h.srt⟩
end Go.Proofs.YtphaegcoldpclaaGreatDoor
set_option linter.unusedSimpArgs false
set_option linter.unusedVariables false
set_option maxRecDepth 100000
namespace Go.Proofs.YtphaegcoldpclaaGreatDoor
open Go Go.Fx Go.Proofs Go.Pl

structure RfY where
  vs : Value
  ts : List Tb
  vr : Value
  q : List Rr
structure RfOK (P : HProp) (r : Rl) (y : RfY) : Prop where
  vc : y.vs.oneCell' = true
  vrc : y.vr.oneCell' = true
  sv : SV P y.vs y.ts
  s : y.ts.map Tb.c = r.s
  rq : RefQ r y.q
  rv : ∀ x ∈ y.q, Vw P 4 x.lv.1 (x.l.map valV)
def rfL (P : HProp) (b : Nat) (r : Rl) (y : { y : RfY // RfOK P r y }) : List HProp := [pts b (.cells [y.1.vs, y.1.vr, .int .u64 r.turns].toArray 100), row 102 2 y.1.vr (y.1.q.map rrV)]
def rfP (P : HProp) (b : Nat) (r : Rl) : HProp := exP (rfL P b r)
theorem rf_in {P : HProp} {b : Nat} {r : Rl} {vs : Value} {ts : List Tb} {vr : Value} {q : List Rr} (hy : RfOK P r ⟨vs, ts, vr, q⟩) {L : List HProp} {h : Frag} (s : SatL ([pts b (.cells [vs, vr, .int .u64 r.turns].toArray 100), row 102 2 vr (q.map rrV)] ++ L) h) : SatL (rfP P b r :: L) h :=
  ex_in (M := rfL P b r) ⟨⟨vs, ts, vr, q⟩, hy⟩ rfl s
theorem RfOK.ext {P P' : HProp} (a : Ext P P') {r : Rl} {y : RfY} (h : RfOK P r y) : RfOK P' r y := ⟨h.vc, h.vrc, h.sv.ext a, h.s, h.rq, fun x hx => a.vw (h.rv x hx)⟩
theorem rfP_ext {P P' : HProp} (a : Ext P P') {b : Nat} {r : Rl} {L : List HProp} {h : Frag} (s : SatL (rfP P b r :: L) h) : SatL (rfP P' b r :: L) h :=
  s.headMono fun _ ⟨y, hy⟩ => ⟨⟨y.1, y.2.ext a⟩, hy⟩
theorem key14_spec (b : Nat) (vs vr : Value) (turns : Int) (ts : List Tb) (P : HProp) (x : Rr) (hsv : SV P vs ts) (hx : rowS (ts.map Tb.c) x.t x.l = true) (hv : Vw P 4 x.lv.1 (x.l.map valV)) :
    FSpec Tryz.prog 84 [.pointer (some ⟨b, 0, none⟩), .agg (rrV x).toArray] [pts b (.cells [vs, vr, .int .u64 turns].toArray 100), P] Unit (fun _ => True)
      (fun _ => .agg (valV (Pl.keyOf (ts.map Tb.c) x.t x.l)).toArray) (fun _ => [pts b (.cells [vs, vr, .int .u64 turns].toArray 100), P]) := by
  have hvw := hsv.vw
  obtain ⟨_, hk, hlen⟩ := rowS_key hx
  have hh : hasS (ts.map Tb.c) x.t = true := by simp only [rowS, Bool.and_eq_true] at hx; exact hx.1
  obtain ⟨t, ⟨lv, hlv⟩, l⟩ := x
  dsimp only at hk hlen hh hv ⊢
  obtain ⟨m, tb, rfl, ht, hxt, hm, hta, hok, hmem⟩ := hasS_tb hh
  have k0 := hok.key0
  have kL := hok.keyL
  generalize Pl.keyOf (ts.map Tb.c) (m : Int) l = k at hk ⊢
  rw [hta] at hk hlen
  obtain ⟨tn, cols, ⟨cv, hcv⟩, key, ref, par⟩ := tb
  dsimp only [tbV, Tb.c] at hxt k0 kL hk hlen
  obtain ⟨km, rfl⟩ : ∃ km : Nat, key = km := ⟨key.toNat, by omega⟩
  rw [Int.toNat_natCast] at hk
  have hkl := (List.getElem?_eq_some_iff.1 hk).1
  have hnk : km < (l.map valV).length := by rw [List.length_map]; exact hkl
  have hxk : (l.map valV)[km]? = some (valV k) := by rw [List.getElem?_map, hk]; rfl
  obtain ⟨kk, ki, kr, ks⟩ := k
  dsimp only [valV, rrV] at hxk ⊢
  refine spec_intro [] _ Tryz.func84 rfl Tryz.ntmps84 (by rfl) (fun w0 R => ?_)
  refine ok_learn (VwIn.slice (VwIn.there (VwIn.here hvw))) ?_
  rintro ⟨pv, cv', rfl⟩
  refine ok_learn (VwIn.base (VwIn.there (VwIn.here hvw)) (by intro e; rw [e] at hm; simp at hm)) ?_
  rintro ⟨bu, ou, rfl⟩
  refine ok_learn (VwIn.slice (VwIn.there (VwIn.here hv))) ?_
  rintro ⟨pl, cl, rfl⟩
  refine ok_learn (VwIn.base (VwIn.there (VwIn.here hv)) (by intro e; rw [e] at hnk; simp at hnk)) ?_
  rintro ⟨bl, ol, rfl⟩
  repeat' (first | (refine go_Y ?_; intros) | (refine gs_Y ?_ ?_ <;> (intro hgd; try (simp only [bn] at hgd))) | (refine gc_Y ?_ ?_ <;> intro _) | fail)
  (refine rt_Y (y := ()) (hrs := Tryz.results84) (hv := ?_) (hφ := ?_))
  · rfl
  · trivial
def mayB (s : Sc) (o : Opr) : Bool := if o.kind = 3 then (match o.row with | [v] => keyS s o.table v | _ => false) else (decide (o.kind = 1) || decide (o.kind = 2)) && rowS s o.table o.row
set_option maxHeartbeats 4000000 in
theorem may14_spec (b : Nat) (vs vr : Value) (turns : Int) (ts : List Tb) (P : HProp) (o : Opr) (w : Value) (hvc : vs.oneCell' = true) (hsv : SV P vs ts) (hU : UT P) (hw : Vw P 4 w (o.row.map valV)) (hwf : ∀ v ∈ o.row, v.wf) :
    FSpec Tryz.prog 75 [.pointer (some ⟨b, 0, none⟩), .agg #[.int .u8 o.kind, .int .i64 o.table, w]] [P, pts b (.cells [vs, vr, .int .u64 turns].toArray 100)] Unit (fun _ => True)
      (fun _ => .bool (mayB (ts.map Tb.c) o)) (fun _ => [P, pts b (.cells [vs, vr, .int .u64 turns].toArray 100)]) := by
  obtain ⟨k, t, l⟩ := o
  dsimp only at hw hwf ⊢
  have hlm : (l.map valV).length = l.length := by simp
  have hr := row13_spec t l vs w ts P hvc hsv hU hw hwf
  generalize hT : mayB (ts.map Tb.c) ⟨k, t, l⟩ = T
  unfold mayB at hT
  dsimp only at hT
  cases t1 : decide (k = 3) with
  | true =>
    rw [if_pos (of_decide_eq_true t1)] at hT
    cases t2 : decide (((l.map valV).length : Int) = 1) with
    | false =>
      obtain rfl : T = false := by
        rw [← hT]
        have := of_decide_eq_false t2
        rcases l with _ | ⟨a, _ | ⟨b, l⟩⟩
        · rfl
        · simp at this
        · rfl
      refine spec_intro [] _ Tryz.func75 rfl Tryz.ntmps75 (by rfl) (fun w0 R => ?_)
      refine ok_learn (VwIn.slice (VwIn.here hw)) ?_
      rintro ⟨pw, cw, rfl⟩
      repeat' (first | (refine go_Y ?_; intros) | (refine gs_Y ?_ ?_ <;> (intro hgd; try (simp only [bn] at hgd))) | (refine gc_Y ?_ ?_ <;> intro _) | fail)
      (refine rt_Y (y := ()) (hrs := Tryz.results75) (hv := ?_) (hφ := ?_))
      · rfl
      · trivial
    | true =>
      obtain ⟨a, rfl⟩ : ∃ a, l = [a] := by
        have := of_decide_eq_true t2
        rcases l with _ | ⟨a, _ | ⟨b, l⟩⟩
        · simp at this
        · exact ⟨a, rfl⟩
        · simp at this; omega
      dsimp only at hT
      have hk := key13_spec t a vs ts P hvc hsv hU (hwf a (List.mem_singleton.2 rfl))
      rw [hT] at hk
      have hx : ([a].map valV)[0]? = some (valV a) := rfl
      have hn : (0 : Nat) < ([a].map valV).length := by simp
      obtain ⟨ak, ai, ar, as'⟩ := a
      dsimp only [valV] at hx hk
      refine spec_intro [] _ Tryz.func75 rfl Tryz.ntmps75 (by rfl) (fun w0 R => ?_)
      refine ok_learn (VwIn.slice (VwIn.here hw)) ?_
      rintro ⟨pw, cw, rfl⟩
      refine ok_learn (VwIn.base (VwIn.here hw) (by simp)) ?_
      rintro ⟨bw, ow, rfl⟩
      repeat' (first | (refine go_Y ?_; intros) | (refine gs_Y ?_ ?_ <;> (intro hgd; try (simp only [bn] at hgd))) | (refine gc_Y ?_ ?_ <;> intro _) | fail)
      refine cl_Y (hk) ?_
      intro _ _
      repeat' (first | (refine go_Y ?_; intros) | (refine gs_Y ?_ ?_ <;> (intro hgd; try (simp only [bn] at hgd))) | (refine gc_Y ?_ ?_ <;> intro _) | fail)
      (refine rt_Y (y := ()) (hrs := Tryz.results75) (hv := ?_) (hφ := ?_))
      · rfl
      · trivial
  | false =>
    rw [if_neg (of_decide_eq_false t1)] at hT
    cases t2 : decide (k = 1) with
    | true =>
      rw [t2, Bool.true_or, Bool.true_and] at hT
      rw [hT] at hr
      refine spec_intro [] _ Tryz.func75 rfl Tryz.ntmps75 (by rfl) (fun w0 R => ?_)
      repeat' (first | (refine go_Y ?_; intros) | (refine gs_Y ?_ ?_ <;> (intro hgd; try (simp only [bn] at hgd))) | (refine gc_Y ?_ ?_ <;> intro _) | fail)
      refine cl_Y (hr) ?_
      intro _ _
      repeat' (first | (refine go_Y ?_; intros) | (refine gs_Y ?_ ?_ <;> (intro hgd; try (simp only [bn] at hgd))) | (refine gc_Y ?_ ?_ <;> intro _) | fail)
      (refine rt_Y (y := ()) (hrs := Tryz.results75) (hv := ?_) (hφ := ?_))
      · rfl
      · trivial
    | false =>
      cases t3 : decide (k = 2) with
      | true =>
        rw [t2, t3, Bool.or_true, Bool.true_and] at hT
        rw [hT] at hr
        refine spec_intro [] _ Tryz.func75 rfl Tryz.ntmps75 (by rfl) (fun w0 R => ?_)
        repeat' (first | (refine go_Y ?_; intros) | (refine gs_Y ?_ ?_ <;> (intro hgd; try (simp only [bn] at hgd))) | (refine gc_Y ?_ ?_ <;> intro _) | fail)
        refine cl_Y (hr) ?_
        intro _ _
        repeat' (first | (refine go_Y ?_; intros) | (refine gs_Y ?_ ?_ <;> (intro hgd; try (simp only [bn] at hgd))) | (refine gc_Y ?_ ?_ <;> intro _) | fail)
        (refine rt_Y (y := ()) (hrs := Tryz.results75) (hv := ?_) (hφ := ?_))
        · rfl
        · trivial
      | false =>
        obtain rfl : T = false := by rw [← hT, t2, t3]; rfl
        refine spec_intro [] _ Tryz.func75 rfl Tryz.ntmps75 (by rfl) (fun w0 R => ?_)
        repeat' (first | (refine go_Y ?_; intros) | (refine gs_Y ?_ ?_ <;> (intro hgd; try (simp only [bn] at hgd))) | (refine gc_Y ?_ ?_ <;> intro _) | fail)
        (refine rt_Y (y := ()) (hrs := Tryz.results75) (hv := ?_) (hφ := ?_))
        · rfl
        · trivial
set_option maxHeartbeats 8000000 in
theorem at14_spec (b : Nat) (r : Rl) (vs vr : Value) (ts : List Tb) (q : List Rr) (P : HProp) (t : Int) (k : Vl) (hok : r.Ok) (hwf : Rl.Wf r) (hy : RfOK P r ⟨vs, ts, vr, q⟩) (hk : k.wf) :
    FSpec Tryz.prog 50 [.pointer (some ⟨b, 0, none⟩), .int .i64 t, .agg (valV k).toArray] [pts b (.cells [vs, vr, .int .u64 r.turns].toArray 100), row 102 2 vr (q.map rrV), P] Unit (fun _ => True)
      (fun _ => .tuple #[.int .i64 (atN r.s q (t, k)), .bool (isN r.s q (t, k))]) (fun _ => [pts b (.cells [vs, vr, .int .u64 r.turns].toArray 100), row 102 2 vr (q.map rrV), P]) := by
  obtain ⟨hvc, hvrc, hsv, hss, hrq, hrv⟩ := hy
  dsimp only at hvc hvrc hsv hss hrq hrv
  have hqm : (q.map rrV).length = q.length := by simp
  have hql := hrq.len
  have hrl := hok.len
  have hle := atN_le r.s q (t, k)
  have hat := fun (x : Rr) (hx : q[atN r.s q (t, k)]? = some x) => tw_at (f := fun x : Rr => pltB (x.pl r.s).1 (t, k)) hx
  have hlt := fun (i : Nat) (x : Rr) (hi : i < atN r.s q (t, k)) (hx : q[i]? = some x) => tw_lt (f := fun x : Rr => pltB (x.pl r.s).1 (t, k)) hi hx
  have his : isN r.s q (t, k) = (match q[atN r.s q (t, k)]? with | some x => decide ((x.pl r.s).1 = (t, k)) | none => false) := rfl
  have hise : ∀ x, q[atN r.s q (t, k)]? = some x → isN r.s q (t, k) = (decide (x.t = t) && decide (Pl.keyOf r.s x.t x.l = k)) := fun x hx => by
    rw [his, hx]
    show decide ((x.t, Pl.keyOf r.s x.t x.l) = (t, k)) = _
    rw [Bool.eq_iff_iff]; simp
  generalize isN r.s q (t, k) = is at his hise ⊢
  generalize atN r.s q (t, k) = N at *
  have hkeys := fun (x : Rr) (hx : x ∈ q) => key14_spec b vs vr r.turns ts P x hsv (by rw [hss]; exact hrq.rowOk hok hx) (hrv x hx)
  have hkwf := fun (x : Rr) (hx : x ∈ q) => (hrq.good hok hwf hx).2
  have hkv := hk
  obtain ⟨kk, ki, kr, ks⟩ := k
  dsimp only [valV]
  refine spec_intro [] _ Tryz.func50 rfl Tryz.ntmps50 (by rfl) (fun w0 R => ?_)
  refine ok_learn (rowShapeS (e := 102) (n := 2) (v := vr) (xs := q.map rrV) (by decide) takeD) ?_
  rintro ⟨pr, cr, rfl, hcr, hsp⟩
  repeat' (first | (refine go_Y ?_; intros) | (refine gs_Y ?_ ?_ <;> (intro hgd; try (simp only [bn] at hgd))) | (refine gc_Y ?_ ?_ <;> intro _) | fail)
  rename_i bk
  refine ok_map (L' := [pts b (.cells [vs, .slice pr (q.map rrV).length cr, .int .u64 r.turns].toArray 100), P, pts bk (.cells [.int .u8 kk, .int .i64 ki, .int .u64 kr, .string ks].toArray 28), row 102 2 (.slice pr (q.map rrV).length cr) (q.map rrV)] ++ R) entD ?_
  refine ok_loop' (γ := Nat) (fun n ρ L => n ≤ N ∧ Knows ρ [(0, .pointer (some ⟨b, 0, none⟩)), (1, .int .i64 t), (5, .pointer (some ⟨bk, 0, none⟩)), (8, .int .i64 n)] ∧
      L = [pts b (.cells [vs, .slice pr (q.map rrV).length cr, .int .u64 r.turns].toArray 100), P, pts bk (.cells [.int .u8 kk, .int .i64 ki, .int .u64 kr, .string ks].toArray 28), row 102 2 (.slice pr (q.map rrV).length cr) (q.map rrV)] ++ R) (fun n => N - n)
    0 ⟨by omega, ⟨rfl, rfl, rfl, rfl, trivial⟩, rfl⟩ ?_
  rintro n ρ L ⟨hn, hkn, rfl⟩
  refine ok_regs hkn ?_
  cases t1 : decide ((n : Int) < ((q.map rrV).length : Int)) with
  | false =>
    have hnq : n = q.length := by have := of_decide_eq_false t1; omega
    have hnN : N = n := by omega
    have hisf : is = false := by rw [his, hnN, hnq, List.getElem?_eq_none (Nat.le_refl _)]
    subst hisf
    rw [hnN]
    repeat' (first | (refine go_Y ?_; intros) | (refine gs_Y ?_ ?_ <;> (intro hgd; try (simp only [bn] at hgd))) | (refine gc_Y ?_ ?_ <;> intro _) | fail)
    (apply ok_draw [38]; (focus (kernel_rfl)); (focus ((conv => lhs; whnf); first | done | rfl)); (focus (decide +kernel)); (focus (exact (fun _ h => h))))
    repeat' (first | (refine go_Y ?_; intros) | (refine gs_Y ?_ ?_ <;> (intro hgd; try (simp only [bn] at hgd))) | (refine gc_Y ?_ ?_ <;> intro _) | fail)
    (apply ok_draw [29]; (focus (kernel_rfl)); (focus ((conv => lhs; whnf); first | done | rfl)); (focus (decide +kernel)); (focus (exact (fun _ h => h))))
    repeat' (first | (refine go_Y ?_; intros) | (refine gs_Y ?_ ?_ <;> (intro hgd; try (simp only [bn] at hgd))) | (refine gc_Y ?_ ?_ <;> intro _) | fail)
    (refine rt_Y (y := ()) (hrs := Tryz.results50) (hv := ?_) (hφ := ?_))
    · rfl
    · trivial
  | true =>
    have h0 : n < q.length := by have := of_decide_eq_true t1; omega
    have hqn : q[n]? = some q[n] := List.getElem?_eq_getElem h0
    have hx : (q.map rrV)[n]? = some (rrV q[n]) := by rw [List.getElem?_map, hqn]; rfl
    have hn1 : n < (q.map rrV).length := by omega
    have hmem := List.getElem_mem h0
    have hks := hkeys _ hmem
    have hkw := hkwf _ hmem
    have hlt := hlt n q[n]
    have hat := hat q[n]
    have hise := hise q[n]
    refine ok_learn (VwIn.base (n := 2) (xs := q.map rrV) (VwIn.there (VwIn.there (VwIn.there (VwIn.here Vw.row)))) (by intro e; rw [e] at hn1; simp at hn1)) ?_
    rintro ⟨bu, ou, rfl⟩
    generalize q[n] = x at hqn hx hks hkw hlt hat hise
    obtain ⟨xt, ⟨xv, hxv⟩, xl⟩ := x
    have hsc : Pl.keyOf (ts.map Tb.c) xt xl = Pl.keyOf r.s xt xl := by rw [hss]
    dsimp only [rrV, Rr.pl] at hx hks hkw hlt hat hise hsc
    rw [hsc] at hks
    generalize Pl.keyOf r.s xt xl = xk at hks hkw hlt hat hise
    have hls := less04_spec xk ⟨kk, ki, kr, ks⟩ hkw hkv
    have heq := eqL_valV xk ⟨kk, ki, kr, ks⟩
    obtain ⟨xkk, xki, xkr, xks⟩ := xk
    dsimp only [valV] at hks hls heq
    have hplt : pltB (xt, ⟨xkk, xki, xkr, xks⟩) (t, ⟨kk, ki, kr, ks⟩) = (decide (xt < t) || (decide (xt = t) && lessV ⟨xkk, xki, xkr, xks⟩ ⟨kk, ki, kr, ks⟩)) := rfl
    rw [hplt] at hlt hat
    clear hkeys hplt
    by_cases hnN : n < N
    · have hp := hlt hnN hqn
      clear hlt hat his hise
      cases t2 : decide (xt < t) with
      | true =>
        repeat' (first | (refine go_Y ?_; intros) | (refine gs_Y ?_ ?_ <;> (intro hgd; try (simp only [bn] at hgd))) | (refine gc_Y ?_ ?_ <;> intro _) | fail)
        (apply ok_draw [38]; (focus (kernel_rfl)); (focus ((conv => lhs; whnf); first | done | rfl)); (focus (decide +kernel)); (focus (exact (fun _ h => h))))
        repeat' (first | (refine go_Y ?_; intros) | (refine gs_Y ?_ ?_ <;> (intro hgd; try (simp only [bn] at hgd))) | (refine gc_Y ?_ ?_ <;> intro _) | fail)
        refine cont_map (L' := [pts b (.cells [vs, .slice (some ⟨bu, ou, none⟩) (q.map rrV).length cr, .int .u64 r.turns].toArray 100), P, pts bk (.cells [.int .u8 kk, .int .i64 ki, .int .u64 kr, .string ks].toArray 28), row 102 2 (.slice (some ⟨bu, ou, none⟩) (q.map rrV).length cr) (q.map rrV)] ++ R) entD ?_
        refine cont_back (n + 1) ⟨by omega, ⟨rfl, rfl, rfl, rfl, trivial⟩, rfl⟩ (by omega)
      | false =>
        rw [t2, Bool.false_or, Bool.and_eq_true] at hp
        obtain ⟨t3, t4⟩ := hp
        rw [t4] at hls
        repeat' (first | (refine go_Y ?_; intros) | (refine gs_Y ?_ ?_ <;> (intro hgd; try (simp only [bn] at hgd))) | (refine gc_Y ?_ ?_ <;> intro _) | fail)
        (apply ok_draw [38]; (focus (kernel_rfl)); (focus ((conv => lhs; whnf); first | done | rfl)); (focus (decide +kernel)); (focus (exact (fun _ h => h))))
        repeat' (first | (refine go_Y ?_; intros) | (refine gs_Y ?_ ?_ <;> (intro hgd; try (simp only [bn] at hgd))) | (refine gc_Y ?_ ?_ <;> intro _) | fail)
        refine clN_Y (hks) ?_
        intro _ _
        repeat' (first | (refine go_Y ?_; intros) | (refine gs_Y ?_ ?_ <;> (intro hgd; try (simp only [bn] at hgd))) | (refine gc_Y ?_ ?_ <;> intro _) | fail)
        refine cl_Y (hls) ?_
        intro _ _
        repeat' (first | (refine go_Y ?_; intros) | (refine gs_Y ?_ ?_ <;> (intro hgd; try (simp only [bn] at hgd))) | (refine gc_Y ?_ ?_ <;> intro _) | fail)
        refine cont_map (L' := [pts b (.cells [vs, .slice (some ⟨bu, ou, none⟩) (q.map rrV).length cr, .int .u64 r.turns].toArray 100), P, pts bk (.cells [.int .u8 kk, .int .i64 ki, .int .u64 kr, .string ks].toArray 28), row 102 2 (.slice (some ⟨bu, ou, none⟩) (q.map rrV).length cr) (q.map rrV)] ++ R) entD ?_
        refine cont_back (n + 1) ⟨by omega, ⟨rfl, rfl, rfl, rfl, trivial⟩, rfl⟩ (by omega)
    · have hnN : N = n := by omega
      have hp := hat (by rw [hnN]; exact hqn)
      have hise := hise (by rw [hnN]; exact hqn)
      clear hlt hat his
      rw [hnN]
      cases t3 : decide (xt = t) with
      | false =>
        obtain rfl : is = false := by rw [hise, t3, Bool.false_and]
        have t2 : decide (xt < t) = false := by
          cases h : decide (xt < t) with
          | false => rfl
          | true => rw [h, Bool.true_or] at hp; cases hp
        repeat' (first | (refine go_Y ?_; intros) | (refine gs_Y ?_ ?_ <;> (intro hgd; try (simp only [bn] at hgd))) | (refine gc_Y ?_ ?_ <;> intro _) | fail)
        (apply ok_draw [38]; (focus (kernel_rfl)); (focus ((conv => lhs; whnf); first | done | rfl)); (focus (decide +kernel)); (focus (exact (fun _ h => h))))
        repeat' (first | (refine go_Y ?_; intros) | (refine gs_Y ?_ ?_ <;> (intro hgd; try (simp only [bn] at hgd))) | (refine gc_Y ?_ ?_ <;> intro _) | fail)
        (apply ok_draw [29]; (focus (kernel_rfl)); (focus ((conv => lhs; whnf); first | done | rfl)); (focus (decide +kernel)); (focus (exact (fun _ h => h))))
        repeat' (first | (refine go_Y ?_; intros) | (refine gs_Y ?_ ?_ <;> (intro hgd; try (simp only [bn] at hgd))) | (refine gc_Y ?_ ?_ <;> intro _) | fail)
        (refine rt_Y (y := ()) (hrs := Tryz.results50) (hv := ?_) (hφ := ?_))
        · rfl
        · trivial
      | true =>
        rw [t3, Bool.true_and, ← heq] at hise
        have t2 : decide (xt < t) = false := by have := of_decide_eq_true t3; simp; omega
        rw [t2, t3, Bool.false_or, Bool.true_and] at hp
        rw [hp] at hls
        rw [hise]
        repeat' (first | (refine go_Y ?_; intros) | (refine gs_Y ?_ ?_ <;> (intro hgd; try (simp only [bn] at hgd))) | (refine gc_Y ?_ ?_ <;> intro _) | fail)
        (apply ok_draw [38]; (focus (kernel_rfl)); (focus ((conv => lhs; whnf); first | done | rfl)); (focus (decide +kernel)); (focus (exact (fun _ h => h))))
        repeat' (first | (refine go_Y ?_; intros) | (refine gs_Y ?_ ?_ <;> (intro hgd; try (simp only [bn] at hgd))) | (refine gc_Y ?_ ?_ <;> intro _) | fail)
        refine clN_Y (hks) ?_
        intro _ _
        repeat' (first | (refine go_Y ?_; intros) | (refine gs_Y ?_ ?_ <;> (intro hgd; try (simp only [bn] at hgd))) | (refine gc_Y ?_ ?_ <;> intro _) | fail)
        refine cl_Y (hls) ?_
        intro _ _
        repeat' (first | (refine go_Y ?_; intros) | (refine gs_Y ?_ ?_ <;> (intro hgd; try (simp only [bn] at hgd))) | (refine gc_Y ?_ ?_ <;> intro _) | fail)
        (apply ok_draw [29]; (focus (kernel_rfl)); (focus ((conv => lhs; whnf); first | done | rfl)); (focus (decide +kernel)); (focus (exact (fun _ h => h))))
        repeat' (first | (refine go_Y ?_; intros) | (refine gs_Y ?_ ?_ <;> (intro hgd; try (simp only [bn] at hgd))) | (refine gc_Y ?_ ?_ <;> intro _) | fail)
        refine clN_Y (hks) ?_
        intro _ _
        repeat' (first | (refine go_Y ?_; intros) | (refine gs_Y ?_ ?_ <;> (intro hgd; try (simp only [bn] at hgd))) | (refine gc_Y ?_ ?_ <;> intro _) | fail)
        (refine rt_Y (y := ()) (hrs := Tryz.results50) (hv := ?_) (hφ := ?_))
        · rfl
        · trivial
end Go.Proofs.YtphaegcoldpclaaGreatDoor
set_option linter.unusedSimpArgs false
set_option linter.unusedVariables false
set_option maxRecDepth 100000
namespace Go.Proofs.YtphaegcoldpclaaGreatDoor
open Go Go.Fx Go.Proofs Go.Pl

abbrev G13 (A : HProp) := { g : V1s × List Tb × HProp // Ext A g.2.2 ∧ (∀ x ∈ g.2.1, TbOk g.2.2 x) }
set_option maxHeartbeats 4000000 in
theorem copy13_spec (vs : Value) (ts : List Tb) (A : HProp) (h : SV A vs ts) (h12 : ts.length ≤ 1000) (h8 : ∀ t ∈ ts, t.cols.length ≤ 1000) :
    FSpec Tryz.prog 74 [.agg #[vs]] [A] (V1s × List Tb × HProp) (fun y => SV y.2.2 y.1.1 y.2.1 ∧ y.2.1.map Tb.c = ts.map Tb.c ∧ Ext A y.2.2) (fun y => .agg #[y.1.1]) (fun y => [y.2.2]) := by
  have hv := h.vw
  have htab := h.tab
  have la : (ts.map tbV).length = ts.length := by simp
  refine spec_intro [] _ Tryz.func74 rfl Tryz.ntmps74 (by rfl) (fun w0 R => ?_)
  refine ok_learn (VwIn.slice (VwIn.here hv)) ?_
  rintro ⟨pu, cu, rfl⟩
  repeat' (first | (refine go_Y ?_; intros) | (refine gs_Y ?_ ?_ <;> (intro hgd; try (simp only [bn] at hgd))) | (refine gc_Y ?_ ?_ <;> intro _) | fail)
  rename_i b1 b2 b3
  refine ok_map (fun _ h => nilRow (e := 61) (n := 5) h) ?_
  refine ok_map (L' := [pts b3 (.cells [.slice none 0 0].toArray 24), row 61 5 (.slice none 0 0) [], pts b2 (.cells [.slice none 0 0].toArray 24), pts b1 (.cells [.slice pu (ts.map tbV).length cu].toArray 24), A] ++ R) entD ?_
  refine ok_loop' (γ := Nat × G13 A) (fun g ρ L => g.1 ≤ ts.length ∧ g.2.1.2.1.map Tb.c = (ts.take g.1).map Tb.c ∧ Knows ρ [(1, .pointer (some ⟨b1, 0, none⟩)), (2, .pointer (some ⟨b2, 0, none⟩)), (3, .pointer (some ⟨b3, 0, none⟩)), (4, .int .i64 g.1)] ∧
      L = [pts b3 (.cells [g.2.1.1.1].toArray 24), row 61 5 g.2.1.1.1 (g.2.1.2.1.map tbV), pts b2 (.cells [.slice none 0 0].toArray 24), pts b1 (.cells [.slice pu (ts.map tbV).length cu].toArray 24), g.2.1.2.2] ++ R) (fun g => ts.length - g.1)
    (0, ⟨(⟨.slice none 0 0, rfl⟩, [], A), Ext.refl A, fun _ h => by simp at h⟩) ⟨by simp, rfl, ⟨rfl, rfl, rfl, rfl, trivial⟩, rfl⟩ ?_
  rintro ⟨i, ⟨⟨v, hvo⟩, l', P⟩, hE, hcr⟩ ρ L ⟨hi, he, hk, rfl⟩
  dsimp only at hE hcr hi he hk ⊢
  refine ok_regs hk ?_
  have hP := hE.vw hv
  have hl' : l'.length = i := by have := congrArg List.length he; simp at this; omega
  have hl'' : (l'.map tbV).length = i := by rw [List.length_map, hl']
  refine ok_learn (rowShapeS (e := 61) (n := 5) (v := v) (xs := l'.map tbV) (by decide) takeD) ?_
  rintro ⟨pv, cv, rfl, hcv, hsp⟩
  cases t1 : decide ((i : Int) < ((ts.map tbV).length : Int)) with
  | false =>
    have hie : i = ts.length := by have := of_decide_eq_false t1; omega
    rw [hie, List.take_length] at he
    repeat' (first | (refine go_Y ?_; intros) | (refine gs_Y ?_ ?_ <;> (intro hgd; try (simp only [bn] at hgd))) | (refine gc_Y ?_ ?_ <;> intro _) | fail)
    refine cont_map (fun _ h => pool_in (A := row 61 5 (.slice pv (l'.map tbV).length cv) (l'.map tbV)) (P := P) (Take.out2 takeD h)) ?_
    (refine rt_Y (y := (⟨.slice pv (l'.map tbV).length cv, rfl⟩, l', pool (row 61 5 (.slice pv (l'.map tbV).length cv) (l'.map tbV)) P)) (hrs := Tryz.results74) (hv := ?_) (hφ := ?_))
    · rfl
    · exact ⟨⟨pool_row, fun t ht => (hcr t ht).ext (Ext.pool _ _), by show l'.length ≤ _; omega, ⟨_, _, _, rfl, hcv⟩⟩, he, hE.trans (Ext.pool _ _)⟩
  | true =>
    have h0 : i < ts.length := by have := of_decide_eq_true t1; omega
    have hx : (ts.map tbV)[i]? = some (tbV ts[i]) := by rw [List.getElem?_map, List.getElem?_eq_getElem h0]; rfl
    have hn1 : i < (ts.map tbV).length := by omega
    have t1a : ts.take (i + 1) = ts.take i ++ [ts[i]] := List.take_succ_eq_append_getElem h0
    have htb := (htab _ (List.getElem_mem h0)).ext hE
    have hc8 := h8 _ (List.getElem_mem h0)
    refine ok_learn (VwIn.base (VwIn.there (VwIn.there (VwIn.there (VwIn.there (VwIn.here hP))))) (by intro e; rw [e] at hn1; simp at hn1)) ?_
    rintro ⟨bu, ou, rfl⟩
    generalize ts[i] = t at hx t1a htb hc8
    obtain ⟨tn, cols, ⟨tcv, htcv⟩, key, ref, par⟩ := t
    obtain ⟨hcw, hclen, hnm, hcnm⟩ := htb
    dsimp only [tbV] at hx hcw hc8 hclen hnm hcnm
    have hcm : (cols.map coV).length = cols.length := by simp
    refine ok_learn (VwIn.slice (VwIn.there (VwIn.there (VwIn.there (VwIn.there (VwIn.here hcw)))))) ?_
    rintro ⟨pc, cc, rfl⟩
    refine ok_map (fun _ h => nilRow (e := 142) (n := 3) h) ?_
    repeat' (first | (refine go_Y ?_; intros) | (refine gs_Y ?_ ?_ <;> (intro hgd; try (simp only [bn] at hgd))) | (refine gc_Y ?_ ?_ <;> intro _) | fail)
    rename_i v2 hv2
    refine ops_learn (rowShapeS (e := 142) (n := 3) (v := v2) (xs := cols.map coV) (by decide) takeD) ?_
    rintro ⟨p2, c2, rfl, hc2, hs2⟩
    repeat' (first | (refine go_Y ?_; intros) | (refine gs_Y ?_ ?_ <;> (intro hgd; try (simp only [bn] at hgd))) | (refine gc_Y ?_ ?_ <;> intro _) | fail)
    rename_i v1 hv1 v3 hv3
    refine cont_map (fun _ h => pool_in (A := row 142 3 (.slice p2 (cols.map coV).length c2) (cols.map coV)) (P := P) (Take.out2 takeD h)) ?_
    refine cont_map (L' := [pts b3 (.cells [v3].toArray 24), row 61 5 v3 ((l' ++ ([⟨tn, cols, ⟨.slice p2 (cols.map coV).length c2, rfl⟩, key, ref, par⟩] : List Tb)).map tbV), pts b2 (.cells [.slice none 0 0].toArray 24), pts b1 (.cells [.slice (some ⟨bu, ou, none⟩) (ts.map tbV).length cu].toArray 24), pool (row 142 3 (.slice p2 (cols.map coV).length c2) (cols.map coV)) P] ++ R) (by rw [List.map_append]; exact entD) ?_
    refine cont_back (i + 1, ⟨(⟨v3, hv3⟩, l' ++ ([⟨tn, cols, ⟨.slice p2 (cols.map coV).length c2, rfl⟩, key, ref, par⟩] : List Tb), pool (row 142 3 (.slice p2 (cols.map coV).length c2) (cols.map coV)) P), hE.trans (Ext.pool _ _), fun x hx => ?_⟩) ⟨h0, ?_, ⟨rfl, rfl, rfl, rfl, trivial⟩, rfl⟩ (by dsimp only; omega)
    · rcases List.mem_append.1 hx with hx | hx
      · exact (hcr x hx).ext (Ext.pool _ _)
      · rw [List.mem_singleton] at hx; subst hx
        exact ⟨pool_row, hclen, hnm, hcnm⟩
    · dsimp only
      rw [List.map_append, he, t1a, List.map_append]; rfl
theorem new14_spec (vs : Value) (ts : List Tb) (A : HProp) (h : SV A vs ts) (h12 : ts.length ≤ 1000) (h8 : ∀ t ∈ ts, t.cols.length ≤ 1000) :
    FSpec Tryz.prog 34 [.agg #[vs]] [A] (Nat × HProp) (fun y => Ext A y.2) (fun y => .pointer (some ⟨y.1, 0, none⟩)) (fun y => [rfP y.2 y.1 ⟨ts.map Tb.c, [], 0⟩, y.2]) := by
  have hc := copy13_spec vs ts A h h12 h8
  have hv := h.vw
  refine spec_intro [] _ Tryz.func34 rfl Tryz.ntmps34 (by rfl) (fun w0 R => ?_)
  refine ok_learn (VwIn.slice (VwIn.here hv)) ?_
  rintro ⟨pu, cu, rfl⟩
  repeat' (first | (refine go_Y ?_; intros) | (refine gs_Y ?_ ?_ <;> (intro hgd; try (simp only [bn] at hgd))) | (refine gc_Y ?_ ?_ <;> intro _) | fail)
  refine cl_Y (hc) ?_
  rintro ⟨⟨v, hvo⟩, l', P⟩ ⟨hsv, hmap, hE⟩
  dsimp only at hsv hmap hE ⊢
  refine ops_learn (VwIn.slice (n := 5) (v := v) (xs := l'.map tbV) (VwIn.here hsv.vw)) ?_
  rintro ⟨pv, cv, rfl⟩
  repeat' (first | (refine go_Y ?_; intros) | (refine gs_Y ?_ ?_ <;> (intro hgd; try (simp only [bn] at hgd))) | (refine gc_Y ?_ ?_ <;> intro _) | fail)
  rename_i b2
  refine cont_map (fun _ h => nilRow (e := 102) (n := 2) h) ?_
  refine cont_map (fun _ h => rf_in (b := b2) (r := ⟨ts.map Tb.c, [], 0⟩) (P := P) (vs := .slice pv (l'.map tbV).length cv) (ts := l') (vr := .slice none 0 0) (q := []) ⟨rfl, rfl, hsv, hmap, RefQ.nil _ _, fun x hx => by simp at hx⟩ (Take.out takeD h)) ?_
  (refine rt_Y (y := (b2, P)) (hrs := Tryz.results34) (hv := ?_) (hφ := ?_))
  · rfl
  · exact hE
end Go.Proofs.YtphaegcoldpclaaGreatDoor
set_option linter.unusedSimpArgs false
set_option linter.unusedVariables false
set_option maxRecDepth 100000
namespace Go.Proofs.YtphaegcoldpclaaGreatDoor
open Go Go.Fx Go.Proofs Go.Pl

theorem mayB_no {r : Rl} {o : Opr} (h : mayB r.s o = false) : r.doOp o = (r, [], [], 2) := by
  unfold mayB at h
  unfold Rl.doOp
  split
  · rfl
  · rename_i hk
    by_cases h3 : o.kind = 3
    · rw [if_pos h3] at h
      have : placeS r.s o = none := by
        unfold placeS
        rw [if_pos h3]
        split
        · rename_i v hv
          rw [hv] at h
          dsimp only at h
          rw [if_neg (by rw [h]; decide)]
        · rfl
      rw [this]
    · rw [if_neg h3] at h
      have hr : rowS r.s o.table o.row = false := by
        have : (decide (o.kind = 1) || decide (o.kind = 2)) = true := by simp; omega
        rw [this, Bool.true_and] at h; exact h
      have : placeS r.s o = none := by
        unfold placeS
        rw [if_neg h3, if_neg (by rw [hr]; decide)]
      rw [this]
theorem mayB_del {s : Sc} {t : Int} {l : List Vl} (h : mayB s ⟨3, t, l⟩ = true) : ∃ k, l = [k] ∧ keyS s t k = true := by
  unfold mayB at h
  rw [if_pos rfl] at h
  dsimp only at h
  split at h
  · rename_i v; exact ⟨v, rfl, h⟩
  · cases h
theorem mayB_lay {s : Sc} {k t : Int} {l : List Vl} (h3 : k ≠ 3) (h : mayB s ⟨k, t, l⟩ = true) : (k = 1 ∨ k = 2) ∧ rowS s t l = true := by
  unfold mayB at h
  rw [if_neg h3] at h
  simp only [Bool.and_eq_true, Bool.or_eq_true, decide_eq_true_eq] at h
  exact h
theorem doOp_del {r : Rl} {t : Int} {k : Vl} (h : keyS r.s t k = true) : r.doOp ⟨3, t, [k]⟩ = match aget (t, k) r.rows with
    | some l => ({ r with rows := adel (t, k) r.rows, turns := IntKind.u64.wrap (r.turns + 1) }, l, [], 0)
    | none => (r, [], [], 3) := by
  unfold Rl.doOp
  rw [if_neg (by simp)]
  have : placeS r.s ⟨3, t, [k]⟩ = some (t, k) := by rw [placeS_del, if_pos h]
  rw [this]
  dsimp only
  cases aget (t, k) r.rows with
  | none => simp
  | some l => simp
theorem doOp_ins' {r : Rl} {t : Int} {l : List Vl} (h : rowS r.s t l = true) : r.doOp ⟨1, t, l⟩ = match aget (t, Pl.keyOf r.s t l) r.rows with
    | some _ => (r, [], [], 9)
    | none => if 200 ≤ r.rows.length then (r, [], [], 4) else ({ r with rows := aput (t, Pl.keyOf r.s t l) l r.rows, turns := IntKind.u64.wrap (r.turns + 1) }, [], l, 0) := by
  unfold Rl.doOp
  rw [if_neg (by simp)]
  have : placeS r.s ⟨1, t, l⟩ = some (t, Pl.keyOf r.s t l) := by rw [placeS_lay (by decide), if_pos h]
  rw [this]
  dsimp only
  cases aget (t, Pl.keyOf r.s t l) r.rows with
  | none => simp
  | some l => simp
theorem doOp_upd' {r : Rl} {t : Int} {l : List Vl} (h : rowS r.s t l = true) : r.doOp ⟨2, t, l⟩ = match aget (t, Pl.keyOf r.s t l) r.rows with
    | some was => ({ r with rows := aput (t, Pl.keyOf r.s t l) l r.rows, turns := IntKind.u64.wrap (r.turns + 1) }, was, l, 0)
    | none => (r, [], [], 3) := by
  unfold Rl.doOp
  rw [if_neg (by simp)]
  have : placeS r.s ⟨2, t, l⟩ = some (t, Pl.keyOf r.s t l) := by rw [placeS_lay (by decide), if_pos h]
  rw [this]
  dsimp only
  cases aget (t, Pl.keyOf r.s t l) r.rows with
  | none => simp
  | some l => simp
def Do14 (b : Nat) (r : Rl) (o : Opr) (w : Value) (P : HProp) (pre : List HProp) : Prop :=
  FSpec Tryz.prog 35 [.pointer (some ⟨b, 0, none⟩), .agg #[.int .u8 o.kind, .int .i64 o.table, w]] pre (V1s × V1s × HProp)
    (fun y => Ext P y.2.2 ∧ Vw y.2.2 4 y.1.1 ((r.doOp o).2.1.map valV)) (fun y => .tuple #[y.1.1, y.2.1.1, .int .i64 (r.doOp o).2.2.2])
    (fun y => [row 28 4 y.2.1.1 ((r.doOp o).2.2.1.map valV), rfP y.2.2 b (r.doOp o).1, y.2.2])
set_option maxHeartbeats 4000000 in
theorem do14_bad (b : Nat) (r : Rl) (o : Opr) (w : Value) (P : HProp) (vs vr : Value) (ts : List Tb) (q : List Rr) (hU : UT P) (hwc : w.oneCell' = true) (hw : Vw P 4 w (o.row.map valV)) (hwfo : ∀ v ∈ o.row, v.wf) (hy : RfOK P r ⟨vs, ts, vr, q⟩) (hm : mayB r.s o = false) :
    Do14 b r o w P [pts b (.cells [vs, vr, .int .u64 r.turns].toArray 100), row 102 2 vr (q.map rrV), P] := by
  unfold Do14
  rw [mayB_no hm]
  have hmay := may14_spec b vs vr r.turns ts P o w hy.vc hy.sv hU hw hwfo
  rw [hy.s, hm] at hmay
  dsimp only
  refine spec_intro [] _ Tryz.func35 rfl Tryz.ntmps35 (by rfl) (fun w0 R => ?_)
  repeat' (first | (refine go_Y ?_; intros) | (refine gs_Y ?_ ?_ <;> (intro hgd; try (simp only [bn] at hgd))) | (refine gc_Y ?_ ?_ <;> intro _) | fail)
  refine cl_Y (hmay) ?_
  intro _ _
  repeat' (first | (refine go_Y ?_; intros) | (refine gs_Y ?_ ?_ <;> (intro hgd; try (simp only [bn] at hgd))) | (refine gc_Y ?_ ?_ <;> intro _) | fail)
  refine cont_map (fun _ h => nilRow (e := 28) (n := 4) h) ?_
  refine cont_map (fun _ h => rf_in (b := b) (r := r) (P := P) hy (Take.out takeD h)) ?_
  (refine rt_Y (y := (⟨.slice none 0 0, rfl⟩, ⟨.slice none 0 0, rfl⟩, P)) (hrs := Tryz.results35) (hv := ?_) (hφ := ?_))
  · rfl
  · exact ⟨Ext.refl P, vw_nil4⟩
set_option maxHeartbeats 8000000 in
theorem do14_rem (b : Nat) (r : Rl) (t : Int) (k : Vl) (w : Value) (P : HProp) (vs vr : Value) (ts : List Tb) (q : List Rr) (hok : r.Ok) (hwf : Rl.Wf r) (hU : UT P) (hwc : w.oneCell' = true) (hw : Vw P 4 w ([k].map valV)) (hkw : k.wf) (hy : RfOK P r ⟨vs, ts, vr, q⟩) (hk : keyS r.s t k = true) :
    Do14 b r ⟨3, t, [k]⟩ w P [pts b (.cells [vs, vr, .int .u64 r.turns].toArray 100), row 102 2 vr (q.map rrV), P] := by
  unfold Do14
  rw [doOp_del hk]
  have hmay := may14_spec b vs vr r.turns ts P ⟨3, t, [k]⟩ w hy.vc hy.sv hU hw (fun v hv => by rw [List.mem_singleton] at hv; subst hv; exact hkw)
  rw [hy.s, show mayB r.s ⟨3, t, [k]⟩ = true from by unfold mayB; rw [if_pos rfl]; exact hk] at hmay
  have hat := at14_spec b r vs vr ts q P t k hok hwf hy hkw
  have hy' := hy
  obtain ⟨hvc, hvrc, hsv, hss, hrq, hrv⟩ := hy
  dsimp only at hvc hvrc hsv hss hrq hrv hmay ⊢
  rw [hrq.is] at hat
  have hqm : (q.map rrV).length = q.length := by simp
  have hql := hrq.len
  have hrl := hok.len
  have hle := atN_le r.s q (t, k)
  have hrem := fun l (hl : aget (t, k) r.rows = some l) (r' : Rl) h1 h2 => RefQ.remove (r' := r') hrq hl h1 h2
  have hfound := fun l (hl : aget (t, k) r.rows = some l) => hrq.found hl
  generalize atN r.s q (t, k) = N at *
  have hx0 : ([k].map valV)[0]? = some (valV k) := rfl
  have hn0 : (0 : Nat) < ([k].map valV).length := by simp
  cases hg : aget (t, k) r.rows with
  | none =>
    rw [hg, Option.isSome_none] at hat
    obtain ⟨kk, ki, kr, ks⟩ := k
    dsimp only [valV] at hx0 hat ⊢
    refine spec_intro [] _ Tryz.func35 rfl Tryz.ntmps35 (by rfl) (fun w0 R => ?_)
    refine ok_learn (VwIn.slice (VwIn.there (VwIn.there (VwIn.here hw)))) ?_
    rintro ⟨pw, cw, rfl⟩
    refine ok_learn (VwIn.base (VwIn.there (VwIn.there (VwIn.here hw))) (by simp)) ?_
    rintro ⟨bw, ow, rfl⟩
    repeat' (first | (refine go_Y ?_; intros) | (refine gs_Y ?_ ?_ <;> (intro hgd; try (simp only [bn] at hgd))) | (refine gc_Y ?_ ?_ <;> intro _) | fail)
    refine cl_Y (hmay) ?_
    intro _ _
    repeat' (first | (refine go_Y ?_; intros) | (refine gs_Y ?_ ?_ <;> (intro hgd; try (simp only [bn] at hgd))) | (refine gc_Y ?_ ?_ <;> intro _) | fail)
    refine cl_Y (hat) ?_
    intro _ _
    repeat' (first | (refine go_Y ?_; intros) | (refine gs_Y ?_ ?_ <;> (intro hgd; try (simp only [bn] at hgd))) | (refine gc_Y ?_ ?_ <;> intro _) | fail)
    refine cont_map (fun _ h => nilRow (e := 28) (n := 4) h) ?_
    refine cont_map (fun _ h => rf_in (b := b) (r := r) (P := P) hy' (Take.out takeD h)) ?_
    (refine rt_Y (y := (⟨.slice none 0 0, rfl⟩, ⟨.slice none 0 0, rfl⟩, P)) (hrs := Tryz.results35) (hv := ?_) (hφ := ?_))
    · rfl
    · exact ⟨Ext.refl P, vw_nil4⟩
  | some l =>
    rw [hg, Option.isSome_some] at hat
    obtain ⟨x, hqx, hxp⟩ := hfound l hg
    have hrem := hrem l hg { r with rows := adel (t, k) r.rows, turns := IntKind.u64.wrap (r.turns + 1) } rfl rfl
    have hN : N < q.length := (List.getElem?_eq_some_iff.1 hqx).1
    have hxx : (q.map rrV)[N]? = some (rrV x) := by rw [List.getElem?_map, hqx]; rfl
    have hxv := hrv x (List.mem_of_getElem? hqx)
    have hxl : x.l = l := congrArg Prod.snd hxp
    obtain ⟨xt, ⟨xv, hxv1⟩, xl⟩ := x
    dsimp only at hxl
    subst hxl
    obtain ⟨kk, ki, kr, ks⟩ := k
    dsimp only [valV, rrV] at hx0 hat hxx hxv ⊢
    have hn1 : N < (q.map rrV).length := by omega
    have hn2 : N + 1 ≤ (q.map rrV).length := by omega
    have hix : ((N : Int) + 1) = ((N + 1 : Nat) : Int) := by omega
    have hdl : ((q.map rrV).drop (N + 1)).length ≤ 200 := by rw [List.length_drop]; omega
    have htl : ((q.map rrV).take N).length ≤ 200 := by rw [List.length_take]; omega
    refine spec_intro [] _ Tryz.func35 rfl Tryz.ntmps35 (by rfl) (fun w0 R => ?_)
    refine ok_learn (VwIn.slice (VwIn.there (VwIn.there (VwIn.here hw)))) ?_
    rintro ⟨pw, cw, rfl⟩
    refine ok_learn (VwIn.base (VwIn.there (VwIn.there (VwIn.here hw))) (by simp)) ?_
    rintro ⟨bw, ow, rfl⟩
    refine ok_learn (rowShapeS (e := 102) (n := 2) (v := vr) (xs := q.map rrV) (by decide) takeD) ?_
    rintro ⟨pr, cr, rfl, hcr, hsp⟩
    refine ok_learn (VwIn.base (n := 2) (xs := q.map rrV) (VwIn.there (VwIn.here Vw.row)) (by intro e; rw [e] at hn1; simp at hn1)) ?_
    rintro ⟨br, or', rfl⟩
    have hdr : Vw (row 102 2 (.slice (some ⟨br, or', none⟩) (q.map rrV).length cr) (q.map rrV)) 2 (dropV 2 (some ⟨br, or', none⟩) (q.map rrV).length cr (N + 1)) ((q.map rrV).drop (N + 1)) := Vw.row.drop hcr
    repeat' (first | (refine go_Y ?_; intros) | (refine gs_Y ?_ ?_ <;> (intro hgd; try (simp only [bn] at hgd))) | (refine gc_Y ?_ ?_ <;> intro _) | fail)
    refine cl_Y (hmay) ?_
    intro _ _
    repeat' (first | (refine go_Y ?_; intros) | (refine gs_Y ?_ ?_ <;> (intro hgd; try (simp only [bn] at hgd))) | (refine gc_Y ?_ ?_ <;> intro _) | fail)
    refine cl_Y (hat) ?_
    intro _ _
    repeat' (first | (refine go_Y ?_; intros) | (refine gs_Y ?_ ?_ <;> (intro hgd; try (simp only [bn] at hgd))) | (refine gc_Y ?_ ?_ <;> intro _) | fail)
    refine opsL_map (fun _ h => nilRow (e := 102) (n := 2) h) ?_
    repeat' (first | (refine go_Y ?_; intros) | (refine gs_Y ?_ ?_ <;> (intro hgd; try (simp only [bn] at hgd))) | (refine gc_Y ?_ ?_ <;> intro _) | fail)
    rename_i v1 hv1
    refine opsL_map (fun _ h => row_cut (k := N) (by omega) (Take.out1 (A := row 102 2 (.slice (some ⟨br, or', none⟩) (q.map rrV).length cr) (q.map rrV)) takeD h)) ?_
    repeat' (first | (refine go_Y ?_; intros) | (refine gs_Y ?_ ?_ <;> (intro hgd; try (simp only [bn] at hgd))) | (refine gc_Y ?_ ?_ <;> intro _) | fail)
    rename_i v2 hv2
    refine cont_map (fun _ h => nilRow (e := 28) (n := 4) h) ?_
    refine cont_map (L' := [pts b (.cells [vs, v2, .int .u64 (IntKind.u64.wrap (r.turns + 1))].toArray 100), row 102 2 v2 ((q.take N ++ q.drop (N + 1)).map rrV), row 28 4 (.slice none 0 0) [], P] ++ R) (by rw [List.map_append, List.map_take, List.map_drop]; exact entD) ?_
    refine cont_map (fun _ h => rf_in (b := b) (r := { r with rows := adel (t, ⟨kk, ki, kr, ks⟩) r.rows, turns := IntKind.u64.wrap (r.turns + 1) }) (P := P) (vs := vs) (ts := ts) (vr := v2) (q := q.take N ++ q.drop (N + 1)) ⟨hvc, hv2, hsv, hss, hrem, fun x hx => hrv x ((List.mem_append.1 hx).elim List.mem_of_mem_take List.mem_of_mem_drop)⟩ (Take.out takeD h)) ?_
    (refine rt_Y (y := (⟨xv, hxv1⟩, ⟨.slice none 0 0, rfl⟩, P)) (hrs := Tryz.results35) (hv := ?_) (hφ := ?_))
    · rfl
    · exact ⟨Ext.refl P, hxv⟩
set_option maxHeartbeats 16000000 in
theorem do14_ins (b : Nat) (r : Rl) (t : Int) (l : List Vl) (w : Value) (P : HProp) (vs vr : Value) (ts : List Tb) (q : List Rr) (hok : r.Ok) (hwf : Rl.Wf r) (hU : UT P) (hwc : w.oneCell' = true) (hw : Vw P 4 w (l.map valV)) (hwfo : ∀ v ∈ l, v.wf) (hy : RfOK P r ⟨vs, ts, vr, q⟩) (hr : rowS r.s t l = true) :
    Do14 b r ⟨1, t, l⟩ w P [pts b (.cells [vs, vr, .int .u64 r.turns].toArray 100), row 102 2 vr (q.map rrV), P] := by
  unfold Do14
  rw [doOp_ins' hr]
  have hmay := may14_spec b vs vr r.turns ts P ⟨1, t, l⟩ w hy.vc hy.sv hU hw hwfo
  rw [hy.s, show mayB r.s ⟨1, t, l⟩ = true from by unfold mayB; rw [if_neg (by simp)]; exact hr] at hmay
  obtain ⟨hks, hk, hlen⟩ := rowS_key hr
  have hh : hasS r.s t = true := by simp only [rowS, Bool.and_eq_true] at hr; exact hr.1
  have hkw := hwfo _ (List.mem_of_getElem? hk)
  have hat := at14_spec b r vs vr ts q P t (Pl.keyOf r.s t l) hok hwf hy hkw
  have hy' := hy
  obtain ⟨hvc, hvrc, hsv, hss, hrq, hrv⟩ := hy
  dsimp only at hvc hvrc hsv hss hrq hrv hmay ⊢
  rw [hrq.is] at hat
  have hvw := hsv.vw
  have hqm : (q.map rrV).length = q.length := by simp
  have hql := hrq.len
  have hrl := hok.len
  have hle := atN_le r.s q (t, Pl.keyOf r.s t l)
  have hins := fun (x : Rr) (hx : (x.pl r.s).1 = (t, Pl.keyOf r.s t l)) (hl : aget (t, Pl.keyOf r.s t l) r.rows = none) (r' : Rl) (h1 : r'.s = r.s) (h2 : r'.rows = aput (t, Pl.keyOf r.s t l) x.l r.rows) =>
    RefQ.insert (r' := r') hrq hok hwf (x := x) (by rw [hx]; exact hl) (by rw [hx]; exact keyS_good hks hkw) h1 (by rw [hx]; exact h2)
  have hins := fun (x : Rr) (hx : (x.pl r.s).1 = (t, Pl.keyOf r.s t l)) hl r' h1 h2 => by have := hins x hx hl r' h1 h2; rw [hx] at this; exact this
  have hpl : ∀ lv, (Rr.pl r.s ⟨t, lv, l⟩).1 = (t, Pl.keyOf r.s t l) := fun _ => rfl
  rw [← hss] at hh
  obtain ⟨tm, tb, rfl, htt, hxt, htl, hta, htok, htmem⟩ := hasS_tb hh
  have k0 := htok.key0
  have kL := htok.keyL
  rw [hss] at hta
  rw [hta] at hk hlen
  obtain ⟨tn, cols, ⟨tcv, htcv⟩, key, ref, par⟩ := tb
  dsimp only [tbV, Tb.c] at hxt k0 kL hk hlen
  obtain ⟨km, rfl⟩ : ∃ km : Nat, key = km := ⟨key.toNat, by omega⟩
  rw [Int.toNat_natCast] at hk
  have hkl := (List.getElem?_eq_some_iff.1 hk).1
  generalize Pl.keyOf r.s (tm : Int) l = k at *
  generalize atN r.s q ((tm : Int), k) = N at *
  have hl8 := htok.len
  dsimp only [Tb.c] at hl8
  have hlm : (l.map valV).length = l.length := by simp
  have hnk : km < (l.map valV).length := by omega
  have hxk : (l.map valV)[km]? = some (valV k) := by rw [List.getElem?_map, hk]; rfl
  have hn0 : (0 : Nat) < (l.map valV).length := by omega
  have hx0 : (l.map valV)[0]? = some (valV (l[0]'(by omega))) := by rw [List.getElem?_map, List.getElem?_eq_getElem (by omega)]; rfl
  have hcp := fun (u : Value) (hu : Vw P 4 u (l.map valV)) => copy04_spec l u P hu (by omega)
  generalize l[0]'(by omega) = z at hx0
  obtain ⟨zk, zi, zr, zs⟩ := z
  cases hg : aget ((tm : Int), k) r.rows with
  | some was =>
    rw [hg, Option.isSome_some] at hat
    obtain ⟨kk, ki, kr, ks⟩ := k
    dsimp only [valV] at hx0 hxk hat ⊢
    refine spec_intro [] _ Tryz.func35 rfl Tryz.ntmps35 (by rfl) (fun w0 R => ?_)
    refine ok_learn (VwIn.slice (VwIn.there (VwIn.there (VwIn.here hw)))) ?_
    rintro ⟨pw, cw, rfl⟩
    refine ok_learn (VwIn.base (VwIn.there (VwIn.there (VwIn.here hw))) (by intro e; rw [e] at hn0; simp at hn0)) ?_
    rintro ⟨bw, ow, rfl⟩
    refine ok_learn (VwIn.slice (VwIn.there (VwIn.there (VwIn.here hvw)))) ?_
    rintro ⟨pv, cv, rfl⟩
    refine ok_learn (VwIn.base (VwIn.there (VwIn.there (VwIn.here hvw))) (by intro e; rw [e] at htl; simp at htl)) ?_
    rintro ⟨bv, ov, rfl⟩
    repeat' (first | (refine go_Y ?_; intros) | (refine gs_Y ?_ ?_ <;> (intro hgd; try (simp only [bn] at hgd))) | (refine gc_Y ?_ ?_ <;> intro _) | fail)
    refine cl_Y (hmay) ?_
    intro _ _
    repeat' (first | (refine go_Y ?_; intros) | (refine gs_Y ?_ ?_ <;> (intro hgd; try (simp only [bn] at hgd))) | (refine gc_Y ?_ ?_ <;> intro _) | fail)
    refine cl_Y (hat) ?_
    intro _ _
    repeat' (first | (refine go_Y ?_; intros) | (refine gs_Y ?_ ?_ <;> (intro hgd; try (simp only [bn] at hgd))) | (refine gc_Y ?_ ?_ <;> intro _) | fail)
    refine cont_map (fun _ h => nilRow (e := 28) (n := 4) h) ?_
    refine cont_map (fun _ h => rf_in (b := b) (r := r) (P := P) hy' (Take.out takeD h)) ?_
    (refine rt_Y (y := (⟨.slice none 0 0, rfl⟩, ⟨.slice none 0 0, rfl⟩, P)) (hrs := Tryz.results35) (hv := ?_) (hφ := ?_))
    · rfl
    · exact ⟨Ext.refl P, vw_nil4⟩
  | none =>
    rw [hg, Option.isSome_none] at hat
    cases n1 : decide ((200 : Int) ≤ ((q.map rrV).length : Int)) with
    | true =>
      have e1 : 200 ≤ r.rows.length := by have := of_decide_eq_true n1; omega
      simp only [if_pos e1]
      obtain ⟨kk, ki, kr, ks⟩ := k
      dsimp only [valV] at hx0 hxk hat ⊢
      refine spec_intro [] _ Tryz.func35 rfl Tryz.ntmps35 (by rfl) (fun w0 R => ?_)
      refine ok_learn (VwIn.slice (VwIn.there (VwIn.there (VwIn.here hw)))) ?_
      rintro ⟨pw, cw, rfl⟩
      refine ok_learn (VwIn.base (VwIn.there (VwIn.there (VwIn.here hw))) (by intro e; rw [e] at hn0; simp at hn0)) ?_
      rintro ⟨bw, ow, rfl⟩
      refine ok_learn (VwIn.slice (VwIn.there (VwIn.there (VwIn.here hvw)))) ?_
      rintro ⟨pv, cv, rfl⟩
      refine ok_learn (VwIn.base (VwIn.there (VwIn.there (VwIn.here hvw))) (by intro e; rw [e] at htl; simp at htl)) ?_
      rintro ⟨bv, ov, rfl⟩
      refine ok_learn (rowShapeS (e := 102) (n := 2) (v := vr) (xs := q.map rrV) (by decide) takeD) ?_
      rintro ⟨pr, cr, rfl, hcr, hsp⟩
      repeat' (first | (refine go_Y ?_; intros) | (refine gs_Y ?_ ?_ <;> (intro hgd; try (simp only [bn] at hgd))) | (refine gc_Y ?_ ?_ <;> intro _) | fail)
      refine cl_Y (hmay) ?_
      intro _ _
      repeat' (first | (refine go_Y ?_; intros) | (refine gs_Y ?_ ?_ <;> (intro hgd; try (simp only [bn] at hgd))) | (refine gc_Y ?_ ?_ <;> intro _) | fail)
      refine cl_Y (hat) ?_
      intro _ _
      repeat' (first | (refine go_Y ?_; intros) | (refine gs_Y ?_ ?_ <;> (intro hgd; try (simp only [bn] at hgd))) | (refine gc_Y ?_ ?_ <;> intro _) | fail)
      refine cont_map (fun _ h => nilRow (e := 28) (n := 4) h) ?_
      refine cont_map (fun _ h => rf_in (b := b) (r := r) (P := P) hy' (Take.out takeD h)) ?_
      (refine rt_Y (y := (⟨.slice none 0 0, rfl⟩, ⟨.slice none 0 0, rfl⟩, P)) (hrs := Tryz.results35) (hv := ?_) (hφ := ?_))
      · rfl
      · exact ⟨Ext.refl P, vw_nil4⟩
    | false =>
      have e1 : ¬ 200 ≤ r.rows.length := by have := of_decide_eq_false n1; omega
      simp only [if_neg e1]
      have hdl : ((q.map rrV).drop N).length ≤ 200 := by rw [List.length_drop]; omega
      have htl2 : ((q.map rrV).take N).length ≤ 200 := by rw [List.length_take]; omega
      have hn1 : N ≤ (q.map rrV).length := by omega
      have hins := fun lv (r' : Rl) h1 h2 => hins ⟨(tm : Int), lv, l⟩ (hpl lv) hg r' h1 h2
      obtain ⟨kk, ki, kr, ks⟩ := k
      dsimp only [valV] at hx0 hxk hat ⊢
      refine spec_intro [] _ Tryz.func35 rfl Tryz.ntmps35 (by rfl) (fun w0 R => ?_)
      refine ok_learn (VwIn.slice (VwIn.there (VwIn.there (VwIn.here hw)))) ?_
      rintro ⟨pw, cw, rfl⟩
      refine ok_learn (VwIn.base (VwIn.there (VwIn.there (VwIn.here hw))) (by intro e; rw [e] at hn0; simp at hn0)) ?_
      rintro ⟨bw, ow, rfl⟩
      refine ok_learn (VwIn.slice (VwIn.there (VwIn.there (VwIn.here hvw)))) ?_
      rintro ⟨pv, cv, rfl⟩
      refine ok_learn (VwIn.base (VwIn.there (VwIn.there (VwIn.here hvw))) (by intro e; rw [e] at htl; simp at htl)) ?_
      rintro ⟨bv, ov, rfl⟩
      refine ok_learn (rowShapeS (e := 102) (n := 2) (v := vr) (xs := q.map rrV) (by decide) takeD) ?_
      rintro ⟨pr, cr, rfl, hcr, hsp⟩
      have hNc : N ≤ cr := by omega
      have hdr : Vw (row 102 2 (.slice pr (q.map rrV).length cr) (q.map rrV)) 2 (dropV 2 pr (q.map rrV).length cr N) ((q.map rrV).drop N) := Vw.row.drop hcr
      have hcp := hcp _ hw
      repeat' (first | (refine go_Y ?_; intros) | (refine gs_Y ?_ ?_ <;> (intro hgd; try (simp only [bn] at hgd))) | (refine gc_Y ?_ ?_ <;> intro _) | fail)
      refine cl_Y (hmay) ?_
      intro _ _
      repeat' (first | (refine go_Y ?_; intros) | (refine gs_Y ?_ ?_ <;> (intro hgd; try (simp only [bn] at hgd))) | (refine gc_Y ?_ ?_ <;> intro _) | fail)
      refine cl_Y (hat) ?_
      intro _ _
      repeat' (first | (refine go_Y ?_; intros) | (refine gs_Y ?_ ?_ <;> (intro hgd; try (simp only [bn] at hgd))) | (refine gc_Y ?_ ?_ <;> intro _) | fail)
      refine opsL_map (fun _ h => nilRow (e := 102) (n := 2) h) ?_
      repeat' (first | (refine go_Y ?_; intros) | (refine gs_Y ?_ ?_ <;> (intro hgd; try (simp only [bn] at hgd))) | (refine gc_Y ?_ ?_ <;> intro _) | fail)
      rename_i bo y1 a1 bk y2 a2 v1 hv1
      refine ok_map (fun _ h => row_cut (k := N) hn1 (Take.out1 (A := row 102 2 (.slice pr (q.map rrV).length cr) (q.map rrV)) takeD h)) ?_
      refine ok_map (L' := [P, pts b (.cells [.slice (some ⟨bv, ov, none⟩) (ts.map tbV).length cv, .slice pr (q.map rrV).length cr, .int .u64 r.turns].toArray 100), row 102 2 (.slice pr N cr) ((q.map rrV).take N), row 102 2 v1 ((q.map rrV).drop N), pts bk (.cells [.int .u8 kk, .int .i64 ki, .int .u64 kr, .string ks].toArray 28), pts bo (.cells [.int .u8 1, .int .i64 (tm : Int), .slice (some ⟨bw, ow, none⟩) (l.map valV).length cw].toArray 64)] ++ R) entD ?_
      (apply ok_draw [11, 13]; (focus (kernel_rfl)); (focus ((conv => lhs; whnf); first | done | rfl)); (focus (decide +kernel)); (focus (exact (fun _ h => h))))
      repeat' (first | (refine go_Y ?_; intros) | (refine gs_Y ?_ ?_ <;> (intro hgd; try (simp only [bn] at hgd))) | (refine gc_Y ?_ ?_ <;> intro _) | fail)
      refine clN_Y (hcp) ?_
      rintro ⟨va, hva⟩ _
      refine ops_learn (rowShapeS (e := 28) (n := 4) (v := va) (xs := l.map valV) (by decide) takeD) ?_
      rintro ⟨pa, ca, rfl, hca, hsa⟩
      repeat' (first | (refine go_Y ?_; intros) | (refine gs_Y ?_ ?_ <;> (intro hgd; try (simp only [bn] at hgd))) | (refine gc_Y ?_ ?_ <;> intro _) | fail)
      rename_i v2 hv2 v3 hv3 v4 hv4
      refine cl_Y (hcp) ?_
      rintro ⟨vb, hvb⟩ _
      repeat' (first | (refine go_Y ?_; intros) | (refine gs_Y ?_ ?_ <;> (intro hgd; try (simp only [bn] at hgd))) | (refine gc_Y ?_ ?_ <;> intro _) | fail)
      refine cont_map (fun _ h => pool_in (A := row 28 4 (.slice pa (l.map valV).length ca) (l.map valV)) (P := P) (Take.out2 takeD h)) ?_
      refine cont_map (L' := [pts b (.cells [.slice (some ⟨bv, ov, none⟩) (ts.map tbV).length cv, v4, .int .u64 (IntKind.u64.wrap (r.turns + 1))].toArray 100), row 102 2 v4 ((q.take N ++ ([⟨(tm : Int), ⟨.slice pa (l.map valV).length ca, rfl⟩, l⟩] : List Rr) ++ q.drop N).map rrV), row 28 4 vb (l.map valV), pool (row 28 4 (.slice pa (l.map valV).length ca) (l.map valV)) P] ++ R) (by rw [List.map_append, List.map_append, List.map_take, List.map_drop]; exact entD) ?_
      refine cont_map (fun _ h => rf_in (b := b) (r := { r with rows := aput ((tm : Int), ⟨kk, ki, kr, ks⟩) l r.rows, turns := IntKind.u64.wrap (r.turns + 1) }) (P := pool (row 28 4 (.slice pa (l.map valV).length ca) (l.map valV)) P) (vs := .slice (some ⟨bv, ov, none⟩) (ts.map tbV).length cv) (ts := ts) (vr := v4) (q := q.take N ++ ([⟨(tm : Int), ⟨.slice pa (l.map valV).length ca, rfl⟩, l⟩] : List Rr) ++ q.drop N)
        ⟨rfl, hv4, hsv.ext (Ext.pool _ _), hss, hins _ _ rfl rfl, fun x hx => ?_⟩ (Take.out takeD h)) ?_
      · rcases List.mem_append.1 hx with hx | hx
        · rcases List.mem_append.1 hx with hx | hx
          · exact (Ext.pool _ _).vw (hrv x (List.mem_of_mem_take hx))
          · rw [List.mem_singleton] at hx; subst hx; exact pool_row
        · exact (Ext.pool _ _).vw (hrv x (List.mem_of_mem_drop hx))
      (refine rt_Y (y := (⟨.slice none 0 0, rfl⟩, ⟨vb, hvb⟩, pool (row 28 4 (.slice pa (l.map valV).length ca) (l.map valV)) P)) (hrs := Tryz.results35) (hv := ?_) (hφ := ?_))
      · rfl
      · exact ⟨Ext.pool _ _, vw_nil4⟩
end Go.Proofs.YtphaegcoldpclaaGreatDoor
