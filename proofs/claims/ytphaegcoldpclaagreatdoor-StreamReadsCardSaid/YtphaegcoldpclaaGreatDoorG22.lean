/- Texts merged: PgD PgE PgR. -/
import Derived.Test.YtphaegcoldpclaaGreatDoorG21
import Derived.Test.YtphaegcoldpclaaGreatDoorG20
import Derived.Test.YtphaegcoldpclaaGreatDoorRkP
set_option linter.unusedSimpArgs false
set_option linter.unusedVariables false
namespace Go.Proofs.YtphaegcoldpclaaGreatDoor
open Go Go.Fx Go.Proofs Go.Pl

abbrev Pr2 := Int × List Vl
structure RowsOk (s : Sc) (R : List Pr2) : Prop where
  sch : checkS s = true
  len : R.length ≤ 200
  tab : ∀ x ∈ R, 0 ≤ x.1 ∧ x.1 < s.length
  apart : R.Pairwise fun x y => ¬ (x.1 = y.1 ∧ Pl.keyOf s x.1 x.2 = Pl.keyOf s y.1 y.2)
def ofR (R : List Pr2) (t : Int) (ask : List Vl → Bool) : List (List Vl) := (R.filter fun x => decide (x.1 = t) && ask x.2).map (·.2)
def kidsS (s : Sc) (t : Int) : List Int := ((List.range s.length).map fun n : Nat => (n : Int)).filter fun c => decide ((tabAt s c).par = t)
def docS (s : Sc) (R : List Pr2) : Nat → Int → List Vl → Dc
  | 0, t, row => .mk t row []
  | n + 1, t, row => .mk t row ((kidsS s t).flatMap fun c => (ofR R c (askOf s c (Pl.keyOf s t row))).map (docS s R n c))

section
variable {s : Sc} {R : List Pr2}
theorem pw_all {α : Type} {Q : α → α → Prop} (hs : ∀ x y, Q x y → Q y x) (hr : ∀ x, Q x x) : ∀ {l : List α}, l.Pairwise Q → ∀ x ∈ l, ∀ y ∈ l, Q x y
  | [], _, _, h, _, _ => by simp at h
  | a :: l, h, x, hx, y, hy => by
    rw [List.pairwise_cons] at h
    rcases List.mem_cons.1 hx with e1 | h1
    · rcases List.mem_cons.1 hy with e2 | h2
      · rw [e1, e2]; exact hr _
      · rw [e1]; exact h.1 y h2
    · rcases List.mem_cons.1 hy with e2 | h2
      · rw [e2]; exact hs _ _ (h.1 x h1)
      · exact pw_all hs hr h.2 x h1 y h2
theorem RowsOk.uniq (h : RowsOk s R) {x y : Pr2} (hx : x ∈ R) (hy : y ∈ R) (ht : x.1 = y.1) (hk : Pl.keyOf s x.1 x.2 = Pl.keyOf s y.1 y.2) : x = y := by
  have := pw_all (Q := fun x y : Pr2 => x = y ∨ ¬ (x.1 = y.1 ∧ Pl.keyOf s x.1 x.2 = Pl.keyOf s y.1 y.2)) (fun x y h => h.imp Eq.symm fun h h2 => h ⟨h2.1.symm, h2.2.symm⟩) (fun x => .inl rfl) (h.apart.imp fun h => .inr h) x hx y hy
  exact this.resolve_right fun h2 => h2 ⟨ht, hk⟩
def ChildOf (s : Sc) (p q : Pr2) : Prop := (tabAt s q.1).par = p.1 ∧ askOf s q.1 (Pl.keyOf s p.1 p.2) q.2 = true
theorem ChildOf.key {p q : Pr2} (h : ChildOf s p q) : 0 ≤ (tabAt s q.1).ref ∧ (q.2[(tabAt s q.1).ref.toNat]?).getD default = Pl.keyOf s p.1 p.2 := by
  have := h.2
  unfold askOf at this
  simpa using this
theorem ChildOf.uniq (h : RowsOk s R) {p p' q : Pr2} (hp : p ∈ R) (hp' : p' ∈ R) (h1 : ChildOf s p q) (h2 : ChildOf s p' q) : p = p' :=
  h.uniq hp hp' (h1.1.symm.trans h2.1) (h1.key.2.symm.trans h2.key.2)
theorem ChildOf.lt (h : RowsOk s R) {p q : Pr2} (hq : q ∈ R) (h1 : ChildOf s p q) : p.1 < q.1 := by
  obtain ⟨dep, _, hd⟩ := dep_ex h.sch
  obtain ⟨q0, q1⟩ := h.tab q hq
  have hr := h1.key.1
  rcases hd q.1 q0 q1 with ⟨h2, _⟩ | ⟨_, _, h3, _⟩
  · omega
  · rw [← h1.1]; exact h3
inductive Reach (s : Sc) (R : List Pr2) : Pr2 → Pr2 → Prop
  | refl {p : Pr2} : Reach s R p p
  | step {p m q : Pr2} (h : Reach s R p m) (hm : m ∈ R) (hq : q ∈ R) (hc : ChildOf s m q) : Reach s R p q
theorem Reach.trans {p m q : Pr2} (h : Reach s R p m) (k : Reach s R m q) : Reach s R p q := by
  induction k with
  | refl => exact h
  | step _ hm hq hc ih => exact .step ih hm hq hc
theorem Reach.le (h : RowsOk s R) {p q : Pr2} (k : Reach s R p q) : p.1 ≤ q.1 := by
  induction k with
  | refl => exact Int.le_refl _
  | step _ hm hq hc ih => have := hc.lt h hq; omega
def kidsR (s : Sc) (R : List Pr2) (p : Pr2) : List Pr2 := (kidsS s p.1).flatMap fun c => (ofR R c (askOf s c (Pl.keyOf s p.1 p.2))).map fun row => (c, row)
end
end Go.Proofs.YtphaegcoldpclaaGreatDoor
set_option linter.unusedSimpArgs false
set_option linter.unusedVariables false
namespace Go.Proofs.YtphaegcoldpclaaGreatDoor
open Go Go.Fx Go.Proofs Go.Pl

theorem RefQ.rowsOk {r : Rl} {q : List Rr} (h : RefQ r q) (hok : r.Ok) : RowsOk r.s (q.map Rr.tl) := by
  have hm : ∀ x ∈ q, hasS r.s x.t = true := fun x hx => by
    have h1 := h.perm.subset (List.mem_map_of_mem (f := Rr.pl r.s) hx)
    have h2 := (hok.rows _ h1).row
    simp only [Rr.pl, rowS, Bool.and_eq_true] at h2
    exact h2.1
  refine ⟨hok.sch, ?_, ?_, ?_⟩
  · have h1 := h.len
    have h2 := hok.len
    rw [List.length_map]; omega
  · intro x hx
    obtain ⟨y, hy, rfl⟩ := List.mem_map.1 hx
    have := hm y hy
    simp only [hasS, Bool.and_eq_true, decide_eq_true_eq] at this
    exact this.2
  · rw [List.pairwise_map]
    refine h.srt.imp fun {x y} hp hc => ?_
    have e : (Rr.pl r.s x).1 = (Rr.pl r.s y).1 := by
      simp only [Rr.pl, Rr.tl] at hc ⊢
      exact Prod.ext hc.1 hc.2
    rw [e, plt_irr] at hp
    cases hp
theorem RefQ.ofR {r : Rl} {q : List Rr} (h : RefQ r q) (hok : r.Ok) (t : Int) (ask : List Vl → Bool) : InOrder r t ask (ofR (q.map Rr.tl) t ask) := by
  have e : Go.Proofs.YtphaegcoldpclaaGreatDoor.ofR (q.map Rr.tl) t ask = (q.filter fun x => decide (x.t = t) && ask x.l).map (·.l) := by
    unfold Go.Proofs.YtphaegcoldpclaaGreatDoor.ofR
    rw [List.filter_map, List.map_map]
    rfl
  rw [e]
  exact h.inOrder hok t ask
end Go.Proofs.YtphaegcoldpclaaGreatDoor
set_option linter.unusedSimpArgs false
set_option linter.unusedVariables false
namespace Go.Proofs.YtphaegcoldpclaaGreatDoor
open Go Go.Fx Go.Proofs Go.Pl

theorem fm_congr {α β : Type} {f g : α → List β} : ∀ {l : List α}, (∀ x ∈ l, f x = g x) → l.flatMap f = l.flatMap g
  | [], _ => rfl
  | a :: l, h => by rw [List.flatMap_cons, List.flatMap_cons, h a (List.mem_cons_self ..), fm_congr fun x hx => h x (List.mem_cons_of_mem _ hx)]
def pcOf (s : Sc) (x : Pr2) : Pc := (x.1, Pl.keyOf s x.1 x.2)
structure RowsQ (r : Rl) (R : List Pr2) : Prop where
  ok : RowsOk r.s R
  srt : R.Pairwise fun x y => pltB (pcOf r.s x) (pcOf r.s y) = true
  mem : ∀ x, x ∈ R ↔ aget (pcOf r.s x) r.rows = some x.2
  row : ∀ x ∈ R, rowS r.s x.1 x.2 = true
  ord : ∀ t ask, InOrder r t ask (ofR R t ask)
  get : ∀ p l, aget p r.rows = some l → (p.1, l) ∈ R ∧ pcOf r.s (p.1, l) = p ∧ keyS r.s p.1 p.2 = true
theorem RefQ.rowsQ {r : Rl} {q : List Rr} (h : RefQ r q) (hok : r.Ok) : RowsQ r (q.map Rr.tl) := by
  have hget : ∀ p l, aget p r.rows = some l → (p.1, l) ∈ q.map Rr.tl ∧ pcOf r.s (p.1, l) = p ∧ keyS r.s p.1 p.2 = true := by
    intro p l hg
    obtain ⟨x, hx, hxp⟩ := h.found hg
    have hro := hok.rows _ (aget_mem hg)
    have hk := hro.key
    have hy := (rowS_key hro.row).1
    dsimp only at hk hy
    rw [hk] at hy
    simp only [Rr.pl, Prod.mk.injEq] at hxp
    refine ⟨List.mem_map.2 ⟨x, List.mem_of_getElem? hx, ?_⟩, Prod.ext rfl hk, hy⟩
    rw [← hxp.1, ← hxp.2]; rfl
  refine ⟨h.rowsOk hok, ?_, fun x => ⟨fun hx => ?_, fun hg => (hget _ _ hg).1⟩, fun x hx => ?_, fun t ask => h.ofR hok t ask, hget⟩
  · rw [List.pairwise_map]; exact h.srt
  · obtain ⟨y, hy, rfl⟩ := List.mem_map.1 hx
    exact aget_of_mem hok (p := (y.pl r.s).1) (l := y.l) (h.mem hy)
  · obtain ⟨y, hy, rfl⟩ := List.mem_map.1 hx
    exact h.rowOk hok hy
def Rl.Q (r : Rl) : Prop := ∃ q, RefQ r q
theorem Rl.Q.rows {r : Rl} (h : Rl.Q r) (hok : r.Ok) : ∃ R, RowsQ r R := h.elim fun q hq => ⟨_, hq.rowsQ hok⟩
theorem Rl.Q.new (s : Sc) (t : Int) : Rl.Q ⟨s, [], t⟩ := ⟨_, RefQ.nil s t⟩
theorem Rl.Q.doOp {r : Rl} (h : Rl.Q r) (hok : r.Ok) (hwf : Rl.Wf r) {o : Opr} (hw : ∀ v ∈ o.row, v.wf) : Rl.Q (r.doOp o).1 := by
  obtain ⟨q, hq⟩ := h
  rcases doOp_did r o with ⟨_, e, _⟩ | ⟨_, p, d⟩
  · rw [e]; exact ⟨q, hq⟩
  · obtain ⟨h1, hh, hlay, hk0, hks⟩ := d.one hok
    obtain ⟨_, _, h3, _⟩ := placeS_tab d.pl
    have hpl : o.kind ≠ 3 → (Rr.pl r.s ⟨p.1, ⟨.slice none 0 0, rfl⟩, o.row⟩) = (p, o.row) := fun hk => by
      have := (h3 hk).key
      unfold Rr.pl
      exact Prod.ext (Prod.ext rfl this) rfl
    rcases d.kind with ⟨hk, hn, e, _⟩ | ⟨hk, hs, e, _⟩ | ⟨hk, hs, e, _⟩
    · have hp := hpl (by omega)
      have hro := h3 (by omega)
      have hgood : goodP p := by
        obtain ⟨g1, g2, _⟩ := rowS_key hro.row
        rw [hro.key] at g1 g2
        exact keyS_good (t := p.1) g1 (hw _ (List.mem_of_getElem? g2))
      exact ⟨_, hq.insert hok hwf (x := ⟨p.1, ⟨.slice none 0 0, rfl⟩, o.row⟩) (by rw [hp]; exact hn) (by rw [hp]; exact hgood) d.s (by rw [hp]; exact e)⟩
    · have hp := hpl (by omega)
      obtain ⟨u, hu⟩ := Option.isSome_iff_exists.1 hs
      exact ⟨_, hq.update (x := ⟨p.1, ⟨.slice none 0 0, rfl⟩, o.row⟩) (l := u) (by rw [hp]; exact hu) d.s (by rw [hp]; exact e)⟩
    · obtain ⟨u, hu⟩ := Option.isSome_iff_exists.1 hs
      exact ⟨_, hq.remove hu d.s e⟩

def upOf (s : Sc) (p : Pr2) : Pc := ((tabAt s p.1).par, (p.2[(tabAt s p.1).ref.toNat]?).getD default)
def rootP (r : Rl) : Nat → Pr2 → Option Pr2
  | 0, _ => none
  | n + 1, p => if (tabAt r.s p.1).par < 0 then some p else match aget (upOf r.s p) r.rows with
    | none => none
    | some l => rootP r n ((tabAt r.s p.1).par, l)
section
variable {r : Rl} {R : List Pr2}
theorem RowsQ.parent (h : RowsQ r R) {q : Pr2} (hq : q ∈ R) (hp : 0 ≤ (tabAt r.s q.1).par) {l : List Vl} (hg : aget (upOf r.s q) r.rows = some l) : ((tabAt r.s q.1).par, l) ∈ R ∧ ChildOf r.s ((tabAt r.s q.1).par, l) q ∧ (tabAt r.s q.1).par < q.1 := by
  obtain ⟨h1, h2, _⟩ := h.get _ _ hg
  obtain ⟨q0, q1⟩ := h.ok.tab q hq
  obtain ⟨dep, _, hd⟩ := dep_ex h.ok.sch
  rcases hd q.1 q0 q1 with ⟨_, h3⟩ | ⟨h3, _, h4, _⟩
  · omega
  · refine ⟨h1, ⟨rfl, ?_⟩, h4⟩
    have h5 : Pl.keyOf r.s (tabAt r.s q.1).par l = (q.2[(tabAt r.s q.1).ref.toNat]?).getD default := congrArg Prod.snd h2
    dsimp only
    rw [h5]
    unfold askOf
    simp [h3]
def rootR (r : Rl) (p : Pr2) : Option Pr2 := rootP r r.s.length p
theorem Reach.head (h : RowsOk r.s R) {p q : Pr2} (k : Reach r.s R p q) (hp : p ∈ R) : p = q ∨ ∃ m, m ∈ R ∧ ChildOf r.s p m ∧ Reach r.s R m q := by
  induction k with
  | refl => exact .inl rfl
  | @step m q k hm hq hc ih =>
    rcases ih with rfl | ⟨x, hx, hcx, kx⟩
    · exact .inr ⟨q, hq, hc, .refl⟩
    · exact .inr ⟨x, hx, hcx, .step kx hm hq hc⟩
def rootsR (r : Rl) (R : List Pr2) : List Pr2 := R.filter fun p => decide ((tabAt r.s p.1).par < 0)
end
def hitP (s : Sc) (t : Int) (k : Vl) (x : Pr2) : Bool := decide (x.1 = t) && decide (Pl.keyOf s x.1 x.2 = k)
theorem by_key {α : Type} (f : α → Int) : ∀ (n : Nat) {l : List α}, l.Pairwise (fun x y => f x ≤ f y) → (∀ x ∈ l, 0 ≤ f x ∧ f x < n) → l = (List.range n).flatMap fun k : Nat => l.filter fun x => decide (f x = k)
  | 0, l, _, h => by
    cases l with
    | nil => rfl
    | cons a l => have := h a (List.mem_cons_self ..); omega
  | n + 1, l, hp, h => by
    have hsplit : ∀ {l : List α}, l.Pairwise (fun x y => f x ≤ f y) → (∀ x ∈ l, 0 ≤ f x ∧ f x < (n + 1 : Nat)) → l = (l.filter fun x => decide (f x < n)) ++ l.filter fun x => decide (f x = (n : Int)) := by
      intro l
      induction l with
      | nil => intro _ _; rfl
      | cons a l ih =>
        intro hp h
        rw [List.pairwise_cons] at hp
        have ih' := ih hp.2 fun x hx => h x (List.mem_cons_of_mem _ hx)
        have ha := h a (List.mem_cons_self ..)
        by_cases h1 : f a < n
        · rw [List.filter_cons_of_pos (by simpa using h1), List.filter_cons_of_neg (by simp; omega), List.cons_append, ← ih']
        · have h2 : f a = n := by omega
          have h3 : (l.filter fun x => decide (f x < (n : Int))) = [] := by
            rw [List.filter_eq_nil_iff]
            intro x hx
            have := hp.1 x hx
            simp; omega
          rw [h3, List.nil_append] at ih'
          rw [List.filter_cons_of_neg (by simpa using h1), List.filter_cons_of_pos (by simpa using h2), h3, List.nil_append, ← ih']
    have e := hsplit hp h
    have ih := by_key f n (l := l.filter fun x => decide (f x < (n : Int))) (hp.filter _) (fun x hx => by
      obtain ⟨h1, h2⟩ := List.mem_filter.1 hx
      have := h x h1
      simp at h2
      omega)
    rw [List.range_succ, List.flatMap_append]
    simp only [List.flatMap_cons, List.flatMap_nil, List.append_nil]
    have e2 : ((List.range n).flatMap fun k : Nat => l.filter fun x => decide (f x = k)) = l.filter fun x => decide (f x < (n : Int)) := by
      refine Eq.trans ?_ ih.symm
      refine fm_congr fun k hk => ?_
      rw [List.filter_filter]
      refine List.filter_congr fun x _ => ?_
      have := List.mem_range.1 hk
      by_cases h1 : f x = k
      · simp [h1]; omega
      · simp [h1]
    rw [e2]; exact e
section
variable {r : Rl} {R : List Pr2}
theorem RowsQ.tabs (h : RowsQ r R) : R = (List.range r.s.length).flatMap fun k : Nat => R.filter fun x => decide (x.1 = (k : Int)) := by
  refine by_key (fun x : Pr2 => x.1) r.s.length (h.srt.imp fun {x y} hp => ?_) fun x hx => h.ok.tab x hx
  rw [plt_iff] at hp
  simp only [pcOf] at hp
  rcases hp with hp | hp
  · omega
  · omega
theorem RowsQ.roots (h : RowsQ r R) : rootsR r R = (List.range r.s.length).flatMap fun k : Nat => if (tabAt r.s (k : Int)).par < 0 then (ofR R (k : Int) fun _ => true).map fun l => ((k : Int), l) else [] := by
  unfold rootsR
  conv => lhs; rw [h.tabs]
  rw [List.filter_flatMap]
  refine fm_congr fun k _ => ?_
  rw [List.filter_filter]
  split
  · rename_i hk
    unfold ofR
    rw [List.map_map]
    have e : (R.filter fun a => decide ((tabAt r.s a.1).par < 0) && decide (a.1 = (k : Int))) = R.filter fun x => decide (x.1 = (k : Int)) && true := by
      refine List.filter_congr fun x _ => ?_
      by_cases h1 : x.1 = (k : Int)
      · simp [h1, hk]
      · simp [h1]
    rw [e]
    have : ∀ l : List Pr2, (∀ x ∈ l, x.1 = (k : Int)) → l = l.map ((fun l => ((k : Int), l)) ∘ fun x => x.2) := by
      intro l hl
      induction l with
      | nil => rfl
      | cons a l ih =>
        rw [List.map_cons, ← ih fun x hx => hl x (List.mem_cons_of_mem _ hx)]
        have := hl a (List.mem_cons_self ..)
        simp only [Function.comp_apply]
        rw [← this]
    exact this _ fun x hx => by
      have := (List.mem_filter.1 hx).2
      simpa using this
  · rename_i hk
    rw [List.filter_eq_nil_iff]
    intro x _
    simp only [Bool.and_eq_true, decide_eq_true_eq, not_and]
    intro h1 h2
    rw [h2] at h1
    exact hk h1
end
end Go.Proofs.YtphaegcoldpclaaGreatDoor
