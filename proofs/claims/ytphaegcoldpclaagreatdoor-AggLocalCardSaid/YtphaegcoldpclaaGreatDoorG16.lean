/- Texts merged: PgD PgE PgR PgF. -/
import Derived.Test.YtphaegcoldpclaaGreatDoorG0
import Derived.Test.YtphaegcoldpclaaGreatDoorG15
import Derived.Test.YtphaegcoldpclaaGreatDoorRkP
import Derived.Test.YtphaegcoldpclaaGreatDoorG17
import Derived.Test.YtphaegcoldpclaaGreatDoorG10
import Derived.Test.YtphaegcoldpclaaGreatDoorG14
set_option linter.unusedSimpArgs false
set_option linter.unusedVariables false
namespace Go.Proofs.YtphaegcoldpclaaGreatDoor
open Go Go.Fx Go.Proofs Go.Pl

abbrev Pr2 := Int × List Vl
structure RowsOk (s : Sc) (R : List Pr2) : Prop where
  sch : checkS s = true
  len : R.length ≤ 200
  tab : ∀ x ∈ R, 0 ≤ x.1 ∧ x.1 < s.length
  apart : R.Pairwise fun x y => ¬ (x.1 = y.1 ∧ Pl.keyOf s x.1 x.2 = Pl.keyOf s y.1 y.2)
def ofR (R : List Pr2) (t : Int) (ask : List Vl → Bool) : List (List Vl) := (R.filter fun x => decide (x.1 = t) && ask x.2).map (·.2)
def kidsS (s : Sc) (t : Int) : List Int := ((List.range s.length).map fun n : Nat => (n : Int)).filter fun c => decide ((tabAt s c).par = t)
def docS (s : Sc) (R : List Pr2) : Nat → Int → List Vl → Dc
  | 0, t, row => .mk t row []
  | n + 1, t, row => .mk t row ((kidsS s t).flatMap fun c => (ofR R c (askOf s c (Pl.keyOf s t row))).map (docS s R n c))

section
variable {s : Sc} {R : List Pr2}
theorem pw_all {α : Type} {Q : α → α → Prop} (hs : ∀ x y, Q x y → Q y x) (hr : ∀ x, Q x x) : ∀ {l : List α}, l.Pairwise Q → ∀ x ∈ l, ∀ y ∈ l, Q x y
  | [], _, _, h, _, _ => by simp at h
  | a :: l, h, x, hx, y, hy => by
    rw [List.pairwise_cons] at h
    rcases List.mem_cons.1 hx with e1 | h1
    · rcases List.mem_cons.1 hy with e2 | h2
      · rw [e1, e2]; exact hr _
      · rw [e1]; exact h.1 y h2
    · rcases List.mem_cons.1 hy with e2 | h2
      · rw [e2]; exact hs _ _ (h.1 x h1)
      · exact pw_all hs hr h.2 x h1 y h2
theorem RowsOk.uniq (h : RowsOk s R) {x y : Pr2} (hx : x ∈ R) (hy : y ∈ R) (ht : x.1 = y.1) (hk : Pl.keyOf s x.1 x.2 = Pl.keyOf s y.1 y.2) : x = y := by
  have := pw_all (Q := fun x y : Pr2 => x = y ∨ ¬ (x.1 = y.1 ∧ Pl.keyOf s x.1 x.2 = Pl.keyOf s y.1 y.2)) (fun x y h => h.imp Eq.symm fun h h2 => h ⟨h2.1.symm, h2.2.symm⟩) (fun x => .inl rfl) (h.apart.imp fun h => .inr h) x hx y hy
  exact this.resolve_right fun h2 => h2 ⟨ht, hk⟩
theorem RowsOk.ne (h : RowsOk s R) : R.Pairwise (· ≠ ·) := h.apart.imp fun h e => h (by rw [e]; exact ⟨rfl, rfl⟩)
theorem mem_ofR {t : Int} {ask : List Vl → Bool} {l : List Vl} : l ∈ ofR R t ask ↔ (t, l) ∈ R ∧ ask l = true := by
  unfold ofR
  rw [List.mem_map]
  constructor
  · rintro ⟨⟨t', l'⟩, h, rfl⟩
    rw [List.mem_filter] at h
    simp only [Bool.and_eq_true, decide_eq_true_eq] at h
    obtain ⟨h1, rfl, h3⟩ := h
    exact ⟨h1, h3⟩
  · rintro ⟨h1, h2⟩
    exact ⟨(t, l), List.mem_filter.2 ⟨h1, by simp [h2]⟩, rfl⟩
theorem mem_kidsS {t c : Int} : c ∈ kidsS s t ↔ (0 ≤ c ∧ c < s.length) ∧ (tabAt s c).par = t := by
  unfold kidsS
  rw [List.mem_filter, List.mem_map]
  simp only [List.mem_range, decide_eq_true_eq]
  constructor
  · rintro ⟨⟨n, hn, rfl⟩, h⟩; exact ⟨⟨by omega, by omega⟩, h⟩
  · rintro ⟨⟨h0, h1⟩, h⟩; exact ⟨⟨c.toNat, by omega, by omega⟩, h⟩
theorem kidsS_ne (s : Sc) (t : Int) : (kidsS s t).Pairwise (· ≠ ·) := by
  unfold kidsS
  refine List.Pairwise.filter _ ?_
  rw [List.pairwise_map]
  exact List.nodup_range.imp fun h e => h (by omega)
def ChildOf (s : Sc) (p q : Pr2) : Prop := (tabAt s q.1).par = p.1 ∧ askOf s q.1 (Pl.keyOf s p.1 p.2) q.2 = true
theorem ChildOf.key {p q : Pr2} (h : ChildOf s p q) : 0 ≤ (tabAt s q.1).ref ∧ (q.2[(tabAt s q.1).ref.toNat]?).getD default = Pl.keyOf s p.1 p.2 := by
  have := h.2
  unfold askOf at this
  simpa using this
theorem ChildOf.uniq (h : RowsOk s R) {p p' q : Pr2} (hp : p ∈ R) (hp' : p' ∈ R) (h1 : ChildOf s p q) (h2 : ChildOf s p' q) : p = p' :=
  h.uniq hp hp' (h1.1.symm.trans h2.1) (h1.key.2.symm.trans h2.key.2)
theorem ChildOf.lt (h : RowsOk s R) {p q : Pr2} (hq : q ∈ R) (h1 : ChildOf s p q) : p.1 < q.1 := by
  obtain ⟨dep, _, hd⟩ := dep_ex h.sch
  obtain ⟨q0, q1⟩ := h.tab q hq
  have hr := h1.key.1
  rcases hd q.1 q0 q1 with ⟨h2, _⟩ | ⟨_, _, h3, _⟩
  · omega
  · rw [← h1.1]; exact h3
inductive Reach (s : Sc) (R : List Pr2) : Pr2 → Pr2 → Prop
  | refl {p : Pr2} : Reach s R p p
  | step {p m q : Pr2} (h : Reach s R p m) (hm : m ∈ R) (hq : q ∈ R) (hc : ChildOf s m q) : Reach s R p q
theorem Reach.trans {p m q : Pr2} (h : Reach s R p m) (k : Reach s R m q) : Reach s R p q := by
  induction k with
  | refl => exact h
  | step _ hm hq hc ih => exact .step ih hm hq hc
theorem Reach.le (h : RowsOk s R) {p q : Pr2} (k : Reach s R p q) : p.1 ≤ q.1 := by
  induction k with
  | refl => exact Int.le_refl _
  | step _ hm hq hc ih => have := hc.lt h hq; omega
theorem Reach.linear (h : RowsOk s R) {a b q : Pr2} (k : Reach s R a q) : Reach s R b q → Reach s R a b ∨ Reach s R b a := by
  induction k with
  | refl => exact fun k2 => .inr k2
  | @step m q k hm hq hc ih =>
    intro k2
    cases k2 with
    | refl => exact .inl (.step k hm hq hc)
    | step k3 hm3 _ hc3 =>
      have := hc.uniq h hm hm3 hc3
      subst this
      exact ih k3
def kidsR (s : Sc) (R : List Pr2) (p : Pr2) : List Pr2 := (kidsS s p.1).flatMap fun c => (ofR R c (askOf s c (Pl.keyOf s p.1 p.2))).map fun row => (c, row)
theorem docS_succ (n : Nat) (p : Pr2) : docS s R (n + 1) p.1 p.2 = .mk p.1 p.2 ((kidsR s R p).map fun k => docS s R n k.1 k.2) := by
  unfold kidsR
  rw [docS, List.map_flatMap]
  congr 1
  simp only [List.map_map]
  rfl
theorem mem_kidsR {p q : Pr2} : q ∈ kidsR s R p ↔ (0 ≤ q.1 ∧ q.1 < s.length) ∧ q ∈ R ∧ ChildOf s p q := by
  unfold kidsR
  rw [List.mem_flatMap]
  constructor
  · rintro ⟨c, hc, h⟩
    obtain ⟨row, hr, rfl⟩ := List.mem_map.1 h
    obtain ⟨h1, h2⟩ := mem_kidsS.1 hc
    obtain ⟨h3, h4⟩ := mem_ofR.1 hr
    exact ⟨h1, h3, h2, h4⟩
  · rintro ⟨h1, h2, h3, h4⟩
    exact ⟨q.1, mem_kidsS.2 ⟨h1, h3⟩, List.mem_map.2 ⟨q.2, mem_ofR.2 ⟨h2, h4⟩, rfl⟩⟩
theorem kidsR_ne (h : RowsOk s R) (p : Pr2) : (kidsR s R p).Pairwise (· ≠ ·) := by
  unfold kidsR
  rw [List.pairwise_flatMap]
  refine ⟨fun c _ => ?_, (kidsS_ne s p.1).imp fun hne x hx y hy e => ?_⟩
  · unfold ofR
    rw [List.map_map, List.pairwise_map]
    refine (h.ne.filter _).imp_of_mem ?_
    intro x y hx hy hne e
    have h1 := (List.mem_filter.1 hx).2
    have h2 := (List.mem_filter.1 hy).2
    simp only [Bool.and_eq_true, decide_eq_true_eq] at h1 h2
    simp only [Function.comp_apply, Prod.mk.injEq] at e
    exact hne (Prod.ext (h1.1.trans h2.1.symm) e.2)
  · obtain ⟨_, _, rfl⟩ := List.mem_map.1 hx
    obtain ⟨_, _, rfl⟩ := List.mem_map.1 hy
    simp only [Prod.mk.injEq] at e
    exact hne e.1
theorem nodes_mem (h : RowsOk s R) : ∀ (n : Nat) {p q : Pr2}, p ∈ R → q ∈ nodesD (docS s R n p.1 p.2) → q ∈ R ∧ Reach s R p q
  | 0, p, q, hp, hq => by
    simp only [docS, nodesD, nodesK, List.mem_singleton] at hq
    rw [hq]; exact ⟨hp, .refl⟩
  | n + 1, p, q, hp, hq => by
    rw [docS_succ] at hq
    simp only [nodesD, nodesK_flat, List.mem_cons, List.mem_flatMap, List.mem_map] at hq
    rcases hq with rfl | ⟨d, ⟨k, hk, rfl⟩, hq⟩
    · exact ⟨hp, .refl⟩
    · obtain ⟨_, hk1, hk2⟩ := mem_kidsR.1 hk
      obtain ⟨h1, h2⟩ := nodes_mem h n hk1 hq
      exact ⟨h1, (Reach.step .refl hp hk1 hk2).trans h2⟩
theorem nodes_ne (h : RowsOk s R) : ∀ (n : Nat) {p : Pr2}, p ∈ R → (nodesD (docS s R n p.1 p.2)).Pairwise (· ≠ ·)
  | 0, p, hp => by simp [docS, nodesD, nodesK]
  | n + 1, p, hp => by
    rw [docS_succ]
    simp only [nodesD, nodesK_flat]
    rw [List.pairwise_cons, List.pairwise_flatMap, List.pairwise_map]
    refine ⟨fun q hq e => ?_, fun d hd => ?_, (kidsR_ne h p).imp_of_mem ?_⟩
    · obtain ⟨d, hd, hq⟩ := List.mem_flatMap.1 hq
      obtain ⟨k, hk, rfl⟩ := List.mem_map.1 hd
      obtain ⟨_, hk1, hk2⟩ := mem_kidsR.1 hk
      have h1 := (nodes_mem h n hk1 hq).2.le h
      have h2 := hk2.lt h hk1
      rw [← e] at h1
      dsimp only at h1
      omega
    · obtain ⟨k, hk, rfl⟩ := List.mem_map.1 hd
      exact nodes_ne h n (mem_kidsR.1 hk).2.1
    · intro k1 k2 hk1 hk2 hne x hx y hy e
      subst e
      obtain ⟨_, a1, a2⟩ := mem_kidsR.1 hk1
      obtain ⟨_, b1, b2⟩ := mem_kidsR.1 hk2
      have r1 := (nodes_mem h n a1 hx).2
      have r2 := (nodes_mem h n b1 hy).2
      have go : ∀ {k1 k2 : Pr2}, k1 ∈ R → k2 ∈ R → ChildOf s p k1 → ChildOf s p k2 → k1 ≠ k2 → Reach s R k1 k2 → False := by
        intro k1 k2 c1 c2 d1 d2 hne hr
        cases hr with
        | refl => exact hne rfl
        | step hr hm _ hc =>
          have := hc.uniq h hm hp d2
          subst this
          have h1 := hr.le h
          have h2 := d1.lt h c1
          omega
      rcases r1.linear h r2 with h3 | h3
      · exact go a1 b1 a2 b2 hne h3
      · exact go b1 a1 b2 a2 (Ne.symm hne) h3
theorem docS_high (h : checkS s = true) {dep : Int → Nat} (hd : ∀ t : Int, 0 ≤ t → t < s.length → 1 ≤ dep t ∧ dep t ≤ 8)
    (hp : ∀ c : Int, 0 ≤ c → c < s.length → ((tabAt s c).ref = -1 ∧ (tabAt s c).par = -1) ∨ (0 ≤ (tabAt s c).ref ∧ 0 ≤ (tabAt s c).par ∧ (tabAt s c).par < c ∧ dep c = dep (tabAt s c).par + 1)) :
    ∀ (n : Nat) (p : Pr2), 0 ≤ p.1 → p.1 < s.length → highD (docS s R n p.1 p.2) + dep p.1 ≤ 9
  | 0, p, p0, p1 => by
    have := hd p.1 p0 p1
    simp only [docS, highD, highK]; omega
  | n + 1, p, p0, p1 => by
    have h8 := hd p.1 p0 p1
    rw [docS_succ]
    simp only [highD]
    have : highK ((kidsR s R p).map fun k => docS s R n k.1 k.2) ≤ 8 - dep p.1 := highK_le fun d hd0 => by
      obtain ⟨k, hk, rfl⟩ := List.mem_map.1 hd0
      obtain ⟨⟨k0, k1⟩, _, hc⟩ := mem_kidsR.1 hk
      have ih := docS_high h hd hp n k k0 k1
      rcases hp k.1 k0 k1 with ⟨h2, _⟩ | ⟨_, _, _, h3⟩
      · have := hc.key.1; omega
      · rw [hc.1] at h3; omega
    omega
theorem docS_size (h : RowsOk s R) (n : Nat) {p : Pr2} (hp : p ∈ R) : sizeS (docS s R n p.1 p.2) = (nodesD (docS s R n p.1 p.2)).length ∧ (nodesD (docS s R n p.1 p.2)).length ≤ 200 := by
  obtain ⟨dep, h1, h2⟩ := dep_ex h.sch
  obtain ⟨p0, p1⟩ := h.tab p hp
  have h3 := docS_high (R := R) h.sch h1 h2 n p p0 p1
  have h4 := h1 p.1 p0 p1
  have h5 : (nodesD (docS s R n p.1 p.2)).length ≤ 200 := Nat.le_trans (nodup_le (nodes_ne h n hp) fun x hx => (nodes_mem h n hp hx).1) h.len
  exact ⟨sizeS_nodes (by omega) h5, h5⟩
end
end Go.Proofs.YtphaegcoldpclaaGreatDoor
set_option linter.unusedSimpArgs false
set_option linter.unusedVariables false
namespace Go.Proofs.YtphaegcoldpclaaGreatDoor
open Go Go.Fx Go.Proofs Go.Pl

theorem RefQ.rowsOk {r : Rl} {q : List Rr} (h : RefQ r q) (hok : r.Ok) : RowsOk r.s (q.map Rr.tl) := by
  have hm : ∀ x ∈ q, hasS r.s x.t = true := fun x hx => by
    have h1 := h.perm.subset (List.mem_map_of_mem (f := Rr.pl r.s) hx)
    have h2 := (hok.rows _ h1).row
    simp only [Rr.pl, rowS, Bool.and_eq_true] at h2
    exact h2.1
  refine ⟨hok.sch, ?_, ?_, ?_⟩
  · have h1 := h.len
    have h2 := hok.len
    rw [List.length_map]; omega
  · intro x hx
    obtain ⟨y, hy, rfl⟩ := List.mem_map.1 hx
    have := hm y hy
    simp only [hasS, Bool.and_eq_true, decide_eq_true_eq] at this
    exact this.2
  · rw [List.pairwise_map]
    refine h.srt.imp fun {x y} hp hc => ?_
    have e : (Rr.pl r.s x).1 = (Rr.pl r.s y).1 := by
      simp only [Rr.pl, Rr.tl] at hc ⊢
      exact Prod.ext hc.1 hc.2
    rw [e, plt_irr] at hp
    cases hp
theorem RefQ.ofR {r : Rl} {q : List Rr} (h : RefQ r q) (hok : r.Ok) (t : Int) (ask : List Vl → Bool) : InOrder r t ask (ofR (q.map Rr.tl) t ask) := by
  have e : Go.Proofs.YtphaegcoldpclaaGreatDoor.ofR (q.map Rr.tl) t ask = (q.filter fun x => decide (x.t = t) && ask x.l).map (·.l) := by
    unfold Go.Proofs.YtphaegcoldpclaaGreatDoor.ofR
    rw [List.filter_map, List.map_map]
    rfl
  rw [e]
  exact h.inOrder hok t ask
end Go.Proofs.YtphaegcoldpclaaGreatDoor
set_option linter.unusedSimpArgs false
set_option linter.unusedVariables false
namespace Go.Proofs.YtphaegcoldpclaaGreatDoor
open Go Go.Fx Go.Proofs Go.Pl

theorem fm_congr {α β : Type} {f g : α → List β} : ∀ {l : List α}, (∀ x ∈ l, f x = g x) → l.flatMap f = l.flatMap g
  | [], _ => rfl
  | a :: l, h => by rw [List.flatMap_cons, List.flatMap_cons, h a (List.mem_cons_self ..), fm_congr fun x hx => h x (List.mem_cons_of_mem _ hx)]
def pcOf (s : Sc) (x : Pr2) : Pc := (x.1, Pl.keyOf s x.1 x.2)
structure RowsQ (r : Rl) (R : List Pr2) : Prop where
  ok : RowsOk r.s R
  srt : R.Pairwise fun x y => pltB (pcOf r.s x) (pcOf r.s y) = true
  mem : ∀ x, x ∈ R ↔ aget (pcOf r.s x) r.rows = some x.2
  row : ∀ x ∈ R, rowS r.s x.1 x.2 = true
  ord : ∀ t ask, InOrder r t ask (ofR R t ask)
  get : ∀ p l, aget p r.rows = some l → (p.1, l) ∈ R ∧ pcOf r.s (p.1, l) = p ∧ keyS r.s p.1 p.2 = true
theorem RefQ.rowsQ {r : Rl} {q : List Rr} (h : RefQ r q) (hok : r.Ok) : RowsQ r (q.map Rr.tl) := by
  have hget : ∀ p l, aget p r.rows = some l → (p.1, l) ∈ q.map Rr.tl ∧ pcOf r.s (p.1, l) = p ∧ keyS r.s p.1 p.2 = true := by
    intro p l hg
    obtain ⟨x, hx, hxp⟩ := h.found hg
    have hro := hok.rows _ (aget_mem hg)
    have hk := hro.key
    have hy := (rowS_key hro.row).1
    dsimp only at hk hy
    rw [hk] at hy
    simp only [Rr.pl, Prod.mk.injEq] at hxp
    refine ⟨List.mem_map.2 ⟨x, List.mem_of_getElem? hx, ?_⟩, Prod.ext rfl hk, hy⟩
    rw [← hxp.1, ← hxp.2]; rfl
  refine ⟨h.rowsOk hok, ?_, fun x => ⟨fun hx => ?_, fun hg => (hget _ _ hg).1⟩, fun x hx => ?_, fun t ask => h.ofR hok t ask, hget⟩
  · rw [List.pairwise_map]; exact h.srt
  · obtain ⟨y, hy, rfl⟩ := List.mem_map.1 hx
    exact aget_of_mem hok (p := (y.pl r.s).1) (l := y.l) (h.mem hy)
  · obtain ⟨y, hy, rfl⟩ := List.mem_map.1 hx
    exact h.rowOk hok hy
def Rl.Q (r : Rl) : Prop := ∃ q, RefQ r q
theorem Rl.Q.rows {r : Rl} (h : Rl.Q r) (hok : r.Ok) : ∃ R, RowsQ r R := h.elim fun q hq => ⟨_, hq.rowsQ hok⟩
theorem Rl.Q.new (s : Sc) (t : Int) : Rl.Q ⟨s, [], t⟩ := ⟨_, RefQ.nil s t⟩
theorem Rl.Q.doOp {r : Rl} (h : Rl.Q r) (hok : r.Ok) (hwf : Rl.Wf r) {o : Opr} (hw : ∀ v ∈ o.row, v.wf) : Rl.Q (r.doOp o).1 := by
  obtain ⟨q, hq⟩ := h
  rcases doOp_did r o with ⟨_, e, _⟩ | ⟨_, p, d⟩
  · rw [e]; exact ⟨q, hq⟩
  · obtain ⟨h1, hh, hlay, hk0, hks⟩ := d.one hok
    obtain ⟨_, _, h3, _⟩ := placeS_tab d.pl
    have hpl : o.kind ≠ 3 → (Rr.pl r.s ⟨p.1, ⟨.slice none 0 0, rfl⟩, o.row⟩) = (p, o.row) := fun hk => by
      have := (h3 hk).key
      unfold Rr.pl
      exact Prod.ext (Prod.ext rfl this) rfl
    rcases d.kind with ⟨hk, hn, e, _⟩ | ⟨hk, hs, e, _⟩ | ⟨hk, hs, e, _⟩
    · have hp := hpl (by omega)
      have hro := h3 (by omega)
      have hgood : goodP p := by
        obtain ⟨g1, g2, _⟩ := rowS_key hro.row
        rw [hro.key] at g1 g2
        exact keyS_good (t := p.1) g1 (hw _ (List.mem_of_getElem? g2))
      exact ⟨_, hq.insert hok hwf (x := ⟨p.1, ⟨.slice none 0 0, rfl⟩, o.row⟩) (by rw [hp]; exact hn) (by rw [hp]; exact hgood) d.s (by rw [hp]; exact e)⟩
    · have hp := hpl (by omega)
      obtain ⟨u, hu⟩ := Option.isSome_iff_exists.1 hs
      exact ⟨_, hq.update (x := ⟨p.1, ⟨.slice none 0 0, rfl⟩, o.row⟩) (l := u) (by rw [hp]; exact hu) d.s (by rw [hp]; exact e)⟩
    · obtain ⟨u, hu⟩ := Option.isSome_iff_exists.1 hs
      exact ⟨_, hq.remove hu d.s e⟩

def upOf (s : Sc) (p : Pr2) : Pc := ((tabAt s p.1).par, (p.2[(tabAt s p.1).ref.toNat]?).getD default)
def rootP (r : Rl) : Nat → Pr2 → Option Pr2
  | 0, _ => none
  | n + 1, p => if (tabAt r.s p.1).par < 0 then some p else match aget (upOf r.s p) r.rows with
    | none => none
    | some l => rootP r n ((tabAt r.s p.1).par, l)
theorem getOp_some {r : Rl} {R : List Pr2} (h : RowsQ r R) {t : Int} {k : Vl} {l : List Vl} (hg : aget (t, k) r.rows = some l) : r.getOp t k = (l, 0) := by
  unfold Rl.getOp
  rw [if_pos (h.get _ _ hg).2.2, hg]
theorem getOp_none {r : Rl} {t : Int} {k : Vl} (hg : aget (t, k) r.rows = none) : (r.getOp t k).1 = [] ∧ ((r.getOp t k).2 = 3 ∨ (r.getOp t k).2 = 2) := by
  unfold Rl.getOp
  rw [hg]
  split
  · exact ⟨rfl, .inl rfl⟩
  · exact ⟨rfl, .inr rfl⟩
section
variable {r : Rl} {R : List Pr2}
theorem RowsQ.child (h : RowsQ r R) {p q : Pr2} (hp : p ∈ R) (hq : q ∈ R) (hc : ChildOf r.s p q) : 0 ≤ (tabAt r.s q.1).par ∧ (tabAt r.s q.1).par = p.1 ∧ aget (upOf r.s q) r.rows = some p.2 := by
  have h1 := (h.mem p).1 hp
  obtain ⟨p0, _⟩ := h.ok.tab p hp
  refine ⟨by rw [hc.1]; exact p0, hc.1, ?_⟩
  unfold upOf
  rw [hc.key.2, hc.1]; exact h1
theorem RowsQ.parent (h : RowsQ r R) {q : Pr2} (hq : q ∈ R) (hp : 0 ≤ (tabAt r.s q.1).par) {l : List Vl} (hg : aget (upOf r.s q) r.rows = some l) : ((tabAt r.s q.1).par, l) ∈ R ∧ ChildOf r.s ((tabAt r.s q.1).par, l) q ∧ (tabAt r.s q.1).par < q.1 := by
  obtain ⟨h1, h2, _⟩ := h.get _ _ hg
  obtain ⟨q0, q1⟩ := h.ok.tab q hq
  obtain ⟨dep, _, hd⟩ := dep_ex h.ok.sch
  rcases hd q.1 q0 q1 with ⟨_, h3⟩ | ⟨h3, _, h4, _⟩
  · omega
  · refine ⟨h1, ⟨rfl, ?_⟩, h4⟩
    have h5 : Pl.keyOf r.s (tabAt r.s q.1).par l = (q.2[(tabAt r.s q.1).ref.toNat]?).getD default := congrArg Prod.snd h2
    dsimp only
    rw [h5]
    unfold askOf
    simp [h3]
theorem rootP_reach (h : RowsQ r R) : ∀ (n : Nat) {q p : Pr2}, q ∈ R → rootP r n q = some p → p ∈ R ∧ (tabAt r.s p.1).par < 0 ∧ Reach r.s R p q
  | 0, q, p, _, e => by simp [rootP] at e
  | n + 1, q, p, hq, e => by
    unfold rootP at e
    split at e
    · rename_i h1
      cases e
      exact ⟨hq, h1, .refl⟩
    · rename_i h1
      split at e
      · cases e
      · rename_i l hg
        obtain ⟨h2, h3, _⟩ := h.parent hq (by omega) hg
        obtain ⟨h4, h5, h6⟩ := rootP_reach h n h2 e
        exact ⟨h4, h5, .step h6 h2 hq h3⟩
theorem reach_root (h : RowsQ r R) {p q : Pr2} (k : Reach r.s R p q) (hp : p ∈ R) (hr : (tabAt r.s p.1).par < 0) : ∀ (n : Nat), q.1 < n → rootP r n q = some p := by
  induction k with
  | refl =>
    intro n hn
    obtain ⟨p0, _⟩ := h.ok.tab p hp
    cases n with
    | zero => omega
    | succ n => unfold rootP; rw [if_pos hr]
  | @step m q k hm hq hc ih =>
    intro n hn
    obtain ⟨h1, h2, h3⟩ := h.child hm hq hc
    have h4 := hc.lt h.ok hq
    obtain ⟨m0, _⟩ := h.ok.tab m hm
    cases n with
    | zero => omega
    | succ n =>
      unfold rootP
      rw [if_neg (by omega), h3]
      show rootP r n ((tabAt r.s q.1).par, m.2) = some p
      rw [h2]
      exact ih n (by omega)
def rootR (r : Rl) (p : Pr2) : Option Pr2 := rootP r r.s.length p
theorem rootR_iff (h : RowsQ r R) {p q : Pr2} (hq : q ∈ R) : rootR r q = some p ↔ p ∈ R ∧ (tabAt r.s p.1).par < 0 ∧ Reach r.s R p q :=
  ⟨fun e => rootP_reach h _ hq e, fun ⟨h1, h2, h3⟩ => reach_root h h3 h1 h2 _ (h.ok.tab q hq).2⟩

theorem Reach.head (h : RowsOk r.s R) {p q : Pr2} (k : Reach r.s R p q) (hp : p ∈ R) : p = q ∨ ∃ m, m ∈ R ∧ ChildOf r.s p m ∧ Reach r.s R m q := by
  induction k with
  | refl => exact .inl rfl
  | @step m q k hm hq hc ih =>
    rcases ih with rfl | ⟨x, hx, hcx, kx⟩
    · exact .inr ⟨q, hq, hc, .refl⟩
    · exact .inr ⟨x, hx, hcx, .step kx hm hq hc⟩
def rootsR (r : Rl) (R : List Pr2) : List Pr2 := R.filter fun p => decide ((tabAt r.s p.1).par < 0)
end
def hitP (s : Sc) (t : Int) (k : Vl) (x : Pr2) : Bool := decide (x.1 = t) && decide (Pl.keyOf s x.1 x.2 = k)
theorem by_key {α : Type} (f : α → Int) : ∀ (n : Nat) {l : List α}, l.Pairwise (fun x y => f x ≤ f y) → (∀ x ∈ l, 0 ≤ f x ∧ f x < n) → l = (List.range n).flatMap fun k : Nat => l.filter fun x => decide (f x = k)
  | 0, l, _, h => by
    cases l with
    | nil => rfl
    | cons a l => have := h a (List.mem_cons_self ..); omega
  | n + 1, l, hp, h => by
    have hsplit : ∀ {l : List α}, l.Pairwise (fun x y => f x ≤ f y) → (∀ x ∈ l, 0 ≤ f x ∧ f x < (n + 1 : Nat)) → l = (l.filter fun x => decide (f x < n)) ++ l.filter fun x => decide (f x = (n : Int)) := by
      intro l
      induction l with
      | nil => intro _ _; rfl
      | cons a l ih =>
        intro hp h
        rw [List.pairwise_cons] at hp
        have ih' := ih hp.2 fun x hx => h x (List.mem_cons_of_mem _ hx)
        have ha := h a (List.mem_cons_self ..)
        by_cases h1 : f a < n
        · rw [List.filter_cons_of_pos (by simpa using h1), List.filter_cons_of_neg (by simp; omega), List.cons_append, ← ih']
        · have h2 : f a = n := by omega
          have h3 : (l.filter fun x => decide (f x < (n : Int))) = [] := by
            rw [List.filter_eq_nil_iff]
            intro x hx
            have := hp.1 x hx
            simp; omega
          rw [h3, List.nil_append] at ih'
          rw [List.filter_cons_of_neg (by simpa using h1), List.filter_cons_of_pos (by simpa using h2), h3, List.nil_append, ← ih']
    have e := hsplit hp h
    have ih := by_key f n (l := l.filter fun x => decide (f x < (n : Int))) (hp.filter _) (fun x hx => by
      obtain ⟨h1, h2⟩ := List.mem_filter.1 hx
      have := h x h1
      simp at h2
      omega)
    rw [List.range_succ, List.flatMap_append]
    simp only [List.flatMap_cons, List.flatMap_nil, List.append_nil]
    have e2 : ((List.range n).flatMap fun k : Nat => l.filter fun x => decide (f x = k)) = l.filter fun x => decide (f x < (n : Int)) := by
      refine Eq.trans ?_ ih.symm
      refine fm_congr fun k hk => ?_
      rw [List.filter_filter]
      refine List.filter_congr fun x _ => ?_
      have := List.mem_range.1 hk
      by_cases h1 : f x = k
      · simp [h1]; omega
      · simp [h1]
    rw [e2]; exact e
section
variable {r : Rl} {R : List Pr2}
theorem RowsQ.tabs (h : RowsQ r R) : R = (List.range r.s.length).flatMap fun k : Nat => R.filter fun x => decide (x.1 = (k : Int)) := by
  refine by_key (fun x : Pr2 => x.1) r.s.length (h.srt.imp fun {x y} hp => ?_) fun x hx => h.ok.tab x hx
  rw [plt_iff] at hp
  simp only [pcOf] at hp
  rcases hp with hp | hp
  · omega
  · omega
theorem RowsQ.roots (h : RowsQ r R) : rootsR r R = (List.range r.s.length).flatMap fun k : Nat => if (tabAt r.s (k : Int)).par < 0 then (ofR R (k : Int) fun _ => true).map fun l => ((k : Int), l) else [] := by
  unfold rootsR
  conv => lhs; rw [h.tabs]
  rw [List.filter_flatMap]
  refine fm_congr fun k _ => ?_
  rw [List.filter_filter]
  split
  · rename_i hk
    unfold ofR
    rw [List.map_map]
    have e : (R.filter fun a => decide ((tabAt r.s a.1).par < 0) && decide (a.1 = (k : Int))) = R.filter fun x => decide (x.1 = (k : Int)) && true := by
      refine List.filter_congr fun x _ => ?_
      by_cases h1 : x.1 = (k : Int)
      · simp [h1, hk]
      · simp [h1]
    rw [e]
    have : ∀ l : List Pr2, (∀ x ∈ l, x.1 = (k : Int)) → l = l.map ((fun l => ((k : Int), l)) ∘ fun x => x.2) := by
      intro l hl
      induction l with
      | nil => rfl
      | cons a l ih =>
        rw [List.map_cons, ← ih fun x hx => hl x (List.mem_cons_of_mem _ hx)]
        have := hl a (List.mem_cons_self ..)
        simp only [Function.comp_apply]
        rw [← this]
    exact this _ fun x hx => by
      have := (List.mem_filter.1 hx).2
      simpa using this
  · rename_i hk
    rw [List.filter_eq_nil_iff]
    intro x _
    simp only [Bool.and_eq_true, decide_eq_true_eq, not_and]
    intro h1 h2
    rw [h2] at h1
    exact hk h1
end
end Go.Proofs.YtphaegcoldpclaaGreatDoor
set_option linter.unusedSimpArgs false
set_option linter.unusedVariables false
set_option maxRecDepth 100000
namespace Go.Proofs.YtphaegcoldpclaaGreatDoor
open Go Go.Fx Go.Proofs Go.Pl

set_option maxHeartbeats 2000000 in
theorem sEqual_spec (a c : List Vl) (u w : Value) (P : HProp) (hA : Vw P 4 u (a.map valV)) (hB : Vw P 4 w (c.map valV)) (hz : a.length ≤ 140737488355328) :
    FSpec Tryz.prog 94 [u, w] [P] Unit (fun _ => True) (fun _ => .bool (decide (a = c))) (fun _ => [P]) := by
  have la : (a.map valV).length = a.length := by simp
  have lc : (c.map valV).length = c.length := by simp
  refine spec_intro [] _ Tryz.func94 rfl Tryz.ntmps94 (by rfl) (fun w0 R => ?_)
  refine ok_learn (VwIn.slice (VwIn.here hA)) ?_
  rintro ⟨pu, cu, rfl⟩
  refine ok_learn (VwIn.slice (VwIn.here hB)) ?_
  rintro ⟨pw, cw, rfl⟩
  cases t0 : (!decide (((a.map valV).length : Int) = ((c.map valV).length : Int))) with
  | true =>
    have hne : decide (a = c) = false := by simp; intro e; subst e; simp at t0
    rw [hne]
    repeat' (first | (refine go_Y ?_; intros) | (refine gs_Y ?_ ?_ <;> (intro hgd; try (simp only [Bool.not_true, Bool.not_false] at hgd))) | (refine gc_Y ?_ ?_ <;> intro _) | fail)
    (refine rt_Y (y := ()) (hrs := Tryz.results94) (hv := ?_) (hφ := ?_))
    · rfl
    · trivial
  | false =>
    have hlen : a.length = c.length := by simp at t0; omega
    repeat' (first | (refine go_Y ?_; intros) | (refine gs_Y ?_ ?_ <;> (intro hgd; try (simp only [Bool.not_true, Bool.not_false] at hgd))) | (refine gc_Y ?_ ?_ <;> intro _) | fail)
    refine ok_loop' (γ := Nat) (fun i ρ L => i ≤ a.length ∧ a.take i = c.take i ∧ Knows ρ [(0, .slice pu (a.map valV).length cu), (1, .slice pw (c.map valV).length cw), (12, .int .i64 ((a.map valV).length : Int)), (13, .int .i64 i)] ∧ L = [P] ++ R) (fun i => a.length - i) 0 ⟨by omega, by simp, ⟨rfl, rfl, rfl, rfl, trivial⟩, rfl⟩ ?_
    rintro i ρ L ⟨hi, he, hk, rfl⟩
    refine ok_regs hk ?_
    cases t1 : decide ((i : Int) < ((a.map valV).length : Int)) with
    | false =>
      have hie : i = a.length := by have := of_decide_eq_false t1; omega
      have hac : decide (a = c) = true := by
        rw [hie, List.take_length] at he
        rw [hlen, List.take_length] at he
        simp [he]
      rw [hac]
      repeat' (first | (refine go_Y ?_; intros) | (refine gs_Y ?_ ?_ <;> (intro hgd; try (simp only [Bool.not_true, Bool.not_false] at hgd))) | (refine gc_Y ?_ ?_ <;> intro _) | fail)
      (refine rt_Y (y := ()) (hrs := Tryz.results94) (hv := ?_) (hφ := ?_))
      · rfl
      · trivial
    | true =>
      have h : i < a.length := by have := of_decide_eq_true t1; omega
      have hc' : i < c.length := by omega
      have hx : (a.map valV)[i]? = some (valV a[i]) := by rw [List.getElem?_map, List.getElem?_eq_getElem h]; rfl
      have hy : (c.map valV)[i]? = some (valV c[i]) := by rw [List.getElem?_map, List.getElem?_eq_getElem hc']; rfl
      have hn1 : i < (a.map valV).length := by omega
      have hn2 : i < (c.map valV).length := by omega
      have t1a : a.take (i + 1) = a.take i ++ [a[i]] := List.take_succ_eq_append_getElem h
      have t1c : c.take (i + 1) = c.take i ++ [c[i]] := List.take_succ_eq_append_getElem hc'
      have hq := eqL_valV a[i] c[i]
      have hdiff : a[i] ≠ c[i] → decide (a = c) = false := fun hn => by
        simp only [decide_eq_false_iff_not]
        intro e; subst e; exact hn rfl
      refine ok_learn (VwIn.base (n := 4) (p := pu) (len := (a.map valV).length) (cap := cu) (xs := a.map valV) (VwIn.here hA) (by intro e; rw [e] at hn1; simp at hn1)) ?_
      rintro ⟨bu, ou, rfl⟩
      refine ok_learn (VwIn.base (n := 4) (p := pw) (len := (c.map valV).length) (cap := cw) (xs := c.map valV) (VwIn.here hB) (by intro e; rw [e] at hn2; simp at hn2)) ?_
      rintro ⟨bw, ow, rfl⟩
      generalize a[i] = x at hx hq hdiff t1a
      generalize c[i] = y at hy hq hdiff t1c
      obtain ⟨xk, xi, xr, xs⟩ := x
      obtain ⟨yk, yi, yr, ys⟩ := y
      dsimp only [valV] at hx hy hq
      cases hn : nilB BinOp.neq (eqL [TypeDesc.int .u8, TypeDesc.int .i64, TypeDesc.int .u64, TypeDesc.string] [Value.int .u8 xk, Value.int .i64 xi, Value.int .u64 xr, Value.string xs] [Value.int .u8 yk, Value.int .i64 yi, Value.int .u64 yr, Value.string ys]) with
      | true =>
        have hd : (⟨xk, xi, xr, xs⟩ : Vl) ≠ ⟨yk, yi, yr, ys⟩ := by
          rw [hq] at hn
          have : decide ((⟨xk, xi, xr, xs⟩ : Vl) = ⟨yk, yi, yr, ys⟩) = false := by simpa only [nilB, Bool.not_eq_true'] using hn
          exact of_decide_eq_false this
        rw [hdiff hd]
        repeat' (first | (refine go_Y ?_; intros) | (refine gs_Y ?_ ?_ <;> (intro hgd; try (simp only [Bool.not_true, Bool.not_false] at hgd))) | (refine gc_Y ?_ ?_ <;> intro _) | fail)
        (refine rt_Y (y := ()) (hrs := Tryz.results94) (hv := ?_) (hφ := ?_))
        · rfl
        · trivial
      | false =>
        have hd : (⟨xk, xi, xr, xs⟩ : Vl) = ⟨yk, yi, yr, ys⟩ := by
          rw [hq] at hn
          have : decide ((⟨xk, xi, xr, xs⟩ : Vl) = ⟨yk, yi, yr, ys⟩) = true := by simpa only [nilB, Bool.not_eq_false'] using hn
          exact of_decide_eq_true this
        repeat' (first | (refine go_Y ?_; intros) | (refine gs_Y ?_ ?_ <;> (intro hgd; try (simp only [Bool.not_true, Bool.not_false] at hgd))) | (refine gc_Y ?_ ?_ <;> intro _) | fail)
        refine cont_map (L' := [P] ++ R) entD ?_
        refine cont_back (i + 1) ⟨h, by rw [t1a, t1c, he, hd], ⟨rfl, rfl, rfl, rfl, trivial⟩, rfl⟩ (by omega)

set_option maxHeartbeats 2000000 in
theorem both_spec (ka kb : List Dm) (u w : Value) (P : HProp) (hA : Vw P 3 u (ka.map docV)) (hB : Vw P 3 w (kb.map docV)) (hz : ka.length ≤ 140737488355328) (hz2 : kb.length ≤ 140737488355328)
    (heq : ∀ x ∈ ka, ∀ y ∈ kb, FSpec Tryz.prog 62 [.agg (docV x).toArray, .agg (docV y).toArray] [P] Unit (fun _ => True) (fun _ => .bool (sameD x.c y.c)) (fun _ => [P])) :
    FSpec Tryz.prog 95 [u, w, .func (.func 62) #[] #[]] [P] Unit (fun _ => True) (fun _ => .bool (sameK (Dm.cK ka) (Dm.cK kb))) (fun _ => [P]) := by
  have la : (ka.map docV).length = ka.length := by simp
  have lb : (kb.map docV).length = kb.length := by simp
  refine spec_intro [] _ Tryz.func95 rfl Tryz.ntmps95 (by rfl) (fun w0 R => ?_)
  refine ok_learn (VwIn.slice (VwIn.here hA)) ?_
  rintro ⟨pu, cu, rfl⟩
  refine ok_learn (VwIn.slice (VwIn.here hB)) ?_
  rintro ⟨pw, cw, rfl⟩
  repeat' (first | (refine go_Y ?_; intros) | (refine gs_Y ?_ ?_ <;> (intro hgd; try (simp only [Bool.not_true, Bool.not_false] at hgd))) | (refine gc_Y ?_ ?_ <;> intro _) | fail)
  have hmin : (if ((kb.map docV).length : Int) < ((ka.map docV).length : Int) then ((kb.map docV).length : Int) else ((ka.map docV).length : Int)) = ((min ka.length kb.length : Nat) : Int) := by rw [la, lb]; split <;> omega
  refine ok_loop' (γ := Nat) (fun i ρ L => i ≤ min ka.length kb.length ∧ sameK (Dm.cK (ka.drop i)) (Dm.cK (kb.drop i)) = sameK (Dm.cK ka) (Dm.cK kb) ∧ Knows ρ [(0, .slice pu (ka.map docV).length cu), (1, .slice pw (kb.map docV).length cw), (2, .func (.func 62) #[] #[]), (12, .int .i64 (if ((kb.map docV).length : Int) < ((ka.map docV).length : Int) then ((kb.map docV).length : Int) else ((ka.map docV).length : Int))), (13, .int .i64 i)] ∧ L = [P] ++ R) (fun i => ka.length - i)
    0 ⟨by omega, rfl, ⟨rfl, rfl, rfl, rfl, rfl, trivial⟩, rfl⟩ ?_
  rintro i ρ L ⟨hi, hinv, hk, rfl⟩
  refine ok_regs hk ?_
  cases t1 : decide ((i : Int) < (if ((kb.map docV).length : Int) < ((ka.map docV).length : Int) then ((kb.map docV).length : Int) else ((ka.map docV).length : Int))) with
  | false =>
    have hie : i = min ka.length kb.length := by have := of_decide_eq_false t1; rw [hmin] at this; omega
    have hres : sameK (Dm.cK ka) (Dm.cK kb) = decide (((ka.map docV).length : Int) = ((kb.map docV).length : Int)) := by
      rw [← hinv]
      by_cases e : ka.length = kb.length
      · have e1 : ka.drop i = [] := List.drop_of_length_le (by omega)
        have e2 : kb.drop i = [] := List.drop_of_length_le (by omega)
        rw [e1, e2]
        simp only [Dm.cK, sameK]
        symm; rw [la, lb, decide_eq_true_iff]; omega
      · have hf : decide (((ka.map docV).length : Int) = ((kb.map docV).length : Int)) = false := by rw [la, lb, decide_eq_false_iff_not]; omega
        rw [hf]
        rcases Nat.lt_or_ge ka.length kb.length with h | h
        · have e1 : ka.drop i = [] := List.drop_of_length_le (by omega)
          rw [e1, List.drop_eq_getElem_cons (show i < kb.length by omega)]
          simp only [Dm.cK, sameK]
        · have e1 : kb.drop i = [] := List.drop_of_length_le (by omega)
          rw [e1, List.drop_eq_getElem_cons (show i < ka.length by omega)]
          simp only [Dm.cK, sameK]
    repeat' (first | (refine go_Y ?_; intros) | (refine gs_Y ?_ ?_ <;> (intro hgd; try (simp only [Bool.not_true, Bool.not_false] at hgd))) | (refine gc_Y ?_ ?_ <;> intro _) | fail)
    (refine rt_Y (y := ()) (hrs := Tryz.results95) (hv := ?_) (hφ := ?_))
    · rw [hres]; rfl
    · trivial
  | true =>
    have h0 : i < min ka.length kb.length := by have := of_decide_eq_true t1; rw [hmin] at this; omega
    have ha0 : i < ka.length := by omega
    have hb0 : i < kb.length := by omega
    have hx : (ka.map docV)[i]? = some (docV ka[i]) := by rw [List.getElem?_map, List.getElem?_eq_getElem ha0]; rfl
    have hy : (kb.map docV)[i]? = some (docV kb[i]) := by rw [List.getElem?_map, List.getElem?_eq_getElem hb0]; rfl
    have hn1 : i < (ka.map docV).length := by omega
    have hn2 : i < (kb.map docV).length := by omega
    have hs := heq _ (List.getElem_mem ha0) _ (List.getElem_mem hb0)
    rw [List.drop_eq_getElem_cons ha0, List.drop_eq_getElem_cons hb0] at hinv
    simp only [Dm.cK, sameK] at hinv
    refine ok_learn (VwIn.base (n := 3) (p := pu) (len := (ka.map docV).length) (cap := cu) (xs := ka.map docV) (VwIn.here hA) (by intro e; rw [e] at hn1; simp at hn1)) ?_
    rintro ⟨bu, ou, rfl⟩
    refine ok_learn (VwIn.base (n := 3) (p := pw) (len := (kb.map docV).length) (cap := cw) (xs := kb.map docV) (VwIn.here hB) (by intro e; rw [e] at hn2; simp at hn2)) ?_
    rintro ⟨bw, ow, rfl⟩
    generalize ka[i] = x at hx hs hinv
    generalize kb[i] = y at hy hs hinv
    generalize sameD x.c y.c = sb at hs hinv
    obtain ⟨xt, ⟨xl, hxl⟩, xr, ⟨xk, hxk⟩, xs⟩ := x
    obtain ⟨yt, ⟨yl, hyl⟩, yr, ⟨yk, hyk⟩, ys⟩ := y
    dsimp only [docV] at hx hy hs
    have hv := vspec_fn hs
    cases sb with
    | true =>
      rw [Bool.true_and] at hinv
      repeat' (first | (refine go_Y ?_; intros) | (refine gs_Y ?_ ?_ <;> (intro hgd; try (simp only [Bool.not_true, Bool.not_false] at hgd))) | (refine gc_Y ?_ ?_ <;> intro _) | fail)
      refine clV_Y (hv) ?_
      intro _ _
      repeat' (first | (refine go_Y ?_; intros) | (refine gs_Y ?_ ?_ <;> (intro hgd; try (simp only [Bool.not_true, Bool.not_false] at hgd))) | (refine gc_Y ?_ ?_ <;> intro _) | fail)
      refine cont_back (i + 1) ⟨h0, hinv, ⟨rfl, rfl, rfl, rfl, rfl, trivial⟩, rfl⟩ (by omega)
    | false =>
      rw [Bool.false_and] at hinv
      repeat' (first | (refine go_Y ?_; intros) | (refine gs_Y ?_ ?_ <;> (intro hgd; try (simp only [Bool.not_true, Bool.not_false] at hgd))) | (refine gc_Y ?_ ?_ <;> intro _) | fail)
      refine clV_Y (hv) ?_
      intro _ _
      repeat' (first | (refine go_Y ?_; intros) | (refine gs_Y ?_ ?_ <;> (intro hgd; try (simp only [Bool.not_true, Bool.not_false] at hgd))) | (refine gc_Y ?_ ?_ <;> intro _) | fail)
      (refine rt_Y (y := ()) (hrs := Tryz.results95) (hv := ?_) (hφ := ?_))
      · rw [← hinv]; rfl
      · trivial
set_option maxHeartbeats 2000000 in
theorem equal_spec {P : HProp} {a : Dm} (ha : DocR P a) : ∀ {b : Dm}, DocR P b → FSpec Tryz.prog 62 [.agg (docV a).toArray, .agg (docV b).toArray] [P] Unit (fun _ => True) (fun _ => .bool (sameD a.c b.c)) (fun _ => [P]) := by
  induction ha with
  | @mk t lv kv row kids h1 h2 h3 h4 h5 h6 ih =>
  intro b hb
  cases hb with
  | @mk t' lv' kv' row' kids' g1 g2 g3 g4 g5 g6 =>
  have hbo := both_spec kids kids' kv.1 kv'.1 P h2 g2 h5 g5 (fun x hx y hy => ih x hx (g3 y hy))
  have heq := sEqual_spec row row' lv.1 lv'.1 P h1 g1 h4
  obtain ⟨lv, hlv⟩ := lv
  obtain ⟨kv, hkv⟩ := kv
  obtain ⟨lv', hlv'⟩ := lv'
  obtain ⟨kv', hkv'⟩ := kv'
  dsimp only [docV, Dm.c] at hbo heq ⊢
  simp only [sameD]
  cases e1 : decide (t = t') with
  | false =>
    rw [Bool.false_and]
    refine spec_intro [] _ Tryz.func62 rfl Tryz.ntmps62 (by rfl) (fun w0 R => ?_)
    repeat' (first | (refine go_Y ?_; intros) | (refine gs_Y ?_ ?_ <;> (intro hgd; try (simp only [Bool.not_true, Bool.not_false] at hgd))) | (refine gc_Y ?_ ?_ <;> intro _) | fail)
    (refine rt_Y (y := ()) (hrs := Tryz.results62) (hv := ?_) (hφ := ?_))
    · rfl
    · trivial
  | true =>
    rw [Bool.true_and]
    cases e2 : decide (row = row') with
    | false =>
      rw [e2] at heq
      rw [Bool.false_and]
      refine spec_intro [] _ Tryz.func62 rfl Tryz.ntmps62 (by rfl) (fun w0 R => ?_)
      repeat' (first | (refine go_Y ?_; intros) | (refine gs_Y ?_ ?_ <;> (intro hgd; try (simp only [Bool.not_true, Bool.not_false] at hgd))) | (refine gc_Y ?_ ?_ <;> intro _) | fail)
      refine cl_Y (heq) ?_
      intro _ _
      repeat' (first | (refine go_Y ?_; intros) | (refine gs_Y ?_ ?_ <;> (intro hgd; try (simp only [Bool.not_true, Bool.not_false] at hgd))) | (refine gc_Y ?_ ?_ <;> intro _) | fail)
      (refine rt_Y (y := ()) (hrs := Tryz.results62) (hv := ?_) (hφ := ?_))
      · rfl
      · trivial
    | true =>
      rw [e2] at heq
      rw [Bool.true_and]
      refine spec_intro [] _ Tryz.func62 rfl Tryz.ntmps62 (by rfl) (fun w0 R => ?_)
      repeat' (first | (refine go_Y ?_; intros) | (refine gs_Y ?_ ?_ <;> (intro hgd; try (simp only [Bool.not_true, Bool.not_false] at hgd))) | (refine gc_Y ?_ ?_ <;> intro _) | fail)
      refine cl_Y (heq) ?_
      intro _ _
      repeat' (first | (refine go_Y ?_; intros) | (refine gs_Y ?_ ?_ <;> (intro hgd; try (simp only [Bool.not_true, Bool.not_false] at hgd))) | (refine gc_Y ?_ ?_ <;> intro _) | fail)
      refine cl_Y (hbo) ?_
      intro _ _
      repeat' (first | (refine go_Y ?_; intros) | (refine gs_Y ?_ ?_ <;> (intro hgd; try (simp only [Bool.not_true, Bool.not_false] at hgd))) | (refine gc_Y ?_ ?_ <;> intro _) | fail)
      (refine rt_Y (y := ()) (hrs := Tryz.results62) (hv := ?_) (hφ := ?_))
      · rfl
      · trivial
set_option maxHeartbeats 2000000 in
theorem aSame_spec {P : HProp} {a b : Dm} (ha : DocR P a) (hb : DocR P b) : FSpec Tryz.prog 26 [.agg (docV a).toArray, .agg (docV b).toArray] [P] Unit (fun _ => True) (fun _ => .bool (decide (0 < sizeS a.c) && (decide (0 < sizeS b.c) && sameD a.c b.c))) (fun _ => [P]) := by
  have s1 := aSize_spec ha
  have s2 := aSize_spec hb
  have s3 := equal_spec ha hb
  generalize sizeS a.c = x at s1
  generalize sizeS b.c = y at s2
  generalize sameD a.c b.c = z at s3
  obtain ⟨t, ⟨lv, hlv⟩, row, ⟨kv, hkv⟩, kids⟩ := a
  obtain ⟨t', ⟨lv', hlv'⟩, row', ⟨kv', hkv'⟩, kids'⟩ := b
  dsimp only [docV] at s1 s2 s3 ⊢
  cases e1 : decide (0 < x) with
  | false =>
    rw [Bool.false_and]
    refine spec_intro [] _ Tryz.func26 rfl Tryz.ntmps26 (by rfl) (fun w0 R => ?_)
    repeat' (first | (refine go_Y ?_; intros) | (refine gs_Y ?_ ?_ <;> (intro hgd; try (simp only [Bool.not_true, Bool.not_false] at hgd))) | (refine gc_Y ?_ ?_ <;> intro _) | fail)
    refine cl_Y (s1) ?_
    intro _ _
    repeat' (first | (refine go_Y ?_; intros) | (refine gs_Y ?_ ?_ <;> (intro hgd; try (simp only [Bool.not_true, Bool.not_false] at hgd))) | (refine gc_Y ?_ ?_ <;> intro _) | fail)
    (refine rt_Y (y := ()) (hrs := Tryz.results26) (hv := ?_) (hφ := ?_))
    · rfl
    · trivial
  | true =>
    rw [Bool.true_and]
    cases e2 : decide (0 < y) with
    | false =>
      rw [Bool.false_and]
      refine spec_intro [] _ Tryz.func26 rfl Tryz.ntmps26 (by rfl) (fun w0 R => ?_)
      repeat' (first | (refine go_Y ?_; intros) | (refine gs_Y ?_ ?_ <;> (intro hgd; try (simp only [Bool.not_true, Bool.not_false] at hgd))) | (refine gc_Y ?_ ?_ <;> intro _) | fail)
      refine cl_Y (s1) ?_
      intro _ _
      repeat' (first | (refine go_Y ?_; intros) | (refine gs_Y ?_ ?_ <;> (intro hgd; try (simp only [Bool.not_true, Bool.not_false] at hgd))) | (refine gc_Y ?_ ?_ <;> intro _) | fail)
      refine cl_Y (s2) ?_
      intro _ _
      repeat' (first | (refine go_Y ?_; intros) | (refine gs_Y ?_ ?_ <;> (intro hgd; try (simp only [Bool.not_true, Bool.not_false] at hgd))) | (refine gc_Y ?_ ?_ <;> intro _) | fail)
      (refine rt_Y (y := ()) (hrs := Tryz.results26) (hv := ?_) (hφ := ?_))
      · rfl
      · trivial
    | true =>
      rw [Bool.true_and]
      refine spec_intro [] _ Tryz.func26 rfl Tryz.ntmps26 (by rfl) (fun w0 R => ?_)
      repeat' (first | (refine go_Y ?_; intros) | (refine gs_Y ?_ ?_ <;> (intro hgd; try (simp only [Bool.not_true, Bool.not_false] at hgd))) | (refine gc_Y ?_ ?_ <;> intro _) | fail)
      refine cl_Y (s1) ?_
      intro _ _
      repeat' (first | (refine go_Y ?_; intros) | (refine gs_Y ?_ ?_ <;> (intro hgd; try (simp only [Bool.not_true, Bool.not_false] at hgd))) | (refine gc_Y ?_ ?_ <;> intro _) | fail)
      refine cl_Y (s2) ?_
      intro _ _
      repeat' (first | (refine go_Y ?_; intros) | (refine gs_Y ?_ ?_ <;> (intro hgd; try (simp only [Bool.not_true, Bool.not_false] at hgd))) | (refine gc_Y ?_ ?_ <;> intro _) | fail)
      refine cl_Y (s3) ?_
      intro _ _
      repeat' (first | (refine go_Y ?_; intros) | (refine gs_Y ?_ ?_ <;> (intro hgd; try (simp only [Bool.not_true, Bool.not_false] at hgd))) | (refine gc_Y ?_ ?_ <;> intro _) | fail)
      (refine rt_Y (y := ()) (hrs := Tryz.results26) (hv := ?_) (hφ := ?_))
      · rfl
      · trivial
end Go.Proofs.YtphaegcoldpclaaGreatDoor
