/- THE FRAMEWORK, PART B: heaps in pieces; what holds of a world piece by piece ('Sats'); a frame's temporaries as a function ('Agr'). -/
import Derived.Test.YtgmobpngcilgjaaFwA
namespace Go.Fx
open Go

/-! ### Pieces of a heap -/
abbrev Frag := Nat → Option Obj
abbrev HProp := Frag → Prop

def Frag.le (h h' : Frag) : Prop := ∀ b o, h b = some o → h' b = some o
def Frag.apart (h h' : Frag) : Prop := ∀ b o o', h b = some o → h' b = some o' → False

theorem Frag.le.refl (h : Frag) : h.le h := fun _ _ e => e
theorem Frag.le.trans {a b c : Frag} (h : a.le b) (k : b.le c) : a.le c := fun x o e => k x o (h x o e)

def SatL : List HProp → Frag → Prop
  | [], _ => True
  | H :: L, h => ∃ h1 h2 : Frag, Frag.apart h1 h2 ∧ h1.le h ∧ h2.le h ∧ H h1 ∧ SatL L h2

theorem SatL.mono : ∀ {L : List HProp} {h h' : Frag}, SatL L h → h.le h' → SatL L h'
  | [], _, _, _, _ => trivial
  | _ :: _, _, _, ⟨h1, h2, ha, l1, l2, hH, hL⟩, hl => ⟨h1, h2, ha, l1.trans hl, l2.trans hl, hH, hL⟩

theorem SatL.tail {A : HProp} {L : List HProp} {h : Frag} (s : SatL (A :: L) h) : SatL L h :=
  let ⟨_, _, _, _, l2, _, hL⟩ := s; hL.mono l2

theorem SatL.consMono {A : HProp} {L L' : List HProp} {h : Frag} (s : SatL (A :: L) h) (k : ∀ h, SatL L h → SatL L' h) : SatL (A :: L') h :=
  let ⟨h1, h2, ha, l1, l2, hH, hL⟩ := s; ⟨h1, h2, ha, l1, l2, hH, k _ hL⟩

theorem SatL.headMono {A B : HProp} {L : List HProp} {h : Frag} (s : SatL (A :: L) h) (k : ∀ h, A h → B h) : SatL (B :: L) h :=
  let ⟨h1, h2, ha, l1, l2, hH, hL⟩ := s; ⟨h1, h2, ha, l1, l2, k _ hH, hL⟩

def Frag.join (h h' : Frag) : Frag := fun b => match h b with | some o => some o | none => h' b

theorem Frag.join_le {a b c : Frag} (h : a.le c) (k : b.le c) : (a.join b).le c := by
  intro x o e
  unfold Frag.join at e
  split at e
  · rename_i o' h'; cases e; exact h _ _ h'
  · exact k _ _ e

theorem Frag.le_join (a b : Frag) : a.le (a.join b) := fun x o e => by unfold Frag.join; rw [e]
theorem Frag.le_join' {a b : Frag} (ha : Frag.apart a b) : b.le (a.join b) := fun x o e => by
  unfold Frag.join
  split
  · rename_i o' h'; exact (ha _ _ _ h' e).elim
  · exact e

theorem Frag.apart.symm {a b : Frag} (h : Frag.apart a b) : Frag.apart b a := fun x o o' e e' => h x o' o e' e
theorem Frag.apart.sub {a b a' b' : Frag} (h : Frag.apart a b) (l : a'.le a) (l' : b'.le b) : Frag.apart a' b' := fun x o o' e e' => h x o o' (l _ _ e) (l' _ _ e')

theorem SatL.swap {A B : HProp} {L : List HProp} {h : Frag} (s : SatL (A :: B :: L) h) : SatL (B :: A :: L) h := by
  obtain ⟨h1, h2, ha, l1, l2, hA, h3, h4, hb, l3, l4, hB, hL⟩ := s
  have ha3 : Frag.apart h1 h3 := ha.sub (.refl _) l3
  have ha4 : Frag.apart h1 h4 := ha.sub (.refl _) l4
  refine ⟨h3, h1.join h4, ?_, l3.trans l2, Frag.join_le l1 (l4.trans l2), hB, h1, h4, ha4, Frag.le_join _ _, Frag.le_join' ha4, hA, hL⟩
  intro x o o' e e'
  unfold Frag.join at e'
  split at e'
  · rename_i o'' h''; exact ha3 _ _ _ h'' e
  · exact hb _ _ _ e e'

/-! ### To take a piece out of a row of pieces -/
inductive Sel : List HProp → HProp → List HProp → Prop
  | here {A : HProp} {L : List HProp} : Sel (A :: L) A L
  | there {A B : HProp} {L L' : List HProp} (h : Sel L A L') : Sel (B :: L) A (B :: L')

theorem Sel.out {L L' : List HProp} {A : HProp} (s : Sel L A L') : ∀ {h : Frag}, SatL L h → SatL (A :: L') h := by
  induction s with
  | here => exact fun h => h
  | there _ ih => exact fun h => (h.consMono fun _ k => ih k).swap

theorem Sel.back {L L' : List HProp} {A : HProp} (s : Sel L A L') : ∀ {h : Frag}, SatL (A :: L') h → SatL L h := by
  induction s with
  | here => exact fun h => h
  | there _ ih => exact fun h => h.swap.consMono fun _ k => ih k

inductive Take : List HProp → List HProp → List HProp → Prop
  | nil {L : List HProp} : Take L [] L
  | cons {L L1 pre R : List HProp} {A : HProp} (s : Sel L A L1) (t : Take L1 pre R) : Take L (A :: pre) R

theorem Take.out {L pre R : List HProp} (t : Take L pre R) : ∀ {h : Frag}, SatL L h → SatL (pre ++ R) h := by
  induction t with
  | nil => exact fun h => h
  | cons s _ ih => exact fun h => (s.out h).consMono fun _ k => ih k

/-- A cell of the list, put in another's place. -/
inductive Repl : List HProp → HProp → HProp → List HProp → Prop
  | here {A B : HProp} {L : List HProp} : Repl (A :: L) A B (B :: L)
  | there {A B C : HProp} {L L' : List HProp} (h : Repl L A B L') : Repl (C :: L) A B (C :: L')

theorem Repl.sel {L L' : List HProp} {A B : HProp} (s : Repl L A B L') : ∃ R, Sel L A R ∧ Sel L' B R := by
  induction s with
  | here => exact ⟨_, .here, .here⟩
  | there _ ih => obtain ⟨R, h1, h2⟩ := ih; exact ⟨_, .there h1, .there h2⟩

/-! ### What holds of a world -/
structure Sats (w0 w : World) (L : List HProp) : Prop where
  os : w.os = w0.os
  tape : w.tape = w0.tape
  output : w.output = w0.output
  size : w0.heap.size ≤ w.heap.size
  heap : SatL L (fun b => w.heap[b]?)

theorem Sats.map {w0 w : World} {L L' : List HProp} (s : Sats w0 w L) (k : ∀ h, SatL L h → SatL L' h) : Sats w0 w L' := ⟨s.os, s.tape, s.output, s.size, k _ s.heap⟩
theorem Sats.sel {w0 w : World} {L L' : List HProp} {A : HProp} (s : Sats w0 w L) (t : Sel L A L') : Sats w0 w (A :: L') := s.map fun _ h => t.out h
theorem Sats.unsel {w0 w : World} {L L' : List HProp} {A : HProp} (s : Sats w0 w (A :: L')) (t : Sel L A L') : Sats w0 w L := s.map fun _ h => t.back h
theorem Sats.take {w0 w : World} {L pre R : List HProp} (s : Sats w0 w L) (t : Take L pre R) : Sats w0 w (pre ++ R) := s.map fun _ h => t.out h
theorem Sats.head {w0 w : World} {L : List HProp} {A : HProp} (s : Sats w0 w (A :: L)) : ∃ h : Frag, h.le (fun b => w.heap[b]?) ∧ A h :=
  let ⟨h1, _, _, l1, _, hA, _⟩ := s.heap; ⟨h1, l1, hA⟩

/-- A block that holds just this. -/
def pts (b : Nat) (o : Obj) : HProp := fun h => h b = some o

/-- The blocks that stood in w0, as they stood. -/
def orig (w0 : World) : HProp := fun h => ∀ b, b < w0.heap.size → h b = w0.heap[b]?

/-- What a piece tells of a block. -/
def Rd (H : HProp) (b : Nat) (o : Obj) : Prop := ∀ h, H h → h b = some o
theorem Rd.pts (b : Nat) (o : Obj) : Rd (pts b o) b o := fun _ h => h
theorem Rd.orig {w0 : World} {b : Nat} {o : Obj} (hb : w0.heap[b]? = some o) : Rd (orig w0) b o := fun h hh => by
  rw [hh b (Array.getElem?_eq_some_iff.1 hb).1]; exact hb

inductive RdIn : List HProp → Nat → Obj → Prop
  | here {H : HProp} {L : List HProp} {b : Nat} {o : Obj} (h : Rd H b o) : RdIn (H :: L) b o
  | there {H : HProp} {L : List HProp} {b : Nat} {o : Obj} (h : RdIn L b o) : RdIn (H :: L) b o

theorem RdIn.satL {L : List HProp} {b : Nat} {o : Obj} (r : RdIn L b o) : ∀ {h : Frag}, SatL L h → h b = some o := by
  induction r with
  | here hr => rintro h ⟨h1, _, _, l1, _, hA, _⟩; exact l1 _ _ (hr _ hA)
  | there _ ih => exact fun s => ih s.tail

theorem RdIn.heap {w0 w : World} {L : List HProp} {b : Nat} {o : Obj} (r : RdIn L b o) (s : Sats w0 w L) : w.heap[b]? = some o := r.satL s.heap

/-! ### How a world turns -/
theorem Sats.update {w0 w w' : World} {L : List HProp} {b : Nat} {o o' : Obj} (s : Sats w0 w (pts b o :: L)) (h1 : w'.os = w.os) (h2 : w'.tape = w.tape) (h3 : w'.output = w.output)
    (h4 : w'.heap.size = w.heap.size) (h5 : w'.heap[b]? = some o') (h6 : ∀ k, k ≠ b → w'.heap[k]? = w.heap[k]?) : Sats w0 w' (pts b o' :: L) := by
  refine ⟨h1.trans s.os, h2.trans s.tape, h3.trans s.output, h4 ▸ s.size, ?_⟩
  obtain ⟨f1, f2, ha, l1, l2, hA, hL⟩ := s.heap
  refine ⟨fun x => if x = b then some o' else none, f2, ?_, ?_, ?_, by simp [pts], hL⟩
  · intro x p p' e e'
    dsimp only at e
    split at e
    · rename_i hx; subst hx; exact ha _ _ _ hA e'
    · cases e
  · intro x p e
    dsimp only at e
    split at e
    · rename_i hx; subst hx; cases e; exact h5
    · cases e
  · intro x p e
    have hx : x ≠ b := fun hx => by subst hx; exact ha _ _ _ hA e
    show w'.heap[x]? = some p
    rw [h6 x hx]
    exact l2 _ _ e

theorem Sats.alloc {w0 w : World} {L : List HProp} (s : Sats w0 w L) (o : Obj) : Sats w0 (w.alloc o) (pts w.heap.size o :: L) := by
  refine ⟨s.os, s.tape, s.output, by simpa using Nat.le_succ_of_le s.size, ?_⟩
  refine ⟨fun x => if x = w.heap.size then some o else none, fun b => w.heap[b]?, ?_, ?_, ?_, by simp [pts], s.heap⟩
  · intro x p p' e e'
    dsimp only at e e'
    split at e
    · rename_i hx; subst hx; simp at e'
    · cases e
  · intro x p e
    dsimp only at e
    split at e
    · rename_i hx; subst hx; cases e; show (w.heap.push o)[w.heap.size]? = _; simp
    · cases e
  · intro x p e
    dsimp only at e
    show (w.heap.push o)[x]? = some p
    rw [Array.getElem?_push, if_neg]
    · exact e
    · intro hx; subst hx; simp at e

theorem Sats.drew {w0 w : World} {L : List HProp} (s : Sats w0 w L) : Sats w0 { w with drawn := w.drawn + 1 } L := ⟨s.os, s.tape, s.output, s.size, s.heap⟩

theorem Sats.setCell {w0 w : World} {L : List HProp} {b off : Nat} {cs : Array Value} {T : TypeId} {fr : Nat × Nat} (s : Sats w0 w (pts b (.cells cs T fr) :: L)) (v : Value) :
    Sats w0 (w.setCell ⟨b, off, none⟩ v) (pts b (.cells (cs.setIfInBounds off v) T fr) :: L) := by
  have hb : w.heap[b]? = some (.cells cs T fr) := (RdIn.here (Rd.pts _ _)).heap s
  refine s.update rfl rfl rfl (by simp [World.setCell]) ?_ ?_
  · simp [World.setCell, Array.getElem?_modify, hb]
  · intro k hk
    simp only [World.setCell, Array.getElem?_modify]
    rw [if_neg (by omega)]

theorem Sats.setObj {w0 w : World} {L : List HProp} {b : Nat} {o : Obj} (s : Sats w0 w (pts b o :: L)) (o' : Obj) : Sats w0 { w with heap := w.heap.setIfInBounds b o' } (pts b o' :: L) := by
  have hb : w.heap[b]? = some o := (RdIn.here (Rd.pts _ _)).heap s
  have hlt := (Array.getElem?_eq_some_iff.1 hb).1
  refine s.update rfl rfl rfl (by simp) ?_ ?_
  · simp [hlt]
  · intro k hk
    simp only [Array.getElem?_setIfInBounds]
    rw [if_neg (by omega)]

theorem cell_of_heap {w : World} {b off : Nat} {cs : Array Value} {T : TypeId} {fr : Nat × Nat} {v : Value} (hb : w.heap[b]? = some (.cells cs T fr)) (hc : cs[off]? = some v) : w.cell? ⟨b, off, none⟩ = some v := by
  simp [World.cell?, hb, hc]

/-! ### The temporaries -/
abbrev Regs := Nat → Value

def upd (ρ : Regs) (d : Nat) (v : Value) : Regs := fun t => bif Nat.beq t d then v else ρ t
def updO (ρ : Regs) (d : Option Nat) (v : Value) : Regs := match d with | some d => upd ρ d v | none => ρ

theorem upd_self {ρ : Regs} {d : Nat} {v : Value} (h : ρ d = v) : upd ρ d v = ρ := by
  funext t
  unfold upd
  cases hb : Nat.beq t d with
  | true => rw [Nat.eq_of_beq_eq_true hb]; exact h.symm
  | false => rfl

def ev (ρ : Regs) : Operand → Value
  | .tmp t => ρ t
  | .const v => v
  | .global g => .pointer (some ⟨g, 0, none⟩)
  | .func f => .func (.func f) #[] #[]

structure Agr (nt : Nat) (ρ : Regs) (ds : List Deferred) (a : Act) : Prop where
  size : a.tmps.size = nt
  get : ∀ t, a.tmps.getD t undef = ρ t
  defers : a.defers = ds

theorem Agr.eval {nt : Nat} {ρ : Regs} {ds : List Deferred} {a : Act} (h : Agr nt ρ ds a) : a.eval = ev ρ := by
  funext x
  cases x with
  | tmp t => exact h.get t
  | _ => rfl

theorem Agr.put {nt : Nat} {ρ : Regs} {ds : List Deferred} {a : Act} (h : Agr nt ρ ds a) {d : Nat} (hd : d < nt) (v : Value) : Agr nt (upd ρ d v) ds (a.put (some d) v) := by
  refine ⟨by simp [Act.put, h.size], fun t => ?_, h.defers⟩
  simp only [Act.put, upd]
  cases hb : Nat.beq t d with
  | true =>
    have := Nat.eq_of_beq_eq_true hb
    subst this
    simp [h.size, hd]
  | false =>
    have hne : t ≠ d := fun e => by subst e; simp at hb
    rw [cond_false, ← h.get t]
    simp only [Array.getD_eq_getD_getElem?]
    rw [Array.getElem?_setIfInBounds_ne (Ne.symm hne)]

theorem Agr.putO {nt : Nat} {ρ : Regs} {ds : List Deferred} {a : Act} (h : Agr nt ρ ds a) {d : Option Nat} (hd : ∀ x, d = some x → x < nt) (v : Value) : Agr nt (updO ρ d v) ds (a.put d v) := by
  cases d with
  | none => exact ⟨h.size, h.get, h.defers⟩
  | some d => exact h.put (hd d rfl) v

def regsOf (args : List Value) : Regs := fun t => (args[t]?).getD undef

theorem Agr.start {nt : Nat} {args : List Value} (h : args.length ≤ nt) : Agr nt (regsOf args) [] { tmps := args.toArray ++ Array.replicate (nt - args.toArray.size) undef, defers := [] } := by
  refine ⟨by simp; omega, fun t => ?_, rfl⟩
  simp only [regsOf, Array.getD_eq_getD_getElem?]
  rcases Nat.lt_or_ge t args.length with h1 | h1
  · rw [Array.getElem?_append_left (by simpa using h1)]; simp
  · rw [Array.getElem?_append_right (by simpa using h1)]
    simp only [List.size_toArray, List.getElem?_eq_none h1, Option.getD_none]
    rw [Array.getElem?_replicate]
    split <;> rfl

end Go.Fx
