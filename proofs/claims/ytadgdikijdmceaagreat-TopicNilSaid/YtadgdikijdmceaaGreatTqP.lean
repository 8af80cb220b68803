import Derived.Test.YtadgdikijdmceaaGreatTqN
set_option linter.unusedSimpArgs false
set_option linter.unusedVariables false
namespace Go.Proofs.YtadgdikijdmceaaGreat
open Go Go.Fx Go.Pl

def FEq (F G : FS) : Prop := ∀ k, fget k F = fget k G
theorem FEq.refl (F : FS) : FEq F F := fun _ => rfl
theorem FEq.symm {F G : FS} (h : FEq F G) : FEq G F := fun k => (h k).symm
theorem FEq.trans {F G H : FS} (a : FEq F G) (b : FEq G H) : FEq F H := fun k => (a k).trans (b k)
theorem FEq.text {F G : FS} (h : FEq F G) (k : BA) : ftext k F = ftext k G := by unfold ftext; rw [h]
theorem FEq.put {F G : FS} (h : FEq F G) (k v : BA) : FEq (fput k v F) (fput k v G) := fun j => by rw [fget_put, fget_put, h]
theorem FEq.del {F G : FS} (h : FEq F G) (k : BA) (hF : (F.map (·.1)).Nodup) (hG : (G.map (·.1)).Nodup) : FEq (fdel k F) (fdel k G) := fun j => by
  by_cases e : j = k
  · subst e; rw [fget_del_self _ hF, fget_del_self _ hG]
  · rw [fget_del _ _ e, fget_del _ _ e, h]
theorem fget_app (k : BA) (A B : FS) : fget k (A ++ B) = (fget k A).or (fget k B) := by
  induction A with
  | nil => simp [fget]
  | cons x A ih =>
    obtain ⟨b, u⟩ := x
    rw [List.cons_append, fget, fget]
    split
    · rfl
    · exact ih
theorem fput_new {k v : BA} : ∀ {A : FS}, k ∉ A.map (·.1) → fput k v A = A ++ [(k, v)]
  | [], _ => rfl
  | (b, u) :: A, h => by
    simp only [List.map_cons, List.mem_cons, not_or] at h
    rw [fput, if_neg h.1, fput_new h.2, List.cons_append]
theorem fput_end {k v w : BA} : ∀ {A : FS}, k ∉ A.map (·.1) → fput k v (A ++ [(k, w)]) = A ++ [(k, v)]
  | [], _ => by simp [fput]
  | (b, u) :: A, h => by
    simp only [List.map_cons, List.mem_cons, not_or] at h
    rw [List.cons_append, fput, if_neg h.1, fput_end h.2, List.cons_append]
theorem fdel_end {k w : BA} : ∀ {A : FS}, k ∉ A.map (·.1) → fdel k (A ++ [(k, w)]) = A
  | [], _ => by simp [fdel]
  | (b, u) :: A, h => by
    simp only [List.map_cons, List.mem_cons, not_or] at h
    rw [List.cons_append, fdel, if_neg h.1, fdel_end h.2]
theorem fget_end {k w : BA} {A : FS} (h : k ∉ A.map (·.1)) : fget k (A ++ [(k, w)]) = some w := by
  rw [fget_app, fget_notin h]; simp [fget]
theorem mem_keys {k : BA} {F : FS} : k ∈ F.map (·.1) ↔ (fget k F).isSome = true := by
  constructor
  · intro h
    cases e : fget k F with
    | some v => rfl
    | none => exact absurd h (fget_none e)
  · intro h
    cases Classical.em (k ∈ F.map (·.1)) with
    | inl h => exact h
    | inr h' => rw [fget_notin h'] at h; cases h
theorem FEq.perm {F G : FS} (h : FEq F G) (hF : (F.map (·.1)).Nodup) (hG : (G.map (·.1)).Nodup) : (F.map (·.1)).Perm (G.map (·.1)) :=
  (List.perm_ext_iff_of_nodup hF hG).2 fun k => by rw [mem_keys, mem_keys, h]

structure Nm (name : BA) (l : List Sg) : Prop where
  file : ∀ x ∈ l, x.file = fileT name x.first
  lt : ∀ x ∈ l, x.first < 281474976710656
  rise : l.Pairwise fun a b => a.first < b.first
theorem Nm.keys {name : BA} {l : List Sg} (h : Nm name l) : (l.map (·.file)).Pairwise fun a b => a.data.toList < b.data.toList := by
  rw [List.pairwise_map]
  refine List.Pairwise.imp_of_mem ?_ h.rise
  intro a b ha hb hab
  rw [h.file a ha, h.file b hb]
  exact fileT_lt name (h.lt b hb) hab
theorem Nm.nodup {name : BA} {l : List Sg} (h : Nm name l) : (l.map (·.file)).Nodup := h.keys.imp fun {a b} hab e => by
  subst e
  exact List.lt_irrefl _ hab
theorem Nm.files {name : BA} {l : List Sg} (h : Nm name l) : filesT name (l.map (·.file)) = l.map fun x => ⟨x.file, x.first, []⟩ := by
  unfold filesT
  rw [List.filterMap_map]
  have e : ∀ x ∈ l, (fileS name ∘ fun x : Sg => x.file) x = some ⟨x.file, x.first, []⟩ := fun x hx => by
    show fileS name x.file = _
    rw [h.file x hx, fileS_fileT name _ (h.lt x hx)]
  have g : ∀ (m : List Sg), (∀ x ∈ m, (fileS name ∘ fun x : Sg => x.file) x = some ⟨x.file, x.first, []⟩) → m.filterMap (fileS name ∘ fun x : Sg => x.file) = m.map fun x => (⟨x.file, x.first, []⟩ : Sg) := by
    intro m
    induction m with
    | nil => intro _; rfl
    | cons y m ih =>
      intro hm
      rw [List.filterMap_cons, hm y (List.mem_cons_self ..), List.map_cons, ih (fun x hx => hm x (List.mem_cons_of_mem _ hx))]
  exact g l e
def Fl (name : BA) (seg : Nat) : Nat → List Sg → Prop
  | _, [] => True
  | f, x :: l => x.file = fileT name f ∧ x.first = f ∧ x.recs.length = seg ∧ Fl name seg (f + seg) l
theorem Fl.app {name : BA} {seg : Nat} : ∀ {a b : List Sg} {f : Nat}, Fl name seg f (a ++ b) ↔ Fl name seg f a ∧ Fl name seg (f + seg * a.length) b
  | [], b, f => by simp [Fl]
  | x :: a, b, f => by
    have h := Fl.app (name := name) (seg := seg) (a := a) (b := b) (f := f + seg)
    rw [List.cons_append, Fl, Fl, h, List.length_cons, Nat.mul_add, Nat.mul_one]
    rw [show f + seg + seg * a.length = f + (seg * a.length + seg) by omega]
    constructor
    · rintro ⟨h1, h2, h3, h4, h5⟩; exact ⟨⟨h1, h2, h3, h4⟩, h5⟩
    · rintro ⟨⟨h1, h2, h3, h4⟩, h5⟩; exact ⟨h1, h2, h3, h4, h5⟩
theorem Fl.mem {name : BA} {seg : Nat} : ∀ {l : List Sg} {f : Nat}, Fl name seg f l → ∀ x ∈ l, x.file = fileT name x.first ∧ f ≤ x.first ∧ x.first + seg ≤ f + seg * l.length ∧ x.recs.length = seg
  | [], f, _, x, hx => by simp at hx
  | y :: l, f, ⟨h1, h2, h3, h4⟩, x, hx => by
    rw [List.length_cons, Nat.mul_add, Nat.mul_one]
    rcases List.mem_cons.1 hx with rfl | hx
    · exact ⟨by rw [h2]; exact h1, by omega, by omega, h3⟩
    · obtain ⟨a, b, c, d⟩ := Fl.mem h4 x hx
      exact ⟨a, by omega, by omega, d⟩
theorem Fl.rise {name : BA} {seg : Nat} (hs : 1 ≤ seg) : ∀ {l : List Sg} {f : Nat}, Fl name seg f l → l.Pairwise fun a b => a.first < b.first
  | [], f, _ => List.Pairwise.nil
  | y :: l, f, ⟨h1, h2, h3, h4⟩ => List.Pairwise.cons (fun x hx => by have := (Fl.mem h4 x hx).2.1; omega) (Fl.rise hs h4)
structure Sq (name : BA) (seg f : Nat) (l0 : List Sg) (x : Sg) : Prop where
  fl : Fl name seg f l0
  first : x.first = f + seg * l0.length
  file : x.file = fileT name x.first
  le : x.recs.length ≤ seg
  lt : x.first < 281474976710656
theorem Sq.nm {name : BA} {seg f : Nat} {l0 : List Sg} {x : Sg} (h : Sq name seg f l0 x) (hs : 1 ≤ seg) : Nm name (l0 ++ [x]) where
  file y hy := by
    rcases List.mem_append.1 hy with hy | hy
    · exact (h.fl.mem y hy).1
    · rw [List.mem_singleton.1 hy]; exact h.file
  lt y hy := by
    have h1 := h.lt
    have h2 := h.first
    rcases List.mem_append.1 hy with hy | hy
    · have := (h.fl.mem y hy).2.2.1; omega
    · rw [List.mem_singleton.1 hy]; exact h1
  rise := by
    rw [List.pairwise_append]
    refine ⟨h.fl.rise hs, List.pairwise_singleton _ _, fun a ha b hb => ?_⟩
    rw [List.mem_singleton.1 hb]
    have := (h.fl.mem a ha).2.2.1
    have h2 := h.first
    omega
theorem Sq.notin {name : BA} {seg f : Nat} {l0 : List Sg} {x : Sg} (h : Sq name seg f l0 x) (hs : 1 ≤ seg) : x.file ∉ l0.map (·.file) := by
  have h1 := (h.nm hs).nodup
  rw [List.map_append, List.nodup_append] at h1
  intro hx
  exact h1.2.2 _ hx _ (List.mem_singleton.2 rfl) rfl
def fsS (l : List Sg) : FS := l.map fun x => (x.file, framesOf x.recs)
theorem fsS_keys (l : List Sg) : (fsS l).map (·.1) = l.map (·.file) := by unfold fsS; rw [List.map_map]; rfl
theorem fsS_app (a b : List Sg) : fsS (a ++ b) = fsS a ++ fsS b := by unfold fsS; rw [List.map_append]
def fsT (l0 : List Sg) (x : Sg) (t : BA) : FS := fsS l0 ++ [(x.file, framesOf x.recs ++ t)]
theorem fsT_keys (l0 : List Sg) (x : Sg) (t : BA) : (fsT l0 x t).map (·.1) = (l0 ++ [x]).map (·.file) := by unfold fsT; rw [List.map_append, fsS_keys, List.map_append]; rfl
theorem fget_fsS {l : List Sg} {x : Sg} (h : (l.map (·.file)).Nodup) (hx : x ∈ l) : fget x.file (fsS l) = some (framesOf x.recs) := by
  induction l with
  | nil => simp at hx
  | cons y l ih =>
    rw [List.map_cons, List.nodup_cons] at h
    show fget x.file ((y.file, framesOf y.recs) :: fsS l) = _
    rw [fget]
    rcases List.mem_cons.1 hx with rfl | hx
    · rw [if_pos rfl]
    · rw [if_neg (fun e => h.1 (by rw [← e]; exact List.mem_map_of_mem hx))]
      exact ih h.2 hx
end Go.Proofs.YtadgdikijdmceaaGreat
