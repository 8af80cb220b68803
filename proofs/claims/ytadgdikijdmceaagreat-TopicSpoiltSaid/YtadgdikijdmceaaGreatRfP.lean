import Derived.Test.YtadgdikijdmceaaGreatG11
set_option linter.unusedVariables false
namespace Go.Proofs.YtadgdikijdmceaaGreat
open Go Go.Fx Go.Pl

def SF (l : FS) : Prop := l.Pairwise fun x y => ltS x.1 y.1 = true
theorem SF.nodup {l : FS} (h : SF l) : (l.map (·.1)).Nodup := List.pairwise_map.2 (h.imp fun h => ltS_ne h)
theorem mem_fget {l : FS} (h : (l.map (·.1)).Nodup) (n s : BA) : (n, s) ∈ l ↔ fget n l = some s := by
  induction l with
  | nil => simp [fget]
  | cons x l ih =>
    obtain ⟨k, v⟩ := x
    simp only [List.map_cons, List.nodup_cons] at h
    unfold fget
    by_cases hn : n = k
    · subst hn
      rw [if_pos rfl]
      simp only [List.mem_cons, Prod.mk.injEq, true_and, Option.some.injEq]
      constructor
      · rintro (rfl | hm)
        · rfl
        · exact absurd (List.mem_map_of_mem (f := (·.1)) hm) h.1
      · rintro rfl; exact .inl rfl
    · rw [if_neg hn]
      simp only [List.mem_cons, Prod.mk.injEq, hn, false_and, false_or]
      exact ih h.2
structure RelF (T l : FS) : Prop where
  srt : SF l
  get : ∀ n, fget n l = fget n T
theorem RelF.perm {T l : FS} (h : RelF T l) (hT : (T.map (·.1)).Nodup) : l.Perm T := by
  have n1 : l.Nodup := List.Pairwise.of_map (f := (·.1)) (fun a b hab e => hab (by rw [e])) h.srt.nodup
  have n2 : T.Nodup := List.Pairwise.of_map (f := (·.1)) (fun a b hab e => hab (by rw [e])) hT
  refine (List.perm_ext_iff_of_nodup n1 n2).2 ?_
  rintro ⟨n, s⟩
  rw [mem_fget h.srt.nodup, mem_fget hT, h.get]
theorem RelF.used {T l : FS} (h : RelF T l) (hT : (T.map (·.1)).Nodup) : fused l = fused T := ((h.perm hT).map _).sum_nat
theorem RelF.nil : RelF [] [] := ⟨List.Pairwise.nil, fun _ => rfl⟩
theorem RelF.text {T l : FS} (h : RelF T l) (n : BA) : ftext n l = ftext n T := by unfold ftext; rw [h.get]

def insF (f : BA × BA) : FS → FS
  | [] => [f]
  | x :: l => if ltS f.1 x.1 then f :: x :: l else if f.1 = x.1 then f :: l else x :: insF f l
theorem insF_mem (f : BA × BA) : ∀ (l : FS) (y : BA × BA), y ∈ insF f l → y = f ∨ y ∈ l
  | [], y, h => by simp [insF] at h; exact .inl h
  | x :: l, y, h => by
    unfold insF at h
    split at h
    · simpa using h
    · split at h
      · simp only [List.mem_cons] at h ⊢
        exact h.imp id .inr
      · simp only [List.mem_cons] at h ⊢
        rcases h with rfl | h
        · exact .inr (.inl rfl)
        · exact (insF_mem f l y h).imp id .inr
theorem insF_srt (f : BA × BA) : ∀ {l : FS}, SF l → SF (insF f l)
  | [], _ => List.pairwise_singleton ..
  | x :: l, h => by
    have h' := List.pairwise_cons.1 h
    unfold insF
    split
    · rename_i h1
      refine List.pairwise_cons.2 ⟨fun y hy => ?_, h⟩
      rcases List.mem_cons.1 hy with rfl | hy
      · exact h1
      · exact ltS_trans h1 (h'.1 y hy)
    · rename_i h1
      split
      · rename_i h2
        exact List.pairwise_cons.2 ⟨fun y hy => by rw [h2]; exact h'.1 y hy, h'.2⟩
      · rename_i h2
        refine List.pairwise_cons.2 ⟨fun y hy => ?_, insF_srt f h'.2⟩
        rcases insF_mem f l y hy with rfl | hy
        · rcases ltS_tri x.1 y.1 with h3 | h3 | h3
          · exact h3
          · exact absurd h3.symm h2
          · exact absurd h3 h1
        · exact h'.1 y hy
theorem insF_get (k v j : BA) : ∀ l : FS, fget j (insF (k, v) l) = if j = k then some v else fget j l
  | [] => by simp only [insF, fget]
  | (b, u) :: l => by
    unfold insF
    split
    · simp only [fget]
    · split
      · rename_i h2
        dsimp only at h2
        subst h2
        simp only [fget]
        by_cases hj : j = k <;> simp [hj]
      · rename_i h2
        dsimp only at h2
        simp only [fget]
        by_cases hj : j = b
        · subst hj
          rw [if_pos rfl, if_neg (Ne.symm h2), if_pos rfl]
        · rw [if_neg hj, if_neg hj]
          exact insF_get k v j l
def outF (n : BA) (l : FS) : FS := l.filter fun x => !(x.1.toList == n.toList)
theorem outF_srt {n : BA} {l : FS} (h : SF l) : SF (outF n l) := h.filter _
theorem outF_get (n j : BA) : ∀ l : FS, fget j (outF n l) = if j = n then none else fget j l
  | [] => by simp [outF, fget]
  | (b, u) :: l => by
    have ih := outF_get n j l
    unfold outF at ih ⊢
    rw [List.filter_cons]
    by_cases hb : b = n
    · subst hb
      rw [if_neg (by simp), ih]
      by_cases hj : j = b
      · simp [hj]
      · simp [hj, fget]
    · have h1 : (!(b.toList == n.toList)) = true := by
        cases hc : (b.toList == n.toList) with
        | false => rfl
        | true => exact absurd (eqS_iff.1 hc) hb
      rw [if_pos h1]
      simp only [fget]
      rw [ih]
      by_cases hj : j = b
      · subst hj; simp [hb]
      · simp [hj]
theorem fget_delF (k j : BA) : ∀ {l : FS}, (l.map (·.1)).Nodup → fget j (fdel k l) = if j = k then none else fget j l
  | [], _ => by simp [fdel, fget]
  | (b, u) :: l, h => by
    simp only [List.map_cons, List.nodup_cons] at h
    unfold fdel
    split
    · rename_i hk
      subst hk
      by_cases hj : j = k
      · subst hj
        rw [if_pos rfl]
        cases hg : fget j l with
        | none => rfl
        | some v => exact absurd (List.mem_map_of_mem (f := (·.1)) ((mem_fget h.2 j v).2 hg)) h.1
      · rw [if_neg hj]; simp only [fget]; rw [if_neg hj]
    · rename_i hk
      simp only [fget]
      rw [fget_delF k j h.2]
      by_cases hj : j = b
      · subst hj; rw [if_pos rfl, if_pos rfl, if_neg (Ne.symm hk)]
      · rw [if_neg hj, if_neg hj]

def callV : Cl → List Value
  | .app n s => [.int .i64 1, .string n, .string s, .int .i64 0]
  | .trunc n k => [.int .i64 2, .string n, .string ⟨#[]⟩, .int .i64 k]
  | .ren a b => [.int .i64 3, .string a, .string b, .int .i64 0]
  | .rem a => [.int .i64 4, .string a, .string ⟨#[]⟩, .int .i64 0]
def doneR (l : FS) : Cl → FS
  | .app n s => insF (n, ftext n l ++ s) l
  | .trunc n k => insF (n, (ftext n l).extract 0 k.toNat) l
  | .ren a b => insF (b, ftext a l) (outF a l)
  | .rem a => outF a l
def okR : Cl → Prop
  | .ren a b => a ≠ b
  | _ => True
theorem RelF.done {T l : FS} (h : RelF T l) (hT : (T.map (·.1)).Nodup) {c : Cl} (hc : okR c) : RelF (c.run T) (doneR l c) := by
  cases c with
  | app n s => exact ⟨insF_srt _ h.srt, fun j => by show fget j (insF _ _) = fget j (fput _ _ _); rw [insF_get, fget_put, h.get, h.text]⟩
  | trunc n k => exact ⟨insF_srt _ h.srt, fun j => by show fget j (insF _ _) = fget j (fput _ _ _); rw [insF_get, fget_put, h.get, h.text]⟩
  | ren a b =>
    refine ⟨insF_srt _ (outF_srt h.srt), fun j => ?_⟩
    show fget j (insF _ _) = fget j (fdel _ (fput _ _ _))
    rw [insF_get, outF_get, fget_delF _ _ (fput_nodup _ _ hT), fget_put, h.get, h.text]
    by_cases hj : j = b
    · subst hj
      rw [if_pos rfl, if_neg (fun e => hc e.symm), if_pos rfl]
    · rw [if_neg hj, if_neg hj]
  | rem a =>
    refine ⟨outF_srt h.srt, fun j => ?_⟩
    show fget j (outF _ _) = fget j (fdel _ _)
    rw [outF_get, fget_delF _ _ hT, h.get]

end Go.Proofs.YtadgdikijdmceaaGreat
