/- Texts merged: RfP RfA RfB RfC. -/
import Derived.Test.YtbagfdolcabniaaGreatDkY
/- The document's disk (layer 2), in plain Lean: files by rising names. -/
set_option linter.unusedVariables false
namespace Go.Proofs.YtbagfdolcabniaaGreat
open Go Go.Fx Go.Pl

/-- Rising names. -/
def SF (l : FS) : Prop := l.Pairwise fun x y => ltS x.1 y.1 = true
theorem SF.nodup {l : FS} (h : SF l) : (l.map (·.1)).Nodup := List.pairwise_map.2 (h.imp fun h => ltS_ne h)
theorem mem_fget {l : FS} (h : (l.map (·.1)).Nodup) (n s : BA) : (n, s) ∈ l ↔ fget n l = some s := by
  induction l with
  | nil => simp [fget]
  | cons x l ih =>
    obtain ⟨k, v⟩ := x
    simp only [List.map_cons, List.nodup_cons] at h
    unfold fget
    by_cases hn : n = k
    · subst hn
      rw [if_pos rfl]
      simp only [List.mem_cons, Prod.mk.injEq, true_and, Option.some.injEq]
      constructor
      · rintro (rfl | hm)
        · rfl
        · exact absurd (List.mem_map_of_mem (f := (·.1)) hm) h.1
      · rintro rfl; exact .inl rfl
    · rw [if_neg hn]
      simp only [List.mem_cons, Prod.mk.injEq, hn, false_and, false_or]
      exact ih h.2
/-- A row of files tells what a map has. -/
structure RelF (T l : FS) : Prop where
  srt : SF l
  get : ∀ n, fget n l = fget n T
theorem RelF.perm {T l : FS} (h : RelF T l) (hT : (T.map (·.1)).Nodup) : l.Perm T := by
  have n1 : l.Nodup := List.Pairwise.of_map (f := (·.1)) (fun a b hab e => hab (by rw [e])) h.srt.nodup
  have n2 : T.Nodup := List.Pairwise.of_map (f := (·.1)) (fun a b hab e => hab (by rw [e])) hT
  refine (List.perm_ext_iff_of_nodup n1 n2).2 ?_
  rintro ⟨n, s⟩
  rw [mem_fget h.srt.nodup, mem_fget hT, h.get]
theorem RelF.used {T l : FS} (h : RelF T l) (hT : (T.map (·.1)).Nodup) : fused l = fused T := ((h.perm hT).map _).sum_nat
theorem RelF.nil : RelF [] [] := ⟨List.Pairwise.nil, fun _ => rfl⟩
theorem RelF.text {T l : FS} (h : RelF T l) (n : BA) : ftext n l = ftext n T := by unfold ftext; rw [h.get]

/-! ### With, without -/
def insF (f : BA × BA) : FS → FS
  | [] => [f]
  | x :: l => if ltS f.1 x.1 then f :: x :: l else if f.1 = x.1 then f :: l else x :: insF f l
theorem insF_mem (f : BA × BA) : ∀ (l : FS) (y : BA × BA), y ∈ insF f l → y = f ∨ y ∈ l
  | [], y, h => by simp [insF] at h; exact .inl h
  | x :: l, y, h => by
    unfold insF at h
    split at h
    · simpa using h
    · split at h
      · simp only [List.mem_cons] at h ⊢
        exact h.imp id .inr
      · simp only [List.mem_cons] at h ⊢
        rcases h with rfl | h
        · exact .inr (.inl rfl)
        · exact (insF_mem f l y h).imp id .inr
theorem insF_srt (f : BA × BA) : ∀ {l : FS}, SF l → SF (insF f l)
  | [], _ => List.pairwise_singleton ..
  | x :: l, h => by
    have h' := List.pairwise_cons.1 h
    unfold insF
    split
    · rename_i h1
      refine List.pairwise_cons.2 ⟨fun y hy => ?_, h⟩
      rcases List.mem_cons.1 hy with rfl | hy
      · exact h1
      · exact ltS_trans h1 (h'.1 y hy)
    · rename_i h1
      split
      · rename_i h2
        exact List.pairwise_cons.2 ⟨fun y hy => by rw [h2]; exact h'.1 y hy, h'.2⟩
      · rename_i h2
        refine List.pairwise_cons.2 ⟨fun y hy => ?_, insF_srt f h'.2⟩
        rcases insF_mem f l y hy with rfl | hy
        · rcases ltS_tri x.1 y.1 with h3 | h3 | h3
          · exact h3
          · exact absurd h3.symm h2
          · exact absurd h3 h1
        · exact h'.1 y hy
theorem insF_get (k v j : BA) : ∀ l : FS, fget j (insF (k, v) l) = if j = k then some v else fget j l
  | [] => by simp only [insF, fget]
  | (b, u) :: l => by
    unfold insF
    split
    · simp only [fget]
    · split
      · rename_i h2
        dsimp only at h2
        subst h2
        simp only [fget]
        by_cases hj : j = k <;> simp [hj]
      · rename_i h2
        dsimp only at h2
        simp only [fget]
        by_cases hj : j = b
        · subst hj
          rw [if_pos rfl, if_neg (Ne.symm h2), if_pos rfl]
        · rw [if_neg hj, if_neg hj]
          exact insF_get k v j l
def outF (n : BA) (l : FS) : FS := l.filter fun x => !(x.1.toList == n.toList)
theorem outF_srt {n : BA} {l : FS} (h : SF l) : SF (outF n l) := h.filter _
theorem outF_get (n j : BA) : ∀ l : FS, fget j (outF n l) = if j = n then none else fget j l
  | [] => by simp [outF, fget]
  | (b, u) :: l => by
    have ih := outF_get n j l
    unfold outF at ih ⊢
    rw [List.filter_cons]
    by_cases hb : b = n
    · subst hb
      rw [if_neg (by simp), ih]
      by_cases hj : j = b
      · simp [hj]
      · simp [hj, fget]
    · have h1 : (!(b.toList == n.toList)) = true := by
        cases hc : (b.toList == n.toList) with
        | false => rfl
        | true => exact absurd (eqS_iff.1 hc) hb
      rw [if_pos h1]
      simp only [fget]
      rw [ih]
      by_cases hj : j = b
      · subst hj; simp [hb]
      · simp [hj]
theorem fget_delF (k j : BA) : ∀ {l : FS}, (l.map (·.1)).Nodup → fget j (fdel k l) = if j = k then none else fget j l
  | [], _ => by simp [fdel, fget]
  | (b, u) :: l, h => by
    simp only [List.map_cons, List.nodup_cons] at h
    unfold fdel
    split
    · rename_i hk
      subst hk
      by_cases hj : j = k
      · subst hj
        rw [if_pos rfl]
        cases hg : fget j l with
        | none => rfl
        | some v => exact absurd (List.mem_map_of_mem (f := (·.1)) ((mem_fget h.2 j v).2 hg)) h.1
      · rw [if_neg hj]; simp only [fget]; rw [if_neg hj]
    · rename_i hk
      simp only [fget]
      rw [fget_delF k j h.2]
      by_cases hj : j = b
      · subst hj; rw [if_pos rfl, if_pos rfl, if_neg (Ne.symm hk)]
      · rw [if_neg hj, if_neg hj]

/-! ### Calls -/
def callV : Cl → List Value
  | .app n s => [.int .i64 1, .string n, .string s, .int .i64 0]
  | .trunc n k => [.int .i64 2, .string n, .string ⟨#[]⟩, .int .i64 k]
  | .ren a b => [.int .i64 3, .string a, .string b, .int .i64 0]
  | .rem a => [.int .i64 4, .string a, .string ⟨#[]⟩, .int .i64 0]
def doneR (l : FS) : Cl → FS
  | .app n s => insF (n, ftext n l ++ s) l
  | .trunc n k => insF (n, (ftext n l).extract 0 k.toNat) l
  | .ren a b => insF (b, ftext a l) (outF a l)
  | .rem a => outF a l
def okR : Cl → Prop
  | .ren a b => a ≠ b
  | _ => True
theorem RelF.done {T l : FS} (h : RelF T l) (hT : (T.map (·.1)).Nodup) {c : Cl} (hc : okR c) : RelF (c.run T) (doneR l c) := by
  cases c with
  | app n s => exact ⟨insF_srt _ h.srt, fun j => by show fget j (insF _ _) = fget j (fput _ _ _); rw [insF_get, fget_put, h.get, h.text]⟩
  | trunc n k => exact ⟨insF_srt _ h.srt, fun j => by show fget j (insF _ _) = fget j (fput _ _ _); rw [insF_get, fget_put, h.get, h.text]⟩
  | ren a b =>
    refine ⟨insF_srt _ (outF_srt h.srt), fun j => ?_⟩
    show fget j (insF _ _) = fget j (fdel _ (fput _ _ _))
    rw [insF_get, outF_get, fget_delF _ _ (fput_nodup _ _ hT), fget_put, h.get, h.text]
    by_cases hj : j = b
    · subst hj
      rw [if_pos rfl, if_neg (fun e => hc e.symm), if_pos rfl]
    · rw [if_neg hj, if_neg hj]
  | rem a =>
    refine ⟨outF_srt h.srt, fun j => ?_⟩
    show fget j (outF _ _) = fget j (fdel _ _)
    rw [outF_get, fget_delF _ _ hT, h.get]

/-! ### What is told of files -/
theorem less_lt : ∀ (a b : List UInt8), Op.bytesLess a b = true → a < b
  | _, [], h => by cases ‹List UInt8› <;> simp [Op.bytesLess] at h
  | [], _ :: _, _ => List.nil_lt_cons ..
  | x :: a, y :: b, h => by
    rw [List.cons_lt_cons_iff]
    by_cases hxy : x = y
    · subst hxy
      refine .inr ⟨rfl, less_lt a b ?_⟩
      simpa [Op.bytesLess] using h
    · refine .inl ?_
      simpa [Op.bytesLess, hxy] using h
theorem cut_allF (t : BA) (h : t.size ≤ 16777216) : cut t 0 16777216 = t := by
  unfold cut
  dsimp only
  have e1 : (if (t.size : Int) < 0 then (t.size : Int) else 0).toNat = 0 := by rw [if_neg (by omega)]; rfl
  rw [e1]
  have e2 : t.extract 0 t.size = t := by apply data_inj; simp
  rw [e2]
  have e3 : (if (t.size : Int) < 16777216 then (t.size : Int) else 16777216).toNat = t.size := by split <;> omega
  rw [e3, e2]
theorem filesL_rel {T l : FS} (h : RelF T l) (hT : (T.map (·.1)).Nodup) (hu : fused T ≤ 16777216) : filesL T = l := by
  have hp := (h.perm hT).map (·.1)
  have hsrt : ((l.map (·.1)).map fun s : BA => s.data.toList).Pairwise fun x y => decide (x ≤ y) = true := by
    rw [List.pairwise_map, List.pairwise_map]
    refine h.srt.imp fun {x y} hxy => ?_
    have := less_lt _ _ hxy
    rw [ByteArray.toList_eq, ByteArray.toList_eq] at this
    exact decide_eq_true (List.le_of_lt this)
  have hs : sortN (T.map (·.1)) = l.map (·.1) := by
    have hm : ((T.map (·.1)).map fun s : BA => s.data.toList).mergeSort (fun x y => decide (x ≤ y)) = (l.map (·.1)).map fun s : BA => s.data.toList := by
      rw [← Go.mergeSort_of_perm (hp.map _)]
      exact List.mergeSort_of_pairwise hsrt
    unfold sortN
    rw [hm, List.map_map]
    have : ∀ x ∈ l.map (·.1), ((fun x : List UInt8 => (⟨x.toArray⟩ : BA)) ∘ fun s : BA => s.data.toList) x = x := fun x _ => data_inj (by simp)
    rw [List.map_congr_left this]; simp
  unfold filesL
  rw [hs, List.map_map]
  have : ∀ x ∈ l, (fileN T ∘ fun x => x.1) x = x := by
    rintro ⟨n, s⟩ hx
    show (n, cut (ftext n T) 0 16777216) = (n, s)
    have e := (mem_fget h.srt.nodup n s).1 hx
    rw [h.get] at e
    have et : ftext n T = s := by unfold ftext; rw [e]; rfl
    rw [cut_allF _ (by have := ftext_le n T; omega), et]
  rw [List.map_congr_left this]; simp
end Go.Proofs.YtbagfdolcabniaaGreat
/- The walks of the document's disk (fascicleref02): find, text, without, with. -/
-- @DEFS Y
set_option linter.unusedSimpArgs false
set_option linter.unusedVariables false
set_option maxRecDepth 4000
namespace Go.Proofs.YtbagfdolcabniaaGreat
open Go Go.Fx Go.Proofs Go.Pl

theorem refFind_spec (u : Value) (A : HProp) (l : FS) (n : BA) (hA : Vw A 2 u (l.map fileV)) (hl : l.length ≤ 1099511627776) :
    FSpec Tryz.prog 73 [u, .string n] [A] Nat (fun i => ∀ s, fget n l = some s → l[i]? = some (n, s)) (fun i => .tuple #[.int .i64 (i : Int), .bool (fget n l).isSome]) (fun _ => [A]) := by
  have hlm : (l.map fileV).length = l.length := by simp
  refine spec_intro [] _ Tryz.func73 rfl Tryz.ntmps73 (by rfl) (fun w0 R => ?_)
  refine ok_learn (VwIn.slice (VwIn.here hA)) ?_
  rintro ⟨pu, cu, rfl⟩
  repeat' (first | (refine go_Y ?_; intros) | (refine gs_Y ?_ ?_ <;> (intro hgd; try (simp only [Bool.not_true, Bool.not_false] at hgd))) | (refine gc_Y ?_ ?_ <;> intro _) | fail)
  refine ok_loop' (γ := Nat) (fun i ρ L => i ≤ l.length ∧ fget n l = fget n (l.drop i) ∧ Knows ρ [(0, .slice pu (l.map fileV).length cu), (1, .string n), (6, .int .i64 i)] ∧ L = [A] ++ R) (fun i => l.length - i) 0 ⟨by simp, rfl, ⟨rfl, rfl, rfl, trivial⟩, rfl⟩ ?_
  rintro i ρ L ⟨hi, hg, hk, rfl⟩
  refine ok_regs hk ?_
  cases t1 : decide ((i : Int) < ((l.map fileV).length : Int)) with
  | true =>
    have h : i < l.length := by have := of_decide_eq_true t1; omega
    have hn1 : i < (l.map fileV).length := by omega
    have hx : (l.map fileV)[i]? = some (fileV l[i]) := by rw [List.getElem?_map, List.getElem?_eq_getElem h]; rfl
    have hli : l[i]? = some l[i] := List.getElem?_eq_getElem h
    have hd : l.drop i = l[i] :: l.drop (i + 1) := List.drop_eq_getElem_cons h
    refine ok_learn (VwIn.base (VwIn.here hA) (by intro e; rw [e] at hn1; simp at hn1)) ?_
    rintro ⟨bu, ou, rfl⟩
    generalize l[i] = x at hx hli hd
    obtain ⟨xn, xs⟩ := x
    dsimp only [fileV] at hx
    rw [hd] at hg
    cases t2 : (xn.toList == n.toList) with
    | true =>
      have hxn : n = xn := (eqS_iff.1 t2).symm
      have hsm : fget n l = some xs := by rw [hg]; simp [fget, hxn]
      have hs : (fget n l).isSome = true := by rw [hsm]; rfl
      rw [hs]
      repeat' (first | (refine go_Y ?_; intros) | (refine gs_Y ?_ ?_ <;> (intro hgd; try (simp only [Bool.not_true, Bool.not_false] at hgd))) | (refine gc_Y ?_ ?_ <;> intro _) | fail)
      (refine rt_Y (y := i) (hrs := Tryz.results73) (hv := ?_) (hφ := ?_))
      · rfl
      · intro s hs'
        rw [hsm] at hs'
        cases hs'
        rw [hli, hxn]
    | false =>
      have hne : n ≠ xn := by intro e; subst e; simp at t2
      have hg2 : fget n l = fget n (l.drop (i + 1)) := by rw [hg]; simp [fget, hne]
      repeat' (first | (refine go_Y ?_; intros) | (refine gs_Y ?_ ?_ <;> (intro hgd; try (simp only [Bool.not_true, Bool.not_false] at hgd))) | (refine gc_Y ?_ ?_ <;> intro _) | fail)
      refine cont_back (i + 1) ⟨h, hg2, ⟨rfl, rfl, rfl, trivial⟩, rfl⟩ (by omega)
  | false =>
    have hie : i = l.length := by have := of_decide_eq_false t1; omega
    have hno : fget n l = none := by rw [hg, hie, List.drop_length]; rfl
    rw [hno]
    repeat' (first | (refine go_Y ?_; intros) | (refine gs_Y ?_ ?_ <;> (intro hgd; try (simp only [Bool.not_true, Bool.not_false] at hgd))) | (refine gc_Y ?_ ?_ <;> intro _) | fail)
    (refine rt_Y (y := 0) (hrs := Tryz.results73) (hv := ?_) (hφ := ?_))
    · rfl
    · intro s hs; cases hs
theorem refText_spec (u : Value) (A : HProp) (l : FS) (n : BA) (hA : Vw A 2 u (l.map fileV)) (hl : l.length ≤ 1099511627776) :
    FSpec Tryz.prog 74 [u, .string n] [A] Unit (fun _ => True) (fun _ => .string (ftext n l)) (fun _ => [A]) := by
  have hf := refFind_spec u A l n hA hl
  refine spec_intro [] _ Tryz.func74 rfl Tryz.ntmps74 (by rfl) (fun w0 R => ?_)
  refine ok_learn (VwIn.slice (VwIn.here hA)) ?_
  rintro ⟨pu, cu, rfl⟩
  cases hg : fget n l with
  | none =>
    rw [hg] at hf
    rw [show ftext n l = ⟨#[]⟩ by unfold ftext; rw [hg]; rfl]
    repeat' (first | (refine go_Y ?_; intros) | (refine gs_Y ?_ ?_ <;> (intro hgd; try (simp only [Bool.not_true, Bool.not_false] at hgd))) | (refine gc_Y ?_ ?_ <;> intro _) | fail)
    refine cl_Y (hf) ?_
    intro i _
    repeat' (first | (refine go_Y ?_; intros) | (refine gs_Y ?_ ?_ <;> (intro hgd; try (simp only [Bool.not_true, Bool.not_false] at hgd))) | (refine gc_Y ?_ ?_ <;> intro _) | fail)
    (refine rt_Y (y := ()) (hrs := Tryz.results74) (hv := ?_) (hφ := ?_))
    · rfl
    · trivial
  | some s =>
    rw [hg] at hf
    rw [show ftext n l = s by unfold ftext; rw [hg]; rfl]
    repeat' (first | (refine go_Y ?_; intros) | (refine gs_Y ?_ ?_ <;> (intro hgd; try (simp only [Bool.not_true, Bool.not_false] at hgd))) | (refine gc_Y ?_ ?_ <;> intro _) | fail)
    refine cl_Y (hf) ?_
    intro i hi
    have hli := hi s rfl
    have hx : (l.map fileV)[i]? = some (fileV (n, s)) := by rw [List.getElem?_map, hli]; rfl
    have hn1 : i < (l.map fileV).length := (List.getElem?_eq_some_iff.1 hx).1
    refine ops_learn (VwIn.base (VwIn.here hA) (by intro e; rw [e] at hn1; simp at hn1)) ?_
    rintro ⟨bu, ou, rfl⟩
    dsimp only [fileV] at hx
    repeat' (first | (refine go_Y ?_; intros) | (refine gs_Y ?_ ?_ <;> (intro hgd; try (simp only [Bool.not_true, Bool.not_false] at hgd))) | (refine gc_Y ?_ ?_ <;> intro _) | fail)
    (refine rt_Y (y := ()) (hrs := Tryz.results74) (hv := ?_) (hφ := ?_))
    · rfl
    · trivial
theorem outF_snoc (n : BA) (l : FS) (x : BA × BA) : outF n (l ++ [x]) = outF n l ++ (if x.1.toList == n.toList then [] else [x]) := by
  unfold outF
  rw [List.filter_append]
  congr 1
  by_cases h : (x.1.toList == n.toList) = true
  · simp [h]
  · simp [h]
theorem outF_len (n : BA) (l : FS) : (outF n l).length ≤ l.length := List.length_filter_le _ _
theorem refWithout_spec (u : Value) (A : HProp) (l : FS) (n : BA) (hA : Vw A 2 u (l.map fileV)) (hl : l.length ≤ 1000000) :
    FSpec Tryz.prog 78 [u, .string n] [A] { v : Value // v.oneCell' = true } (fun _ => True) (fun y => y.1) (fun y => [row 67 2 y.1 ((outF n l).map fileV), A]) := by
  have hlm : (l.map fileV).length = l.length := by simp
  refine spec_intro [] _ Tryz.func78 rfl Tryz.ntmps78 (by rfl) (fun w0 R => ?_)
  refine ok_learn (VwIn.slice (VwIn.here hA)) ?_
  rintro ⟨pu, cu, rfl⟩
  repeat' (first | (refine go_Y ?_; intros) | (refine gs_Y ?_ ?_ <;> (intro hgd; try (simp only [Bool.not_true, Bool.not_false] at hgd))) | (refine gc_Y ?_ ?_ <;> intro _) | fail)
  refine ok_map (fun _ h => rowNilK (e := 67) (n := 2) h) ?_
  refine ok_map (L' := [row 67 2 (.slice none 0 0) ((outF n (l.take 0)).map fileV), A] ++ R) entD ?_
  refine ok_loop' (γ := Nat × { v : Value // v.oneCell' = true }) (fun g ρ L => g.1 ≤ l.length ∧ Knows ρ [(0, .slice pu (l.map fileV).length cu), (1, .string n), (5, g.2.1), (6, .int .i64 g.1)] ∧ L = [row 67 2 g.2.1 ((outF n (l.take g.1)).map fileV), A] ++ R) (fun g => l.length - g.1) (0, ⟨.slice none 0 0, rfl⟩) ⟨by simp, ⟨rfl, rfl, rfl, rfl, trivial⟩, rfl⟩ ?_
  rintro ⟨i, ⟨vo, hvo⟩⟩ ρ L ⟨hi, hk, rfl⟩
  dsimp only at hi hk ⊢
  refine ok_regs hk ?_
  cases t1 : decide ((i : Int) < ((l.map fileV).length : Int)) with
  | true =>
    have h : i < l.length := by have := of_decide_eq_true t1; omega
    have hn1 : i < (l.map fileV).length := by omega
    have hx : (l.map fileV)[i]? = some (fileV l[i]) := by rw [List.getElem?_map, List.getElem?_eq_getElem h]; rfl
    have htk : outF n (l.take (i + 1)) = outF n (l.take i) ++ (if l[i].1.toList == n.toList then [] else [l[i]]) := by rw [List.take_succ_eq_append_getElem h, outF_snoc]
    have hol := outF_len n (l.take i)
    rw [List.length_take] at hol
    refine ok_learn (VwIn.base (VwIn.there (VwIn.here hA)) (by intro e; rw [e] at hn1; simp at hn1)) ?_
    rintro ⟨bu, ou, rfl⟩
    generalize l[i] = x at hx htk
    generalize outF n (l.take i) = o at hol htk
    have hom : (o.map fileV).length = o.length := by simp
    obtain ⟨xn, xs⟩ := x
    dsimp only [fileV] at hx
    cases t2 : (!(xn.toList == n.toList)) with
    | true =>
      have e : outF n (l.take (i + 1)) = o ++ [(xn, xs)] := by rw [htk]; simp only [Bool.not_eq_true'] at t2; dsimp only; rw [t2]; rfl
      repeat' (first | (refine go_Y ?_; intros) | (refine gs_Y ?_ ?_ <;> (intro hgd; try (simp only [Bool.not_true, Bool.not_false] at hgd))) | (refine gc_Y ?_ ?_ <;> intro _) | fail)
      rename_i v1 hv1 v2 hv2
      refine cont_map (L' := [row 67 2 v2 ((outF n (l.take (i + 1))).map fileV), A] ++ R) (by rw [e, List.map_append]; exact entD) ?_
      refine cont_back (i + 1, ⟨v2, hv2⟩) ⟨h, ⟨rfl, rfl, rfl, rfl, trivial⟩, rfl⟩ (by dsimp only; omega)
    | false =>
      have e : outF n (l.take (i + 1)) = o := by rw [htk]; simp only [Bool.not_eq_false'] at t2; dsimp only; rw [t2]; simp
      repeat' (first | (refine go_Y ?_; intros) | (refine gs_Y ?_ ?_ <;> (intro hgd; try (simp only [Bool.not_true, Bool.not_false] at hgd))) | (refine gc_Y ?_ ?_ <;> intro _) | fail)
      refine cont_map (L' := [row 67 2 vo ((outF n (l.take (i + 1))).map fileV), A] ++ R) (by rw [e]; exact entD) ?_
      refine cont_back (i + 1, ⟨vo, hvo⟩) ⟨h, ⟨rfl, rfl, rfl, rfl, trivial⟩, rfl⟩ (by dsimp only; omega)
  | false =>
    have hie : i = l.length := by have := of_decide_eq_false t1; omega
    subst hie
    rw [List.take_length]
    repeat' (first | (refine go_Y ?_; intros) | (refine gs_Y ?_ ?_ <;> (intro hgd; try (simp only [Bool.not_true, Bool.not_false] at hgd))) | (refine gc_Y ?_ ?_ <;> intro _) | fail)
    (refine rt_Y (y := ⟨vo, hvo⟩) (hrs := Tryz.results78) (hv := ?_) (hφ := ?_))
    · rfl
    · trivial
end Go.Proofs.YtbagfdolcabniaaGreat
/- The walk of the document's disk (fascicleref02): with. -/
-- @DEFS Y
set_option linter.unusedSimpArgs false
set_option linter.unusedVariables false
set_option maxRecDepth 4000
namespace Go.Proofs.YtbagfdolcabniaaGreat
open Go Go.Fx Go.Proofs Go.Pl

def wStep (f : BA × BA) (st : Bool × FS) (x : BA × BA) : Bool × FS :=
  (st.1 || !ltS x.1 f.1, st.2 ++ (if !st.1 && !ltS x.1 f.1 then [f] else []) ++ (if x.1.toList == f.1.toList then [] else [x]))
def wEnd (f : BA × BA) (st : Bool × FS) : FS := if st.1 then st.2 else st.2 ++ [f]
theorem eqS_false {a b : BA} (h : a ≠ b) : (a.toList == b.toList) = false := by
  cases hc : (a.toList == b.toList) with
  | false => rfl
  | true => exact absurd (eqS_iff.1 hc) h
theorem w_done (f : BA × BA) : ∀ (l out : FS), (∀ x ∈ l, ltS f.1 x.1 = true) → l.foldl (wStep f) (true, out) = (true, out ++ l)
  | [], out, _ => by simp
  | x :: l, out, h => by
    have h1 := h x (List.mem_cons_self ..)
    have h2 := eqS_false (ltS_ne h1).symm
    rw [List.foldl_cons]
    have : wStep f (true, out) x = (true, out ++ [x]) := by simp [wStep, h2]
    rw [this, w_done f l _ (fun y hy => h y (List.mem_cons_of_mem _ hy)), List.append_assoc]; rfl
theorem w_ins (f : BA × BA) : ∀ (l out : FS), SF l → wEnd f (l.foldl (wStep f) (false, out)) = out ++ insF f l
  | [], out, _ => by simp [wEnd, insF]
  | x :: l, out, hs => by
    have hs' := List.pairwise_cons.1 hs
    rw [List.foldl_cons]
    unfold insF
    rcases ltS_tri x.1 f.1 with h | h | h
    · have h1 : ltS f.1 x.1 = false := ltS_asymm h
      have h3 := eqS_false (ltS_ne h)
      have : wStep f (false, out) x = (false, out ++ [x]) := by simp [wStep, h, h3]
      rw [this, w_ins f l _ hs'.2, h1, if_neg (by simp), if_neg (ltS_ne h).symm]
      simp
    · have h1 : ltS x.1 f.1 = false := by rw [h]; exact ltS_irrefl _
      have h2 : ltS f.1 x.1 = false := by rw [h]; exact ltS_irrefl _
      have h3 : (x.1.toList == f.1.toList) = true := eqS_iff.2 h
      have : wStep f (false, out) x = (true, out ++ [f]) := by simp [wStep, h1, h3]
      rw [this, w_done f l _ (fun y hy => by rw [← h]; exact hs'.1 y hy), h2, if_neg (by simp), if_pos h.symm]
      simp [wEnd]
    · have h1 : ltS x.1 f.1 = false := ltS_asymm h
      have h3 := eqS_false (ltS_ne h).symm
      have : wStep f (false, out) x = (true, out ++ [f] ++ [x]) := by simp [wStep, h1, h3]
      rw [this, w_done f l _ (fun y hy => ltS_trans h (hs'.1 y hy)), h, if_pos rfl]
      simp [wEnd]
theorem wS_len (f : BA × BA) (st : Bool × FS) (x : BA × BA) : (wStep f st x).2.length ≤ st.2.length + 2 := by
  unfold wStep
  split <;> split <;> simp <;> omega
theorem wF_len (f : BA × BA) : ∀ (l : FS) (st : Bool × FS), (l.foldl (wStep f) st).2.length ≤ st.2.length + 2 * l.length
  | [], st => by simp
  | x :: l, st => by
    rw [List.foldl_cons]
    have h1 := wF_len f l (wStep f st x)
    have h2 := wS_len f st x
    simp only [List.length_cons]; omega

set_option maxHeartbeats 1000000 in
theorem refWith_spec (u : Value) (A : HProp) (l : FS) (f : BA × BA) (hA : Vw A 2 u (l.map fileV)) (hl : l.length ≤ 1000000) (hs : SF l) :
    FSpec Tryz.prog 77 [u, .agg (fileV f).toArray] [A] { v : Value // v.oneCell' = true } (fun _ => True) (fun y => y.1) (fun y => [row 67 2 y.1 ((insF f l).map fileV), A]) := by
  have hend := w_ins f l [] hs
  rw [List.nil_append] at hend
  rw [← hend]
  have hlm : (l.map fileV).length = l.length := by simp
  dsimp only [fileV]
  refine spec_intro [] _ Tryz.func77 rfl Tryz.ntmps77 (by rfl) (fun w0 R => ?_)
  refine ok_learn (VwIn.slice (VwIn.here hA)) ?_
  rintro ⟨pu, cu, rfl⟩
  repeat' (first | (refine go_Y ?_; intros) | (refine gs_Y ?_ ?_ <;> (intro hgd; try (simp only [Bool.not_true, Bool.not_false] at hgd))) | (refine gc_Y ?_ ?_ <;> intro _) | fail)
  rename_i b3
  refine ok_map (fun _ h => rowNilK (e := 67) (n := 2) h) ?_
  refine ok_map (L' := [row 67 2 (.slice none 0 0) (((l.take 0).foldl (wStep f) (false, [])).2.map fileV), pts b3 (.cells [.string f.1, .string f.2].toArray 67), A] ++ R) entD ?_
  refine ok_loop' (γ := Nat × { v : Value // v.oneCell' = true }) (fun q ρ L => q.1 ≤ l.length ∧ Knows ρ [(0, .slice pu (l.map fileV).length cu), (3, .pointer (some ⟨b3, 0, none⟩)), (5, q.2.1), (6, .bool ((l.take q.1).foldl (wStep f) (false, [])).1), (7, .int .i64 q.1)] ∧
      L = [row 67 2 q.2.1 (((l.take q.1).foldl (wStep f) (false, [])).2.map fileV), pts b3 (.cells [.string f.1, .string f.2].toArray 67), A] ++ R) (fun q => l.length - q.1) (0, ⟨.slice none 0 0, rfl⟩) ⟨by simp, ⟨rfl, rfl, rfl, rfl, rfl, trivial⟩, rfl⟩ ?_
  rintro ⟨i, ⟨vo, hvo⟩⟩ ρ L ⟨hi, hk, rfl⟩
  dsimp only at hi hk ⊢
  refine ok_regs hk ?_
  have hfl := wF_len f (l.take i) (false, [])
  rw [List.length_take] at hfl
  simp only [List.length_nil] at hfl
  cases t1 : decide ((i : Int) < ((l.map fileV).length : Int)) with
  | true =>
    have h : i < l.length := by have := of_decide_eq_true t1; omega
    have hn1 : i < (l.map fileV).length := by omega
    have hx : (l.map fileV)[i]? = some (fileV l[i]) := by rw [List.getElem?_map, List.getElem?_eq_getElem h]; rfl
    have hfold0 : (l.take (i + 1)).foldl (wStep f) (false, []) = wStep f ((l.take i).foldl (wStep f) (false, [])) l[i] := by rw [List.take_succ_eq_append_getElem h, List.foldl_append]; rfl
    refine ok_learn (VwIn.base (VwIn.there (VwIn.there (VwIn.here hA))) (by intro e; rw [e] at hn1; simp at hn1)) ?_
    rintro ⟨bu, ou, rfl⟩
    generalize l[i] = x at hx hfold0
    generalize (l.take i).foldl (wStep f) (false, []) = st at hfl hfold0
    obtain ⟨dn, out⟩ := st
    obtain ⟨xn, xs⟩ := x
    dsimp only at hfl ⊢
    have hol : (out.map fileV).length = out.length := by simp
    dsimp only [fileV] at hx
    cases c2 : (!(xn.toList == f.1.toList)) with
    | true =>
      have c2' : (xn.toList == f.1.toList) = false := by simpa using c2
      cases dn with
      | true =>
        have hfold : (l.take (i + 1)).foldl (wStep f) (false, []) = (true, out ++ [(xn, xs)]) := by
          rw [hfold0]; simp [wStep, c2']
        repeat' (first | (refine go_Y ?_; intros) | (refine gs_Y ?_ ?_ <;> (intro hgd; try (simp only [Bool.not_true, Bool.not_false] at hgd))) | (refine gc_Y ?_ ?_ <;> intro _) | fail)
        rename_i v1 hv1 v2 hv2
        refine cont_map (L' := [row 67 2 v2 (((l.take (i + 1)).foldl (wStep f) (false, [])).2.map fileV), pts b3 (.cells [.string f.1, .string f.2].toArray 67), A] ++ R) (by rw [hfold, List.map_append]; exact entD) ?_
        refine cont_back (i + 1, ⟨v2, hv2⟩) ⟨h, ⟨rfl, rfl, rfl, by dsimp only; rw [hfold]; rfl, rfl, trivial⟩, rfl⟩ (by dsimp only; omega)
      | false =>
        cases c1 : (!(Op.bytesLess xn.toList f.1.toList)) with
        | false =>
          have c1' : ltS xn f.1 = true := by unfold ltS; simpa using c1
          have hfold : (l.take (i + 1)).foldl (wStep f) (false, []) = (false, out ++ [(xn, xs)]) := by
            rw [hfold0]; simp [wStep, c2', c1']
          repeat' (first | (refine go_Y ?_; intros) | (refine gs_Y ?_ ?_ <;> (intro hgd; try (simp only [Bool.not_true, Bool.not_false] at hgd))) | (refine gc_Y ?_ ?_ <;> intro _) | fail)
          rename_i v1 hv1 v2 hv2
          refine cont_map (L' := [row 67 2 v2 (((l.take (i + 1)).foldl (wStep f) (false, [])).2.map fileV), pts b3 (.cells [.string f.1, .string f.2].toArray 67), A] ++ R) (by rw [hfold, List.map_append]; exact entD) ?_
          refine cont_back (i + 1, ⟨v2, hv2⟩) ⟨h, ⟨rfl, rfl, rfl, by dsimp only; rw [hfold]; rfl, rfl, trivial⟩, rfl⟩ (by dsimp only; omega)
        | true =>
          have c1' : ltS xn f.1 = false := by unfold ltS; simpa using c1
          have hfold : (l.take (i + 1)).foldl (wStep f) (false, []) = (true, out ++ [f] ++ [(xn, xs)]) := by
            rw [hfold0]; simp [wStep, c2', c1']
          repeat' (first | (refine go_Y ?_; intros) | (refine gs_Y ?_ ?_ <;> (intro hgd; try (simp only [Bool.not_true, Bool.not_false] at hgd))) | (refine gc_Y ?_ ?_ <;> intro _) | fail)
          rename_i v1 hv1 v2 hv2 v3 hv3 v4 hv4
          refine cont_map (L' := [row 67 2 v4 (((l.take (i + 1)).foldl (wStep f) (false, [])).2.map fileV), pts b3 (.cells [.string f.1, .string f.2].toArray 67), A] ++ R) (by rw [hfold, List.map_append, List.map_append]; exact entD) ?_
          refine cont_back (i + 1, ⟨v4, hv4⟩) ⟨h, ⟨rfl, rfl, rfl, by dsimp only; rw [hfold]; rfl, rfl, trivial⟩, rfl⟩ (by dsimp only; omega)
    | false =>
      have c2' : (xn.toList == f.1.toList) = true := by simpa using c2
      cases dn with
      | true =>
        have hfold : (l.take (i + 1)).foldl (wStep f) (false, []) = (true, out) := by
          rw [hfold0]; simp [wStep, c2']
        repeat' (first | (refine go_Y ?_; intros) | (refine gs_Y ?_ ?_ <;> (intro hgd; try (simp only [Bool.not_true, Bool.not_false] at hgd))) | (refine gc_Y ?_ ?_ <;> intro _) | fail)
        refine cont_map (L' := [row 67 2 vo (((l.take (i + 1)).foldl (wStep f) (false, [])).2.map fileV), pts b3 (.cells [.string f.1, .string f.2].toArray 67), A] ++ R) (by rw [hfold]; exact entD) ?_
        refine cont_back (i + 1, ⟨vo, hvo⟩) ⟨h, ⟨rfl, rfl, rfl, by dsimp only; rw [hfold]; rfl, rfl, trivial⟩, rfl⟩ (by dsimp only; omega)
      | false =>
        have c0 : ltS xn f.1 = false := by rw [eqS_iff.1 c2']; exact ltS_irrefl _
        have c1 : (!(Op.bytesLess xn.toList f.1.toList)) = true := by unfold ltS at c0; rw [c0]; rfl
        have hfold : (l.take (i + 1)).foldl (wStep f) (false, []) = (true, out ++ [f]) := by
          rw [hfold0]; simp [wStep, c2', c0]
        repeat' (first | (refine go_Y ?_; intros) | (refine gs_Y ?_ ?_ <;> (intro hgd; try (simp only [Bool.not_true, Bool.not_false] at hgd))) | (refine gc_Y ?_ ?_ <;> intro _) | fail)
        rename_i v1 hv1 v2 hv2
        refine cont_map (L' := [row 67 2 v2 (((l.take (i + 1)).foldl (wStep f) (false, [])).2.map fileV), pts b3 (.cells [.string f.1, .string f.2].toArray 67), A] ++ R) (by rw [hfold, List.map_append]; exact entD) ?_
        refine cont_back (i + 1, ⟨v2, hv2⟩) ⟨h, ⟨rfl, rfl, rfl, by dsimp only; rw [hfold]; rfl, rfl, trivial⟩, rfl⟩ (by dsimp only; omega)
  | false =>
    have hie : i = l.length := by have := of_decide_eq_false t1; omega
    subst hie
    rw [List.take_length] at hfl ⊢
    generalize l.foldl (wStep f) (false, []) = st at hfl
    obtain ⟨dn, out⟩ := st
    dsimp only at hfl ⊢
    have hol : (out.map fileV).length = out.length := by simp
    cases dn with
    | true =>
      rw [show wEnd f (true, out) = out from rfl]
      repeat' (first | (refine go_Y ?_; intros) | (refine gs_Y ?_ ?_ <;> (intro hgd; try (simp only [Bool.not_true, Bool.not_false] at hgd))) | (refine gc_Y ?_ ?_ <;> intro _) | fail)
      (refine rt_Y (y := ⟨vo, hvo⟩) (hrs := Tryz.results77) (hv := ?_) (hφ := ?_))
      · rfl
      · trivial
    | false =>
      rw [show wEnd f (false, out) = out ++ [f] from rfl]
      repeat' (first | (refine go_Y ?_; intros) | (refine gs_Y ?_ ?_ <;> (intro hgd; try (simp only [Bool.not_true, Bool.not_false] at hgd))) | (refine gc_Y ?_ ?_ <;> intro _) | fail)
      rename_i v1 hv1 v2 hv2
      refine cont_map (L' := [row 67 2 v2 ((out ++ [f]).map fileV), A] ++ R) (by rw [List.map_append]; exact entD) ?_
      (refine rt_Y (y := ⟨v2, hv2⟩) (hrs := Tryz.results77) (hv := ?_) (hφ := ?_))
      · rfl
      · trivial
end Go.Proofs.YtbagfdolcabniaaGreat
/- The walks of the document's disk (fascicleref02): done, burn, sure, Used. -/
-- @DEFS Y
set_option linter.unusedSimpArgs false
set_option linter.unusedVariables false
set_option maxRecDepth 4000
namespace Go.Proofs.YtbagfdolcabniaaGreat
open Go Go.Fx Go.Proofs Go.Pl

/-- A call that this disk is asked to do again. -/
def clG (l : FS) : Cl → Prop
  | .app n s => (ftext n l).size + s.size ≤ 1099511627776
  | .trunc _ _ => False
  | _ => True
set_option maxHeartbeats 1000000 in
theorem refDone_spec (u : Value) (A : HProp) (l : FS) (c : Cl) (hA : Vw A 2 u (l.map fileV)) (hl : l.length ≤ 900000) (hs : SF l) (hc : clG l c) :
    FSpec Tryz.prog 45 [u, .agg (callV c).toArray] [A] { v : Value // v.oneCell' = true } (fun _ => True) (fun y => y.1) (fun y => [row 67 2 y.1 ((doneR l c).map fileV), A]) := by
  cases c with
  | trunc n k => exact hc.elim
  | app n s =>
    have hz : (ftext n l).size + s.size ≤ 1099511627776 := hc
    have ht := refText_spec u A l n hA (by omega)
    have hw := refWith_spec u A l (n, ftext n l ++ s) hA (by omega) hs
    rw [show doneR l (.app n s) = insF (n, ftext n l ++ s) l from rfl]
    generalize ftext n l = tx at hz ht hw
    dsimp only [callV]
    dsimp only [fileV] at hw
    refine spec_intro [] _ Tryz.func45 rfl Tryz.ntmps45 (by rfl) (fun w0 R => ?_)
    repeat' (first | (refine go_Y ?_; intros) | (refine gs_Y ?_ ?_ <;> (intro hgd; try (simp only [Bool.not_true, Bool.not_false] at hgd))) | (refine gc_Y ?_ ?_ <;> intro _) | fail)
    rename_i b3
    refine ok_drawL (cv := []) [6] ([pts b3 (.cells [.int .i64 1, .string n, .string s, .int .i64 0].toArray 65), A]) (takeD) (by kernel_rfl) rfl (by decide +kernel) ?_
    repeat' (first | (refine go_Y ?_; intros) | (refine gs_Y ?_ ?_ <;> (intro hgd; try (simp only [Bool.not_true, Bool.not_false] at hgd))) | (refine gc_Y ?_ ?_ <;> intro _) | fail)
    refine clN_Y (ht) ?_
    intro _ _
    repeat' (first | (refine go_Y ?_; intros) | (refine gs_Y ?_ ?_ <;> (intro hgd; try (simp only [Bool.not_true, Bool.not_false] at hgd))) | (refine gc_Y ?_ ?_ <;> intro _) | fail)
    refine cl_Y (hw) ?_
    rintro ⟨v, hv⟩ _
    repeat' (first | (refine go_Y ?_; intros) | (refine gs_Y ?_ ?_ <;> (intro hgd; try (simp only [Bool.not_true, Bool.not_false] at hgd))) | (refine gc_Y ?_ ?_ <;> intro _) | fail)
    (refine rt_Y (y := ⟨v, hv⟩) (hrs := Tryz.results45) (hv := ?_) (hφ := ?_))
    · rfl
    · trivial
  | ren a b =>
    have ht := refText_spec u A l a hA (by omega)
    have ho := refWithout_spec u A l a hA (by omega)
    have hw := fun (v : Value) (B : HProp) (hB : Vw B 2 v ((outF a l).map fileV)) => refWith_spec v B (outF a l) (b, ftext a l) hB (by have := outF_len a l; omega) (outF_srt hs)
    rw [show doneR l (.ren a b) = insF (b, ftext a l) (outF a l) from rfl]
    generalize ftext a l = tx at ht hw
    generalize outF a l = lo at ho hw
    dsimp only [callV]
    dsimp only [fileV] at hw
    refine spec_intro [] _ Tryz.func45 rfl Tryz.ntmps45 (by rfl) (fun w0 R => ?_)
    repeat' (first | (refine go_Y ?_; intros) | (refine gs_Y ?_ ?_ <;> (intro hgd; try (simp only [Bool.not_true, Bool.not_false] at hgd))) | (refine gc_Y ?_ ?_ <;> intro _) | fail)
    rename_i b3
    refine ok_drawL (cv := []) [3, 9] ([pts b3 (.cells [.int .i64 3, .string a, .string b, .int .i64 0].toArray 65), A]) (takeD) (by kernel_rfl) rfl (by decide +kernel) ?_
    repeat' (first | (refine go_Y ?_; intros) | (refine gs_Y ?_ ?_ <;> (intro hgd; try (simp only [Bool.not_true, Bool.not_false] at hgd))) | (refine gc_Y ?_ ?_ <;> intro _) | fail)
    refine clN_Y (ho) ?_
    rintro ⟨vo, hvo⟩ _
    repeat' (first | (refine go_Y ?_; intros) | (refine gs_Y ?_ ?_ <;> (intro hgd; try (simp only [Bool.not_true, Bool.not_false] at hgd))) | (refine gc_Y ?_ ?_ <;> intro _) | fail)
    refine clN_Y (ht) ?_
    intro _ _
    repeat' (first | (refine go_Y ?_; intros) | (refine gs_Y ?_ ?_ <;> (intro hgd; try (simp only [Bool.not_true, Bool.not_false] at hgd))) | (refine gc_Y ?_ ?_ <;> intro _) | fail)
    refine cl_Y (hw vo (row 67 2 vo (lo.map fileV)) Vw.row) ?_
    rintro ⟨v, hv⟩ _
    repeat' (first | (refine go_Y ?_; intros) | (refine gs_Y ?_ ?_ <;> (intro hgd; try (simp only [Bool.not_true, Bool.not_false] at hgd))) | (refine gc_Y ?_ ?_ <;> intro _) | fail)
    (refine rt_Y (y := ⟨v, hv⟩) (hrs := Tryz.results45) (hv := ?_) (hφ := ?_))
    · rfl
    · trivial
  | rem a =>
    have ho := refWithout_spec u A l a hA (by omega)
    rw [show doneR l (.rem a) = outF a l from rfl]
    dsimp only [callV]
    refine spec_intro [] _ Tryz.func45 rfl Tryz.ntmps45 (by rfl) (fun w0 R => ?_)
    repeat' (first | (refine go_Y ?_; intros) | (refine gs_Y ?_ ?_ <;> (intro hgd; try (simp only [Bool.not_true, Bool.not_false] at hgd))) | (refine gc_Y ?_ ?_ <;> intro _) | fail)
    refine cl_Y (ho) ?_
    rintro ⟨v, hv⟩ _
    repeat' (first | (refine go_Y ?_; intros) | (refine gs_Y ?_ ?_ <;> (intro hgd; try (simp only [Bool.not_true, Bool.not_false] at hgd))) | (refine gc_Y ?_ ?_ <;> intro _) | fail)
    (refine rt_Y (y := ⟨v, hv⟩) (hrs := Tryz.results45) (hv := ?_) (hφ := ?_))
    · rfl
    · trivial

/-! ### The disk -/
theorem refBurn_spec (b : Nat) (vL vS vC : Value) (most fuse : Int) (st : Bool) (h0 : -1 ≤ fuse) (hm : fuse ≤ 9223372036854775807) :
    FSpec Tryz.prog 52 [.pointer (some ⟨b, 0, none⟩)] [pts b (.cells [vL, vS, vC, .int .i64 most, .int .i64 fuse, .bool st].toArray 43)] Unit (fun _ => True) (fun _ => .bool (!decide (fuse = 0)))
      (fun _ => [pts b (.cells [vL, vS, vC, .int .i64 most, .int .i64 (if fuse = 0 then fuse else if (-1 : Int) > fuse - 1 then -1 else fuse - 1), .bool (if fuse = 0 then true else st)].toArray 43)]) := by
  cases t1 : decide (fuse = 0) with
  | true =>
    have e : fuse = 0 := of_decide_eq_true t1
    rw [if_pos e, if_pos e]
    refine spec_intro [] _ Tryz.func52 rfl Tryz.ntmps52 (by rfl) (fun w0 R => ?_)
    repeat' (first | (refine go_Y ?_; intros) | (refine gs_Y ?_ ?_ <;> (intro hgd; try (simp only [Bool.not_true, Bool.not_false] at hgd))) | (refine gc_Y ?_ ?_ <;> intro _) | fail)
    (refine rt_Y (y := ()) (hrs := Tryz.results52) (hv := ?_) (hφ := ?_))
    · rfl
    · trivial
  | false =>
    have e : ¬ fuse = 0 := of_decide_eq_false t1
    rw [if_neg e, if_neg e]
    refine spec_intro [] _ Tryz.func52 rfl Tryz.ntmps52 (by rfl) (fun w0 R => ?_)
    repeat' (first | (refine go_Y ?_; intros) | (refine gs_Y ?_ ?_ <;> (intro hgd; try (simp only [Bool.not_true, Bool.not_false] at hgd))) | (refine gc_Y ?_ ?_ <;> intro _) | fail)
    (refine rt_Y (y := ()) (hrs := Tryz.results52) (hv := ?_) (hφ := ?_))
    · rfl
    · trivial
theorem refSure_spec (b : Nat) (vL vS vC : Value) (most fuse : Int) (st : Bool) (hL : vL.oneCell' = true) (hS : vS.oneCell' = true) (hC : vC.oneCell' = true) :
    FSpec Tryz.prog 46 [.pointer (some ⟨b, 0, none⟩)] [pts b (.cells [vL, vS, vC, .int .i64 most, .int .i64 fuse, .bool st].toArray 43)] Unit (fun _ => True) (fun _ => .tuple #[])
      (fun _ => [pts b (.cells [vL, vL, .slice none 0 0, .int .i64 most, .int .i64 fuse, .bool st].toArray 43)]) := by
  refine spec_intro [] _ Tryz.func46 rfl Tryz.ntmps46 (by rfl) (fun w0 R => ?_)
  repeat' (first | (refine go_Y ?_; intros) | (refine gs_Y ?_ ?_ <;> (intro hgd; try (simp only [Bool.not_true, Bool.not_false] at hgd))) | (refine gc_Y ?_ ?_ <;> intro _) | fail)
  (refine rt_Y (y := ()) (hrs := Tryz.results46) (hv := ?_) (hφ := ?_))
  · rfl
  · trivial
theorem refUsed_spec (b : Nat) (vL vS vC : Value) (most fuse : Int) (st : Bool) (A : HProp) (l : FS) (hA : Vw A 2 vL (l.map fileV)) (hl : fused l ≤ 1099511627776) (hn : l.length ≤ 1000000) :
    FSpec Tryz.prog 10 [.pointer (some ⟨b, 0, none⟩)] [pts b (.cells [vL, vS, vC, .int .i64 most, .int .i64 fuse, .bool st].toArray 43), A] Unit (fun _ => True) (fun _ => .int .i64 (fused l : Int))
      (fun _ => [pts b (.cells [vL, vS, vC, .int .i64 most, .int .i64 fuse, .bool st].toArray 43), A]) := by
  have hlm : (l.map fileV).length = l.length := by simp
  refine spec_intro [] _ Tryz.func10 rfl Tryz.ntmps10 (by rfl) (fun w0 R => ?_)
  refine ok_learn (VwIn.slice (VwIn.there (VwIn.here hA))) ?_
  rintro ⟨pu, cu, rfl⟩
  repeat' (first | (refine go_Y ?_; intros) | (refine gs_Y ?_ ?_ <;> (intro hgd; try (simp only [Bool.not_true, Bool.not_false] at hgd))) | (refine gc_Y ?_ ?_ <;> intro _) | fail)
  refine ok_loop' (γ := Nat) (fun i ρ L => i ≤ l.length ∧ Knows ρ [(0, .pointer (some ⟨b, 0, none⟩)), (3, .int .i64 (fused (l.take i) : Int)), (4, .int .i64 i)] ∧ L = [pts b (.cells [.slice pu (l.map fileV).length cu, vS, vC, .int .i64 most, .int .i64 fuse, .bool st].toArray 43), A] ++ R) (fun i => l.length - i) 0 ⟨by simp, ⟨rfl, rfl, rfl, trivial⟩, rfl⟩ ?_
  rintro i ρ L ⟨hi, hk, rfl⟩
  refine ok_regs hk ?_
  cases t1 : decide ((i : Int) < ((l.map fileV).length : Int)) with
  | true =>
    have h : i < l.length := by have := of_decide_eq_true t1; omega
    have hn1 : i < (l.map fileV).length := by omega
    have hx : (l.map fileV)[i]? = some (fileV l[i]) := by rw [List.getElem?_map, List.getElem?_eq_getElem h]; rfl
    have hf : fused (l.take (i + 1)) = fused (l.take i) + l[i].2.size := by rw [List.take_succ_eq_append_getElem h, fused_append]; congr 1
    have hle : fused (l.take (i + 1)) ≤ fused l := by
      have : l = l.take (i + 1) ++ l.drop (i + 1) := (List.take_append_drop ..).symm
      rw [this, fused_append]
      rw [← this]; omega
    refine ok_learn (VwIn.base (VwIn.there (VwIn.here hA)) (by intro e; rw [e] at hn1; simp at hn1)) ?_
    rintro ⟨bu, ou, rfl⟩
    generalize l[i] = x at hx hf
    obtain ⟨xn, xs⟩ := x
    dsimp only [fileV] at hx hf
    repeat' (first | (refine go_Y ?_; intros) | (refine gs_Y ?_ ?_ <;> (intro hgd; try (simp only [Bool.not_true, Bool.not_false] at hgd))) | (refine gc_Y ?_ ?_ <;> intro _) | fail)
    refine cont_back (i + 1) ⟨h, ⟨rfl, by rw [hf]; show Value.int IntKind.i64 ((fused (l.take i) : Int) + (xs.size : Int)) = _; simp, rfl, trivial⟩, rfl⟩ (by omega)
  | false =>
    have hie : i = l.length := by have := of_decide_eq_false t1; omega
    subst hie
    rw [List.take_length]
    repeat' (first | (refine go_Y ?_; intros) | (refine gs_Y ?_ ?_ <;> (intro hgd; try (simp only [Bool.not_true, Bool.not_false] at hgd))) | (refine gc_Y ?_ ?_ <;> intro _) | fail)
    (refine rt_Y (y := ()) (hrs := Tryz.results10) (hv := ?_) (hφ := ?_))
    · rfl
    · trivial
end Go.Proofs.YtbagfdolcabniaaGreat
