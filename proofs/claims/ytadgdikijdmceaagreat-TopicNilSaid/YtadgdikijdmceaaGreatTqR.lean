import Derived.Test.YtadgdikijdmceaaGreatTqQ
import Derived.Test.YtadgdikijdmceaaGreatRnS
import Derived.Test.YtadgdikijdmceaaGreatRfP
set_option linter.unusedSimpArgs false
set_option linter.unusedVariables false
namespace Go.Proofs.YtadgdikijdmceaaGreat
open Go Go.Fx Go.Pl

theorem topen_eq {d : Dk} {name : BA} {seg : Nat} (hm : mayN name = true) (hs : d.still = false) : topenT d name seg = loadT d name seg := by
  unfold topenT
  rw [read_eq d hm 0 (by decide), hs]
  cases d.has name with
  | true => rw [if_neg (by simp)]
  | false => rw [if_neg (by simp)]
theorem topen_bad {d : Dk} {name : BA} {seg : Nat} (hm : mayN name = false) (hs : d.still = false) : topenT d name seg = (d, 2, []) := by
  have hl : d.live [name] = 2 := by unfold Dk.live; rw [hs]; simp [hm]
  unfold topenT Dk.read
  rw [hl]
  simp
theorem fused_perm {F G : FS} (h : F.Perm G) : fused F = fused G := by
  unfold fused
  exact (h.map _).sum_nat
theorem nodup_pairs {F : FS} (h : (F.map (·.1)).Nodup) : F.Nodup := by
  unfold List.Nodup at h ⊢
  rw [List.pairwise_map] at h
  exact h.imp fun {a b} hab e => hab (by rw [e])
theorem FEq.fused {F G : FS} (h : FEq F G) (hF : (F.map (·.1)).Nodup) (hG : (G.map (·.1)).Nodup) : fused F = fused G := by
  refine fused_perm ((List.perm_ext_iff_of_nodup (nodup_pairs hF) (nodup_pairs hG)).2 ?_)
  rintro ⟨k, v⟩
  rw [mem_fget hF, mem_fget hG, h]
def allR (l : List Sg) : List BA := l.flatMap (·.recs)
theorem allR_app (a b : List Sg) : allR (a ++ b) = allR a ++ allR b := by unfold allR; rw [List.flatMap_append]
theorem allR_cons (x : Sg) (b : List Sg) : allR (x :: b) = x.recs ++ allR b := by unfold allR; rw [List.flatMap_cons]
theorem fused_fsS : ∀ (l : List Sg), fused (fsS l) = lenT (allR l)
  | [] => rfl
  | x :: l => by
    rw [allR_cons, lenT_cat, ← fused_fsS l]
    show fused ((x.file, framesOf x.recs) :: fsS l) = _
    unfold fused
    rw [List.map_cons, List.sum_cons, framesOf_size]

theorem cut_mid (T : BA) (a n : Nat) (h : a + n ≤ T.size) : cut T (a : Int) (n : Int) = T.extract a (a + n) := by
  apply bl_inj
  unfold cut
  dsimp only
  have e0 : (if (T.size : Int) < (a : Int) then (T.size : Int) else (a : Int)).toNat = a := by rw [if_neg (by omega)]; omega
  rw [e0]
  have hz : (T.extract a T.size).size = T.size - a := by rw [ByteArray.size_extract]; omega
  rw [hz]
  have e1 : (if ((T.size - a : Nat) : Int) < (n : Int) then ((T.size - a : Nat) : Int) else (n : Int)).toNat = n := by rw [if_neg (by omega)]; omega
  rw [e1, bl_ext, bl_ext, bl_ext, List.drop_zero, Nat.sub_zero, List.take_take, Nat.add_sub_cancel_left, Nat.min_eq_left (by omega)]
theorem read_at {d : Dk} {k T : BA} {a n : Nat} (hs : d.still = false) (hm : mayN k = true) (hg : fget k d.files = some T) (h : a + n ≤ T.size) : d.read k (a : Int) (n : Int) = (T.extract a (a + n), 0) := by
  have ht : ftext k d.files = T := by unfold ftext; rw [hg]; rfl
  have hh : d.has k = true := by unfold Dk.has; rw [hg]; rfl
  unfold Dk.read
  rw [live1 d hm, hs, hh, ht, cut_mid _ _ _ h]
  simp
theorem framesOf_mid (a : List BA) (r : BA) (b : List BA) : (framesOf (a ++ r :: b)).extract (lenT a) (lenT a + (12 + r.size)) = frameOf r := by
  rw [framesOf_append]
  show (framesOf a ++ (frameOf r ++ framesOf b)).extract _ _ = _
  rw [← ByteArray.append_assoc]
  exact ext_mid _ _ _ (framesOf_size _).symm (by rw [framesOf_size, frameOf_size])
theorem getT_ok {d : Dk} {file : BA} {a b : List BA} {r : BA} (hs : d.still = false) (hm : mayN file = true) (hg : fget file d.files = some (framesOf (a ++ r :: b))) (hr : r.size ≤ 4194304) : getT d file (lenT a) r = (r, 0) := by
  have hz : lenT a + (12 + r.size) ≤ (framesOf (a ++ r :: b)).size := by
    rw [framesOf_size, lenT_cat]
    have : lenT (r :: b) = 12 + r.size + lenT b := by simp [lenT]
    omega
  unfold getT
  rw [read_at hs hm hg hz, framesOf_mid]
  dsimp only
  rw [if_neg (fun h => h rfl), scanOf_one r hr]
  show (if (0 : Int) = 0 ∧ 12 + r.size = 12 + r.size ∧ sumS r = sumS r then (r, (0 : Int)) else (⟨#[]⟩, 71)) = _
  rw [if_pos ⟨rfl, rfl, rfl⟩]
theorem readX_ok {d : Dk} {off : Nat} {most : Int} {file : BA} {first : Nat} (hs : d.still = false) (hm : mayN file = true) : ∀ (b a : List BA) (acc : List BA), fget file d.files = some (framesOf (a ++ b)) → allOk b = true →
    (readX d off most file first b a.length (lenT a) acc).1 = acc ++ (b.drop (off - (first + a.length))).take (most - acc.length).toNat ∧ (readX d off most file first b a.length (lenT a) acc).2.1 = 0 ∧
    ((readX d off most file first b a.length (lenT a) acc).2.2 = true → most ≤ ((readX d off most file first b a.length (lenT a) acc).1.length : Int)) ∧
    ((readX d off most file first b a.length (lenT a) acc).2.2 = false → (readX d off most file first b a.length (lenT a) acc).1 = acc ++ b.drop (off - (first + a.length)))
  | [], a, acc, _, _ => by simp [readX]
  | r :: b, a, acc, hg, ho => by
    simp only [allOk, List.all_cons, Bool.and_eq_true, decide_eq_true_eq] at ho
    have e1 : (a ++ [r]).length = a.length + 1 := by simp
    have e2 : lenT (a ++ [r]) = lenT a + (12 + r.size) := lenT_snoc _ _
    have ih := fun acc => readX_ok (d := d) (off := off) (most := most) (first := first) hs hm b (a ++ [r]) acc (by rw [List.append_assoc]; exact hg) ho.2
    rw [e1, e2] at ih
    rw [readX]
    by_cases h1 : first + a.length < off
    · rw [if_pos h1]
      have e3 : off - (first + a.length) = (off - (first + (a.length + 1))) + 1 := by omega
      rw [e3, List.drop_succ_cons]
      exact ih acc
    · rw [if_neg h1]
      have e3 : off - (first + a.length) = 0 := by omega
      have e4 : off - (first + (a.length + 1)) = 0 := by omega
      rw [e3, List.drop_zero]
      by_cases h2 : most ≤ (acc.length : Int)
      · rw [if_pos h2]
        have : (most - (acc.length : Int)).toNat = 0 := by omega
        rw [this]
        exact ⟨by simp, rfl, fun _ => h2, fun h => by cases h⟩
      · rw [if_neg h2, getT_ok hs hm hg ho.1]
        dsimp only
        rw [if_neg (fun h => h rfl)]
        have := ih (acc ++ [r])
        rw [e4, List.drop_zero, List.length_append, List.length_singleton] at this
        obtain ⟨q1, q2, q3, q4⟩ := this
        have e5 : (most - (acc.length : Int)).toNat = (most - ((acc.length + 1 : Nat) : Int)).toNat + 1 := by omega
        refine ⟨by rw [q1, e5, List.take_succ_cons, List.append_assoc]; rfl, q2, q3, fun h => by rw [q4 h, List.append_assoc]; rfl⟩
def Cn (name : BA) : Nat → List Sg → Prop
  | _, [] => True
  | f, x :: l => x.file = fileT name f ∧ x.first = f ∧ Cn name (f + x.recs.length) l
theorem readL_ok {d : Dk} {name : BA} {off : Nat} {most : Int} (hm : mayN name = true) (hz : name.size ≤ 32) (hs : d.still = false) : ∀ (l : List Sg) (f : Nat) (acc : List BA), Cn name f l → (∀ x ∈ l, fget x.file d.files = some (framesOf x.recs) ∧ allOk x.recs = true) →
    readL d off most l acc = (acc ++ ((allR l).drop (off - f)).take (most - acc.length).toNat, 0)
  | [], f, acc, _, _ => by simp [readL, allR]
  | x :: l, f, acc, ⟨h1, h2, h3⟩, hx => by
    obtain ⟨g1, g2⟩ := hx x (List.mem_cons_self ..)
    obtain ⟨q1, q2, q3, q4⟩ := readX_ok (d := d) (off := off) (most := most) (file := x.file) (first := x.first) hs (by rw [h1]; exact mayN_fileT name _ hm hz) x.recs [] acc g1 g2
    simp only [show lenT ([] : List BA) = 0 from rfl, List.length_nil, Nat.add_zero, h2] at q1 q2 q3 q4
    rw [readL, allR_cons, h2]
    generalize readX d off most x.file f x.recs 0 0 acc = R at q1 q2 q3 q4
    obtain ⟨r1, r2, r3⟩ := R
    dsimp only at q1 q2 q3 q4 ⊢
    subst q2
    have hdr : (x.recs ++ allR l).drop (off - f) = x.recs.drop (off - f) ++ (allR l).drop (off - (f + x.recs.length)) := by
      rw [List.drop_append]
      congr 2
      omega
    rw [hdr]
    cases r3 with
    | true =>
      rw [if_pos rfl, q1]
      have h5 := q3 rfl
      rw [q1, List.length_append, List.length_take] at h5
      congr 2
      rw [List.take_append]
      have : (most - (acc.length : Int)).toNat - (x.recs.drop (off - f)).length = 0 := by omega
      rw [this]; simp
    | false =>
      have h5 := q4 rfl
      rw [if_neg (by decide), readL_ok hm hz hs l (f + x.recs.length) r1 h3 (fun y hy => hx y (List.mem_cons_of_mem _ hy))]
      congr 1
      rw [h5, List.append_assoc]
      congr 1
      rw [List.take_append]
      rw [q1] at h5
      have h6 := congrArg List.length (List.append_cancel_left h5)
      rw [List.length_take] at h6
      rw [List.take_of_length_le (i := (most - (acc.length : Int)).toNat) (by omega)]
      congr 2
      rw [List.length_append]
      omega
end Go.Proofs.YtadgdikijdmceaaGreat
