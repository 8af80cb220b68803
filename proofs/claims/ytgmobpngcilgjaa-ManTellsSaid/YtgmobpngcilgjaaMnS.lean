/- What a disk keeps of a man, whatever happens: in plain Lean. -/
import Derived.Test.YtgmobpngcilgjaaFrR
import Derived.Test.YtgmobpngcilgjaaMnQ
import Derived.Test.YtgmobpngcilgjaaMnE
set_option linter.unusedVariables false
namespace Go.Proofs.Ytgmobpngcilgjaa
open Go Go.Fx Go.Pl

def nMn : BA := nM ++ dotNew
theorem may_nM : mayN nM = true := by decide +kernel
theorem may_nMn : mayN nMn = true := by decide +kernel
theorem nMn_ne : nMn ≠ nM := by decide +kernel
theorem nMn_neS : (nMn.toList == nM.toList) = false := by decide +kernel

theorem fget_del (k j : BA) (h : k ≠ j) : ∀ l : FS, fget k (fdel j l) = fget k l
  | [] => rfl
  | (b, u) :: l => by
    unfold fdel
    by_cases hj : j = b
    · subst hj
      rw [if_pos rfl]
      simp only [fget, if_neg h]
    · rw [if_neg hj]
      simp only [fget]
      by_cases hk : k = b
      · simp [hk]
      · simp [hk, fget_del k j h l]
theorem fget_notin {k : BA} : ∀ {l : FS}, k ∉ l.map (·.1) → fget k l = none
  | [], _ => rfl
  | (b, u) :: l, h => by
    simp only [List.map_cons, List.mem_cons, not_or] at h
    simp only [fget, if_neg h.1]
    exact fget_notin h.2
theorem fget_del_self (k : BA) : ∀ {l : FS}, (l.map (·.1)).Nodup → fget k (fdel k l) = none
  | [], _ => rfl
  | (b, u) :: l, h => by
    simp only [List.map_cons, List.nodup_cons] at h
    unfold fdel
    by_cases hj : k = b
    · subst hj
      rw [if_pos rfl]
      exact fget_notin h.1
    · rw [if_neg hj]
      simp only [fget, if_neg hj]
      exact fget_del_self k h.2

/-- What is there of the man's file, wherever it crashes. -/
structure KInv (C : Option BA → Prop) (d : Dk) : Prop where
  pre : ∀ k, C (fget nM (play d.sure (d.loose.take k)))
  app : ∀ c ∈ d.loose, ∀ n s, c = .app n s → n ≠ nM

variable {C C' : Option BA → Prop} {d : Dk}
theorem KInv.mono (h : KInv C d) (k : ∀ o, C o → C' o) : KInv C' d := ⟨fun i => k _ (h.pre i), h.app⟩
theorem KInv.files (h : KInv C d) (hd : d.Ok) : C (fget nM d.files) := by
  have := h.pre d.loose.length
  rw [List.take_length, hd.play] at this
  exact this
theorem KInv.same (h : KInv C d) {d' : Dk} (e1 : d'.sure = d.sure) (e2 : d'.loose = d.loose) : KInv C d' := ⟨by rw [e1, e2]; exact h.pre, by rw [e2]; exact h.app⟩
theorem KInv.fuse (h : KInv C d) (n : Int) : KInv C (d.fuseTo n) := h.same rfl rfl
theorem KInv.settled {l : FS} (h : C (fget nM l)) {d : Dk} (e1 : d.sure = l) (e2 : d.loose = []) : KInv C d := by
  refine ⟨fun k => ?_, ?_⟩
  · rw [e2, e1]; simpa [play] using h
  · rw [e2]; simp
theorem KInv.crash (h : KInv C d) (keep torn : Int) : KInv C (d.crash keep torn) := by
  refine KInv.settled (l := d.torn (d.kept keep) torn) ?_ rfl rfl
  unfold Dk.torn
  generalize d.kept keep = k
  have hk := h.pre k
  cases hc : d.loose[k]? with
  | none => exact hk
  | some c =>
    have hm : c ∈ d.loose := List.mem_of_getElem? hc
    cases c with
    | app n s =>
      have hn := h.app _ hm n s rfl
      by_cases ht : 0 < torn
      · have e : (some (Cl.app n s)).bind (·.piece torn) = some (.app n (s.extract 0 (if (s.size : Int) < torn then (s.size : Int) else torn).toNat)) := by simp [Cl.piece, ht]
        rw [e]
        show C (fget nM (fput n _ _))
        rw [fget_put, if_neg (Ne.symm hn)]
        exact hk
      · have e : (some (Cl.app n s)).bind (·.piece torn) = none := by simp [Cl.piece, ht]
        rw [e]; exact hk
    | trunc n s => exact hk
    | ren n s => exact hk
    | rem n => exact hk
theorem KInv.doC (h : KInv C d) (hd : d.Ok) (c : Cl) (hC : C (fget nM (c.run d.files))) (ha : ∀ n s, c = .app n s → n ≠ nM) : KInv C (d.doC c).1 := by
  unfold Dk.doC
  split
  · exact h.same rfl rfl
  · refine ⟨fun k => ?_, ?_⟩
    · show C (fget nM (play d.sure ((d.loose ++ [c]).take k)))
      rcases Nat.lt_or_ge d.loose.length k with hk | hk
      · rw [List.take_of_length_le (by simp; omega), play_snoc, hd.play]; exact hC
      · rw [List.take_append_of_le_length hk]; exact h.pre k
    · intro x hx n s e
      rcases List.mem_append.1 hx with hx | hx
      · exact h.app x hx n s e
      · rw [List.mem_singleton] at hx
        subst hx; exact ha n s e

theorem doC_cases (d : Dk) (c : Cl) : ((d.doC c).2 = 20 ∧ (d.doC c).1.files = d.files) ∨ ((d.doC c).2 = 0 ∧ (d.doC c).1.files = c.run d.files) := by
  unfold Dk.doC
  split
  · exact .inl ⟨rfl, rfl⟩
  · exact .inr ⟨rfl, rfl⟩
theorem live1 (d : Dk) {n : BA} (h : mayN n = true) : d.live [n] = if d.still then 20 else 0 := by
  unfold Dk.live
  simp [h]
theorem live2 (d : Dk) {n m : BA} (h : mayN n = true) (h' : mayN m = true) : d.live [n, m] = if d.still then 20 else 0 := by
  unfold Dk.live
  simp [h, h']
theorem live0 (d : Dk) : d.live [] = if d.still then 20 else 0 := by
  unfold Dk.live
  simp

/-- Step 0. -/
theorem inv0 (h : KInv C d) (hd : d.Ok) (s : BA) : KInv C (stepD nM s 0 d).1 ∧ ((stepD nM s 0 d).2 = 20 ∨ (stepD nM s 0 d).2 = 0 ∧ fget nMn (stepD nM s 0 d).1.files = none) := by
  rw [step0, show nM ++ dotNew = nMn from rfl]
  unfold Dk.remove
  rw [live1 d may_nMn]
  cases hst : d.still with
  | true => simp only [if_true]; rw [if_pos (by decide)]; exact ⟨h, .inl (by simp)⟩
  | false =>
    simp only [Bool.false_eq_true, if_false, ne_eq, not_true_eq_false]
    cases hh : d.has nMn with
    | false =>
      refine ⟨h, .inr ⟨by simp, ?_⟩⟩
      unfold Dk.has at hh
      simp only [Bool.not_false, if_true]
      cases hg : fget nMn d.files with
      | none => rfl
      | some _ => rw [hg] at hh; cases hh
    | true =>
      simp only [Bool.not_true, Bool.false_eq_true, if_false]
      refine ⟨h.doC hd (.rem nMn) (by show C (fget nM (fdel nMn d.files)); rw [fget_del _ _ (Ne.symm nMn_ne)]; exact h.files hd) (fun _ _ e => by cases e), ?_⟩
      rcases doC_cases d (.rem nMn) with ⟨e1, e2⟩ | ⟨e1, e2⟩
      · rw [e1]; exact .inl (by simp)
      · rw [e1, e2]
        exact .inr ⟨by simp, fget_del_self nMn hd.nd⟩
/-- Step 1. -/
theorem inv1 (h : KInv C d) (hd : d.Ok) (s : BA) (hn : fget nMn d.files = none) : KInv C (stepD nM s 1 d).1 ∧ ((stepD nM s 1 d).2 = 20 ∨ (stepD nM s 1 d).2 = 4 ∨ (stepD nM s 1 d).2 = 0 ∧ fget nMn (stepD nM s 1 d).1.files = some s) := by
  rw [step1, show nM ++ dotNew = nMn from rfl]
  unfold Dk.append
  rw [live1 d may_nMn]
  cases hst : d.still with
  | true => simp only [if_true]; rw [if_pos (by decide)]; exact ⟨h, .inl (by simp)⟩
  | false =>
    simp only [Bool.false_eq_true, if_false, ne_eq, not_true_eq_false]
    split
    · exact ⟨h, .inr (.inl rfl)⟩
    · have ht : ftext nMn d.files ++ s = s := by
        unfold ftext; rw [hn]; exact ByteArray.empty_append
      refine ⟨h.doC hd (.app nMn s) (by show C (fget nM (fput nMn _ d.files)); rw [fget_put, if_neg (Ne.symm nMn_ne)]; exact h.files hd) (fun n t e => by cases e; exact nMn_ne), ?_⟩
      rcases doC_cases d (.app nMn s) with ⟨e1, e2⟩ | ⟨e1, e2⟩
      · exact .inl e1
      · refine .inr (.inr ⟨e1, ?_⟩)
        rw [e2]
        show fget nMn (fput nMn (ftext nMn d.files ++ s) d.files) = some s
        rw [fget_put, if_pos rfl, ht]
/-- A sync. -/
theorem invS (h : KInv C d) (hd : d.Ok) : KInv C d.sync.1 ∧ d.sync.1.files = d.files ∧ (d.sync.2 = 20 ∨ d.sync.2 = 0 ∧ d.sync.1.sure = d.files ∧ d.sync.1.loose = []) := by
  unfold Dk.sync
  rw [live0 d]
  cases hst : d.still with
  | true => simp only [if_true]; rw [if_pos (by decide)]; exact ⟨h, rfl, .inl rfl⟩
  | false =>
    simp only [Bool.false_eq_true, if_false, ne_eq, not_true_eq_false]
    split
    · exact ⟨h.same rfl rfl, rfl, .inl rfl⟩
    · exact ⟨KInv.settled (h.files hd) rfl rfl, rfl, .inr ⟨rfl, rfl, rfl⟩⟩
/-- Step 3. -/
theorem inv3 (h : KInv C d) (hd : d.Ok) (s : BA) (hn : fget nMn d.files = some s) : KInv (fun o => C o ∨ o = some s) (stepD nM s 3 d).1 ∧ ((stepD nM s 3 d).2 = 20 ∨ (stepD nM s 3 d).2 = 0 ∧ fget nM (stepD nM s 3 d).1.files = some s) := by
  rw [step3, show nM ++ dotNew = nMn from rfl]
  unfold Dk.rename
  rw [live2 d may_nMn may_nM]
  have h' : KInv (fun o => C o ∨ o = some s) d := h.mono fun _ k => .inl k
  cases hst : d.still with
  | true => simp only [if_true]; rw [if_pos (by decide)]; exact ⟨h', .inl (by simp)⟩
  | false =>
    simp only [Bool.false_eq_true, if_false, ne_eq, not_true_eq_false, nMn_neS]
    have hh : d.has nMn = true := by unfold Dk.has; rw [hn]; rfl
    simp only [hh, Bool.not_true, Bool.false_eq_true, if_false]
    have hr : fget nM (Cl.run (.ren nMn nM) d.files) = some s := by
      show fget nM (fdel nMn (fput nM (ftext nMn d.files) d.files)) = some s
      rw [fget_del _ _ (Ne.symm nMn_ne), fget_put, if_pos rfl]
      unfold ftext; rw [hn]; rfl
    refine ⟨h'.doC hd (.ren nMn nM) (.inr hr) (fun n t e => by cases e), ?_⟩
    rcases doC_cases d (.ren nMn nM) with ⟨e1, e2⟩ | ⟨e1, e2⟩
    · exact .inl e1
    · exact .inr ⟨e1, by rw [e2]; exact hr⟩

theorem save_inv (h : KInv C d) (hd : d.Ok) (s : BA) (hs : s.size ≤ 549755813888) :
    ((saveD nM s d).2 = 0 ∧ KInv (fun o => o = some s) (saveD nM s d).1) ∨ ((saveD nM s d).2 = 20 ∧ KInv (fun o => C o ∨ o = some s) (saveD nM s d).1) ∨ ((saveD nM s d).2 = 4 ∧ KInv C (saveD nM s d).1) := by
  rw [← save_run]
  have hor : ∀ {x : Dk}, KInv C x → KInv (fun o => C o ∨ o = some s) x := fun k => k.mono fun _ k => .inl k
  obtain ⟨k0, r0⟩ := inv0 h hd s
  rw [show (5 - 0 : Nat) = 4 + 1 from rfl]
  rcases r0 with r0 | ⟨r0, n0⟩
  · rw [run_bad (k := 4) (by rw [show (4 - 4 : Nat) = 0 from rfl, r0]; decide), show (4 - 4 : Nat) = 0 from rfl]
    exact .inr (.inl ⟨r0, hor k0⟩)
  rw [run_good (k := 4) (by rw [show (4 - 4 : Nat) = 0 from rfl, r0]), show (4 - 4 : Nat) = 0 from rfl]
  have d1 : (stepD nM s 0 d).1.Ok := step_ok hd hs
  generalize (stepD nM s 0 d).1 = x1 at k0 n0 d1
  obtain ⟨k1, r1⟩ := inv1 k0 d1 s n0
  rw [show (4 : Nat) = 3 + 1 from rfl]
  rcases r1 with r1 | r1 | ⟨r1, n1⟩
  · rw [run_bad (k := 3) (by rw [show (4 - 3 : Nat) = 1 from rfl, r1]; decide), show (4 - 3 : Nat) = 1 from rfl]
    exact .inr (.inl ⟨r1, hor k1⟩)
  · rw [run_bad (k := 3) (by rw [show (4 - 3 : Nat) = 1 from rfl, r1]; decide), show (4 - 3 : Nat) = 1 from rfl]
    exact .inr (.inr ⟨r1, k1⟩)
  rw [run_good (k := 3) (by rw [show (4 - 3 : Nat) = 1 from rfl, r1]), show (4 - 3 : Nat) = 1 from rfl]
  have d2 : (stepD nM s 1 x1).1.Ok := step_ok d1 hs
  generalize (stepD nM s 1 x1).1 = x2 at k1 n1 d2
  obtain ⟨k2, f2, r2⟩ := invS k1 d2
  have e2 := step2 nM s x2
  rw [show (3 : Nat) = 2 + 1 from rfl]
  rcases r2 with r2 | ⟨r2, _, _⟩
  · rw [run_bad (k := 2) (by rw [show (4 - 2 : Nat) = 2 from rfl, e2, r2]; decide), show (4 - 2 : Nat) = 2 from rfl, e2]
    exact .inr (.inl ⟨r2, hor k2⟩)
  rw [run_good (k := 2) (by rw [show (4 - 2 : Nat) = 2 from rfl, e2, r2]), show (4 - 2 : Nat) = 2 from rfl, e2]
  have d3 : x2.sync.1.Ok := d2.sync
  rw [← f2] at n1
  generalize x2.sync.1 = x3 at k2 n1 d3
  obtain ⟨k3, r3⟩ := inv3 k2 d3 s n1
  rw [show (2 : Nat) = 1 + 1 from rfl]
  rcases r3 with r3 | ⟨r3, n3⟩
  · rw [run_bad (k := 1) (by rw [show (4 - 1 : Nat) = 3 from rfl, r3]; decide), show (4 - 1 : Nat) = 3 from rfl]
    exact .inr (.inl ⟨r3, k3⟩)
  rw [run_good (k := 1) (by rw [show (4 - 1 : Nat) = 3 from rfl, r3]), show (4 - 1 : Nat) = 3 from rfl]
  have d4 : (stepD nM s 3 x3).1.Ok := step_ok d3 hs
  generalize (stepD nM s 3 x3).1 = x4 at k3 n3 d4
  obtain ⟨k4, f4, r4⟩ := invS k3 d4
  have e4 := step4 nM s x4
  rw [show (1 : Nat) = 0 + 1 from rfl]
  rcases r4 with r4 | ⟨r4, q1, q2⟩
  · rw [run_bad (k := 0) (by rw [show (4 - 0 : Nat) = 4 from rfl, e4, r4]; decide), show (4 - 0 : Nat) = 4 from rfl, e4]
    exact .inr (.inl ⟨r4, k4⟩)
  rw [run_good (k := 0) (by rw [show (4 - 0 : Nat) = 4 from rfl, e4, r4]), show (4 - 0 : Nat) = 4 from rfl, e4, run_zero]
  exact .inl ⟨rfl, KInv.settled (l := x4.files) n3 q1 q2⟩

theorem cut_all (t : BA) (n : Int) (h : (t.size : Int) ≤ n) : cut t 0 n = t := by
  apply bl_inj
  unfold cut
  dsimp only
  have e0 : (if (t.size : Int) < 0 then (t.size : Int) else 0).toNat = 0 := by split <;> omega
  have e1 : (if ((t.extract 0 t.size).size : Int) < n then ((t.extract 0 t.size).size : Int) else n).toNat = t.size ∨ t.size ≤ (if ((t.extract 0 t.size).size : Int) < n then ((t.extract 0 t.size).size : Int) else n).toNat := by
    rw [ByteArray.size_extract, Nat.min_self, Nat.sub_zero]
    split
    · left; omega
    · right; omega
  rw [e0, bl_ext, bl_ext, List.drop_zero, List.drop_zero, Nat.sub_zero, Nat.sub_zero]
  rw [List.take_of_length_le (i := t.size) (by rw [bl_len]; omega)]
  exact List.take_of_length_le (by rw [bl_len]; rcases e1 with e1 | e1 <;> omega)
theorem read_eq (d : Dk) {nm : BA} (hm : mayN nm = true) (n : Int) (hn : 0 ≤ n) : d.read nm 0 n = if d.still then (⟨#[]⟩, 20) else if !d.has nm then (⟨#[]⟩, 3) else (cut (ftext nm d.files) 0 n, 0) := by
  unfold Dk.read
  rw [live1 d hm]
  cases hst : d.still with
  | true => simp
  | false =>
    simp only [Bool.false_eq_true, if_false, ne_eq, not_true_eq_false]
    have : ¬ ((0 : Int) < 0 ∨ n < 0) := by omega
    simp only [this, if_false]

/-- What is loaded. -/
theorem load_inv (hd : d.Ok) : (d.still = true ∧ (loadD nM d).2 = 20) ∨ (d.still = false ∧ fget nM d.files = none ∧ (loadD nM d).2 = 3) ∨ (d.still = false ∧ ∃ t, fget nM d.files = some t ∧ loadD nM d = getM t) := by
  unfold loadD
  rw [read_eq d may_nM 16777216 (by decide)]
  cases hst : d.still with
  | true => exact .inl ⟨rfl, rfl⟩
  | false =>
    right
    cases hg : fget nM d.files with
    | none =>
      left
      have hh : d.has nM = false := by unfold Dk.has; rw [hg]; rfl
      rw [hh]
      exact ⟨rfl, rfl, rfl⟩
    | some t =>
      right
      have hh : d.has nM = true := by unfold Dk.has; rw [hg]; rfl
      refine ⟨rfl, t, rfl, ?_⟩
      have ht : ftext nM d.files = t := by unfold ftext; rw [hg]; rfl
      have hz := ftext_le nM d.files
      rw [ht] at hz
      have hu := hd.used
      rw [hh, ht, cut_all t 16777216 (by omega)]
      rfl
end Go.Proofs.Ytgmobpngcilgjaa
