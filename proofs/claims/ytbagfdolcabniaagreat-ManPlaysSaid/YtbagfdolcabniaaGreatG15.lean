/- Texts merged: MnR MnE MnS MnK. -/
import Derived.Test.YtbagfdolcabniaaGreatG13
import Derived.Test.YtbagfdolcabniaaGreatFrR
import Derived.Test.YtbagfdolcabniaaGreatG7
/- The chapter's example of a man, in plain Lean. -/
set_option linter.unusedVariables false
set_option maxRecDepth 20000
namespace Go.Proofs.YtbagfdolcabniaaGreat
open Go Go.Fx Go.Pl

def mA : Mn := ⟨1, [], 2⟩
def mB : Mn := ⟨2, [], 3⟩
def nM : BA := ⟨#[109]⟩
def nX : BA := ⟨#[120]⟩
def M0 : Dk := newD 1000
def M1 : Dk := (saveD nM (mBytes mA) M0).1
def M2 : Dk := M1.fuseTo 2
def M3 : Dk := (saveD nM (mBytes mB) M2).1
def M4 : Dk := M3.crash 0 0
theorem mA_chk : mA.chk = true := by decide +kernel
theorem mB_chk : mB.chk = true := by decide +kernel
theorem m0_chk : mn0.chk = false := by decide +kernel
theorem mA_wf : mA.wf := ⟨by decide, by decide, by simp [mA]⟩
theorem mB_wf : mB.wf := ⟨by decide, by decide, by simp [mB]⟩
theorem mA_sz : (mBytes mA).size ≤ 549755813888 := by decide +kernel
theorem mB_sz : (mBytes mB).size ≤ 549755813888 := by decide +kernel
theorem M0_ok : M0.Ok := .new (by decide) (by decide)
theorem M1_ok : M1.Ok ∧ M1.loose.length ≤ 5 := save_ok M0_ok mA_sz
theorem M2_ok : M2.Ok ∧ M2.loose.length ≤ 5 := ⟨M1_ok.1.fuseTo (by decide), M1_ok.2⟩
theorem M3_ok : M3.Ok ∧ M3.loose.length ≤ 10 := by
  have h := save_ok (nm := nM) M2_ok.1 mB_sz
  exact ⟨h.1, by have := h.2; have := M2_ok.2; show (saveD nM (mBytes mB) M2).1.loose.length ≤ 10; omega⟩
theorem M4_ok : M4.Ok := M3_ok.1.crash 0 0
theorem M_a : (saveD nM (mBytes mA) M0).2 = 0 := by decide +kernel
theorem M_b : (saveD nM (mBytes mB) M2).2 = 20 := by decide +kernel
theorem M_f : (loadD nM M4).2 = 0 := by decide +kernel
theorem M_fw : (loadD nM M4).1.wal = 1 := by decide +kernel
theorem M_fn : (loadD nM M4).1.next = 2 := by decide +kernel
theorem M_fr : (loadD nM M4).1.runs = [] := by decide +kernel
theorem M_g : (loadD nX M4).2 = 3 := by decide +kernel
theorem M_l : (loadD nM M4).1 = mA := by
  have h1 := M_fw
  have h2 := M_fn
  have h3 := M_fr
  generalize (loadD nM M4).1 = m at h1 h2 h3
  obtain ⟨a, b, c⟩ := m
  dsimp only at h1 h2 h3
  subst h1 h2 h3
  rfl
end Go.Proofs.YtbagfdolcabniaaGreat
/- The walks of the laws of mans: Same, Large, alive. -/
-- @DEFS Z
set_option linter.unusedSimpArgs false
set_option linter.unusedVariables false
set_option maxRecDepth 4000
namespace Go.Proofs.YtbagfdolcabniaaGreat
open Go Go.Fx Go.Proofs Go.Pl

/-- Are two the same? -/
def sameM (a b : Mn) : Bool := decide (a.wal = b.wal) && decide (a.next = b.next) && (a.runs == b.runs)

theorem Same_spec (a b : Mn) (u v : Value) (A B : HProp) (hA : Vw A 1 u (a.runs.map uV)) (hB : Vw B 1 v (b.runs.map uV)) (hz : a.runs.length ≤ 1099511627776) (hz2 : b.runs.length ≤ 1099511627776) :
    FSpec Tryz.prog 18 [.agg (manV a u).toArray, .agg (manV b v).toArray] [A, B] Unit (fun _ => True) (fun _ => .bool (sameM a b)) (fun _ => [A, B]) := by
  have la : (a.runs.map uV).length = a.runs.length := by simp
  have lb : (b.runs.map uV).length = b.runs.length := by simp
  cases u1 : (!decide (a.wal = b.wal)) with
  | true =>
    rw [show sameM a b = false by simp only [sameM]; simp only [Bool.not_eq_true'] at u1; rw [u1]; rfl]
    refine spec_intro [] _ Tryz.func18 rfl Tryz.ntmps18 (by rfl) (fun w0 R => ?_)
    repeat' (first | (refine go_Z ?_; intros) | (refine gs_Z ?_ ?_ <;> (intro hgd; try (simp only [Bool.not_true, Bool.not_false] at hgd))) | (refine gc_Z ?_ ?_ <;> intro _) | fail)
    (refine rt_Z (y := ()) (hrs := Tryz.results18) (hv := ?_) (hφ := ?_))
    · rfl
    · trivial
  | false =>
  cases u2 : (!decide (a.next = b.next)) with
  | true =>
    rw [show sameM a b = false by simp only [sameM]; simp only [Bool.not_eq_true'] at u2; rw [u2]; simp]
    refine spec_intro [] _ Tryz.func18 rfl Tryz.ntmps18 (by rfl) (fun w0 R => ?_)
    repeat' (first | (refine go_Z ?_; intros) | (refine gs_Z ?_ ?_ <;> (intro hgd; try (simp only [Bool.not_true, Bool.not_false] at hgd))) | (refine gc_Z ?_ ?_ <;> intro _) | fail)
    (refine rt_Z (y := ()) (hrs := Tryz.results18) (hv := ?_) (hφ := ?_))
    · rfl
    · trivial
  | false =>
  have hsm : sameM a b = (a.runs == b.runs) := by
    simp only [Bool.not_eq_false'] at u1 u2
    simp only [sameM, u1, u2, Bool.true_and]
  cases u3 : (!decide (((a.runs.map uV).length : Int) = ((b.runs.map uV).length : Int))) with
  | true =>
    rw [show sameM a b = false by
      rw [hsm]
      simp only [Bool.not_eq_true', decide_eq_false_iff_not] at u3
      rw [beq_eq_false_iff_ne]
      intro e; rw [e] at u3; simp at u3]
    refine spec_intro [] _ Tryz.func18 rfl Tryz.ntmps18 (by rfl) (fun w0 R => ?_)
    repeat' (first | (refine go_Z ?_; intros) | (refine gs_Z ?_ ?_ <;> (intro hgd; try (simp only [Bool.not_true, Bool.not_false] at hgd))) | (refine gc_Z ?_ ?_ <;> intro _) | fail)
    (refine rt_Z (y := ()) (hrs := Tryz.results18) (hv := ?_) (hφ := ?_))
    · rfl
    · trivial
  | false =>
    have hl : a.runs.length = b.runs.length := by simp at u3; omega
    refine spec_intro [] _ Tryz.func18 rfl Tryz.ntmps18 (by rfl) (fun w0 R => ?_)
    repeat' (first | (refine go_Z ?_; intros) | (refine gs_Z ?_ ?_ <;> (intro hgd; try (simp only [Bool.not_true, Bool.not_false] at hgd))) | (refine gc_Z ?_ ?_ <;> intro _) | fail)
    rename_i b2 b3
    refine ok_map (L' := [pts b2 (.cells (manV a u).toArray 36), pts b3 (.cells (manV b v).toArray 36), A, B] ++ R) entD ?_
    refine ok_loop' (γ := Nat) (fun i ρ L => i ≤ a.runs.length ∧ a.runs.take i = b.runs.take i ∧ Knows ρ [(2, .pointer (some ⟨b2, 0, none⟩)), (3, .pointer (some ⟨b3, 0, none⟩)), (5, .int .i64 i)] ∧ L = [pts b2 (.cells (manV a u).toArray 36), pts b3 (.cells (manV b v).toArray 36), A, B] ++ R) (fun i => a.runs.length - i) 0 ⟨by simp, by simp, ⟨rfl, rfl, rfl, trivial⟩, rfl⟩ ?_
    rintro i ρ L ⟨hi, heq, hk, rfl⟩
    refine ok_regs hk ?_
    cases t1 : decide ((i : Int) < ((a.runs.map uV).length : Int)) with
    | true =>
      have h : i < a.runs.length := by simp at t1; omega
      have h' : i < b.runs.length := by omega
      have hn1 : i < (a.runs.map uV).length := by omega
      have hn2 : i < (b.runs.map uV).length := by omega
      have hx : (a.runs.map uV)[i]? = some (uV a.runs[i]) := by rw [List.getElem?_map, List.getElem?_eq_getElem h]; rfl
      have hy : (b.runs.map uV)[i]? = some (uV b.runs[i]) := by rw [List.getElem?_map, List.getElem?_eq_getElem h']; rfl
      have ta : a.runs.take (i + 1) = a.runs.take i ++ [a.runs[i]] := by rw [List.take_add_one, List.getElem?_eq_getElem h]; rfl
      have tb : b.runs.take (i + 1) = b.runs.take i ++ [b.runs[i]] := by rw [List.take_add_one, List.getElem?_eq_getElem h']; rfl
      have hne : a.runs[i] ≠ b.runs[i] → (a.runs == b.runs) = false := by
        intro hne
        rw [beq_eq_false_iff_ne]
        intro e
        exact hne (by simp only [e])
      refine ok_learn (VwIn.slice (VwIn.there (VwIn.there (VwIn.here hA)))) ?_
      rintro ⟨pa, ca, rfl⟩
      refine ok_learn (VwIn.base (VwIn.there (VwIn.there (VwIn.here hA))) (by intro e; rw [e] at hn1; simp at hn1)) ?_
      rintro ⟨xa, oa, rfl⟩
      refine ok_learn (VwIn.slice (VwIn.there (VwIn.there (VwIn.there (VwIn.here hB))))) ?_
      rintro ⟨pb, cb, rfl⟩
      refine ok_learn (VwIn.base (VwIn.there (VwIn.there (VwIn.there (VwIn.here hB)))) (by intro e; rw [e] at hn2; simp at hn2)) ?_
      rintro ⟨xb, ob, rfl⟩
      generalize a.runs[i] = x at hx ta hne
      generalize b.runs[i] = y at hy tb hne
      cases u4 : (!decide (x = y)) with
      | true =>
        rw [hsm, hne (by simpa using u4)]
        repeat' (first | (refine go_Z ?_; intros) | (refine gs_Z ?_ ?_ <;> (intro hgd; try (simp only [Bool.not_true, Bool.not_false] at hgd))) | (refine gc_Z ?_ ?_ <;> intro _) | fail)
        (refine rt_Z (y := ()) (hrs := Tryz.results18) (hv := ?_) (hφ := ?_))
        · rfl
        · trivial
      | false =>
        have hxy : x = y := by simpa using u4
        repeat' (first | (refine go_Z ?_; intros) | (refine gs_Z ?_ ?_ <;> (intro hgd; try (simp only [Bool.not_true, Bool.not_false] at hgd))) | (refine gc_Z ?_ ?_ <;> intro _) | fail)
        refine cont_back (i + 1) ⟨h, by rw [ta, tb, heq, hxy], ⟨rfl, rfl, rfl, trivial⟩, rfl⟩ (by omega)
    | false =>
      have hie : i = a.runs.length := by simp at t1; omega
      subst hie
      rw [List.take_length, hl, List.take_length] at heq
      rw [hsm, show (a.runs == b.runs) = true by rw [heq]; simp]
      repeat' (first | (refine go_Z ?_; intros) | (refine gs_Z ?_ ?_ <;> (intro hgd; try (simp only [Bool.not_true, Bool.not_false] at hgd))) | (refine gc_Z ?_ ?_ <;> intro _) | fail)
      (refine rt_Z (y := ()) (hrs := Tryz.results18) (hv := ?_) (hφ := ?_))
      · rfl
      · trivial

theorem alive_man : FSpec Tryz.prog 5 [] [] Unit (fun _ => True) (fun _ => .bool true) (fun _ => []) := by
  refine spec_intro [] _ Tryz.func5 rfl Tryz.ntmps5 (by rfl) (fun w0 R => ?_)
  repeat' (first | (refine go_Z ?_; intros) | (refine gs_Z ?_ ?_ <;> (intro hgd; try (simp only [Bool.not_true, Bool.not_false] at hgd))) | (refine gc_Z ?_ ?_ <;> intro _) | fail)
  refine cl_Z (new_spec 1000 (by decide) (by decide)) ?_
  intro b _
  rw [show newD 1000 = M0 from rfl]
  repeat' (first | (refine go_Z ?_; intros) | (refine gs_Z ?_ ?_ <;> (intro hgd; try (simp only [Bool.not_true, Bool.not_false] at hgd))) | (refine gc_Z ?_ ?_ <;> intro _) | fail)
  refine opsL_map (fun _ h => rowNil (e := 33) (n := 1) h) ?_
  refine cl_Z (Save_spec b M0 nM mA (.slice none 0 0) (row 33 1 (.slice none 0 0) []) M0_ok (by decide) (by decide) Vw.row cap0 (by decide) mA_chk mA_wf) ?_
  intro _ _
  rw [M_a, show (saveD nM (mBytes mA) M0).1 = M1 from rfl]
  repeat' (first | (refine go_Z ?_; intros) | (refine gs_Z ?_ ?_ <;> (intro hgd; try (simp only [Bool.not_true, Bool.not_false] at hgd))) | (refine gc_Z ?_ ?_ <;> intro _) | fail)
  refine cl_Z (fuse_spec b M1 2) ?_
  intro _ _
  rw [show M1.fuseTo 2 = M2 from rfl]
  repeat' (first | (refine go_Z ?_; intros) | (refine gs_Z ?_ ?_ <;> (intro hgd; try (simp only [Bool.not_true, Bool.not_false] at hgd))) | (refine gc_Z ?_ ?_ <;> intro _) | fail)
  refine cl_Z (Save_spec b M2 nM mB (.slice none 0 0) (row 33 1 (.slice none 0 0) []) M2_ok.1 (by have := M2_ok.2; omega) (by decide) Vw.row cap0 (by decide) mB_chk mB_wf) ?_
  intro _ _
  rw [M_b, show (saveD nM (mBytes mB) M2).1 = M3 from rfl]
  repeat' (first | (refine go_Z ?_; intros) | (refine gs_Z ?_ ?_ <;> (intro hgd; try (simp only [Bool.not_true, Bool.not_false] at hgd))) | (refine gc_Z ?_ ?_ <;> intro _) | fail)
  refine cl_Z (crash_spec b M3 0 0 M3_ok.1 (by have := M3_ok.2; omega)) ?_
  intro _ _
  rw [show M3.crash 0 0 = M4 from rfl]
  repeat' (first | (refine go_Z ?_; intros) | (refine gs_Z ?_ ?_ <;> (intro hgd; try (simp only [Bool.not_true, Bool.not_false] at hgd))) | (refine gc_Z ?_ ?_ <;> intro _) | fail)
  refine cl_Z (Load_spec b M4 nM M4_ok (by decide)) ?_
  rintro ⟨v1, hv1⟩ _
  rw [M_f, M_l]
  repeat' (first | (refine go_Z ?_; intros) | (refine gs_Z ?_ ?_ <;> (intro hgd; try (simp only [Bool.not_true, Bool.not_false] at hgd))) | (refine gc_Z ?_ ?_ <;> intro _) | fail)
  refine cl_Z (Load_spec b M4 nX M4_ok (by decide)) ?_
  rintro ⟨v2, hv2⟩ _
  rw [M_g]
  repeat' (first | (refine go_Z ?_; intros) | (refine gs_Z ?_ ?_ <;> (intro hgd; try (simp only [Bool.not_true, Bool.not_false] at hgd))) | (refine gc_Z ?_ ?_ <;> intro _) | fail)
  refine cl_Z (Same_spec mA mA v1 (.slice none 0 0) (row 33 1 v1 (mA.runs.map uV)) (row 33 1 (.slice none 0 0) []) Vw.row Vw.row (by decide) (by decide)) ?_
  intro _ _
  rw [show sameM mA mA = true by decide]
  repeat' (first | (refine go_Z ?_; intros) | (refine gs_Z ?_ ?_ <;> (intro hgd; try (simp only [Bool.not_true, Bool.not_false] at hgd))) | (refine gc_Z ?_ ?_ <;> intro _) | fail)
  refine cl_Z (Check_spec mn0 (.slice none 0 0) (row 33 1 (.slice none 0 0) []) Vw.row cap0 (by decide)) ?_
  intro _ _
  rw [m0_chk]
  repeat' (first | (refine go_Z ?_; intros) | (refine gs_Z ?_ ?_ <;> (intro hgd; try (simp only [Bool.not_true, Bool.not_false] at hgd))) | (refine gc_Z ?_ ?_ <;> intro _) | fail)
  (refine rt_Z (y := ()) (hrs := Tryz.results5) (hv := ?_) (hφ := ?_))
  · rfl
  · trivial

/-! ### ManNil -/
end Go.Proofs.YtbagfdolcabniaaGreat
/- What a disk keeps of a man, whatever happens: in plain Lean. -/
set_option linter.unusedVariables false
namespace Go.Proofs.YtbagfdolcabniaaGreat
open Go Go.Fx Go.Pl

def nMn : BA := nM ++ dotNew
theorem may_nM : mayN nM = true := by decide +kernel
theorem may_nMn : mayN nMn = true := by decide +kernel
theorem nMn_ne : nMn ≠ nM := by decide +kernel
theorem nMn_neS : (nMn.toList == nM.toList) = false := by decide +kernel

theorem fget_del (k j : BA) (h : k ≠ j) : ∀ l : FS, fget k (fdel j l) = fget k l
  | [] => rfl
  | (b, u) :: l => by
    unfold fdel
    by_cases hj : j = b
    · subst hj
      rw [if_pos rfl]
      simp only [fget, if_neg h]
    · rw [if_neg hj]
      simp only [fget]
      by_cases hk : k = b
      · simp [hk]
      · simp [hk, fget_del k j h l]
theorem fget_notin {k : BA} : ∀ {l : FS}, k ∉ l.map (·.1) → fget k l = none
  | [], _ => rfl
  | (b, u) :: l, h => by
    simp only [List.map_cons, List.mem_cons, not_or] at h
    simp only [fget, if_neg h.1]
    exact fget_notin h.2
theorem fget_del_self (k : BA) : ∀ {l : FS}, (l.map (·.1)).Nodup → fget k (fdel k l) = none
  | [], _ => rfl
  | (b, u) :: l, h => by
    simp only [List.map_cons, List.nodup_cons] at h
    unfold fdel
    by_cases hj : k = b
    · subst hj
      rw [if_pos rfl]
      exact fget_notin h.1
    · rw [if_neg hj]
      simp only [fget, if_neg hj]
      exact fget_del_self k h.2

/-- What is there of the man's file, wherever it crashes. -/
structure KInv (C : Option BA → Prop) (d : Dk) : Prop where
  pre : ∀ k, C (fget nM (play d.sure (d.loose.take k)))
  app : ∀ c ∈ d.loose, ∀ n s, c = .app n s → n ≠ nM

variable {C C' : Option BA → Prop} {d : Dk}
theorem KInv.mono (h : KInv C d) (k : ∀ o, C o → C' o) : KInv C' d := ⟨fun i => k _ (h.pre i), h.app⟩
theorem KInv.files (h : KInv C d) (hd : d.Ok) : C (fget nM d.files) := by
  have := h.pre d.loose.length
  rw [List.take_length, hd.play] at this
  exact this
theorem KInv.same (h : KInv C d) {d' : Dk} (e1 : d'.sure = d.sure) (e2 : d'.loose = d.loose) : KInv C d' := ⟨by rw [e1, e2]; exact h.pre, by rw [e2]; exact h.app⟩
theorem KInv.fuse (h : KInv C d) (n : Int) : KInv C (d.fuseTo n) := h.same rfl rfl
theorem KInv.settled {l : FS} (h : C (fget nM l)) {d : Dk} (e1 : d.sure = l) (e2 : d.loose = []) : KInv C d := by
  refine ⟨fun k => ?_, ?_⟩
  · rw [e2, e1]; simpa [play] using h
  · rw [e2]; simp
theorem KInv.crash (h : KInv C d) (keep torn : Int) : KInv C (d.crash keep torn) := by
  refine KInv.settled (l := d.torn (d.kept keep) torn) ?_ rfl rfl
  unfold Dk.torn
  generalize d.kept keep = k
  have hk := h.pre k
  cases hc : d.loose[k]? with
  | none => exact hk
  | some c =>
    have hm : c ∈ d.loose := List.mem_of_getElem? hc
    cases c with
    | app n s =>
      have hn := h.app _ hm n s rfl
      by_cases ht : 0 < torn
      · have e : (some (Cl.app n s)).bind (·.piece torn) = some (.app n (s.extract 0 (if (s.size : Int) < torn then (s.size : Int) else torn).toNat)) := by simp [Cl.piece, ht]
        rw [e]
        show C (fget nM (fput n _ _))
        rw [fget_put, if_neg (Ne.symm hn)]
        exact hk
      · have e : (some (Cl.app n s)).bind (·.piece torn) = none := by simp [Cl.piece, ht]
        rw [e]; exact hk
    | trunc n s => exact hk
    | ren n s => exact hk
    | rem n => exact hk
theorem KInv.doC (h : KInv C d) (hd : d.Ok) (c : Cl) (hC : C (fget nM (c.run d.files))) (ha : ∀ n s, c = .app n s → n ≠ nM) : KInv C (d.doC c).1 := by
  unfold Dk.doC
  split
  · exact h.same rfl rfl
  · refine ⟨fun k => ?_, ?_⟩
    · show C (fget nM (play d.sure ((d.loose ++ [c]).take k)))
      rcases Nat.lt_or_ge d.loose.length k with hk | hk
      · rw [List.take_of_length_le (by simp; omega), play_snoc, hd.play]; exact hC
      · rw [List.take_append_of_le_length hk]; exact h.pre k
    · intro x hx n s e
      rcases List.mem_append.1 hx with hx | hx
      · exact h.app x hx n s e
      · rw [List.mem_singleton] at hx
        subst hx; exact ha n s e

theorem doC_cases (d : Dk) (c : Cl) : ((d.doC c).2 = 20 ∧ (d.doC c).1.files = d.files) ∨ ((d.doC c).2 = 0 ∧ (d.doC c).1.files = c.run d.files) := by
  unfold Dk.doC
  split
  · exact .inl ⟨rfl, rfl⟩
  · exact .inr ⟨rfl, rfl⟩
theorem live1 (d : Dk) {n : BA} (h : mayN n = true) : d.live [n] = if d.still then 20 else 0 := by
  unfold Dk.live
  simp [h]
theorem live2 (d : Dk) {n m : BA} (h : mayN n = true) (h' : mayN m = true) : d.live [n, m] = if d.still then 20 else 0 := by
  unfold Dk.live
  simp [h, h']
theorem live0 (d : Dk) : d.live [] = if d.still then 20 else 0 := by
  unfold Dk.live
  simp

/-- Step 0. -/
theorem inv0 (h : KInv C d) (hd : d.Ok) (s : BA) : KInv C (stepD nM s 0 d).1 ∧ ((stepD nM s 0 d).2 = 20 ∨ (stepD nM s 0 d).2 = 0 ∧ fget nMn (stepD nM s 0 d).1.files = none) := by
  rw [step0, show nM ++ dotNew = nMn from rfl]
  unfold Dk.remove
  rw [live1 d may_nMn]
  cases hst : d.still with
  | true => simp only [if_true]; rw [if_pos (by decide)]; exact ⟨h, .inl (by simp)⟩
  | false =>
    simp only [Bool.false_eq_true, if_false, ne_eq, not_true_eq_false]
    cases hh : d.has nMn with
    | false =>
      refine ⟨h, .inr ⟨by simp, ?_⟩⟩
      unfold Dk.has at hh
      simp only [Bool.not_false, if_true]
      cases hg : fget nMn d.files with
      | none => rfl
      | some _ => rw [hg] at hh; cases hh
    | true =>
      simp only [Bool.not_true, Bool.false_eq_true, if_false]
      refine ⟨h.doC hd (.rem nMn) (by show C (fget nM (fdel nMn d.files)); rw [fget_del _ _ (Ne.symm nMn_ne)]; exact h.files hd) (fun _ _ e => by cases e), ?_⟩
      rcases doC_cases d (.rem nMn) with ⟨e1, e2⟩ | ⟨e1, e2⟩
      · rw [e1]; exact .inl (by simp)
      · rw [e1, e2]
        exact .inr ⟨by simp, fget_del_self nMn hd.nd⟩
/-- Step 1. -/
theorem inv1 (h : KInv C d) (hd : d.Ok) (s : BA) (hn : fget nMn d.files = none) : KInv C (stepD nM s 1 d).1 ∧ ((stepD nM s 1 d).2 = 20 ∨ (stepD nM s 1 d).2 = 4 ∨ (stepD nM s 1 d).2 = 0 ∧ fget nMn (stepD nM s 1 d).1.files = some s) := by
  rw [step1, show nM ++ dotNew = nMn from rfl]
  unfold Dk.append
  rw [live1 d may_nMn]
  cases hst : d.still with
  | true => simp only [if_true]; rw [if_pos (by decide)]; exact ⟨h, .inl (by simp)⟩
  | false =>
    simp only [Bool.false_eq_true, if_false, ne_eq, not_true_eq_false]
    split
    · exact ⟨h, .inr (.inl rfl)⟩
    · have ht : ftext nMn d.files ++ s = s := by
        unfold ftext; rw [hn]; exact ByteArray.empty_append
      refine ⟨h.doC hd (.app nMn s) (by show C (fget nM (fput nMn _ d.files)); rw [fget_put, if_neg (Ne.symm nMn_ne)]; exact h.files hd) (fun n t e => by cases e; exact nMn_ne), ?_⟩
      rcases doC_cases d (.app nMn s) with ⟨e1, e2⟩ | ⟨e1, e2⟩
      · exact .inl e1
      · refine .inr (.inr ⟨e1, ?_⟩)
        rw [e2]
        show fget nMn (fput nMn (ftext nMn d.files ++ s) d.files) = some s
        rw [fget_put, if_pos rfl, ht]
/-- A sync. -/
theorem invS (h : KInv C d) (hd : d.Ok) : KInv C d.sync.1 ∧ d.sync.1.files = d.files ∧ (d.sync.2 = 20 ∨ d.sync.2 = 0 ∧ d.sync.1.sure = d.files ∧ d.sync.1.loose = []) := by
  unfold Dk.sync
  rw [live0 d]
  cases hst : d.still with
  | true => simp only [if_true]; rw [if_pos (by decide)]; exact ⟨h, rfl, .inl rfl⟩
  | false =>
    simp only [Bool.false_eq_true, if_false, ne_eq, not_true_eq_false]
    split
    · exact ⟨h.same rfl rfl, rfl, .inl rfl⟩
    · exact ⟨KInv.settled (h.files hd) rfl rfl, rfl, .inr ⟨rfl, rfl, rfl⟩⟩
/-- Step 3. -/
theorem inv3 (h : KInv C d) (hd : d.Ok) (s : BA) (hn : fget nMn d.files = some s) : KInv (fun o => C o ∨ o = some s) (stepD nM s 3 d).1 ∧ ((stepD nM s 3 d).2 = 20 ∨ (stepD nM s 3 d).2 = 0 ∧ fget nM (stepD nM s 3 d).1.files = some s) := by
  rw [step3, show nM ++ dotNew = nMn from rfl]
  unfold Dk.rename
  rw [live2 d may_nMn may_nM]
  have h' : KInv (fun o => C o ∨ o = some s) d := h.mono fun _ k => .inl k
  cases hst : d.still with
  | true => simp only [if_true]; rw [if_pos (by decide)]; exact ⟨h', .inl (by simp)⟩
  | false =>
    simp only [Bool.false_eq_true, if_false, ne_eq, not_true_eq_false, nMn_neS]
    have hh : d.has nMn = true := by unfold Dk.has; rw [hn]; rfl
    simp only [hh, Bool.not_true, Bool.false_eq_true, if_false]
    have hr : fget nM (Cl.run (.ren nMn nM) d.files) = some s := by
      show fget nM (fdel nMn (fput nM (ftext nMn d.files) d.files)) = some s
      rw [fget_del _ _ (Ne.symm nMn_ne), fget_put, if_pos rfl]
      unfold ftext; rw [hn]; rfl
    refine ⟨h'.doC hd (.ren nMn nM) (.inr hr) (fun n t e => by cases e), ?_⟩
    rcases doC_cases d (.ren nMn nM) with ⟨e1, e2⟩ | ⟨e1, e2⟩
    · exact .inl e1
    · exact .inr ⟨e1, by rw [e2]; exact hr⟩

theorem save_inv (h : KInv C d) (hd : d.Ok) (s : BA) (hs : s.size ≤ 549755813888) :
    ((saveD nM s d).2 = 0 ∧ KInv (fun o => o = some s) (saveD nM s d).1) ∨ ((saveD nM s d).2 = 20 ∧ KInv (fun o => C o ∨ o = some s) (saveD nM s d).1) ∨ ((saveD nM s d).2 = 4 ∧ KInv C (saveD nM s d).1) := by
  rw [← save_run]
  have hor : ∀ {x : Dk}, KInv C x → KInv (fun o => C o ∨ o = some s) x := fun k => k.mono fun _ k => .inl k
  obtain ⟨k0, r0⟩ := inv0 h hd s
  rw [show (5 - 0 : Nat) = 4 + 1 from rfl]
  rcases r0 with r0 | ⟨r0, n0⟩
  · rw [run_bad (k := 4) (by rw [show (4 - 4 : Nat) = 0 from rfl, r0]; decide), show (4 - 4 : Nat) = 0 from rfl]
    exact .inr (.inl ⟨r0, hor k0⟩)
  rw [run_good (k := 4) (by rw [show (4 - 4 : Nat) = 0 from rfl, r0]), show (4 - 4 : Nat) = 0 from rfl]
  have d1 : (stepD nM s 0 d).1.Ok := step_ok hd hs
  generalize (stepD nM s 0 d).1 = x1 at k0 n0 d1
  obtain ⟨k1, r1⟩ := inv1 k0 d1 s n0
  rw [show (4 : Nat) = 3 + 1 from rfl]
  rcases r1 with r1 | r1 | ⟨r1, n1⟩
  · rw [run_bad (k := 3) (by rw [show (4 - 3 : Nat) = 1 from rfl, r1]; decide), show (4 - 3 : Nat) = 1 from rfl]
    exact .inr (.inl ⟨r1, hor k1⟩)
  · rw [run_bad (k := 3) (by rw [show (4 - 3 : Nat) = 1 from rfl, r1]; decide), show (4 - 3 : Nat) = 1 from rfl]
    exact .inr (.inr ⟨r1, k1⟩)
  rw [run_good (k := 3) (by rw [show (4 - 3 : Nat) = 1 from rfl, r1]), show (4 - 3 : Nat) = 1 from rfl]
  have d2 : (stepD nM s 1 x1).1.Ok := step_ok d1 hs
  generalize (stepD nM s 1 x1).1 = x2 at k1 n1 d2
  obtain ⟨k2, f2, r2⟩ := invS k1 d2
  have e2 := step2 nM s x2
  rw [show (3 : Nat) = 2 + 1 from rfl]
  rcases r2 with r2 | ⟨r2, _, _⟩
  · rw [run_bad (k := 2) (by rw [show (4 - 2 : Nat) = 2 from rfl, e2, r2]; decide), show (4 - 2 : Nat) = 2 from rfl, e2]
    exact .inr (.inl ⟨r2, hor k2⟩)
  rw [run_good (k := 2) (by rw [show (4 - 2 : Nat) = 2 from rfl, e2, r2]), show (4 - 2 : Nat) = 2 from rfl, e2]
  have d3 : x2.sync.1.Ok := d2.sync
  rw [← f2] at n1
  generalize x2.sync.1 = x3 at k2 n1 d3
  obtain ⟨k3, r3⟩ := inv3 k2 d3 s n1
  rw [show (2 : Nat) = 1 + 1 from rfl]
  rcases r3 with r3 | ⟨r3, n3⟩
  · rw [run_bad (k := 1) (by rw [show (4 - 1 : Nat) = 3 from rfl, r3]; decide), show (4 - 1 : Nat) = 3 from rfl]
    exact .inr (.inl ⟨r3, k3⟩)
  rw [run_good (k := 1) (by rw [show (4 - 1 : Nat) = 3 from rfl, r3]), show (4 - 1 : Nat) = 3 from rfl]
  have d4 : (stepD nM s 3 x3).1.Ok := step_ok d3 hs
  generalize (stepD nM s 3 x3).1 = x4 at k3 n3 d4
  obtain ⟨k4, f4, r4⟩ := invS k3 d4
  have e4 := step4 nM s x4
  rw [show (1 : Nat) = 0 + 1 from rfl]
  rcases r4 with r4 | ⟨r4, q1, q2⟩
  · rw [run_bad (k := 0) (by rw [show (4 - 0 : Nat) = 4 from rfl, e4, r4]; decide), show (4 - 0 : Nat) = 4 from rfl, e4]
    exact .inr (.inl ⟨r4, k4⟩)
  rw [run_good (k := 0) (by rw [show (4 - 0 : Nat) = 4 from rfl, e4, r4]), show (4 - 0 : Nat) = 4 from rfl, e4, run_zero]
  exact .inl ⟨rfl, KInv.settled (l := x4.files) n3 q1 q2⟩

theorem cut_all (t : BA) (n : Int) (h : (t.size : Int) ≤ n) : cut t 0 n = t := by
  apply bl_inj
  unfold cut
  dsimp only
  have e0 : (if (t.size : Int) < 0 then (t.size : Int) else 0).toNat = 0 := by split <;> omega
  have e1 : (if ((t.extract 0 t.size).size : Int) < n then ((t.extract 0 t.size).size : Int) else n).toNat = t.size ∨ t.size ≤ (if ((t.extract 0 t.size).size : Int) < n then ((t.extract 0 t.size).size : Int) else n).toNat := by
    rw [ByteArray.size_extract, Nat.min_self, Nat.sub_zero]
    split
    · left; omega
    · right; omega
  rw [e0, bl_ext, bl_ext, List.drop_zero, List.drop_zero, Nat.sub_zero, Nat.sub_zero]
  rw [List.take_of_length_le (i := t.size) (by rw [bl_len]; omega)]
  exact List.take_of_length_le (by rw [bl_len]; rcases e1 with e1 | e1 <;> omega)
theorem read_eq (d : Dk) {nm : BA} (hm : mayN nm = true) (n : Int) (hn : 0 ≤ n) : d.read nm 0 n = if d.still then (⟨#[]⟩, 20) else if !d.has nm then (⟨#[]⟩, 3) else (cut (ftext nm d.files) 0 n, 0) := by
  unfold Dk.read
  rw [live1 d hm]
  cases hst : d.still with
  | true => simp
  | false =>
    simp only [Bool.false_eq_true, if_false, ne_eq, not_true_eq_false]
    have : ¬ ((0 : Int) < 0 ∨ n < 0) := by omega
    simp only [this, if_false]

/-- What is loaded. -/
theorem load_inv (hd : d.Ok) : (d.still = true ∧ (loadD nM d).2 = 20) ∨ (d.still = false ∧ fget nM d.files = none ∧ (loadD nM d).2 = 3) ∨ (d.still = false ∧ ∃ t, fget nM d.files = some t ∧ loadD nM d = getM t) := by
  unfold loadD
  rw [read_eq d may_nM 16777216 (by decide)]
  cases hst : d.still with
  | true => exact .inl ⟨rfl, rfl⟩
  | false =>
    right
    cases hg : fget nM d.files with
    | none =>
      left
      have hh : d.has nM = false := by unfold Dk.has; rw [hg]; rfl
      rw [hh]
      exact ⟨rfl, rfl, rfl⟩
    | some t =>
      right
      have hh : d.has nM = true := by unfold Dk.has; rw [hg]; rfl
      refine ⟨rfl, t, rfl, ?_⟩
      have ht : ftext nM d.files = t := by unfold ftext; rw [hg]; rfl
      have hz := ftext_le nM d.files
      rw [ht] at hz
      have hu := hd.used
      rw [hh, ht, cut_all t 16777216 (by omega)]
      rfl
end Go.Proofs.YtbagfdolcabniaaGreat
/- The walk of ManKeeps. -/
-- @DEFS Z
set_option linter.unusedSimpArgs false
set_option linter.unusedVariables false
set_option maxRecDepth 4000
namespace Go.Proofs.YtbagfdolcabniaaGreat
open Go Go.Fx Go.Proofs Go.Pl

def Dk.roomTo (d : Dk) (n : Int) : Dk := if n < 0 ∨ 16777216 < n then d else { d with room := n }
theorem room_ok {d : Dk} (h : d.Ok) (n : Int) : (Dk.roomTo d n).Ok := by
  unfold Dk.roomTo
  split
  · exact h
  · exact { h with room0 := by show 0 ≤ n; omega, roomM := by show n ≤ 16777216; omega }
/-- A step of a script. -/
structure Sm where
  op : Int
  m : Mn
  v : { v : Value // v.oneCell' = true }
  n : Int
  k : Int
def smV (x : Sm) : List Value := [.int .i64 x.op, .int .u64 x.m.wal, x.v.1, .int .u64 x.m.next, .int .i64 x.n, .int .i64 x.k]

theorem heavyM_spec (u : Value) (A : HProp) (xs : List Sm) (hA : Vw A 6 u (xs.map smV)) (hv : ∀ x ∈ xs, Vw A 1 x.v.1 (x.m.runs.map uV)) :
    FSpec Tryz.prog 4 [u] [A] Bool (fun y => y = false → xs.length ≤ 60 ∧ ∀ x ∈ xs, x.m.runs.length ≤ 20) (fun y => .bool y) (fun _ => [A]) := by
  refine spec_intro [] _ Tryz.func4 rfl Tryz.ntmps4 (by rfl) (fun w0 R => ?_)
  refine ok_learn (VwIn.slice (VwIn.here hA)) ?_
  rintro ⟨pu, cu, rfl⟩
  repeat' (first | (refine go_Z ?_; intros) | (refine gs_Z ?_ ?_ <;> (intro hgd; try (simp only [Bool.not_true, Bool.not_false] at hgd))) | (refine gc_Z ?_ ?_ <;> intro _) | fail)
  have hlen : (xs.map smV).length = xs.length := by simp
  refine ok_loop' (γ := Nat) (fun i ρ L => i ≤ xs.length ∧ i ≤ 100 ∧ (∀ x ∈ xs.take i, x.m.runs.length ≤ 20) ∧ Knows ρ [(0, .slice pu (xs.map smV).length cu), (3, .int .i64 i)] ∧ L = [A] ++ R) (fun i => xs.length - i) 0 ⟨by simp, by simp, by simp, ⟨rfl, rfl, trivial⟩, rfl⟩ ?_
  rintro i ρ L ⟨hi, hi1, hall, hk, rfl⟩
  refine ok_regs hk ?_
  cases t1 : decide ((i : Int) < ((xs.map smV).length : Int)) with
  | false =>
    have hie : i = xs.length := by simp at t1; omega
    have hfull : xs.take i = xs := by rw [hie]; exact List.take_length
    rw [hfull] at hall
    repeat' (first | (refine go_Z ?_; intros) | (refine gs_Z ?_ ?_ <;> (intro hgd; try (simp only [Bool.not_true, Bool.not_false] at hgd))) | (refine gc_Z ?_ ?_ <;> intro _) | fail)
    (refine rt_Z (y := decide ((60 : Int) < ((xs.map smV).length : Int))) (hrs := Tryz.results4) (hv := ?_) (hφ := ?_))
    · rfl
    · intro hb
      simp only [decide_eq_false_iff_not, hlen] at hb
      exact ⟨by omega, hall⟩
  | true =>
    have h : i < xs.length := by simp at t1; omega
    cases t2 : decide ((i : Int) < 100) with
    | false =>
      have h100 : i = 100 := by simp at t2; omega
      repeat' (first | (refine go_Z ?_; intros) | (refine gs_Z ?_ ?_ <;> (intro hgd; try (simp only [Bool.not_true, Bool.not_false] at hgd))) | (refine gc_Z ?_ ?_ <;> intro _) | fail)
      (refine rt_Z (y := decide ((60 : Int) < ((xs.map smV).length : Int))) (hrs := Tryz.results4) (hv := ?_) (hφ := ?_))
      · rfl
      · intro hb
        simp only [decide_eq_false_iff_not, hlen] at hb
        omega
    | true =>
      have h100 : i < 100 := by simp at t2; omega
      have hn1 : i < (xs.map smV).length := by omega
      have hx : (xs.map smV)[i]? = some (smV xs[i]) := by rw [List.getElem?_map, List.getElem?_eq_getElem h]; rfl
      have htk : xs.take (i + 1) = xs.take i ++ [xs[i]] := by rw [List.take_add_one, List.getElem?_eq_getElem h]; rfl
      have hvx := hv _ (List.getElem_mem h)
      refine ok_learn (VwIn.base (VwIn.here hA) (by intro e; rw [e] at hn1; simp at hn1)) ?_
      rintro ⟨bu, ou, rfl⟩
      generalize xs[i] = x at hx htk hvx
      obtain ⟨o, m, ⟨v, hvc⟩, n, k⟩ := x
      dsimp only at hvx
      have hlr : (m.runs.map uV).length = m.runs.length := by simp
      cases t3 : decide ((20 : Int) < ((m.runs.map uV).length : Int)) with
      | true =>
        repeat' (first | (refine go_Z ?_; intros) | (refine gs_Z ?_ ?_ <;> (intro hgd; try (simp only [Bool.not_true, Bool.not_false] at hgd))) | (refine gc_Z ?_ ?_ <;> intro _) | fail)
        (refine rt_Z (y := true) (hrs := Tryz.results4) (hv := ?_) (hφ := ?_))
        · rfl
        · intro hb; cases hb
      | false =>
        have h20 : m.runs.length ≤ 20 := by simp at t3; omega
        repeat' (first | (refine go_Z ?_; intros) | (refine gs_Z ?_ ?_ <;> (intro hgd; try (simp only [Bool.not_true, Bool.not_false] at hgd))) | (refine gc_Z ?_ ?_ <;> intro _) | fail)
        refine cont_back (i + 1) ⟨h, by omega, ?_, ⟨rfl, rfl, trivial⟩, rfl⟩ (by omega)
        intro x hxm
        rw [htk] at hxm
        rcases List.mem_append.1 hxm with hxm | hxm
        · exact hall x hxm
        · rw [List.mem_singleton] at hxm; subst hxm; exact h20
end Go.Proofs.YtbagfdolcabniaaGreat
