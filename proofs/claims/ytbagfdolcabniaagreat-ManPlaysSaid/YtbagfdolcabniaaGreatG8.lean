/- Texts merged: RfM RfH RfI RfJ. -/
import Derived.Test.YtbagfdolcabniaaGreatG5
import Derived.Test.YtbagfdolcabniaaGreatG7
/- What always holds of a disk and of its twin, in plain Lean. -/
set_option linter.unusedVariables false
namespace Go.Proofs.YtbagfdolcabniaaGreat
open Go Go.Fx Go.Pl

def okN : Cl → Prop
  | .app n _ => mayN n = true
  | .trunc _ _ => False
  | .ren a b => a ≠ b ∧ mayN b = true
  | .rem _ => True
theorem okN_tr {c : Cl} (h : okN c) : okR c ∧ ∀ a k, c ≠ .trunc a k := by
  cases c with
  | app n s => exact ⟨trivial, fun _ _ e => by cases e⟩
  | trunc n k => exact h.elim
  | ren a b => exact ⟨h.1, fun _ _ e => by cases e⟩
  | rem a => exact ⟨trivial, fun _ _ e => by cases e⟩
theorem run_len1 (c : Cl) (l : FS) : (c.run l).length ≤ l.length + 1 := by
  cases c with
  | app n s => exact fput_len _ _ _
  | trunc n k => exact fput_len _ _ _
  | ren a b =>
    have h1 := fdel_len a (fput b (ftext a l) l)
    have h2 := fput_len b (ftext a l) l
    show (fdel a (fput b (ftext a l) l)).length ≤ _
    omega
  | rem a =>
    have h1 := fdel_len a l
    show (fdel a l).length ≤ _
    omega
theorem run_nm {c : Cl} (hc : okN c) {l : FS} (h : ∀ x ∈ l.map (·.1), mayN x = true) : ∀ x ∈ (c.run l).map (·.1), mayN x = true := by
  cases c with
  | app n s => exact fput_nm hc h
  | trunc n k => exact hc.elim
  | ren a b => exact fdel_nm (fput_nm hc.2 h)
  | rem a => exact fdel_nm h
/-- What always holds. -/
structure Dn (n : Nat) (d : Dk) : Prop where
  ok : d.Ok
  lcnt : d.loose.length ≤ n
  pre : ∀ k, (play d.sure (d.loose.take k)).length ≤ n ∧ ∀ x ∈ (play d.sure (d.loose.take k)).map (·.1), mayN x = true
  nm : ∀ c ∈ d.loose, okN c
theorem Dn.files {n : Nat} {d : Dk} (h : Dn n d) : d.files.length ≤ n ∧ ∀ x ∈ d.files.map (·.1), mayN x = true := by
  have := h.pre d.loose.length
  rw [List.take_length, h.ok.play] at this
  exact this
theorem Dn.dm {n : Nat} {d : Dk} (h : Dn n d) : Dm n d := ⟨h.ok, h.files.1, h.lcnt, by have := (h.pre 0).1; simpa [play] using this, fun c hc => okN_tr (h.nm c hc)⟩
theorem Dn.mono {n m : Nat} {d : Dk} (h : Dn n d) (hm : n ≤ m) : Dn m d := ⟨h.ok, Nat.le_trans h.lcnt hm, fun k => ⟨Nat.le_trans (h.pre k).1 hm, (h.pre k).2⟩, h.nm⟩
theorem Dn.same {n : Nat} {d e : Dk} (h : Dn n d) (ho : e.Ok) (hs : e.sure = d.sure) (hl : e.loose = d.loose) : Dn n e := ⟨ho, by rw [hl]; exact h.lcnt, by rw [hs, hl]; exact h.pre, by rw [hl]; exact h.nm⟩
theorem Dn.doC {n : Nat} {d : Dk} {c : Cl} (h : Dn n d) (hc : okN c) (ho : (d.doC c).1.Ok) : Dn (n + 1) (d.doC c).1 := by
  revert ho
  unfold Dk.doC
  split
  · intro ho
    exact (h.same ho rfl rfl).mono (by omega)
  · intro ho
    refine ⟨ho, by have := h.lcnt; simp; omega, fun k => ?_, fun x hx => ?_⟩
    · by_cases hk : k ≤ d.loose.length
      · show (play d.sure ((d.loose ++ [c]).take k)).length ≤ _ ∧ _
        rw [List.take_append_of_le_length hk]
        exact ⟨Nat.le_succ_of_le (h.pre k).1, (h.pre k).2⟩
      · show (play d.sure ((d.loose ++ [c]).take k)).length ≤ _ ∧ ∀ x ∈ (play d.sure ((d.loose ++ [c]).take k)).map (·.1), _
        rw [List.take_of_length_le (by simp; omega), play_snoc, h.ok.play]
        have h1 := run_len1 c d.files
        have h2 := h.files
        exact ⟨by omega, run_nm hc h2.2⟩
    · rcases List.mem_append.1 hx with hx | hx
      · exact h.nm x hx
      · rw [List.mem_singleton] at hx; subst hx; exact hc
theorem Dn.append {n : Nat} {d : Dk} {nm s : BA} (h : Dn n d) (hs : s.size ≤ 549755813888) : Dn (n + 1) (d.append nm s).1 := by
  have ho := h.ok.append (name := nm) hs
  revert ho
  unfold Dk.append
  split
  · exact fun _ => h.mono (by omega)
  · rename_i hl
    split
    · exact fun _ => h.mono (by omega)
    · exact fun ho => h.doC (live1_nm (by simpa using hl)) ho
theorem Dn.remove {n : Nat} {d : Dk} {nm : BA} (h : Dn n d) : Dn (n + 1) (d.remove nm).1 := by
  have ho := h.ok.remove (a := nm)
  revert ho
  unfold Dk.remove
  split
  · exact fun _ => h.mono (by omega)
  · split
    · exact fun _ => h.mono (by omega)
    · exact fun ho => h.doC trivial ho
theorem Dn.rename {n : Nat} {d : Dk} {a b : BA} (h : Dn n d) (hab : a ≠ b) : Dn (n + 1) (d.rename a b).1 := by
  have ho := h.ok.rename (a := a) (b := b)
  revert ho
  unfold Dk.rename
  split
  · exact fun _ => h.mono (by omega)
  · rename_i hl
    split
    · exact fun _ => h.mono (by omega)
    · split
      · exact fun _ => h.mono (by omega)
      · exact fun ho => h.doC ⟨hab, (live2_nm (by simpa using hl)).2⟩ ho
theorem Dn.sync {n : Nat} {d : Dk} (h : Dn n d) : Dn n d.sync.1 := by
  have ho := h.ok.sync
  revert ho
  unfold Dk.sync
  split
  · exact fun _ => h
  · split
    · exact fun ho => h.same ho rfl rfl
    · intro ho
      refine ⟨ho, by simp [Dk.settle], fun k => ?_, fun c hc => by simp [Dk.settle] at hc⟩
      have := h.files
      simpa [Dk.settle, play] using this
theorem Dn.fuseTo {n : Nat} {d : Dk} (h : Dn n d) {k : Int} (hk : k ≤ 9223372036854775807) : Dn n (d.fuseTo k) := h.same (h.ok.fuseTo hk) rfl rfl
theorem Dn.torn {n : Nat} {d : Dk} (h : Dn n d) (k : Nat) (t : Int) : (d.torn k t).length ≤ n + 1 ∧ ∀ x ∈ (d.torn k t).map (·.1), mayN x = true := by
  have h1 := h.pre k
  unfold Dk.torn
  cases hc : d.loose[k]?.bind (·.piece t) with
  | none => exact ⟨Nat.le_succ_of_le h1.1, h1.2⟩
  | some c =>
    have hn : okN c := by
      obtain ⟨a, ha, hp⟩ := Option.bind_eq_some_iff.1 hc
      have hm := h.nm a (List.mem_of_getElem? ha)
      cases a with
      | app nm s =>
        by_cases ht : 0 < t
        · simp only [Cl.piece, if_pos ht, Option.some.injEq] at hp; subst hp; exact hm
        · simp only [Cl.piece, if_neg ht] at hp; cases hp
      | trunc a b => cases hp
      | ren a b => cases hp
      | rem a => cases hp
    have h2 := run_len1 c (play d.sure (d.loose.take k))
    exact ⟨by show (c.run _).length ≤ _; omega, run_nm hn h1.2⟩
theorem Dn.crash {n : Nat} {d : Dk} (h : Dn n d) (keep torn : Int) : Dn (n + 1) (d.crash keep torn) := by
  have ht := h.torn (d.kept keep) torn
  exact ⟨h.ok.crash keep torn, by simp [Dk.crash], fun k => by simpa [Dk.crash, play] using ht, fun c hc => by simp [Dk.crash] at hc⟩
theorem Dn.new {room : Int} (h0 : 0 ≤ room) (h1 : room ≤ 16777216) : Dn 0 (newD room) := ⟨.new h0 h1, by simp [newD], fun k => by simp [newD, play], fun c hc => by simp [newD] at hc⟩
theorem ne_new (nm : BA) : nm ++ dotNew ≠ nm := by
  intro e
  have := congrArg ByteArray.size e
  rw [ByteArray.size_append] at this
  have h4 : dotNew.size = 4 := rfl
  omega
theorem Dn.step {n : Nat} {d : Dk} {nm s : BA} {i : Nat} (h : Dn n d) (hs : s.size ≤ 549755813888) : Dn (n + 1) (stepD nm s i d).1 := by
  match i with
  | 0 => rw [step0]; exact h.remove
  | 1 => rw [step1]; exact h.append hs
  | 2 => rw [step2]; exact h.sync.mono (by omega)
  | 3 => rw [step3]; exact h.rename (ne_new nm)
  | i + 4 =>
    have e : stepD nm s (i + 4) d = d.sync := by unfold stepD; rfl
    rw [e]; exact h.sync.mono (by omega)
theorem Dn.run {nm s : BA} (hs : s.size ≤ 549755813888) : ∀ (k n : Nat) {d : Dk}, Dn n d → Dn (n + k) (runD nm s k d).1
  | 0, n, d, h => by rw [run_zero]; exact h
  | k + 1, n, d, h => by
    by_cases hz : (stepD nm s (4 - k) d).2 = 0
    · rw [run_good hz]
      have := Dn.run (nm := nm) hs k (n + 1) (h.step (nm := nm) (i := 4 - k) hs)
      rwa [show n + (k + 1) = n + 1 + k by omega]
    · rw [run_bad hz]
      exact (h.step hs).mono (by omega)
theorem Dn.save {n : Nat} {d : Dk} {nm s : BA} (h : Dn n d) (hs : s.size ≤ 549755813888) : Dn (n + 5) (saveD nm s d).1 := by
  rw [← save_run]; exact Dn.run hs 5 n h
end Go.Proofs.YtbagfdolcabniaaGreat
/- The document's disk: Sync, Fuse, Do of each call. -/
-- @DEFS Y
set_option linter.unusedSimpArgs false
set_option linter.unusedVariables false
set_option maxRecDepth 4000
namespace Go.Proofs.YtbagfdolcabniaaGreat
open Go Go.Fx Go.Proofs Go.Pl

theorem refSync_spec (b : Nat) (d : Dk) (hD : d.Ok) : FSpec Tryz.prog 42 [.pointer (some ⟨b, 0, none⟩)] [rkP b d] Unit (fun _ => True) (fun _ => .int .i64 d.sync.2) (fun _ => [rkP b d.sync.1]) := by
  refine fspec_ex ?_
  rintro ⟨⟨vL, vS, vC, P, lL, lS⟩, hy⟩
  obtain ⟨cL, cS, cC, wL, wS, rL, rS⟩ := hy
  dsimp only at cL cS cC wL wS rL rS
  unfold rkL
  dsimp only
  have f0 := hD.fuse0
  have fM := hD.fuseM
  unfold Dk.sync Dk.live
  cases hs : d.still with
  | true =>
    rw [if_pos (by simp)]
    refine spec_intro [] _ Tryz.func42 rfl Tryz.ntmps42 (by rfl) (fun w0 R => ?_)
    repeat' (first | (refine go_Y ?_; intros) | (refine gs_Y ?_ ?_ <;> (intro hgd; try (simp only [Bool.not_true, Bool.not_false] at hgd))) | (refine gc_Y ?_ ?_ <;> intro _) | fail)
    refine cont_map (fun _ h => rk_in (b := b) (d := d) (y := ⟨vL, vS, vC, P, lL, lS⟩) ⟨cL, cS, cC, wL, wS, rL, rS⟩ (by rw [hs]; exact Take.out takeD h)) ?_
    (refine rt_Y (y := ()) (hrs := Tryz.results42) (hv := ?_) (hφ := ?_))
    · rfl
    · trivial
  | false =>
    rw [if_neg (by simp)]
    have hbu := refBurn_spec b vL vS vC d.room d.fuse false f0 fM
    cases tf : decide (d.fuse = 0) with
    | true =>
      have hf : d.fuse = 0 := of_decide_eq_true tf
      rw [if_pos hf, if_pos hf, tf] at hbu
      rw [if_pos hf]
      refine spec_intro [] _ Tryz.func42 rfl Tryz.ntmps42 (by rfl) (fun w0 R => ?_)
      repeat' (first | (refine go_Y ?_; intros) | (refine gs_Y ?_ ?_ <;> (intro hgd; try (simp only [Bool.not_true, Bool.not_false] at hgd))) | (refine gc_Y ?_ ?_ <;> intro _) | fail)
      refine cl_Y (hbu) ?_
      intro _ _
      repeat' (first | (refine go_Y ?_; intros) | (refine gs_Y ?_ ?_ <;> (intro hgd; try (simp only [Bool.not_true, Bool.not_false] at hgd))) | (refine gc_Y ?_ ?_ <;> intro _) | fail)
      refine cont_map (fun _ h => rk_in (b := b) (d := { d with still := true }) (y := ⟨vL, vS, vC, P, lL, lS⟩) ⟨cL, cS, cC, wL, wS, rL, rS⟩ (Take.out takeD h)) ?_
      (refine rt_Y (y := ()) (hrs := Tryz.results42) (hv := ?_) (hφ := ?_))
      · rfl
      · trivial
    | false =>
      have hf : ¬ d.fuse = 0 := of_decide_eq_false tf
      rw [if_neg hf, if_neg hf, tf] at hbu
      rw [if_neg hf]
      generalize (if (-1 : Int) > d.fuse - 1 then -1 else d.fuse - 1) = fz at hbu
      have hsu := refSure_spec b vL vS vC d.room fz false cL cS cC
      refine spec_intro [] _ Tryz.func42 rfl Tryz.ntmps42 (by rfl) (fun w0 R => ?_)
      repeat' (first | (refine go_Y ?_; intros) | (refine gs_Y ?_ ?_ <;> (intro hgd; try (simp only [Bool.not_true, Bool.not_false] at hgd))) | (refine gc_Y ?_ ?_ <;> intro _) | fail)
      refine cl_Y (hbu) ?_
      intro _ _
      repeat' (first | (refine go_Y ?_; intros) | (refine gs_Y ?_ ?_ <;> (intro hgd; try (simp only [Bool.not_true, Bool.not_false] at hgd))) | (refine gc_Y ?_ ?_ <;> intro _) | fail)
      refine cl_Y (hsu) ?_
      intro _ _
      repeat' (first | (refine go_Y ?_; intros) | (refine gs_Y ?_ ?_ <;> (intro hgd; try (simp only [Bool.not_true, Bool.not_false] at hgd))) | (refine gc_Y ?_ ?_ <;> intro _) | fail)
      refine cont_map (fun _ h => rowNilK (e := 65) (n := 4) h) ?_
      refine cont_map (fun _ h => rk_in (b := b) (d := ({ d with fuse := fz, still := false } : Dk).settle) (y := ⟨vL, vL, .slice none 0 0, P, lL, lL⟩) ⟨cL, cL, rfl, wL, wL, rL, rL⟩ (by show SatL ([rdC b vL vL (.slice none 0 0) d.room fz false, P, row 65 4 (.slice none 0 0) []] ++ _) _; exact Take.out takeD h)) ?_
      (refine rt_Y (y := ()) (hrs := Tryz.results42) (hv := ?_) (hφ := ?_))
      · rfl
      · trivial
theorem refFuse_spec (b : Nat) (d : Dk) (n : Int) : FSpec Tryz.prog 22 [.pointer (some ⟨b, 0, none⟩), .int .i64 n] [rkP b d] Unit (fun _ => True) (fun _ => .tuple #[]) (fun _ => [rkP b (d.fuseTo n)]) := by
  refine fspec_ex ?_
  rintro ⟨⟨vL, vS, vC, P, lL, lS⟩, hy⟩
  obtain ⟨cL, cS, cC, wL, wS, rL, rS⟩ := hy
  dsimp only at cL cS cC wL wS rL rS
  unfold rkL
  dsimp only
  unfold Dk.fuseTo
  cases t1 : decide (n < 0) with
  | true =>
    have e : decide (0 ≤ n) = false := by have := of_decide_eq_true t1; simp; omega
    rw [e, Bool.and_false]
    refine spec_intro [] _ Tryz.func22 rfl Tryz.ntmps22 (by rfl) (fun w0 R => ?_)
    repeat' (first | (refine go_Y ?_; intros) | (refine gs_Y ?_ ?_ <;> (intro hgd; try (simp only [Bool.not_true, Bool.not_false] at hgd))) | (refine gc_Y ?_ ?_ <;> intro _) | fail)
    refine cont_map (fun _ h => rk_in (b := b) (d := { d with fuse := if (-1 : Int) > n then -1 else n, still := false }) (y := ⟨vL, vS, vC, P, lL, lS⟩) ⟨cL, cS, cC, wL, wS, rL, rS⟩ (Take.out takeD h)) ?_
    (refine rt_Y (y := ()) (hrs := Tryz.results22) (hv := ?_) (hφ := ?_))
    · rfl
    · trivial
  | false =>
    have e : decide (0 ≤ n) = true := by have := of_decide_eq_false t1; simp; omega
    rw [e, Bool.and_true]
    refine spec_intro [] _ Tryz.func22 rfl Tryz.ntmps22 (by rfl) (fun w0 R => ?_)
    repeat' (first | (refine go_Y ?_; intros) | (refine gs_Y ?_ ?_ <;> (intro hgd; try (simp only [Bool.not_true, Bool.not_false] at hgd))) | (refine gc_Y ?_ ?_ <;> intro _) | fail)
    refine cont_map (fun _ h => rk_in (b := b) (d := { d with fuse := if (-1 : Int) > n then -1 else n }) (y := ⟨vL, vS, vC, P, lL, lS⟩) ⟨cL, cS, cC, wL, wS, rL, rS⟩ (Take.out takeD h)) ?_
    (refine rt_Y (y := ()) (hrs := Tryz.results22) (hv := ?_) (hφ := ?_))
    · rfl
    · trivial
end Go.Proofs.YtbagfdolcabniaaGreat
/- The document's disk: New, Used, Do of each call. -/
-- @DEFS Y
set_option linter.unusedSimpArgs false
set_option linter.unusedVariables false
set_option maxRecDepth 4000
namespace Go.Proofs.YtbagfdolcabniaaGreat
open Go Go.Fx Go.Proofs Go.Pl

theorem fspec_frameR {P : Program} {f : FuncId} {args : List Value} {pre : List HProp} {Y : Type} {φ : Y → Prop} {ret : Y → Value} {post : Y → List HProp} (s : FSpec P f args pre Y φ ret post) (F : List HProp) : FSpec P f args (pre ++ F) Y φ ret (fun y => post y ++ F) := by
  intro w0 w R hs
  rw [List.append_assoc] at hs
  refine (s w0 w (F ++ R) hs).mono ?_
  rintro e w' ⟨y, hy, he, hw⟩
  exact ⟨y, hy, he, by rw [List.append_assoc]; exact hw⟩
theorem clG_app {d : Dk} {l : FS} (h : RelF d.files l) (hD : d.Ok) {n s : BA} (hs : s.size ≤ 549755813888) : clG l (.app n s) := by
  show (ftext n l).size + s.size ≤ 1099511627776
  rw [h.text]
  have := ftext_le n d.files
  have := hD.used
  omega
theorem used_rel {d : Dk} {l : FS} (h : RelF d.files l) (hD : d.Ok) : fused l ≤ 16777216 := by rw [h.used hD.nd]; exact hD.used
theorem len_rel {d : Dk} {n : Nat} {l : FS} (h : RelF d.files l) (hD : Dm n d) : l.length ≤ n := by rw [(h.perm hD.ok.nd).length_eq]; exact hD.cnt
theorem refApp_spec (b n : Nat) (d : Dk) (nm s : BA) (hD : Dm n d) (hn : n ≤ 800000) (hnm : nm.size ≤ 1099511627776) (hs : s.size ≤ 549755813888) :
    FSpec Tryz.prog 25 [.pointer (some ⟨b, 0, none⟩), .agg (callV (.app nm s)).toArray] [rkP b d] Unit (fun _ => True) (fun _ => .int .i64 (d.append nm s).2) (fun _ => [rkP b (d.append nm s).1]) :=
  refDo_spec b n d (.app nm s) (d.append nm s) hD hn trivial (fun _ _ h => by cases h) (fun l h => mayR_app h hD.ok.nd nm s) (fun l h _ => clG_app h hD.ok hs)
    (fun vL vS vC P l hP h => refMayApp_spec b vL vS vC d.room d.fuse d.still P l nm s hP (by have := len_rel h hD; omega) (used_rel h hD.ok) hnm (by omega))
theorem refRem_spec (b n : Nat) (d : Dk) (nm : BA) (hD : Dm n d) (hn : n ≤ 800000) (hnm : nm.size ≤ 1099511627776) :
    FSpec Tryz.prog 25 [.pointer (some ⟨b, 0, none⟩), .agg (callV (.rem nm)).toArray] [rkP b d] Unit (fun _ => True) (fun _ => .int .i64 (d.remove nm).2) (fun _ => [rkP b (d.remove nm).1]) :=
  refDo_spec b n d (.rem nm) (d.remove nm) hD hn trivial (fun _ _ h => by cases h) (fun l h => mayR_rem h nm) (fun l h _ => trivial)
    (fun vL vS vC P l hP h => refMayRem_spec b vL vS vC d.room d.fuse d.still P l nm hP (by have := len_rel h hD; omega) hnm)
theorem refRen_spec (b n : Nat) (d : Dk) (nm m : BA) (hD : Dm n d) (hn : n ≤ 800000) (hnm : nm.size ≤ 1099511627776) (hm : m.size ≤ 1099511627776) (hne : nm ≠ m) :
    FSpec Tryz.prog 25 [.pointer (some ⟨b, 0, none⟩), .agg (callV (.ren nm m)).toArray] [rkP b d] Unit (fun _ => True) (fun _ => .int .i64 (d.rename nm m).2) (fun _ => [rkP b (d.rename nm m).1]) :=
  refDo_spec b n d (.ren nm m) (d.rename nm m) hD hn hne (fun _ _ h => by cases h) (fun l h => mayR_ren h nm m) (fun l h _ => trivial)
    (fun vL vS vC P l hP h => refMayRen_spec b vL vS vC d.room d.fuse d.still P l nm m hP (by have := len_rel h hD; omega) hnm hm)
theorem refUsedD_spec (b n : Nat) (d : Dk) (hD : Dm n d) (hn : n ≤ 800000) : FSpec Tryz.prog 10 [.pointer (some ⟨b, 0, none⟩)] [rkP b d] Unit (fun _ => True) (fun _ => .int .i64 (fused d.files : Int)) (fun _ => [rkP b d]) := by
  refine fspec_ex ?_
  rintro ⟨⟨vL, vS, vC, P, lL, lS⟩, hy⟩
  have hy' := hy
  obtain ⟨cL, cS, cC, wL, wS, rL, rS⟩ := hy
  dsimp only at cL cS cC wL wS rL rS
  have h := refUsed_spec b vL vS vC d.room d.fuse d.still P lL wL (by have := used_rel rL hD.ok; omega) (by have := len_rel rL hD; omega)
  rw [rL.used hD.ok.nd] at h
  exact (fspec_frameR h [row 65 4 vC (d.loose.map callV)]).conseq (fun _ _ s => s) (fun _ _ => ⟨(), trivial, rfl, fun R f s => rk_in (b := b) (d := d) (y := ⟨vL, vS, vC, P, lL, lS⟩) hy' s⟩)
end Go.Proofs.YtbagfdolcabniaaGreat
/- The document's disk: New, Read. -/
-- @DEFS Y
set_option linter.unusedSimpArgs false
set_option linter.unusedVariables false
set_option maxRecDepth 4000
namespace Go.Proofs.YtbagfdolcabniaaGreat
open Go Go.Fx Go.Proofs Go.Pl

theorem vw_nil2 : Vw (fun _ => True) 2 (.slice none 0 0) (([] : FS).map fileV) := fun h _ => ⟨fun _ hx => by simp at hx, none, 0, rfl, .inl rfl, fun _ => rfl, fun b o hp => by cases hp⟩
theorem refNew_spec (room : Int) (h0 : 0 ≤ room) (h1 : room ≤ 16777216) : FSpec Tryz.prog 7 [.int .i64 room] [] Nat (fun _ => True) (fun b => .tuple #[.pointer (some ⟨b, 0, none⟩), .int .i64 0]) (fun b => [rkP b (newD room)]) := by
  have t1 : decide (room < 0) = false := by simp; omega
  have t2 : decide ((16777216 : Int) < room) = false := by simp; omega
  refine spec_intro [] _ Tryz.func7 rfl Tryz.ntmps7 (by rfl) (fun w0 R => ?_)
  repeat' (first | (refine go_Y ?_; intros) | (refine gs_Y ?_ ?_ <;> (intro hgd; try (simp only [Bool.not_true, Bool.not_false] at hgd))) | (refine gc_Y ?_ ?_ <;> intro _) | fail)
  rename_i b
  refine cont_map (fun _ h => rowNilK (e := 65) (n := 4) h) ?_
  refine cont_map (fun _ h => rowNilK (e := 67) (n := 2) h) ?_
  refine cont_map (fun _ h => rk_in (b := b) (d := newD room) (y := ⟨.slice none 0 0, .slice none 0 0, .slice none 0 0, row 67 2 (.slice none 0 0) [], [], []⟩) ⟨rfl, rfl, rfl, Vw.row, Vw.row, RelF.nil, RelF.nil⟩ (Take.out takeD h)) ?_
  (refine rt_Y (y := b) (hrs := Tryz.results7) (hv := ?_) (hφ := ?_))
  · rfl
  · trivial
end Go.Proofs.YtbagfdolcabniaaGreat
