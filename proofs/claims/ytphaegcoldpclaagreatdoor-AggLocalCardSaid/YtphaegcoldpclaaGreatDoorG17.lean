/- Texts merged: PgA PgB PgC. -/
import Derived.Test.YtphaegcoldpclaaGreatDoorG0
import Derived.Test.YtphaegcoldpclaaGreatDoorG5
set_option linter.unusedSimpArgs false
set_option linter.unusedVariables false
set_option maxRecDepth 100000
namespace Go.Proofs.YtphaegcoldpclaaGreatDoor
open Go Go.Fx Go.Proofs Go.Pl

inductive Dm where
  | mk (t : Int) (lv : V1s) (row : List Vl) (kv : V1s) (kids : List Dm)
def docV : Dm → List Value
  | .mk t lv _ kv _ => [.int .i64 t, lv.1, kv.1]
mutual
def Dm.c : Dm → Dc
  | .mk t _ row _ ks => .mk t row (Dm.cK ks)
def Dm.cK : List Dm → List Dc
  | [] => []
  | k :: ks => k.c :: Dm.cK ks
end
theorem cK_map : ∀ (ks : List Dm), Dm.cK ks = ks.map Dm.c
  | [] => by simp [Dm.cK]
  | k :: ks => by simp only [Dm.cK, List.map_cons, cK_map ks]
inductive DocR (P : HProp) : Dm → Prop
  | mk {t : Int} {lv kv : V1s} {row : List Vl} {kids : List Dm} (h1 : Vw P 4 lv.1 (row.map valV)) (h2 : Vw P 3 kv.1 (kids.map docV)) (h3 : ∀ k ∈ kids, DocR P k) (h4 : row.length ≤ 140737488355328) (h5 : kids.length ≤ 140737488355328) (h6 : ∀ v ∈ row, v.text.size ≤ 140737488355328) : DocR P (.mk t lv row kv kids)
theorem DocR.ext {P P' : HProp} (a : Ext P P') {d : Dm} (h : DocR P d) : DocR P' d := by
  induction h with
  | mk h1 h2 h3 h4 h5 h6 ih => exact .mk (a.vw h1) (a.vw h2) ih h4 h5 h6
end Go.Proofs.YtphaegcoldpclaaGreatDoor
set_option linter.unusedSimpArgs false
set_option linter.unusedVariables false
set_option maxRecDepth 100000
namespace Go.Proofs.YtphaegcoldpclaaGreatDoor
open Go Go.Fx Go.Proofs Go.Pl

theorem leftD_le (d : Dc) (n : Nat) (m : Int) : leftD d n m = -1 ∨ (0 ≤ leftD d n m ∧ leftD d n m < m) := by
  have e := leftD_eq d n m
  rcases sizeDc_rng d n m with h | ⟨h1, h2⟩
  · exact .inl (by rw [e, h]; rfl)
  · rw [if_neg (by omega)] at e
    exact .inr (by omega)
set_option maxHeartbeats 4000000 in
theorem left_spec {P : HProp} {d : Dm} (h : DocR P d) : ∀ (deep : Nat) (most : Int), deep ≤ 1000000 → -1000000 ≤ most → most ≤ 1000000 →
    FSpec Tryz.prog 51 [.agg (docV d).toArray, .int .i64 (deep : Int), .int .i64 most] [P] Unit (fun _ => True) (fun _ => .int .i64 (leftD d.c deep most)) (fun _ => [P]) := by
  induction h with
  | @mk t lv kv row kids h1 h2 h3 h4 h5 h6 ih =>
  obtain ⟨lv, hlv⟩ := lv
  obtain ⟨kv, hkv⟩ := kv
  intro deep most hd hm0 hm1
  dsimp only [docV, Dm.c] at h1 h2 ⊢
  have lk : (kids.map docV).length = kids.length := by simp
  cases deep with
  | zero =>
    have e : leftD (.mk t row (Dm.cK kids)) 0 most = -1 := by simp only [leftD]
    have f1 : decide (((0 : Nat) : Int) = 0) = true := by decide
    rw [e]
    refine spec_intro [] _ Tryz.func51 rfl Tryz.ntmps51 (by rfl) (fun w0 R => ?_)
    repeat' (first | (refine go_Y ?_; intros) | (refine gs_Y ?_ ?_ <;> (intro hgd; try (simp only [Bool.not_true, Bool.not_false] at hgd))) | (refine gc_Y ?_ ?_ <;> intro _) | fail)
    (refine rt_Y (y := ()) (hrs := Tryz.results51) (hv := ?_) (hφ := ?_))
    · rfl
    · trivial
  | succ n =>
    have f1 : decide (((n + 1 : Nat) : Int) = 0) = false := by simp only [decide_eq_false_iff_not]; omega
    cases u1 : decide (most - 1 < 0) with
    | true =>
      have e : leftD (.mk t row (Dm.cK kids)) (n + 1) most = -1 := by simp only [leftD]; rw [if_pos (of_decide_eq_true u1)]
      rw [e]
      refine spec_intro [] _ Tryz.func51 rfl Tryz.ntmps51 (by rfl) (fun w0 R => ?_)
      repeat' (first | (refine go_Y ?_; intros) | (refine gs_Y ?_ ?_ <;> (intro hgd; try (simp only [Bool.not_true, Bool.not_false] at hgd))) | (refine gc_Y ?_ ?_ <;> intro _) | fail)
      (refine rt_Y (y := ()) (hrs := Tryz.results51) (hv := ?_) (hφ := ?_))
      · rfl
      · trivial
    | false =>
      have hm2 := of_decide_eq_false u1
      have e : leftD (.mk t row (Dm.cK kids)) (n + 1) most = leftK (Dm.cK kids) n (most - 1) := by simp only [leftD]; rw [if_neg hm2]
      rw [e]
      refine spec_intro [] _ Tryz.func51 rfl Tryz.ntmps51 (by rfl) (fun w0 R => ?_)
      refine ok_learn (VwIn.slice (VwIn.here h2)) ?_
      rintro ⟨pk, ck, rfl⟩
      repeat' (first | (refine go_Y ?_; intros) | (refine gs_Y ?_ ?_ <;> (intro hgd; try (simp only [Bool.not_true, Bool.not_false] at hgd))) | (refine gc_Y ?_ ?_ <;> intro _) | fail)
      rename_i b3
      refine ok_map (L' := [P, pts b3 (.cells [.int .i64 t, lv, .slice pk (kids.map docV).length ck].toArray 44)] ++ R) entD ?_
      refine ok_loop' (γ := Nat × Int) (fun g ρ L => g.1 ≤ kids.length ∧ leftK (Dm.cK (kids.drop g.1)) n g.2 = leftK (Dm.cK kids) n (most - 1) ∧ 0 ≤ g.2 ∧ g.2 ≤ 1000000 ∧ Knows ρ [(1, .int .i64 ((n + 1 : Nat) : Int)), (2, .int .i64 g.2), (3, .pointer (some ⟨b3, 0, none⟩)), (18, .slice pk (kids.map docV).length ck), (19, .int .i64 ((kids.map docV).length : Int)), (20, .int .i64 g.1)] ∧
          L = [P, pts b3 (.cells [.int .i64 t, lv, .slice pk (kids.map docV).length ck].toArray 44)] ++ R) (fun g => kids.length - g.1)
        (0, most - 1) ⟨by simp, rfl, by dsimp only; omega, by dsimp only; omega, ⟨rfl, rfl, rfl, rfl, rfl, rfl, trivial⟩, rfl⟩ ?_
      rintro ⟨i, m⟩ ρ L ⟨hi, hinv, m0, m1, hk, rfl⟩
      dsimp only at hi hinv m0 m1 hk ⊢
      refine ok_regs hk ?_
      cases t1 : decide ((i : Int) < ((kids.map docV).length : Int)) with
      | false =>
        have hie : i = kids.length := by have := of_decide_eq_false t1; omega
        rw [hie, List.drop_length] at hinv
        simp only [Dm.cK, leftK] at hinv
        repeat' (first | (refine go_Y ?_; intros) | (refine gs_Y ?_ ?_ <;> (intro hgd; try (simp only [Bool.not_true, Bool.not_false] at hgd))) | (refine gc_Y ?_ ?_ <;> intro _) | fail)
        (refine rt_Y (y := ()) (hrs := Tryz.results51) (hv := ?_) (hφ := ?_))
        · rw [← hinv]; rfl
        · trivial
      | true =>
        have h0 : i < kids.length := by have := of_decide_eq_true t1; omega
        have hx : (kids.map docV)[i]? = some (docV kids[i]) := by rw [List.getElem?_map, List.getElem?_eq_getElem h0]; rfl
        have hn1 : i < (kids.map docV).length := by omega
        have hs := ih _ (List.getElem_mem h0) n m (by omega) (by omega) (by omega)
        rw [List.drop_eq_getElem_cons h0] at hinv
        simp only [Dm.cK, leftK] at hinv
        have hle := leftD_le kids[i].c n m
        have e9 : (((n + 1 : Nat) : Int) - 1) = (n : Int) := by omega
        rw [← e9] at hs
        generalize kids[i] = k at hx hs hinv hle
        obtain ⟨kt, ⟨klv, hklv⟩, krow, ⟨kkv, hkkv⟩, kkids⟩ := k
        dsimp only [docV] at hx hs
        have hone : oneCells [Value.int .i64 kt, klv, kkv] = true := by
          simp only [oneCells, List.all_cons, List.all_nil, hklv, hkkv, Bool.and_true]; rfl
        refine ok_learn (VwIn.base (n := 3) (xs := kids.map docV) (VwIn.here h2) (by intro e; rw [e] at hn1; simp at hn1)) ?_
        rintro ⟨bu, ou, rfl⟩
        generalize leftD (Dm.mk kt ⟨klv, hklv⟩ krow ⟨kkv, hkkv⟩ kkids).c n m = y at hs hinv hle
        cases t2 : decide (y < 0) with
        | true =>
          rw [if_pos (of_decide_eq_true t2)] at hinv
          repeat' (first | (refine go_Y ?_; intros) | (refine gs_Y ?_ ?_ <;> (intro hgd; try (simp only [Bool.not_true, Bool.not_false] at hgd))) | (refine gc_Y ?_ ?_ <;> intro _) | fail)
          refine cl_Y (hs) ?_
          intro _ _
          repeat' (first | (refine go_Y ?_; intros) | (refine gs_Y ?_ ?_ <;> (intro hgd; try (simp only [Bool.not_true, Bool.not_false] at hgd))) | (refine gc_Y ?_ ?_ <;> intro _) | fail)
          (refine rt_Y (y := ()) (hrs := Tryz.results51) (hv := ?_) (hφ := ?_))
          · rw [← hinv]; rfl
          · trivial
        | false =>
          have hy0 := of_decide_eq_false t2
          rw [if_neg hy0] at hinv
          repeat' (first | (refine go_Y ?_; intros) | (refine gs_Y ?_ ?_ <;> (intro hgd; try (simp only [Bool.not_true, Bool.not_false] at hgd))) | (refine gc_Y ?_ ?_ <;> intro _) | fail)
          refine cl_Y (hs) ?_
          intro _ _
          repeat' (first | (refine go_Y ?_; intros) | (refine gs_Y ?_ ?_ <;> (intro hgd; try (simp only [Bool.not_true, Bool.not_false] at hgd))) | (refine gc_Y ?_ ?_ <;> intro _) | fail)
          refine cont_map (L' := [P, pts b3 (.cells [.int .i64 t, lv, .slice (some ⟨bu, ou, none⟩) (kids.map docV).length ck].toArray 44)] ++ R) entD ?_
          refine cont_back (i + 1, y) ⟨h0, hinv, by dsimp only; omega, by dsimp only; omega, ⟨rfl, rfl, rfl, rfl, rfl, rfl, trivial⟩, rfl⟩ (by dsimp only; omega)
set_option maxHeartbeats 1000000 in
theorem aSize_spec {P : HProp} {d : Dm} (h : DocR P d) : FSpec Tryz.prog 17 [.agg (docV d).toArray] [P] Unit (fun _ => True) (fun _ => .int .i64 (sizeS d.c)) (fun _ => [P]) := by
  have hs := left_spec h 8 200 (by omega) (by omega) (by omega)
  have hr := leftD_le d.c 8 200
  rw [sizeS_left]
  generalize leftD d.c 8 200 = y at hs hr
  obtain ⟨t, ⟨lv, hlv⟩, row, ⟨kv, hkv⟩, kids⟩ := d
  dsimp only [docV] at hs ⊢
  cases t1 : decide (y < 0) with
  | true =>
    rw [if_pos (of_decide_eq_true t1)]
    refine spec_intro [] _ Tryz.func17 rfl Tryz.ntmps17 (by rfl) (fun w0 R => ?_)
    repeat' (first | (refine go_Y ?_; intros) | (refine gs_Y ?_ ?_ <;> (intro hgd; try (simp only [Bool.not_true, Bool.not_false] at hgd))) | (refine gc_Y ?_ ?_ <;> intro _) | fail)
    refine cl_Y (hs) ?_
    intro _ _
    repeat' (first | (refine go_Y ?_; intros) | (refine gs_Y ?_ ?_ <;> (intro hgd; try (simp only [Bool.not_true, Bool.not_false] at hgd))) | (refine gc_Y ?_ ?_ <;> intro _) | fail)
    (refine rt_Y (y := ()) (hrs := Tryz.results17) (hv := ?_) (hφ := ?_))
    · rfl
    · trivial
  | false =>
    have h0 := of_decide_eq_false t1
    rw [if_neg h0]
    refine spec_intro [] _ Tryz.func17 rfl Tryz.ntmps17 (by rfl) (fun w0 R => ?_)
    repeat' (first | (refine go_Y ?_; intros) | (refine gs_Y ?_ ?_ <;> (intro hgd; try (simp only [Bool.not_true, Bool.not_false] at hgd))) | (refine gc_Y ?_ ?_ <;> intro _) | fail)
    refine cl_Y (hs) ?_
    intro _ _
    repeat' (first | (refine go_Y ?_; intros) | (refine gs_Y ?_ ?_ <;> (intro hgd; try (simp only [Bool.not_true, Bool.not_false] at hgd))) | (refine gc_Y ?_ ?_ <;> intro _) | fail)
    (refine rt_Y (y := ()) (hrs := Tryz.results17) (hv := ?_) (hφ := ?_))
    · rfl
    · trivial
end Go.Proofs.YtphaegcoldpclaaGreatDoor
set_option linter.unusedSimpArgs false
set_option linter.unusedVariables false
set_option maxRecDepth 100000
namespace Go.Proofs.YtphaegcoldpclaaGreatDoor
open Go Go.Fx Go.Proofs Go.Pl

end Go.Proofs.YtphaegcoldpclaaGreatDoor
