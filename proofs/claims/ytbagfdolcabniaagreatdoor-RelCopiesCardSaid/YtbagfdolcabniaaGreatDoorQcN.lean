/- The laws of layer 14: are all rows the document's? -/
import Derived.Test.YtbagfdolcabniaaGreatDoorQcK
import Derived.Test.YtbagfdolcabniaaGreatDoorG12
-- @DEFS Y
set_option linter.unusedSimpArgs false
set_option linter.unusedVariables false
set_option maxRecDepth 100000
namespace Go.Proofs.YtbagfdolcabniaaGreatDoor
open Go Go.Fx Go.Proofs Go.Pl

theorem InOrder.small {r : Rl} {t : Int} {ask : List Vl → Bool} {l : List Rw} (h : InOrder r t ask (l.map (·.2))) (hok : r.Ok) : l.length ≤ 200 ∧ ∀ x ∈ l, x.2.length ≤ 8 := by
  refine ⟨?_, fun x hx => ?_⟩
  · have h1 := h.perm.length_eq
    have h2 := rowsAt_len hok t ask
    rw [List.length_map] at h1
    omega
  · obtain ⟨p, hp, _⟩ := rowsAt_mem hok (h.perm.subset (List.mem_map_of_mem hx))
    exact row_len hok (aget_of_mem hok hp)
set_option maxHeartbeats 4000000 in
theorem lall_spec (b bx : Nat) (r : Rl) (P : HProp) (vs vr : Value) (ts : List Tb) (q : List Rr) (hok : r.Ok) (hwf : Rl.Wf r) (hy : RfOK P r ⟨vs, ts, vr, q⟩) :
    FSpec Tryz.prog 15 [.pointer (some ⟨b, 0, none⟩), .pointer (some ⟨bx, 0, none⟩)] [relP P b r, pts bx (.cells [vs, vr, .int .u64 r.turns].toArray 47), row 114 2 vr (q.map rrV), P] HProp (fun P' => Ext P P') (fun _ => .bool true)
      (fun P' => [relP P' b r, pts bx (.cells [vs, vr, .int .u64 r.turns].toArray 47), row 114 2 vr (q.map rrV), P']) := by
  have hvw := hy.sv.vw
  dsimp only at hvw
  have htl := hy.sv.len
  dsimp only at htl
  have ltm : (ts.map tbV).length = ts.length := by simp
  refine spec_intro [] _ Tryz.func15 rfl Tryz.ntmps15 (by rfl) (fun w0 R => ?_)
  refine ok_learn (VwIn.slice (VwIn.there (VwIn.there (VwIn.there (VwIn.here hvw))))) ?_
  rintro ⟨pv, cv, rfl⟩
  repeat' (first | (refine go_Y ?_; intros) | (refine gs_Y ?_ ?_ <;> (intro hgd; try (simp only [Bool.not_true, Bool.not_false] at hgd))) | (refine gc_Y ?_ ?_ <;> intro _) | fail)
  refine ok_loop' (γ := Nat × { Q : HProp // Ext P Q }) (fun g ρ L => g.1 ≤ ts.length + 2 ∧ Knows ρ [(0, .pointer (some ⟨b, 0, none⟩)), (1, .pointer (some ⟨bx, 0, none⟩)), (5, .int .i64 ((g.1 : Int) - 1))] ∧
      L = [relP g.2.1 b r, pts bx (.cells [.slice pv (ts.map tbV).length cv, vr, .int .u64 r.turns].toArray 47), row 114 2 vr (q.map rrV), g.2.1] ++ R) (fun g => ts.length + 2 - g.1)
    (0, ⟨P, Ext.refl P⟩) ⟨by simp, ⟨rfl, rfl, rfl, trivial⟩, rfl⟩ ?_
  rintro ⟨n, Q, hE⟩ ρ L ⟨hn, hk, rfl⟩
  dsimp only at hE hn hk ⊢
  refine ok_regs hk ?_
  cases t1 : decide (((n : Int) - 1) ≤ ((ts.map tbV).length : Int)) with
  | false =>
    repeat' (first | (refine go_Y ?_; intros) | (refine gs_Y ?_ ?_ <;> (intro hgd; try (simp only [Bool.not_true, Bool.not_false] at hgd))) | (refine gc_Y ?_ ?_ <;> intro _) | fail)
    (refine rt_Y (y := Q) (hrs := Tryz.results15) (hv := ?_) (hφ := ?_))
    · rfl
    · exact hE
  | true =>
    have h0 : n ≤ ts.length + 1 := by have := of_decide_eq_true t1; omega
    have hr1 := relRows_spec b r ((n : Int) - 1) Q hok hwf
    repeat' (first | (refine go_Y ?_; intros) | (refine gs_Y ?_ ?_ <;> (intro hgd; try (simp only [Bool.not_true, Bool.not_false] at hgd))) | (refine gc_Y ?_ ?_ <;> intro _) | fail)
    refine cl_Y (hr1) ?_
    rintro ⟨⟨v1, hv1⟩, l1, Q1⟩ ⟨hE1, hl1, ho1⟩
    dsimp only at hE1 hl1 ho1 ⊢
    repeat' (first | (refine go_Y ?_; intros) | (refine gs_Y ?_ ?_ <;> (intro hgd; try (simp only [Bool.not_true, Bool.not_false] at hgd))) | (refine gc_Y ?_ ?_ <;> intro _) | fail)
    have hr2 := all14o_spec bx r ((n : Int) - 1) Q1 (.slice pv (ts.map tbV).length cv) vr ts q hok (hy.ext (hE.trans hE1))
    refine cl_Y (hr2) ?_
    rintro ⟨⟨v2, hv2⟩, l2⟩ ⟨hl2, ho2⟩
    dsimp only at hl2 ho2 ⊢
    repeat' (first | (refine go_Y ?_; intros) | (refine gs_Y ?_ ?_ <;> (intro hgd; try (simp only [Bool.not_true, Bool.not_false] at hgd))) | (refine gc_Y ?_ ?_ <;> intro _) | fail)
    have heq : decide (l1.map (·.2) = l2.map (·.2)) = true := decide_eq_true (ho1.uniq ho2 rfl (.refl _))
    obtain ⟨s1, s2⟩ := ho1.small hok
    have hsm := same14_spec l1 l2 v1 v2 (row 35 1 v1 (l1.map rwV)) (row 35 1 v2 (l2.map rwV)) Q1 Vw.row Vw.row hl1 hl2 (by omega) (fun x hx => by have := s2 x hx; omega)
    rw [heq] at hsm
    refine cl_Y (hsm) ?_
    intro _ _
    repeat' (first | (refine go_Y ?_; intros) | (refine gs_Y ?_ ?_ <;> (intro hgd; try (simp only [Bool.not_true, Bool.not_false] at hgd))) | (refine gc_Y ?_ ?_ <;> intro _) | fail)
    refine cont_map (L' := [relP Q1 b r, pts bx (.cells [.slice pv (ts.map tbV).length cv, vr, .int .u64 r.turns].toArray 47), row 114 2 vr (q.map rrV), Q1] ++ R) entD ?_
    refine cont_back (n + 1, ⟨Q1, hE.trans hE1⟩) ⟨by dsimp only; omega, ⟨rfl, rfl, by show Value.int .i64 (((n : Int) - 1) + 1) = Value.int .i64 (((n + 1 : Nat) : Int) - 1); congr 1; omega, trivial⟩, rfl⟩ (by dsimp only; omega)
theorem lall2_spec (b bx : Nat) (r : Rl) (P : HProp) (hok : r.Ok) (hwf : Rl.Wf r) :
    FSpec Tryz.prog 15 [.pointer (some ⟨b, 0, none⟩), .pointer (some ⟨bx, 0, none⟩)] [relP P b r, rfP P bx r, P] HProp (fun P' => Ext P P') (fun _ => .bool true) (fun P' => [relP P' b r, rfP P' bx r, P']) := by
  refine FSpec.conseq (pre := [rfP P bx r, relP P b r, P]) (post := fun P' => [relP P' b r, rfP P' bx r, P']) (φ := fun P' => Ext P P') (ret := fun _ => .bool true) ?_ (fun R h s => s.swap) (fun y hy => ⟨y, hy, rfl, fun _ _ s => s⟩)
  refine fspec_ex ?_
  rintro ⟨⟨vs, ts, vr, q⟩, hy⟩
  unfold rfL
  dsimp only
  refine (lall_spec b bx r P vs vr ts q hok hwf hy).conseq (fun _ => entD) (fun P' hE => ⟨P', hE, rfl, fun R h s => ?_⟩)
  exact SatL.swap (rf_in (hy.ext hE) (Take.out takeD s))
end Go.Proofs.YtbagfdolcabniaaGreatDoor
