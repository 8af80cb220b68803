/- Texts merged: SuI SuN. -/
import Derived.Test.YtmnafjonbeihiaaGreatDoorG26
import Derived.Test.YtmnafjonbeihiaaGreatDoorH30
import Derived.Test.YtmnafjonbeihiaaGreatDoorH28
set_option linter.unusedSimpArgs false
set_option linter.unusedVariables false
set_option maxRecDepth 100000
namespace Go.Proofs.YtmnafjonbeihiaaGreatDoor
open Go Go.Fx Go.Proofs Go.Pl
theorem srP_ext {P P' : HProp} (a : Ext P P') {xb b : Nat} {S : Src} {L : List HProp} {h : Frag} (s : SatL (srP P xb b S :: L) h) : SatL (srP P' xb b S :: L) h := by
  refine SatL.headMono s fun h1 hh => ?_
  obtain ⟨y, hy⟩ := hh
  refine ⟨⟨y.1, y.2.ext a⟩, ?_⟩
  unfold srL at hy ⊢
  refine SatL.consMono hy fun _ s => SatL.consMono s fun _ s => SatL.consMono s fun _ s => ?_
  have s1 := relP_ext a s
  refine SatL.consMono s1 fun _ s => ?_
  dsimp only at s ⊢
  cases ht : S.t with
  | none => rw [ht] at s; exact s
  | some x => rw [ht] at s; exact txP_ext a s
theorem num17_spec (n : Int) : FSpec Tryz.prog 42 [.int .i64 n] [] Unit (fun _ => True) (fun _ => .agg (valV ⟨2, n, 0, ⟨#[]⟩⟩).toArray) (fun _ => []) := by
  refine spec_intro [] _ Tryz.func42 rfl Tryz.ntmps42 (by rfl) (fun w0 R => ?_)
  repeat' (first | (refine gY ?_; intros) | (refine hY ?_ ?_ <;> (intro hgd; try simp only [bn] at hgd)) | (refine jY ?_ ?_ <;> intro _) | fail)
  (refine rt_Y (y := ()) (hrs := Tryz.results42) (hv := ?_) (hφ := ?_))
  · rfl
  · trivial
set_option maxHeartbeats 32000000 in
theorem alive17_spec (A : HProp) (hA : UT A) : FSpec Tryz.prog 8 [] [A] HProp (fun P' => Ext A P') (fun _ => .bool true) (fun P' => [P']) := by
  have hn := new_spec 16384 (by decide) (by decide)
  have hO0 : ∀ (b : Nat) (vs : Value) (ts : List Tb) (P : HProp) (hvc : vs.oneCell' = true) (hU : UT P) (hsv : SV P vs ts) (hm : ts.map Tb.c = twoS), FSpec Tryz.prog 22 [.pointer (some ⟨b, 0, none⟩), .agg #[vs]] [diskP b (newD 16384), P] (Nat × HProp) (fun y => Ext P y.2) (fun y => .tuple #[.pointer (some ⟨y.1, 0, none⟩), .int .i64 0]) (fun y => [srP y.2 y.1 b sS0, diskP b sV1.2.1, y.2]) := fun b vs ts P hvc hU hsv hm => by
    have h := sOpen_new b (newD 16384) sV1.2.1 sV1.1 vs ts P hvc hU hsv (by rw [hm]; exact two_ok) (.new (by decide) (by decide)) (by simp [newD]) sV0_w sV0_g.ok (by show sV0.loose.length ≤ _; rw [sV0_g.loose]; simp) (by rw [hm]; exact Prod.ext rfl (Prod.ext rfl sV1_e))
    rw [hm] at h
    exact h
  obtain ⟨l8, r8, d8, hW8, hH8, hd8, hl8⟩ := sO8
  have hO8 := fun (b : Nat) (vs : Value) (ts : List Tb) (P : HProp) (hvc : vs.oneCell' = true) (hU : UT P) (hsv : SV P vs ts) (hm : ts.map Tb.c = twoS) => sOpen_again b sC6.2.1 d8 (lenT [putSB twoS, recB 1 l8]) vs ts P [l8] r8 hvc hU hsv (by rw [hm]; exact two_ok) hd8 (by rw [hl8]; simp) (by rw [hm]; exact hH8) (by rw [hm]; exact hW8)
  have hB0 := fun xb b P => sBegin_spec xb b sS0 P
  have hD1 := fun xb b (u : Value) (P : HProp) (hU : UT P) (hw : Vw P 4 u (alO1.row.map valV)) (hc : u.oneCell' = true) => sDo_spec xb b sS1 alO1 u P (sS0_h.begin).i hU hw hc alO1_row.2 alO1_row.1
  have hC3 := fun xb b P (hU : UT P) => sCommit_spec xb b sS2 sV1.2.1 P sS2_h.i hU sV1_g.ok (by rw [sV1_g.loose]; simp) (by rw [sS2_w]; exact sV1_g.wok (by have := putSB_size two_ok; simp [lenT]; omega))
  obtain ⟨l3, hl3, hh3, hg3⟩ := sC3_g
  have hB4 := fun xb b P => sBegin_spec xb b sC3.1 P
  have hw7 : ∀ v ∈ alO7.row, v.wf := fun v hv => by
    simp only [alO7, List.mem_cons, List.not_mem_nil, or_false] at hv
    rcases hv with rfl | rfl <;> exact nV_wf (by decide) (by decide)
  have hD5 := fun xb b (u : Value) (P : HProp) (hU : UT P) (hw : Vw P 4 u (alO7.row.map valV)) (hc : u.oneCell' = true) => sDo_spec xb b sS4 alO7 u P hh3.begin.i hU hw hc hw7 (by decide)
  have hz3 : ([putSB twoS, recB 1 l3] : List BA).length ≤ 1000000000 ∧ lenT [putSB twoS, recB 1 l3] ≤ 1000000000 := by
    have h1 := putSB_size two_ok
    have hcc := hh3.h.ch l3 (by rw [hl3]; simp)
    have h2 : (recB 1 l3).size ≤ 2 + 1652 * l3.length := recT_le hcc.2 (by omega) _ (Nat.le_refl _)
    refine ⟨by simp, ?_⟩
    simp [lenT]
    omega
  have hC6 := fun xb b P (hU : UT P) => sCommit_spec xb b sS5 sC3.2.1 P sS5_h.i hU hg3.ok (by rw [hg3.loose]; simp) (by rw [sS5_w]; exact hg3.wok hz3)
  obtain ⟨l6, hl6, hh6, hg6⟩ := sC6_g
  have hz6 : ([putSB twoS, recB 1 l6] : List BA).length ≤ 1000000000 ∧ lenT [putSB twoS, recB 1 l6] ≤ 1000000000 := by
    have h1 := putSB_size two_ok
    have hcc := hh6.h.ch l6 (by rw [hl6]; simp)
    have h2 : (recB 1 l6).size ≤ 2 + 1652 * l6.length := recT_le hcc.2 (by omega) _ (Nat.le_refl _)
    refine ⟨by simp, ?_⟩
    simp [lenT]
    omega
  have hC7 := fun xb b P (hU : UT P) => sCommit_spec xb b sC6.1 sC6.2.1 P hh6.i hU hg6.ok (by rw [hg6.loose]; simp) (hg6.wok hz6)
  rw [sS1_e] at hB0
  rw [sS2_e] at hD1
  rw [show sS2.commitS sV1.2.1 = sC3 from rfl, sC3_n, sC3_e] at hC3
  rw [sS4_e] at hB4
  rw [sS5_e] at hD5
  rw [show sS5.commitS sC3.2.1 = sC6 from rfl, sC6_e] at hC6
  rw [show sC6.1.commitS sC6.2.1 = sC7 from rfl, sC7_is] at hC7
  dsimp only at hC7
  have hN9 := fun xb b (S : Src) (P : HProp) (hl : S.l.length = 1) => sCommits_spec xb b S P (by omega)
  have hB0' : ∀ xb b P, FSpec Tryz.prog 12 [.pointer (some ⟨xb, 0, none⟩)] [srP P xb b sS0] Unit (fun _ => True) (fun _ => .int .i64 0) (fun _ => [srP P xb b sS1]) := hB0
  have hD1' : ∀ xb b (u : Value) (P : HProp) (hU : UT P) (hw : Vw P 4 u ([nV 1].map valV)) (hc : u.oneCell' = true), FSpec Tryz.prog 13 [.pointer (some ⟨xb, 0, none⟩), .agg #[.int .u8 1, .int .i64 0, u]] [srP P xb b sS1, P] HProp (fun P' => Ext P P') (fun _ => .int .i64 0) (fun P' => [srP P' xb b sS2, P']) := hD1
  have hB4' : ∀ xb b P, FSpec Tryz.prog 12 [.pointer (some ⟨xb, 0, none⟩)] [srP P xb b sC3.1] Unit (fun _ => True) (fun _ => .int .i64 0) (fun _ => [srP P xb b sS4]) := hB4
  have hD5' : ∀ xb b (u : Value) (P : HProp) (hU : UT P) (hw : Vw P 4 u ([nV 2, nV 7].map valV)) (hc : u.oneCell' = true), FSpec Tryz.prog 13 [.pointer (some ⟨xb, 0, none⟩), .agg #[.int .u8 1, .int .i64 1, u]] [srP P xb b sS4, P] HProp (fun P' => Ext P P') (fun _ => .int .i64 0) (fun P' => [srP P' xb b sS5, P']) := hD5
  clear hB0 hD1 hB4 hD5 hz3 hz6 hg3 hg6 hh3 hh6 hd8 hl8 hW8 hH8 hl3 hl6 hw7
  generalize sS0 = s0 at hO0 hB0'
  generalize sS1 = s1 at hB0' hD1'
  generalize sS2 = s2 at hD1' hC3
  generalize sV1.2.1 = d1 at hO0 hC3
  generalize newD 16384 = d0 at hn hO0
  generalize sS4 = s4 at hB4' hD5'
  generalize sS5 = s5 at hD5' hC6
  generalize sC3.1 = s3 at hC3 hB4'
  generalize sC3.2.1 = d3 at hC3 hC6
  generalize sC6.1 = s6 at hC6 hC7
  generalize sC6.2.1 = d6 at hC6 hC7 hO8
  generalize sC6.2.2.1 = n6 at hC6
  have e1 : (!decide ((0 : Int) = 0)) = false := rfl
  have e2 : decide (((1 : Nat) : Int) = 1) = true := rfl
  have e3 : decide ((([l8] : List (List Chg)).length : Int) = 1) = true := rfl
  refine spec_intro [] _ Tryz.func8 rfl Tryz.ntmps8 (by rfl) (fun w0 R => ?_)
  repeat' (first | (refine gY ?_; intros) | (refine hY ?_ ?_ <;> (intro hgd; try simp only [bn] at hgd)) | (refine jY ?_ ?_ <;> intro _) | fail)
  refine cl_Y (hn) ?_
  intro b _
  repeat' (first | (refine gY ?_; intros) | (refine hY ?_ ?_ <;> (intro hgd; try simp only [bn] at hgd)) | (refine jY ?_ ?_ <;> intro _) | fail)
  refine cl_Y (two_spec) ?_
  rintro ⟨⟨v, hv⟩, tk, P0⟩ ⟨hsv0, hmc⟩
  dsimp only at hsv0 hmc ⊢
  refine ops_pool P0 A takeD ?_
  intro P hEA hE0
  have hsv : SV P v tk := hsv0.ext hE0
  have hU : UT P := hA.ext hEA
  clear hE0 hsv0
  repeat' (first | (refine gY ?_; intros) | (refine hY ?_ ?_ <;> (intro hgd; try simp only [bn] at hgd)) | (refine jY ?_ ?_ <;> intro _) | fail)
  refine cl_Y (hO0 b v tk P hv hU hsv hmc) ?_
  rintro ⟨xb, P1⟩ hE1
  dsimp only at hE1 ⊢
  repeat' (first | (refine gY ?_; intros) | (refine hY ?_ ?_ <;> (intro hgd; try simp only [bn] at hgd)) | (refine jY ?_ ?_ <;> intro _) | fail)
  refine cl_Y (hB0' xb b P1) ?_
  intro _ _
  repeat' (first | (refine gY ?_; intros) | (refine hY ?_ ?_ <;> (intro hgd; try simp only [bn] at hgd)) | (refine jY ?_ ?_ <;> intro _) | fail)
  refine cl_Y (num17_spec 1) ?_
  intro _ _
  repeat' (first | (refine gY ?_; intros) | (refine hY ?_ ?_ <;> (intro hgd; try simp only [bn] at hgd)) | (refine jY ?_ ?_ <;> intro _) | fail)
  rename_i w hw
  refine ops_poolN (ty := 93) (n := 4) (v := w) (xs := [nV 1].map valV) (P := P1) takeD ?_
  intro P2 hE2 hv2
  refine opsL_mapL (fun _ h => srP_ext hE2 (xb := xb) (b := b) (S := s1) (Take.out1 (A := srP P1 xb b s1) takeD h)) ?_
  refine ops_learn (VwIn.slice (VwIn.there (VwIn.here hv2))) ?_
  rintro ⟨pw, cw, rfl⟩
  have hU2 := hU.ext (hE1.trans hE2)
  repeat' (first | (refine gY ?_; intros) | (refine hY ?_ ?_ <;> (intro hgd; try simp only [bn] at hgd)) | (refine jY ?_ ?_ <;> intro _) | fail)
  refine cl_Y (hD1' xb b _ P2 hU2 hv2 hw) ?_
  intro P3 hE3
  have hU3 := hU2.ext hE3
  repeat' (first | (refine gY ?_; intros) | (refine hY ?_ ?_ <;> (intro hgd; try simp only [bn] at hgd)) | (refine jY ?_ ?_ <;> intro _) | fail)
  refine cl_Y (hC3 xb b P3 hU3) ?_
  intro P4 hE4
  have hU4 := hU3.ext hE4
  repeat' (first | (refine gY ?_; intros) | (refine hY ?_ ?_ <;> (intro hgd; try simp only [bn] at hgd)) | (refine jY ?_ ?_ <;> intro _) | fail)
  refine cl_Y (hB4' xb b P4) ?_
  intro _ _
  repeat' (first | (refine gY ?_; intros) | (refine hY ?_ ?_ <;> (intro hgd; try simp only [bn] at hgd)) | (refine jY ?_ ?_ <;> intro _) | fail)
  refine cl_Y (num17_spec 2) ?_
  intro _ _
  repeat' (first | (refine gY ?_; intros) | (refine hY ?_ ?_ <;> (intro hgd; try simp only [bn] at hgd)) | (refine jY ?_ ?_ <;> intro _) | fail)
  refine cl_Y (num17_spec 7) ?_
  intro _ _
  repeat' (first | (refine gY ?_; intros) | (refine hY ?_ ?_ <;> (intro hgd; try simp only [bn] at hgd)) | (refine jY ?_ ?_ <;> intro _) | fail)
  rename_i w' hw'
  refine ops_poolN (ty := 93) (n := 4) (v := w') (xs := [nV 2, nV 7].map valV) (P := P4) takeD ?_
  intro P5 hE5 hv5
  refine opsL_mapL (fun _ h => srP_ext hE5 (xb := xb) (b := b) (S := s4) (Take.out1 (A := srP P4 xb b s4) takeD h)) ?_
  refine ops_learn (VwIn.slice (VwIn.there (VwIn.here hv5))) ?_
  rintro ⟨pw', cw', rfl⟩
  have hU5 := hU4.ext hE5
  repeat' (first | (refine gY ?_; intros) | (refine hY ?_ ?_ <;> (intro hgd; try simp only [bn] at hgd)) | (refine jY ?_ ?_ <;> intro _) | fail)
  refine cl_Y (hD5' xb b _ P5 hU5 hv5 hw') ?_
  intro P6 hE6
  have hU6 := hU5.ext hE6
  repeat' (first | (refine gY ?_; intros) | (refine hY ?_ ?_ <;> (intro hgd; try simp only [bn] at hgd)) | (refine jY ?_ ?_ <;> intro _) | fail)
  refine cl_Y (hC6 xb b P6 hU6) ?_
  intro P7 hE7
  have hU7 := hU6.ext hE7
  repeat' (first | (refine gY ?_; intros) | (refine hY ?_ ?_ <;> (intro hgd; try simp only [bn] at hgd)) | (refine jY ?_ ?_ <;> intro _) | fail)
  refine cl_Y (hC7 xb b P7 hU7) ?_
  intro P8 hE8
  have hU8 := hU7.ext hE8
  repeat' (first | (refine gY ?_; intros) | (refine hY ?_ ?_ <;> (intro hgd; try simp only [bn] at hgd)) | (refine jY ?_ ?_ <;> intro _) | fail)
  refine cl_Y (two_spec) ?_
  rintro ⟨⟨v', hv'⟩, tk', P0'⟩ ⟨hsv0', hmc'⟩
  dsimp only at hsv0' hmc' ⊢
  refine ops_pool P0' P8 takeD ?_
  intro P9 hE9 hE0'
  have hsv' : SV P9 v' tk' := hsv0'.ext hE0'
  have hU9 := hU8.ext hE9
  clear hE0' hsv0'
  repeat' (first | (refine gY ?_; intros) | (refine hY ?_ ?_ <;> (intro hgd; try simp only [bn] at hgd)) | (refine jY ?_ ?_ <;> intro _) | fail)
  refine cl_Y (hO8 b v' tk' P9 hv' hU9 hsv' hmc') ?_
  rintro ⟨xb', P10⟩ hE10
  dsimp only at hE10 ⊢
  repeat' (first | (refine gY ?_; intros) | (refine hY ?_ ?_ <;> (intro hgd; try simp only [bn] at hgd)) | (refine jY ?_ ?_ <;> intro _) | fail)
  refine cl_Y (sOpen_nil (.slice none 0 0) rfl) ?_
  intro _ _
  repeat' (first | (refine gY ?_; intros) | (refine hY ?_ ?_ <;> (intro hgd; try simp only [bn] at hgd)) | (refine jY ?_ ?_ <;> intro _) | fail)
  refine cl_Y (sCommits_spec xb' b ⟨r8, [l8], none, ⟨((([l8] : List (List Chg)).length + 1 : Nat) : Int), ((lenT [putSB twoS, recB 1 l8] : Nat) : Int), 0⟩⟩ P10 (by show ([l8] : List (List Chg)).length ≤ 300; simp)) ?_
  intro _ _
  repeat' (first | (refine gY ?_; intros) | (refine hY ?_ ?_ <;> (intro hgd; try simp only [bn] at hgd)) | (refine jY ?_ ?_ <;> intro _) | fail)
  (refine rt_Y (y := P10) (hrs := Tryz.results8) (hv := ?_) (hφ := ?_))
  · rfl
  · exact hEA.trans (hE1.trans (hE2.trans (hE3.trans (hE4.trans (hE5.trans (hE6.trans (hE7.trans (hE8.trans (hE9.trans hE10)))))))))
theorem svr_nil17 {A : HProp} : SVr A (.slice none 0 0) [] := ⟨vw_nil5, fun _ h => by simp at h, by decide, cap0⟩
set_option maxHeartbeats 16000000 in
theorem SourceNil_spec (o : Om) (n : Int) (A : HProp) (hU : UT A) (h1 : OmR A o) :
    FSpec Tryz.prog 3 [.agg (opV o).toArray, .int .u64 n] [A] HProp (fun P' => Ext A P') (fun _ => .bool true) (fun P' => [P']) := by
  obtain ⟨okd, otb, ⟨orv, horv⟩, orow⟩ := o
  dsimp only [opV] at *
  obtain ⟨hcv, hcl, hct⟩ := h1
  dsimp only at hcv hcl hct
  have lr : (orow.map valV).length = orow.length := by simp
  refine spec_intro [] _ Tryz.func3 rfl Tryz.ntmps3 (by rfl) (fun w0 R => ?_)
  refine ok_learn (VwIn.slice (VwIn.here hcv)) ?_
  rintro ⟨po, co, rfl⟩
  repeat' (first | (refine gY ?_; intros) | (refine hY ?_ ?_ <;> (intro hgd; try simp only [bn] at hgd)) | (refine jY ?_ ?_ <;> intro _) | fail)
  rename_i b1 w1 hw1
  refine ops_learn (rowShape (e := 24) (n := 3) (v := w1) (xs := [[.int .u8 okd, .int .i64 otb, .slice po (orow.map valV).length co]]) (by decide) takeD) ?_
  rintro (⟨rfl, hn⟩ | ⟨g1, c1, rfl, _⟩)
  · cases hn
  refine ops_pool (row 24 3 (.slice (some ⟨g1, 0, none⟩) 1 c1) ([(⟨okd, otb, ⟨_, horv⟩, orow⟩ : Om)].map opV)) A takeD ?_
  intro P0 hx1 hr1
  have hwv1 : Vw P0 3 (.slice (some ⟨g1, 0, none⟩) 1 c1) ([(⟨okd, otb, ⟨_, horv⟩, orow⟩ : Om)].map opV) := hr1.vw Vw.row
  have hU0 := hU.ext hx1
  have hcv0 := hx1.vw hcv
  have hh2 := heavy14_spec (.slice none 0 0) (.slice (some ⟨g1, 0, none⟩) 1 c1) [] [⟨okd, otb, ⟨_, horv⟩, orow⟩] P0 svr_nil17 ⟨hwv1, fun q hq => by rw [List.mem_singleton] at hq; subst hq; exact ⟨hcv0, hcl, hct⟩, by show (1 : Nat) ≤ _; decide⟩
  clear hwv1 hcv hct hw1 hcl hcv0 hr1
  refine cl_Y (hh2) ?_
  intro y2 _
  cases y2 with
  | true =>
    repeat' (first | (refine gY ?_; intros) | (refine hY ?_ ?_ <;> (intro hgd; try simp only [bn] at hgd)) | (refine jY ?_ ?_ <;> intro _) | fail)
    refine cl_Y (alive17_spec P0 hU0) ?_
    intro P' hE
    repeat' (first | (refine gY ?_; intros) | (refine hY ?_ ?_ <;> (intro hgd; try simp only [bn] at hgd)) | (refine jY ?_ ?_ <;> intro _) | fail)
    (refine rt_Y (y := P') (hrs := Tryz.results3) (hv := ?_) (hφ := ?_))
    · rfl
    · exact hx1.trans hE
  | false =>
    have z1 : decide ((1 : Int) = (1 : Int)) = true := by decide
    have z0 : decide ((0 : Int) = (0 : Int)) = true := by decide
    have z3 : decide (((0 : Nat) : Int) = (0 : Int)) = true := by decide
    have z2 : (!(false : Bool)) = true := rfl
    repeat' (first | (refine gY ?_; intros) | (refine hY ?_ ?_ <;> (intro hgd; try simp only [bn] at hgd)) | (refine jY ?_ ?_ <;> intro _) | fail)
    refine cl_Y (sChanges_nil n) ?_
    intro _ _
    repeat' (first | (refine gY ?_; intros) | (refine hY ?_ ?_ <;> (intro hgd; try simp only [bn] at hgd)) | (refine jY ?_ ?_ <;> intro _) | fail)
    refine cl_Y (sAt_nil n) ?_
    intro _ _
    repeat' (first | (refine gY ?_; intros) | (refine hY ?_ ?_ <;> (intro hgd; try simp only [bn] at hgd)) | (refine jY ?_ ?_ <;> intro _) | fail)
    refine cl_Y (sCommit_nil) ?_
    intro _ _
    repeat' (first | (refine gY ?_; intros) | (refine hY ?_ ?_ <;> (intro hgd; try simp only [bn] at hgd)) | (refine jY ?_ ?_ <;> intro _) | fail)
    refine cl_Y (sBegin_nil) ?_
    intro _ _
    repeat' (first | (refine gY ?_; intros) | (refine hY ?_ ?_ <;> (intro hgd; try simp only [bn] at hgd)) | (refine jY ?_ ?_ <;> intro _) | fail)
    refine cl_Y (sDo_nil okd otb (.slice po (orow.map valV).length co) rfl) ?_
    intro _ _
    repeat' (first | (refine gY ?_; intros) | (refine hY ?_ ?_ <;> (intro hgd; try simp only [bn] at hgd)) | (refine jY ?_ ?_ <;> intro _) | fail)
    refine cl_Y (sAbort_nil) ?_
    intro _ _
    repeat' (first | (refine gY ?_; intros) | (refine hY ?_ ?_ <;> (intro hgd; try simp only [bn] at hgd)) | (refine jY ?_ ?_ <;> intro _) | fail)
    refine cl_Y (sCommits_nil) ?_
    intro _ _
    repeat' (first | (refine gY ?_; intros) | (refine hY ?_ ?_ <;> (intro hgd; try simp only [bn] at hgd)) | (refine jY ?_ ?_ <;> intro _) | fail)
    refine cl_Y (sBusy_nil) ?_
    intro _ _
    repeat' (first | (refine gY ?_; intros) | (refine hY ?_ ?_ <;> (intro hgd; try simp only [bn] at hgd)) | (refine jY ?_ ?_ <;> intro _) | fail)
    refine cl_Y (sFault_nil) ?_
    intro _ _
    repeat' (first | (refine gY ?_; intros) | (refine hY ?_ ?_ <;> (intro hgd; try simp only [bn] at hgd)) | (refine jY ?_ ?_ <;> intro _) | fail)
    refine cl_Y (sSchema_nil) ?_
    intro _ _
    repeat' (first | (refine gY ?_; intros) | (refine hY ?_ ?_ <;> (intro hgd; try simp only [bn] at hgd)) | (refine jY ?_ ?_ <;> intro _) | fail)
    refine cl_Y (alive17_spec P0 hU0) ?_
    intro P' hE
    repeat' (first | (refine gY ?_; intros) | (refine hY ?_ ?_ <;> (intro hgd; try simp only [bn] at hgd)) | (refine jY ?_ ?_ <;> intro _) | fail)
    (refine rt_Y (y := P') (hrs := Tryz.results3) (hv := ?_) (hφ := ?_))
    · rfl
    · exact hx1.trans hE
end Go.Proofs.YtmnafjonbeihiaaGreatDoor
