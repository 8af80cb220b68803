/- The walk of ManKeeps, the law itself. -/
import Derived.Test.YtgmobpngcilgjaaMnK
-- @DEFS Z
set_option linter.unusedSimpArgs false
set_option linter.unusedVariables false
set_option maxRecDepth 4000
namespace Go.Proofs.Ytgmobpngcilgjaa
open Go Go.Fx Go.Proofs Go.Pl

abbrev V1 := { v : Value // v.oneCell' = true }
def mnE (e : Mn × V1) : List Value := manV e.1 e.2.1
structure okE (A : HProp) (e : Mn × V1) : Prop where
  chk : e.1.chk = true
  wf : e.1.wf
  vw : Vw A 1 e.2.1 (e.1.runs.map uV)
  cap : capOk e.2.1
  len : e.1.runs.length ≤ 20
def cand (sm : Bool) (hv : Mn) (mb : List (Mn × V1)) (o : Option BA) : Prop := (sm = false ∧ o = none) ∨ (sm = true ∧ o = some (mBytes hv)) ∨ ∃ e ∈ mb, o = some (mBytes e.1)
structure KS where
  d : Dk
  sm : Bool
  hv : Mn × V1
  mb : List (Mn × V1)
  mv : V1
structure KOK (A : HProp) (i : Nat) (g : KS) : Prop where
  ok : g.d.Ok
  inv : KInv (cand g.sm g.hv.1 g.mb) g.d
  hvo : g.sm = true → okE A g.hv
  mbo : ∀ e ∈ g.mb, okE A e
  loose : g.d.loose.length ≤ 5 * i
  cnt : g.mb.length ≤ i
def kP (A : HProp) (b b6 : Nat) (g : KS) : List HProp := [diskP b g.d, pts b6 (.cells (mnE g.hv).toArray 63), row 63 3 g.mv.1 (g.mb.map mnE), A]

theorem sameM_self (m : Mn) : sameM m m = true := by simp [sameM]

set_option maxHeartbeats 4000000 in
theorem ManKeeps_spec (u : Value) (A : HProp) (xs : List Sm) (hA : Vw A 6 u (xs.map smV)) (hv : ∀ x ∈ xs, Vw A 1 x.v.1 (x.m.runs.map uV) ∧ capOk x.v.1 ∧ x.m.wf ∧ x.n ≤ 9223372036854775807) :
    FSpec Try.prog 8 [u] [A] Unit (fun _ => True) (fun _ => .bool true) (fun _ => [A]) := by
  refine spec_intro [] _ Try.func8 rfl Try.ntmps8 (by rfl) (fun w0 R => ?_)
  refine ok_learn (VwIn.slice (VwIn.here hA)) ?_
  rintro ⟨pu, cu, rfl⟩
  repeat' (first | (refine go_Z ?_; intros) | (refine gs_Z ?_ ?_ <;> (intro hgd; try (simp only [Bool.not_true, Bool.not_false] at hgd))) | (refine gc_Z ?_ ?_ <;> intro _) | fail)
  refine cl_Z (heavyM_spec (.slice pu (xs.map smV).length cu) A xs hA (fun x hx => (hv x hx).1)) ?_
  intro y hy
  cases y with
  | true =>
    repeat' (first | (refine go_Z ?_; intros) | (refine gs_Z ?_ ?_ <;> (intro hgd; try (simp only [Bool.not_true, Bool.not_false] at hgd))) | (refine gc_Z ?_ ?_ <;> intro _) | fail)
    refine cl_Z (alive_man) ?_
    intro _ _
    repeat' (first | (refine go_Z ?_; intros) | (refine gs_Z ?_ ?_ <;> (intro hgd; try (simp only [Bool.not_true, Bool.not_false] at hgd))) | (refine gc_Z ?_ ?_ <;> intro _) | fail)
    (refine rt_Z (y := ()) (hrs := Try.results8) (hv := ?_) (hφ := ?_))
    · rfl
    · trivial
  | false =>
    obtain ⟨hlen60, hruns⟩ := hy rfl
    have hlen : (xs.map smV).length = xs.length := by simp
    repeat' (first | (refine go_Z ?_; intros) | (refine gs_Z ?_ ?_ <;> (intro hgd; try (simp only [Bool.not_true, Bool.not_false] at hgd))) | (refine gc_Z ?_ ?_ <;> intro _) | fail)
    refine cl_Z (new_spec 65536 (by decide) (by decide)) ?_
    intro b _
    repeat' (first | (refine go_Z ?_; intros) | (refine gs_Z ?_ ?_ <;> (intro hgd; try (simp only [Bool.not_true, Bool.not_false] at hgd))) | (refine gc_Z ?_ ?_ <;> intro _) | fail)
    rename_i b6
    have hok0 : (newD 65536).Ok := Dk.Ok.new (by decide) (by decide)
    have hin0 : KInv (cand false mn0 []) (newD 65536) := KInv.settled (l := []) (.inl ⟨rfl, rfl⟩) rfl rfl
    have hl0 : (newD 65536).loose.length = 0 := rfl
    generalize newD 65536 = d0 at hok0 hin0 hl0
    refine ok_map (fun _ h => rowNil (e := 63) (n := 3) h) ?_
    refine ok_map (L' := [diskP b d0, pts b6 (.cells [.int .u64 0, .slice none 0 0, .int .u64 0].toArray 63), row 63 3 (.slice none 0 0) [], A] ++ R) entD ?_
    refine ok_loop' (γ := Nat × KS) (fun g ρ L => g.1 ≤ xs.length ∧ KOK A g.1 g.2 ∧ Knows ρ [(0, .slice pu (xs.map smV).length cu), (3, .pointer (some ⟨b, 0, none⟩)), (5, .bool g.2.sm), (6, .pointer (some ⟨b6, 0, none⟩)), (7, g.2.mv.1), (8, .int .i64 g.1)] ∧ L = kP A b b6 g.2 ++ R) (fun g => xs.length - g.1)
      (0, ⟨d0, false, (mn0, ⟨.slice none 0 0, rfl⟩), [], ⟨.slice none 0 0, rfl⟩⟩) ⟨by simp, ⟨hok0, hin0, fun h => (by cases h), by simp, by rw [hl0]; simp, by simp⟩, ⟨rfl, rfl, rfl, rfl, rfl, rfl, trivial⟩, rfl⟩ ?_
    rintro ⟨i, d, sm, hve, mb, mv⟩ ρ L ⟨hi, hko, hk, rfl⟩
    dsimp only at hi hko hk ⊢
    refine ok_regs hk ?_
    cases t1 : decide ((i : Int) < ((xs.map smV).length : Int)) with
    | false =>
      unfold kP
      repeat' (first | (refine go_Z ?_; intros) | (refine gs_Z ?_ ?_ <;> (intro hgd; try (simp only [Bool.not_true, Bool.not_false] at hgd))) | (refine gc_Z ?_ ?_ <;> intro _) | fail)
      refine cl_Z (alive_man) ?_
      intro _ _
      repeat' (first | (refine go_Z ?_; intros) | (refine gs_Z ?_ ?_ <;> (intro hgd; try (simp only [Bool.not_true, Bool.not_false] at hgd))) | (refine gc_Z ?_ ?_ <;> intro _) | fail)
      (refine rt_Z (y := ()) (hrs := Try.results8) (hv := ?_) (hφ := ?_))
      · rfl
      · trivial
    | true =>
      have h : i < xs.length := by simp at t1; omega
      have hn1 : i < (xs.map smV).length := by omega
      have hx : (xs.map smV)[i]? = some (smV xs[i]) := (by rw [List.getElem?_map, List.getElem?_eq_getElem h]; rfl)
      obtain ⟨hvx, hcx, hwx, hnx⟩ := hv _ (List.getElem_mem h)
      have hrx := hruns _ (List.getElem_mem h)
      unfold kP
      dsimp only
      refine ok_learn (VwIn.base (VwIn.there (VwIn.there (VwIn.there (VwIn.here hA)))) (by intro e; rw [e] at hn1; simp at hn1)) ?_
      rintro ⟨bu, ou, rfl⟩
      generalize xs[i] = x at hx hvx hcx hwx hnx hrx
      obtain ⟨o, m, ⟨v, hvc⟩, n, k⟩ := x
      dsimp only at hvx hcx hwx hnx hrx
      refine ok_seq (ok_seq (ok_region ?_))
      repeat' (first | (refine ro_Z ?_; intros) | fail)
      refine cont_then (ok_cond_true ?_ (ok_skip ?_))
      · ((conv => lhs; whnf); first | done | with_reducible rfl | (refine congrArg Value.bool ?_; with_reducible assumption))
      refine cont_then (ok_seq (ok_block (ok_seq (ok_region ?_))))
      repeat' (first | (refine ro_Z ?_; intros) | fail)
      rename_i b9
      refine cont_then ?_
      refine ok_meet (γ := KS) (fun g ρ L => KOK A (i + 1) g ∧ Knows ρ [(0, .slice (some ⟨bu, ou, none⟩) (xs.map smV).length cu), (3, .pointer (some ⟨b, 0, none⟩)), (5, .bool g.sm), (6, .pointer (some ⟨b6, 0, none⟩)), (7, g.mv.1), (8, .int .i64 i)] ∧ L = kP A b b6 g ++ R) ?_ ?_
      · have hkl := hko.loose
        have hkc := hko.cnt
        dsimp only at hkl hkc
        cases o0 : decide (o = 0) with
        | true =>
          cases hc : m.chk with
          | false =>
            have hs := Save_bad b d nM m v A hvx hcx (by omega) hc
            repeat' (first | (refine go_Z ?_; intros) | (refine gs_Z ?_ ?_ <;> (intro hgd; try (simp only [Bool.not_true, Bool.not_false] at hgd))) | (refine gc_Z ?_ ?_ <;> intro _) | fail)
            refine cl_Z (hs) ?_
            intro _ _
            repeat' (first | (refine go_Z ?_; intros) | (refine gs_Z ?_ ?_ <;> (intro hgd; try (simp only [Bool.not_true, Bool.not_false] at hgd))) | (refine gc_Z ?_ ?_ <;> intro _) | fail)
            refine cont_map (L' := [diskP b d, pts b6 (.cells (mnE hve).toArray 63), row 63 3 mv.1 (mb.map mnE), A] ++ R) entD ?_
            refine cont_meet ⟨d, sm, hve, mb, mv⟩ ⟨⟨hko.ok, hko.inv, hko.hvo, hko.mbo, by dsimp only; omega, by dsimp only; omega⟩, ⟨rfl, rfl, rfl, rfl, rfl, rfl, trivial⟩, rfl⟩
          | true =>
            have hsz : (mBytes m).size ≤ 549755813888 := by
              unfold mBytes mBody
              rw [frameOf_size, put8s_size]
              simp [mNums]; omega
            have hs := Save_spec b d nM m v A hko.ok (by omega) (by decide) hvx hcx (by omega) hc hwx
            have hsv := save_inv hko.inv hko.ok (mBytes m) hsz
            have hso := save_ok (nm := nM) hko.ok hsz
            generalize saveD nM (mBytes m) d = r at hs hsv hso
            obtain ⟨d', e⟩ := r
            dsimp only at hs hsv hso
            have hoke : okE A (m, ⟨v, hvc⟩) := ⟨hc, hwx, hvx, hcx, hrx⟩
            rcases hsv with ⟨rfl, hk'⟩ | ⟨rfl, hk'⟩ | ⟨rfl, hk'⟩
            · repeat' (first | (refine go_Z ?_; intros) | (refine gs_Z ?_ ?_ <;> (intro hgd; try (simp only [Bool.not_true, Bool.not_false] at hgd))) | (refine gc_Z ?_ ?_ <;> intro _) | fail)
              refine cl_Z (hs) ?_
              intro _ _
              repeat' (first | (refine go_Z ?_; intros) | (refine gs_Z ?_ ?_ <;> (intro hgd; try (simp only [Bool.not_true, Bool.not_false] at hgd))) | (refine gc_Z ?_ ?_ <;> intro _) | fail)
              refine cont_map (fun _ h => rowNil (e := 63) (n := 3) h) ?_
              refine cont_map (L' := [diskP b d', pts b6 (.cells (mnE ((m, ⟨v, hvc⟩) : Mn × V1)).toArray 63), row 63 3 (.slice none 0 0) (([] : List (Mn × V1)).map mnE), A] ++ R) entD ?_
              refine cont_meet ⟨d', true, (m, ⟨v, hvc⟩), ([] : List (Mn × V1)), ⟨.slice none 0 0, rfl⟩⟩ ⟨⟨hso.1, hk'.mono fun o ho => .inr (.inl ⟨rfl, ho⟩), fun _ => hoke, by simp, by dsimp only; omega, by dsimp only; simp⟩, ⟨rfl, rfl, rfl, rfl, rfl, rfl, trivial⟩, rfl⟩
            · repeat' (first | (refine go_Z ?_; intros) | (refine gs_Z ?_ ?_ <;> (intro hgd; try (simp only [Bool.not_true, Bool.not_false] at hgd))) | (refine gc_Z ?_ ?_ <;> intro _) | fail)
              refine cl_Z (hs) ?_
              intro _ _
              repeat' (first | (refine go_Z ?_; intros) | (refine gs_Z ?_ ?_ <;> (intro hgd; try (simp only [Bool.not_true, Bool.not_false] at hgd))) | (refine gc_Z ?_ ?_ <;> intro _) | fail)
              have hgb : goodB 3 [[Value.int .u64 m.wal, v, .int .u64 m.next]] = true := by
                simp only [goodB, oneCells, List.all_cons, List.all_nil, hvc, Bool.and_true]; rfl
              apply ops_run
              apply s_buildSlice
              · exact EvP.cons (v := .agg #[.int .u64 m.wal, v, .int .u64 m.next]) rfl EvP.nil
              · exact rfl
              · exact rfl
              · exact rfl
              · exact hgb
              · exact rfl
              · exact rfl
              · exact rfl
              · exact rfl
              intro v1 hv1
              have hml : (mb.map mnE).length ≤ 60 := by simp; omega
              repeat' (first | (refine go_Z ?_; intros) | (refine gs_Z ?_ ?_ <;> (intro hgd; try (simp only [Bool.not_true, Bool.not_false] at hgd))) | (refine gc_Z ?_ ?_ <;> intro _) | fail)
              rename_i v2 hv2
              refine cont_map (L' := [diskP b d', pts b6 (.cells (mnE hve).toArray 63), row 63 3 v2 ((mb ++ [((m, ⟨v, hvc⟩) : Mn × V1)]).map mnE), A] ++ R) (by rw [List.map_append]; exact entD) ?_
              refine cont_meet ⟨d', sm, hve, (mb ++ [((m, ⟨v, hvc⟩) : Mn × V1)]), ⟨v2, hv2⟩⟩ ⟨⟨hso.1, hk'.mono fun o ho => (by
                rcases ho with (ho | ho | ⟨x, hx1, hx2⟩) | ho
                · exact .inl ho
                · exact .inr (.inl ho)
                · exact .inr (.inr ⟨x, List.mem_append_left _ hx1, hx2⟩)
                · exact .inr (.inr ⟨_, List.mem_append_right _ (List.mem_singleton.2 rfl), ho⟩)), hko.hvo, fun x hx => (by
                rcases List.mem_append.1 hx with hx | hx
                · exact hko.mbo x hx
                · rw [List.mem_singleton] at hx; subst hx; exact hoke), by dsimp only; omega, by dsimp only; simp; omega⟩, ⟨rfl, rfl, rfl, rfl, rfl, rfl, trivial⟩, rfl⟩
            · repeat' (first | (refine go_Z ?_; intros) | (refine gs_Z ?_ ?_ <;> (intro hgd; try (simp only [Bool.not_true, Bool.not_false] at hgd))) | (refine gc_Z ?_ ?_ <;> intro _) | fail)
              refine cl_Z (hs) ?_
              intro _ _
              repeat' (first | (refine go_Z ?_; intros) | (refine gs_Z ?_ ?_ <;> (intro hgd; try (simp only [Bool.not_true, Bool.not_false] at hgd))) | (refine gc_Z ?_ ?_ <;> intro _) | fail)
              refine cont_map (L' := [diskP b d', pts b6 (.cells (mnE hve).toArray 63), row 63 3 mv.1 (mb.map mnE), A] ++ R) entD ?_
              refine cont_meet ⟨d', sm, hve, mb, mv⟩ ⟨⟨hso.1, hk', hko.hvo, hko.mbo, by dsimp only; omega, by dsimp only; omega⟩, ⟨rfl, rfl, rfl, rfl, rfl, rfl, trivial⟩, rfl⟩
        | false =>
        cases o2 : decide (o = 2) with
        | true =>
            repeat' (first | (refine go_Z ?_; intros) | (refine gs_Z ?_ ?_ <;> (intro hgd; try (simp only [Bool.not_true, Bool.not_false] at hgd))) | (refine gc_Z ?_ ?_ <;> intro _) | fail)
            refine cl_Z (fuse_spec b d n) ?_
            intro _ _
            repeat' (first | (refine go_Z ?_; intros) | (refine gs_Z ?_ ?_ <;> (intro hgd; try (simp only [Bool.not_true, Bool.not_false] at hgd))) | (refine gc_Z ?_ ?_ <;> intro _) | fail)
            refine cont_map (L' := [diskP b (d.fuseTo n), pts b6 (.cells (mnE hve).toArray 63), row 63 3 mv.1 (mb.map mnE), A] ++ R) entD ?_
            refine cont_meet ⟨(d.fuseTo n), sm, hve, mb, mv⟩ ⟨⟨hko.ok.fuseTo hnx, hko.inv.fuse n, hko.hvo, hko.mbo, by show d.loose.length ≤ _; omega, by dsimp only; omega⟩, ⟨rfl, rfl, rfl, rfl, rfl, rfl, trivial⟩, rfl⟩
        | false =>
        cases o3 : decide (o = 3) with
        | true =>
            repeat' (first | (refine go_Z ?_; intros) | (refine gs_Z ?_ ?_ <;> (intro hgd; try (simp only [Bool.not_true, Bool.not_false] at hgd))) | (refine gc_Z ?_ ?_ <;> intro _) | fail)
            refine cl_Z (crash_spec b d n k hko.ok (by omega)) ?_
            intro _ _
            repeat' (first | (refine go_Z ?_; intros) | (refine gs_Z ?_ ?_ <;> (intro hgd; try (simp only [Bool.not_true, Bool.not_false] at hgd))) | (refine gc_Z ?_ ?_ <;> intro _) | fail)
            refine cont_map (L' := [diskP b (d.crash n k), pts b6 (.cells (mnE hve).toArray 63), row 63 3 mv.1 (mb.map mnE), A] ++ R) entD ?_
            refine cont_meet ⟨(d.crash n k), sm, hve, mb, mv⟩ ⟨⟨hko.ok.crash n k, hko.inv.crash n k, hko.hvo, hko.mbo, by show 0 ≤ _; omega, by dsimp only; omega⟩, ⟨rfl, rfl, rfl, rfl, rfl, rfl, trivial⟩, rfl⟩
        | false =>
        cases o4 : decide (o = 4) with
        | true =>
            repeat' (first | (refine go_Z ?_; intros) | (refine gs_Z ?_ ?_ <;> (intro hgd; try (simp only [Bool.not_true, Bool.not_false] at hgd))) | (refine gc_Z ?_ ?_ <;> intro _) | fail)
            refine cl_Z (room_spec b d n) ?_
            intro _ _
            repeat' (first | (refine go_Z ?_; intros) | (refine gs_Z ?_ ?_ <;> (intro hgd; try (simp only [Bool.not_true, Bool.not_false] at hgd))) | (refine gc_Z ?_ ?_ <;> intro _) | fail)
            have hrm : (Dk.roomTo d n).sure = d.sure ∧ (Dk.roomTo d n).loose = d.loose := by unfold Dk.roomTo; split <;> exact ⟨rfl, rfl⟩
            refine cont_map (L' := [diskP b (Dk.roomTo d n), pts b6 (.cells (mnE hve).toArray 63), row 63 3 mv.1 (mb.map mnE), A] ++ R) entD ?_
            refine cont_meet ⟨(Dk.roomTo d n), sm, hve, mb, mv⟩ ⟨⟨room_ok hko.ok n, hko.inv.same hrm.1 hrm.2, hko.hvo, hko.mbo, by rw [hrm.2]; omega, by dsimp only; omega⟩, ⟨rfl, rfl, rfl, rfl, rfl, rfl, trivial⟩, rfl⟩
        | false =>
            repeat' (first | (refine go_Z ?_; intros) | (refine gs_Z ?_ ?_ <;> (intro hgd; try (simp only [Bool.not_true, Bool.not_false] at hgd))) | (refine gc_Z ?_ ?_ <;> intro _) | fail)
            refine cont_map (L' := [diskP b d, pts b6 (.cells (mnE hve).toArray 63), row 63 3 mv.1 (mb.map mnE), A] ++ R) entD ?_
            refine cont_meet ⟨d, sm, hve, mb, mv⟩ ⟨⟨hko.ok, hko.inv, hko.hvo, hko.mbo, by dsimp only; omega, by dsimp only; omega⟩, ⟨rfl, rfl, rfl, rfl, rfl, rfl, trivial⟩, rfl⟩
      · rintro ⟨d, sm, hve, mb, mv⟩ ρ L ⟨hko, hk, rfl⟩
        dsimp only at hko hk
        unfold kP
        dsimp only
        refine ok_regs hk ?_
        have hli := load_inv hko.ok
        have hL := Load_spec b d nM hko.ok (by decide)
        have hcf := hko.inv.files hko.ok
        have hkc := hko.cnt
        dsimp only at hli hL hcf hkc
        obtain ⟨mv, hmv⟩ := mv
        dsimp only at hk ⊢
        rcases hli with ⟨hst, hf⟩ | ⟨hst, hg, hf⟩ | ⟨hst, t, hg, ht⟩
        · generalize loadD nM d = ld at hL hf
          obtain ⟨m', f⟩ := ld
          dsimp only at hL hf
          subst hf
          repeat' (first | (refine go_Z ?_; intros) | (refine gs_Z ?_ ?_ <;> (intro hgd; try (simp only [Bool.not_true, Bool.not_false] at hgd))) | (refine gc_Z ?_ ?_ <;> intro _) | fail)
          refine cl_Z (hL) ?_
          rintro ⟨v', hv'⟩ _
          repeat' (first | (refine go_Z ?_; intros) | (refine gs_Z ?_ ?_ <;> (intro hgd; try (simp only [Bool.not_true, Bool.not_false] at hgd))) | (refine gc_Z ?_ ?_ <;> intro _) | fail)
          refine cont_map (L' := [diskP b d, pts b6 (.cells (mnE hve).toArray 63), row 63 3 mv (mb.map mnE), A] ++ R) entD ?_
          refine cont_back (i + 1, ⟨d, sm, hve, mb, ⟨mv, hmv⟩⟩) ⟨h, hko, ⟨rfl, rfl, rfl, rfl, rfl, rfl, trivial⟩, rfl⟩ (by show xs.length - (i + 1) < xs.length - i; omega)
        · generalize loadD nM d = ld at hL hf
          obtain ⟨m', f⟩ := ld
          dsimp only at hL hf
          subst hf
          have hsm : sm = false := by
            rw [hg] at hcf
            rcases hcf with h | h | ⟨e, _, h⟩
            · exact h.1
            · cases h.2
            · cases h
          subst hsm
          repeat' (first | (refine go_Z ?_; intros) | (refine gs_Z ?_ ?_ <;> (intro hgd; try (simp only [Bool.not_true, Bool.not_false] at hgd))) | (refine gc_Z ?_ ?_ <;> intro _) | fail)
          refine cl_Z (hL) ?_
          rintro ⟨v', hv'⟩ _
          repeat' (first | (refine go_Z ?_; intros) | (refine gs_Z ?_ ?_ <;> (intro hgd; try (simp only [Bool.not_true, Bool.not_false] at hgd))) | (refine gc_Z ?_ ?_ <;> intro _) | fail)
          rename_i b11
          refine ok_map (L' := [diskP b d, pts b6 (.cells (mnE hve).toArray 63), row 63 3 mv (mb.map mnE), A] ++ R) entD ?_
          refine ok_loop' (γ := Nat) (fun j ρ L => j ≤ mb.length ∧ Knows ρ [(0, .slice (some ⟨bu, ou, none⟩) (xs.map smV).length cu), (3, .pointer (some ⟨b, 0, none⟩)), (5, .bool false), (6, .pointer (some ⟨b6, 0, none⟩)), (7, mv), (8, .int .i64 i), (12, .int .i64 3), (13, .bool true), (14, .int .i64 j)] ∧ L = [diskP b d, pts b6 (.cells (mnE hve).toArray 63), row 63 3 mv (mb.map mnE), A] ++ R) (fun j => mb.length - j) 0 ⟨by simp, ⟨rfl, rfl, rfl, rfl, rfl, rfl, rfl, rfl, rfl, trivial⟩, rfl⟩ ?_
          rintro j ρ L ⟨hj, hk, rfl⟩
          refine ok_regs hk ?_
          cases t5 : decide ((j : Int) < ((mb.map mnE).length : Int)) with
          | true =>
            have hj' : j < mb.length := by simp at t5; omega
            repeat' (first | (refine go_Z ?_; intros) | (refine gs_Z ?_ ?_ <;> (intro hgd; try (simp only [Bool.not_true, Bool.not_false] at hgd))) | (refine gc_Z ?_ ?_ <;> intro _) | fail)
            refine cont_back (j + 1) ⟨hj', ⟨rfl, rfl, rfl, rfl, rfl, rfl, rfl, rfl, rfl, trivial⟩, rfl⟩ (by omega)
          | false =>
            repeat' (first | (refine go_Z ?_; intros) | (refine gs_Z ?_ ?_ <;> (intro hgd; try (simp only [Bool.not_true, Bool.not_false] at hgd))) | (refine gc_Z ?_ ?_ <;> intro _) | fail)
            refine cont_back (i + 1, ⟨d, false, hve, mb, ⟨mv, hmv⟩⟩) ⟨h, hko, ⟨rfl, rfl, rfl, rfl, rfl, rfl, trivial⟩, rfl⟩ (by show xs.length - (i + 1) < xs.length - i; omega)
        · have hm' : ∃ c : Mn, c.chk = true ∧ c.wf ∧ c.runs.length ≤ 20 ∧ t = mBytes c ∧ ((sm = true ∧ c = hve.1) ∨ ∃ e ∈ mb, c = e.1) := by
            rw [hg] at hcf
            rcases hcf with h | h | ⟨e, he, h⟩
            · cases h.2
            · have := hko.hvo h.1
              exact ⟨hve.1, this.chk, this.wf, this.len, by simpa using h.2, .inl ⟨h.1, rfl⟩⟩
            · have := hko.mbo e he
              exact ⟨e.1, this.chk, this.wf, this.len, by simpa using h, .inr ⟨e, he, rfl⟩⟩
          obtain ⟨c, hc1, hc2, hc3, rfl, hc4⟩ := hm'
          rw [ht, getM_put hc1 hc2] at hL
          dsimp only at hL
          have hfinal : ((sm && sameM c hve.1) || mb.any fun e => sameM c e.1) = true := by
            rcases hc4 with ⟨h1, h2⟩ | ⟨e, he, h2⟩
            · rw [h1, h2, sameM_self]; rfl
            · rw [Bool.or_eq_true, List.any_eq_true]
              exact .inr ⟨e, he, by rw [h2]; exact sameM_self _⟩
          clear ht hc4 hg hcf
          have hKl0 : (((sm && sameM c hve.1) || (mb.take mb.length).any fun e => sameM c e.1)) = true := by rw [List.take_length]; exact hfinal
          have hKs0 : ∀ j, j < mb.length → ∀ h : j < mb.length, (((sm && sameM c hve.1) || (mb.take (j + 1)).any fun e => sameM c e.1)) = (((sm && sameM c hve.1) || (mb.take j).any fun e => sameM c e.1) || sameM c mb[j].1) := by
            intro j hj h
            rw [List.take_add_one, List.getElem?_eq_getElem h]
            simp only [Option.toList_some, List.any_append, List.any_cons, List.any_nil, Bool.or_false, Bool.or_assoc]
          have hKz0 : (((sm && sameM c hve.1) || (mb.take 0).any fun e => sameM c e.1)) = (sm && sameM c hve.1) := by simp
          generalize hisK : (fun j => ((sm && sameM c hve.1) || (mb.take j).any fun e => sameM c e.1)) = isK at *
          have hKs : ∀ j (h : j < mb.length), isK (j + 1) = (isK j || sameM c mb[j].1) := by
            intro j h
            rw [← hisK]; exact hKs0 j h h
          have hKl : isK mb.length = true := by rw [← hisK]; exact hKl0
          have hKz : isK 0 = (sm && sameM c hve.1) := by rw [← hisK]; exact hKz0
          clear hisK hfinal hKs0 hKl0 hKz0
          cases sm with
          | false =>
            have hK0 : Value.bool false = .bool (isK 0) := by rw [hKz]; rfl
            repeat' (first | (refine go_Z ?_; intros) | (refine gs_Z ?_ ?_ <;> (intro hgd; try (simp only [Bool.not_true, Bool.not_false] at hgd))) | (refine gc_Z ?_ ?_ <;> intro _) | fail)
            refine cl_Z (hL) ?_
            rintro ⟨v', hv'⟩ _
            repeat' (first | (refine go_Z ?_; intros) | (refine gs_Z ?_ ?_ <;> (intro hgd; try (simp only [Bool.not_true, Bool.not_false] at hgd))) | (refine gc_Z ?_ ?_ <;> intro _) | fail)
            rename_i b11
            refine ok_map (L' := [diskP b d, pts b6 (.cells (mnE hve).toArray 63), row 63 3 mv (mb.map mnE), A, pts b11 (.cells (manV c v').toArray 63), row 60 1 v' (c.runs.map uV)] ++ R) entD ?_
            refine ok_loop' (γ := Nat) (fun j ρ L => j ≤ mb.length ∧ Knows ρ [(0, .slice (some ⟨bu, ou, none⟩) (xs.map smV).length cu), (3, .pointer (some ⟨b, 0, none⟩)), (5, .bool false), (6, .pointer (some ⟨b6, 0, none⟩)), (7, mv), (8, .int .i64 i), (11, .pointer (some ⟨b11, 0, none⟩)), (12, .int .i64 0), (13, .bool (isK j)), (14, .int .i64 j)] ∧ L = [diskP b d, pts b6 (.cells (mnE hve).toArray 63), row 63 3 mv (mb.map mnE), A, pts b11 (.cells (manV c v').toArray 63), row 60 1 v' (c.runs.map uV)] ++ R) (fun j => mb.length - j) 0 ⟨by simp, ⟨rfl, rfl, rfl, rfl, rfl, rfl, rfl, rfl, hK0, rfl, trivial⟩, rfl⟩ ?_
            rintro j ρ L ⟨hj, hk, rfl⟩
            refine ok_regs hk ?_
            cases t5 : decide ((j : Int) < ((mb.map mnE).length : Int)) with
            | true =>
              have hj' : j < mb.length := by simp at t5; omega
              cases hij : isK j with
              | true =>
                repeat' (first | (refine go_Z ?_; intros) | (refine gs_Z ?_ ?_ <;> (intro hgd; try (simp only [Bool.not_true, Bool.not_false] at hgd))) | (refine gc_Z ?_ ?_ <;> intro _) | fail)
                refine cont_back (j + 1) ⟨hj', ⟨rfl, rfl, rfl, rfl, rfl, rfl, rfl, rfl, by rw [hKs j hj', hij]; rfl, rfl, trivial⟩, rfl⟩ (by omega)
              | false =>
                have hoe := hko.mbo mb[j] (List.getElem_mem hj')
                have hxm : (mb.map mnE)[j]? = some (mnE mb[j]) := by rw [List.getElem?_map, List.getElem?_eq_getElem hj']; rfl
                have hn2 : j < (mb.map mnE).length := by simp; omega
                have hks := hKs j hj'
                rw [hij, Bool.false_or] at hks
                refine ok_learn (VwIn.slice (n := 3) (v := mv) (xs := mb.map mnE) (VwIn.there (VwIn.there (VwIn.here Vw.row)))) ?_
                rintro ⟨pm, cm, rfl⟩
                refine ok_learn (VwIn.base (n := 3) (p := pm) (len := (mb.map mnE).length) (cap := cm) (xs := mb.map mnE) (VwIn.there (VwIn.there (VwIn.here Vw.row))) (by intro e; rw [e] at hn2; simp at hn2)) ?_
                rintro ⟨bm, om, rfl⟩
                generalize mb[j] = e at hoe hxm hks
                have hsame := Same_spec c e.1 v' e.2.1 (row 60 1 v' (c.runs.map uV)) A Vw.row hoe.vw (by omega) (by have := hoe.len; omega)
                repeat' (first | (refine go_Z ?_; intros) | (refine gs_Z ?_ ?_ <;> (intro hgd; try (simp only [Bool.not_true, Bool.not_false] at hgd))) | (refine gc_Z ?_ ?_ <;> intro _) | fail)
                refine cl_Z (hsame) ?_
                intro _ _
                repeat' (first | (refine go_Z ?_; intros) | (refine gs_Z ?_ ?_ <;> (intro hgd; try (simp only [Bool.not_true, Bool.not_false] at hgd))) | (refine gc_Z ?_ ?_ <;> intro _) | fail)
                refine cont_map (L' := [diskP b d, pts b6 (.cells (mnE hve).toArray 63), row 63 3 (.slice (some ⟨bm, om, none⟩) (mb.map mnE).length cm) (mb.map mnE), A, pts b11 (.cells (manV c v').toArray 63), row 60 1 v' (c.runs.map uV)] ++ R) entD ?_
                refine cont_back (j + 1) ⟨hj', ⟨rfl, rfl, rfl, rfl, rfl, rfl, rfl, rfl, by rw [hks]; rfl, rfl, trivial⟩, rfl⟩ (by omega)
            | false =>
              have hjm : j = mb.length := by simp at t5; omega
              have hKe : isK j = true := by rw [hjm]; exact hKl
              rw [hKe]
              repeat' (first | (refine go_Z ?_; intros) | (refine gs_Z ?_ ?_ <;> (intro hgd; try (simp only [Bool.not_true, Bool.not_false] at hgd))) | (refine gc_Z ?_ ?_ <;> intro _) | fail)
              refine cont_map (L' := [diskP b d, pts b6 (.cells (mnE hve).toArray 63), row 63 3 mv (mb.map mnE), A] ++ R) entD ?_
              refine cont_back (i + 1, ⟨d, false, hve, mb, ⟨mv, hmv⟩⟩) ⟨h, hko, ⟨rfl, rfl, rfl, rfl, rfl, rfl, trivial⟩, rfl⟩ (by show xs.length - (i + 1) < xs.length - i; omega)
          | true =>
            have hoh : okE A hve := hko.hvo rfl
            have hohl := hoh.len
            have hK0 : Value.bool (sameM c hve.1) = .bool (isK 0) := by rw [hKz]; rfl
            have hsame0 : ∀ v' : Value, _ := fun v' => Same_spec c hve.1 v' hve.2.1 (row 60 1 v' (c.runs.map uV)) A Vw.row hoh.vw (by omega) (by omega)
            repeat' (first | (refine go_Z ?_; intros) | (refine gs_Z ?_ ?_ <;> (intro hgd; try (simp only [Bool.not_true, Bool.not_false] at hgd))) | (refine gc_Z ?_ ?_ <;> intro _) | fail)
            refine cl_Z (hL) ?_
            rintro ⟨v', hv'⟩ _
            repeat' (first | (refine go_Z ?_; intros) | (refine gs_Z ?_ ?_ <;> (intro hgd; try (simp only [Bool.not_true, Bool.not_false] at hgd))) | (refine gc_Z ?_ ?_ <;> intro _) | fail)
            rename_i b11
            refine cl_Z (hsame0 v') ?_
            intro _ _
            repeat' (first | (refine go_Z ?_; intros) | (refine gs_Z ?_ ?_ <;> (intro hgd; try (simp only [Bool.not_true, Bool.not_false] at hgd))) | (refine gc_Z ?_ ?_ <;> intro _) | fail)
            refine ok_map (L' := [diskP b d, pts b6 (.cells (mnE hve).toArray 63), row 63 3 mv (mb.map mnE), A, pts b11 (.cells (manV c v').toArray 63), row 60 1 v' (c.runs.map uV)] ++ R) entD ?_
            refine ok_loop' (γ := Nat) (fun j ρ L => j ≤ mb.length ∧ Knows ρ [(0, .slice (some ⟨bu, ou, none⟩) (xs.map smV).length cu), (3, .pointer (some ⟨b, 0, none⟩)), (5, .bool true), (6, .pointer (some ⟨b6, 0, none⟩)), (7, mv), (8, .int .i64 i), (11, .pointer (some ⟨b11, 0, none⟩)), (12, .int .i64 0), (13, .bool (isK j)), (14, .int .i64 j)] ∧ L = [diskP b d, pts b6 (.cells (mnE hve).toArray 63), row 63 3 mv (mb.map mnE), A, pts b11 (.cells (manV c v').toArray 63), row 60 1 v' (c.runs.map uV)] ++ R) (fun j => mb.length - j) 0 ⟨by simp, ⟨rfl, rfl, rfl, rfl, rfl, rfl, rfl, rfl, hK0, rfl, trivial⟩, rfl⟩ ?_
            rintro j ρ L ⟨hj, hk, rfl⟩
            refine ok_regs hk ?_
            cases t5 : decide ((j : Int) < ((mb.map mnE).length : Int)) with
            | true =>
              have hj' : j < mb.length := by simp at t5; omega
              cases hij : isK j with
              | true =>
                repeat' (first | (refine go_Z ?_; intros) | (refine gs_Z ?_ ?_ <;> (intro hgd; try (simp only [Bool.not_true, Bool.not_false] at hgd))) | (refine gc_Z ?_ ?_ <;> intro _) | fail)
                refine cont_back (j + 1) ⟨hj', ⟨rfl, rfl, rfl, rfl, rfl, rfl, rfl, rfl, by rw [hKs j hj', hij]; rfl, rfl, trivial⟩, rfl⟩ (by omega)
              | false =>
                have hoe := hko.mbo mb[j] (List.getElem_mem hj')
                have hxm : (mb.map mnE)[j]? = some (mnE mb[j]) := by rw [List.getElem?_map, List.getElem?_eq_getElem hj']; rfl
                have hn2 : j < (mb.map mnE).length := by simp; omega
                have hks := hKs j hj'
                rw [hij, Bool.false_or] at hks
                refine ok_learn (VwIn.slice (n := 3) (v := mv) (xs := mb.map mnE) (VwIn.there (VwIn.there (VwIn.here Vw.row)))) ?_
                rintro ⟨pm, cm, rfl⟩
                refine ok_learn (VwIn.base (n := 3) (p := pm) (len := (mb.map mnE).length) (cap := cm) (xs := mb.map mnE) (VwIn.there (VwIn.there (VwIn.here Vw.row))) (by intro e; rw [e] at hn2; simp at hn2)) ?_
                rintro ⟨bm, om, rfl⟩
                generalize mb[j] = e at hoe hxm hks
                have hsame := Same_spec c e.1 v' e.2.1 (row 60 1 v' (c.runs.map uV)) A Vw.row hoe.vw (by omega) (by have := hoe.len; omega)
                repeat' (first | (refine go_Z ?_; intros) | (refine gs_Z ?_ ?_ <;> (intro hgd; try (simp only [Bool.not_true, Bool.not_false] at hgd))) | (refine gc_Z ?_ ?_ <;> intro _) | fail)
                refine cl_Z (hsame) ?_
                intro _ _
                repeat' (first | (refine go_Z ?_; intros) | (refine gs_Z ?_ ?_ <;> (intro hgd; try (simp only [Bool.not_true, Bool.not_false] at hgd))) | (refine gc_Z ?_ ?_ <;> intro _) | fail)
                refine cont_map (L' := [diskP b d, pts b6 (.cells (mnE hve).toArray 63), row 63 3 (.slice (some ⟨bm, om, none⟩) (mb.map mnE).length cm) (mb.map mnE), A, pts b11 (.cells (manV c v').toArray 63), row 60 1 v' (c.runs.map uV)] ++ R) entD ?_
                refine cont_back (j + 1) ⟨hj', ⟨rfl, rfl, rfl, rfl, rfl, rfl, rfl, rfl, by rw [hks]; rfl, rfl, trivial⟩, rfl⟩ (by omega)
            | false =>
              have hjm : j = mb.length := by simp at t5; omega
              have hKe : isK j = true := by rw [hjm]; exact hKl
              rw [hKe]
              repeat' (first | (refine go_Z ?_; intros) | (refine gs_Z ?_ ?_ <;> (intro hgd; try (simp only [Bool.not_true, Bool.not_false] at hgd))) | (refine gc_Z ?_ ?_ <;> intro _) | fail)
              refine cont_map (L' := [diskP b d, pts b6 (.cells (mnE hve).toArray 63), row 63 3 mv (mb.map mnE), A] ++ R) entD ?_
              refine cont_back (i + 1, ⟨d, true, hve, mb, ⟨mv, hmv⟩⟩) ⟨h, hko, ⟨rfl, rfl, rfl, rfl, rfl, rfl, trivial⟩, rfl⟩ (by show xs.length - (i + 1) < xs.length - i; omega)
end Go.Proofs.Ytgmobpngcilgjaa
