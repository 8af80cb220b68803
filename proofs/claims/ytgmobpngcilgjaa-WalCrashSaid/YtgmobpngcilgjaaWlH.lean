/- The walk of WalCrash, the law itself. -/
import Derived.Test.YtgmobpngcilgjaaWlG
-- @DEFS Z
set_option linter.unusedSimpArgs false
set_option linter.unusedVariables false
set_option maxRecDepth 4000
namespace Go.Proofs.Ytgmobpngcilgjaa
open Go Go.Fx Go.Proofs Go.Pl

abbrev Vo := { v : Value // v.oneCell' = true }
structure CS where
  d : Dk
  wb : Nat
  w : Wv
  hv : List BA
  hvv : Vo
  mr : List BA
  mrv : Vo
  rs : Bool
structure COK (A : HProp) (g : CS) : Prop where
  inv : WInv g.d g.hv g.mr g.rs
  mode : (WGood g.d g.w g.hv ∧ g.mr = [] ∧ g.mrv.1 = .slice none 0 0 ∧ g.rs = false) ∨ (g.w.fault = 20 ∧ ((g.rs = true ∧ g.mrv.1 = .slice none 0 0) ∨ (g.rs = false ∧ ∃ p l c, g.mrv.1 = .slice (some p) l c)))
  mvw : Vw A 1 g.mrv.1 (g.mr.map strV)
  pl : plainV g.mrv.1
def cP (A : HProp) (b : Nat) (g : CS) : List HProp := [diskP b g.d, walP g.wb b nW g.w, row 9 1 g.hvv.1 (g.hv.map strV), A]

theorem vw_nil {A : HProp} : Vw A 1 (.slice none 0 0) [] := fun h _ => ⟨fun _ hx => by simp at hx, none, 0, rfl, .inl rfl, fun _ => rfl, fun _ _ e => by cases e⟩
theorem plain_nil : plainV (.slice none 0 0) := ⟨none, 0, 0, rfl, Nat.le_refl _, fun _ e => by cases e⟩
theorem append_down {w : Wv} {d : Dk} {nm : BA} {l : List BA} (h : w.fault = 20) : appendW w d nm l = (w, d, 20) := by
  unfold appendW; rw [h]; rfl
theorem reset_down {w : Wv} {d : Dk} {nm : BA} (h : w.fault = 20) : resetW w d nm = (w, d, 20) := by
  unfold resetW; rw [h]; rfl

theorem row_plain {v : Value} {xs : List (List Value)} (h : (v = .slice none 0 0 ∧ xs = []) ∨ ∃ g cap, v = .slice (some ⟨g, 0, none⟩) xs.length cap ∧ xs.length ≤ cap) : ∃ p c, v = .slice p xs.length c ∧ xs.length ≤ c ∧ ∀ q, p = some q → q.spot = none := by
  rcases h with ⟨rfl, rfl⟩ | ⟨g, c, rfl, h⟩
  · exact ⟨none, 0, rfl, Nat.le_refl _, fun _ e => by cases e⟩
  · exact ⟨_, c, rfl, h, fun q e => by cases e; rfl⟩

set_option maxHeartbeats 4000000 in
theorem WalCrash_spec (u : Value) (A : HProp) (xs : List Sw) (hA : Vw A 4 u (xs.map swV)) (hv : ∀ x ∈ xs, Vw A 1 x.v.1 (x.l.map strV) ∧ capOk x.v.1 ∧ (∀ s ∈ x.l, s.size ≤ 140737488355328) ∧ x.n ≤ 9223372036854775807) :
    FSpec Try.prog 5 [u] [A] Unit (fun _ => True) (fun _ => .bool true) (fun _ => [A]) := by
  have hlen : (xs.map swV).length = xs.length := by simp
  refine spec_intro [] _ Try.func5 rfl Try.ntmps5 (by rfl) (fun w0 R => ?_)
  refine ok_learn (VwIn.slice (VwIn.here hA)) ?_
  rintro ⟨pu, cu, rfl⟩
  repeat' (first | (refine go_Z ?_; intros) | (refine gs_Z ?_ ?_ <;> (intro hgd; try (simp only [Bool.not_true, Bool.not_false] at hgd))) | (refine gc_Z ?_ ?_ <;> intro _) | fail)
  refine cl_Z (HeavyW_spec (.slice pu (xs.map swV).length cu) A xs hA (fun x hx => ⟨(hv x hx).1, (hv x hx).2.2.1⟩)) ?_
  intro y hy
  cases y with
  | true =>
    repeat' (first | (refine go_Z ?_; intros) | (refine gs_Z ?_ ?_ <;> (intro hgd; try (simp only [Bool.not_true, Bool.not_false] at hgd))) | (refine gc_Z ?_ ?_ <;> intro _) | fail)
    refine cl_Z (alive_wal) ?_
    intro _ _
    repeat' (first | (refine go_Z ?_; intros) | (refine gs_Z ?_ ?_ <;> (intro hgd; try (simp only [Bool.not_true, Bool.not_false] at hgd))) | (refine gc_Z ?_ ?_ <;> intro _) | fail)
    (refine rt_Z (y := ()) (hrs := Try.results5) (hv := ?_) (hφ := ?_))
    · rfl
    · trivial
  | false =>
    obtain ⟨hl100, hlz⟩ := hy rfl
    obtain ⟨hon, hog⟩ := open_new 1048576 (by decide) (by decide)
    have hO : ∀ b, FSpec Try.prog 34 [.pointer (some ⟨b, 0, none⟩), .string nW] [diskP b (newD 1048576)] (Nat × { v : Value // v.oneCell' = true }) (fun _ => True) (fun y => .tuple #[.pointer (some ⟨y.1, 0, none⟩), y.2.1, .int .i64 0])
        (fun y => [diskP b (openW (newD 1048576) nW).1, walP y.1 b nW ⟨0, 0, 0⟩, row 9 1 y.2.1 (([] : List BA).map strV)]) := fun b => by
      have h := Open_good b (newD 1048576) nW (.new (by decide) (by decide)) (by decide) (by decide) (by rw [hon])
      rw [hon] at h
      exact h
    generalize (openW (newD 1048576) nW).1 = d0 at hO hog
    repeat' (first | (refine go_Z ?_; intros) | (refine gs_Z ?_ ?_ <;> (intro hgd; try (simp only [Bool.not_true, Bool.not_false] at hgd))) | (refine gc_Z ?_ ?_ <;> intro _) | fail)
    refine cl_Z (new_spec 1048576 (by decide) (by decide)) ?_
    intro b _
    repeat' (first | (refine go_Z ?_; intros) | (refine gs_Z ?_ ?_ <;> (intro hgd; try (simp only [Bool.not_true, Bool.not_false] at hgd))) | (refine gc_Z ?_ ?_ <;> intro _) | fail)
    refine cl_Z (hO b) ?_
    rintro ⟨wb, ⟨v0, hv0⟩⟩ _
    repeat' (first | (refine go_Z ?_; intros) | (refine gs_Z ?_ ?_ <;> (intro hgd; try (simp only [Bool.not_true, Bool.not_false] at hgd))) | (refine gc_Z ?_ ?_ <;> intro _) | fail)
    refine ok_map (fun _ h => rowNil (e := 9) (n := 1) h) ?_
    refine ok_map (L' := [diskP b d0, walP wb b nW ⟨0, 0, 0⟩, row 9 1 (.slice none 0 0) (([] : List BA).map strV), A] ++ R) entD ?_
    refine ok_loop' (γ := Nat × CS) (fun g ρ L => g.1 ≤ xs.length ∧ COK A g.2 ∧ Knows ρ [(0, .slice pu (xs.map swV).length cu), (3, .pointer (some ⟨b, 0, none⟩)), (5, .pointer (some ⟨g.2.wb, 0, none⟩)), (8, g.2.hvv.1), (9, g.2.mrv.1), (10, .bool g.2.rs), (11, .int .i64 g.1)] ∧ L = cP A b g.2 ++ R) (fun g => xs.length - g.1)
      (0, ⟨d0, wb, ⟨0, 0, 0⟩, [], ⟨.slice none 0 0, rfl⟩, [], ⟨.slice none 0 0, rfl⟩, false⟩) ⟨by simp, ⟨hog.inv [] rfl false, .inl ⟨hog, rfl, rfl, rfl⟩, vw_nil, plain_nil⟩, ⟨rfl, rfl, rfl, rfl, rfl, rfl, rfl, trivial⟩, rfl⟩ ?_
    rintro ⟨i, d, wb, w, hav, ⟨hvv, hvc⟩, mr, ⟨mrv, hmc⟩, rs⟩ ρ L ⟨hi, hko, hk, rfl⟩
    dsimp only at hi hko hk ⊢
    refine ok_regs hk ?_
    obtain ⟨hinv, hmode, hmvw, hpl⟩ := hko
    dsimp only at hinv hmode hmvw hpl
    cases t1 : decide ((i : Int) < ((xs.map swV).length : Int)) with
    | false =>
      unfold cP
      repeat' (first | (refine go_Z ?_; intros) | (refine gs_Z ?_ ?_ <;> (intro hgd; try (simp only [Bool.not_true, Bool.not_false] at hgd))) | (refine gc_Z ?_ ?_ <;> intro _) | fail)
      refine cl_Z (alive_wal) ?_
      intro _ _
      repeat' (first | (refine go_Z ?_; intros) | (refine gs_Z ?_ ?_ <;> (intro hgd; try (simp only [Bool.not_true, Bool.not_false] at hgd))) | (refine gc_Z ?_ ?_ <;> intro _) | fail)
      (refine rt_Z (y := ()) (hrs := Try.results5) (hv := ?_) (hφ := ?_))
      · rfl
      · trivial
    | true =>
      have h : i < xs.length := by simp at t1; omega
      have hn1 : i < (xs.map swV).length := by omega
      have hx : (xs.map swV)[i]? = some (swV xs[i]) := (by rw [List.getElem?_map, List.getElem?_eq_getElem h]; rfl)
      obtain ⟨hvx, hcx, hzx, hnx⟩ := hv _ (List.getElem_mem h)
      obtain ⟨hll, hlz2⟩ := hlz _ (List.getElem_mem h)
      unfold cP
      dsimp only
      refine ok_learn (VwIn.base (VwIn.there (VwIn.there (VwIn.there (VwIn.here hA)))) (by intro e; rw [e] at hn1; simp at hn1)) ?_
      rintro ⟨bu, ou, rfl⟩
      generalize xs[i] = x at hx hvx hcx hzx hnx hll hlz2
      obtain ⟨o, l, ⟨v, hvc2⟩, n, k⟩ := x
      dsimp only at hvx hcx hzx hnx hll hlz2
      have hzl := lenT_sumZ l
      have hal : allOk l = true := by
        simp only [allOk, List.all_eq_true, decide_eq_true_eq]
        intro s hs
        have := sumZ_mem hs
        omega
      cases o0 : decide (o = 0) with
      | true =>
        rcases hmode with ⟨hg, rfl, rfl, rfl⟩ | ⟨hf, hm⟩
        · have hap := Append_spec wb b nW w d v A l hinv.ok (by have := hinv.few; omega) (by decide) hvx (by omega) (fun _ => hg.wbound)
          have hag := append_good hg l hal (by omega)
          generalize appendW w d nW l = r at hap hag
          obtain ⟨w', d', e⟩ := r
          dsimp only at hap hag
          rcases hag with ⟨rfl, hg'⟩ | ⟨rfl, hg'⟩ | ⟨rfl, hf', hi', hne⟩
          · repeat' (first | (refine go_Z ?_; intros) | (refine gs_Z ?_ ?_ <;> (intro hgd; try (simp only [Bool.not_true, Bool.not_false] at hgd))) | (refine gc_Z ?_ ?_ <;> intro _) | fail)
            refine cl_Z (hap) ?_
            intro _ _
            repeat' (first | (refine go_Z ?_; intros) | (refine gs_Z ?_ ?_ <;> (intro hgd; try (simp only [Bool.not_true, Bool.not_false] at hgd))) | (refine gc_Z ?_ ?_ <;> intro _) | fail)
            have hwb := hg'.wbound
            rw [hg'.wv] at hwb
            dsimp only at hwb
            rw [List.length_append] at hwb
            have hlh : (hav.map strV).length = hav.length := by simp
            have hlb : ([] ++ hav.map strV).length = hav.length := by simp
            have hll2 : (l.map strV).length = l.length := by simp
            refine ok_map (fun _ h => rowNil (e := 9) (n := 1) h) ?_
            rename_i bx _ _
            refine ok_drawL (cv := []) [1] ([row 9 1 hvv (hav.map strV), A, pts bx (.cells (List.take 4 (swV ⟨o, l, ⟨v, hvc2⟩, n, k⟩)).toArray 56)]) (takeD) (by kernel_rfl) rfl (by decide +kernel) ?_
            repeat' (first | (refine go_Z ?_; intros) | (refine gs_Z ?_ ?_ <;> (intro hgd; try (simp only [Bool.not_true, Bool.not_false] at hgd))) | (refine gc_Z ?_ ?_ <;> intro _) | fail)
            rename_i va hva vb hvb
            rw [List.nil_append, ← List.map_append]
            refine cont_map (L' := cP A b ⟨d', wb, w', hav ++ l, ⟨vb, hvb⟩, [], ⟨.slice none 0 0, hmc⟩, false⟩ ++ R) entD ?_
            refine cont_back (i + 1, ⟨d', wb, w', hav ++ l, ⟨vb, hvb⟩, [], ⟨.slice none 0 0, hmc⟩, false⟩) ⟨h, ⟨hg'.inv [] rfl false, .inl ⟨hg', rfl, rfl, rfl⟩, hmvw, hpl⟩, ⟨rfl, rfl, rfl, rfl, rfl, rfl, rfl, trivial⟩, rfl⟩ (by dsimp only; omega)
          · repeat' (first | (refine go_Z ?_; intros) | (refine gs_Z ?_ ?_ <;> (intro hgd; try (simp only [Bool.not_true, Bool.not_false] at hgd))) | (refine gc_Z ?_ ?_ <;> intro _) | fail)
            refine cl_Z (hap) ?_
            intro _ _
            repeat' (first | (refine go_Z ?_; intros) | (refine gs_Z ?_ ?_ <;> (intro hgd; try (simp only [Bool.not_true, Bool.not_false] at hgd))) | (refine gc_Z ?_ ?_ <;> intro _) | fail)
            refine cont_map (L' := cP A b ⟨d', wb, w', hav, ⟨hvv, hvc⟩, [], ⟨.slice none 0 0, hmc⟩, false⟩ ++ R) entD ?_
            refine cont_back (i + 1, ⟨d', wb, w', hav, ⟨hvv, hvc⟩, [], ⟨.slice none 0 0, hmc⟩, false⟩) ⟨h, ⟨hg'.inv [] rfl false, .inl ⟨hg', rfl, rfl, rfl⟩, hmvw, hpl⟩, ⟨rfl, rfl, rfl, rfl, rfl, rfl, rfl, trivial⟩, rfl⟩ (by dsimp only; omega)
          · obtain ⟨pv, lv, cv, rfl, hcv⟩ := hcx
            have hlne : l.map strV ≠ [] := by simpa using hne
            refine ok_learn (VwIn.slice (VwIn.there (VwIn.there (VwIn.there (VwIn.here hvx))))) ?_
            rintro ⟨_, _, esl⟩
            simp only [Value.slice.injEq] at esl
            obtain ⟨rfl, rfl, rfl⟩ := esl
            refine ok_learn (VwIn.base (VwIn.there (VwIn.there (VwIn.there (VwIn.here hvx)))) hlne) ?_
            rintro ⟨b0, o0, rfl⟩
            repeat' (first | (refine go_Z ?_; intros) | (refine gs_Z ?_ ?_ <;> (intro hgd; try (simp only [Bool.not_true, Bool.not_false] at hgd))) | (refine gc_Z ?_ ?_ <;> intro _) | fail)
            refine cl_Z (hap) ?_
            intro _ _
            repeat' (first | (refine go_Z ?_; intros) | (refine gs_Z ?_ ?_ <;> (intro hgd; try (simp only [Bool.not_true, Bool.not_false] at hgd))) | (refine gc_Z ?_ ?_ <;> intro _) | fail)
            refine cont_map (L' := cP A b ⟨d', wb, w', hav, ⟨hvv, hvc⟩, l, ⟨.slice (some ⟨b0, o0, none⟩) (l.map strV).length cv, hvc2⟩, false⟩ ++ R) entD ?_
            refine cont_back (i + 1, ⟨d', wb, w', hav, ⟨hvv, hvc⟩, l, ⟨.slice (some ⟨b0, o0, none⟩) (l.map strV).length cv, hvc2⟩, false⟩) ⟨h, ⟨hi', .inr ⟨hf', .inr ⟨rfl, _, _, _, rfl⟩⟩, hvx, ⟨_, _, _, rfl, hcv, fun q e => by cases e; rfl⟩⟩, ⟨rfl, rfl, rfl, rfl, rfl, rfl, rfl, trivial⟩, rfl⟩ (by dsimp only; omega)
        · have hap := Append_spec wb b nW w d v A l hinv.ok (by have := hinv.few; omega) (by decide) hvx (by omega) (fun h0 => absurd (h0.symm.trans hf) (by decide))
          rw [append_down hf] at hap
          dsimp only at hap
          rcases hm with ⟨rfl, rfl⟩ | ⟨rfl, p, l', c, rfl⟩
          · repeat' (first | (refine go_Z ?_; intros) | (refine gs_Z ?_ ?_ <;> (intro hgd; try (simp only [Bool.not_true, Bool.not_false] at hgd))) | (refine gc_Z ?_ ?_ <;> intro _) | fail)
            refine cl_Z (hap) ?_
            intro _ _
            repeat' (first | (refine go_Z ?_; intros) | (refine gs_Z ?_ ?_ <;> (intro hgd; try (simp only [Bool.not_true, Bool.not_false] at hgd))) | (refine gc_Z ?_ ?_ <;> intro _) | fail)
            refine cont_map (L' := cP A b ⟨d, wb, w, hav, ⟨hvv, hvc⟩, mr, ⟨.slice none 0 0, hmc⟩, true⟩ ++ R) entD ?_
            refine cont_back (i + 1, ⟨d, wb, w, hav, ⟨hvv, hvc⟩, mr, ⟨.slice none 0 0, hmc⟩, true⟩) ⟨h, ⟨hinv, .inr ⟨hf, .inl ⟨rfl, rfl⟩⟩, hmvw, hpl⟩, ⟨rfl, rfl, rfl, rfl, rfl, rfl, rfl, trivial⟩, rfl⟩ (by dsimp only; omega)
          · repeat' (first | (refine go_Z ?_; intros) | (refine gs_Z ?_ ?_ <;> (intro hgd; try (simp only [Bool.not_true, Bool.not_false] at hgd))) | (refine gc_Z ?_ ?_ <;> intro _) | fail)
            refine cl_Z (hap) ?_
            intro _ _
            repeat' (first | (refine go_Z ?_; intros) | (refine gs_Z ?_ ?_ <;> (intro hgd; try (simp only [Bool.not_true, Bool.not_false] at hgd))) | (refine gc_Z ?_ ?_ <;> intro _) | fail)
            refine cont_map (L' := cP A b ⟨d, wb, w, hav, ⟨hvv, hvc⟩, mr, ⟨.slice (some p) l' c, hmc⟩, false⟩ ++ R) entD ?_
            refine cont_back (i + 1, ⟨d, wb, w, hav, ⟨hvv, hvc⟩, mr, ⟨.slice (some p) l' c, hmc⟩, false⟩) ⟨h, ⟨hinv, .inr ⟨hf, .inr ⟨rfl, _, _, _, rfl⟩⟩, hmvw, hpl⟩, ⟨rfl, rfl, rfl, rfl, rfl, rfl, rfl, trivial⟩, rfl⟩ (by dsimp only; omega)
      | false =>
      cases o1 : decide (o = 1) with
      | true =>
        rcases hmode with ⟨hg, rfl, rfl, rfl⟩ | ⟨hf, hm⟩
        · have hap := Reset_spec wb b nW w d hinv.ok (by have := hinv.few; omega) (by decide)
          have hag := reset_good hg
          generalize resetW w d nW = r at hap hag
          obtain ⟨w', d', e⟩ := r
          dsimp only at hap hag
          rcases hag with ⟨rfl, hg'⟩ | ⟨rfl, hf', hi'⟩
          · repeat' (first | (refine go_Z ?_; intros) | (refine gs_Z ?_ ?_ <;> (intro hgd; try (simp only [Bool.not_true, Bool.not_false] at hgd))) | (refine gc_Z ?_ ?_ <;> intro _) | fail)
            refine cl_Z (hap) ?_
            intro _ _
            repeat' (first | (refine go_Z ?_; intros) | (refine gs_Z ?_ ?_ <;> (intro hgd; try (simp only [Bool.not_true, Bool.not_false] at hgd))) | (refine gc_Z ?_ ?_ <;> intro _) | fail)
            refine cont_map (fun _ h => rowNil (e := 9) (n := 1) h) ?_
            refine cont_map (L' := cP A b ⟨d', wb, w', [], ⟨.slice none 0 0, rfl⟩, [], ⟨.slice none 0 0, hmc⟩, false⟩ ++ R) entD ?_
            refine cont_back (i + 1, ⟨d', wb, w', [], ⟨.slice none 0 0, rfl⟩, [], ⟨.slice none 0 0, hmc⟩, false⟩) ⟨h, ⟨hg'.inv [] rfl false, .inl ⟨hg', rfl, rfl, rfl⟩, hmvw, hpl⟩, ⟨rfl, rfl, rfl, rfl, rfl, rfl, rfl, trivial⟩, rfl⟩ (by dsimp only; omega)
          · repeat' (first | (refine go_Z ?_; intros) | (refine gs_Z ?_ ?_ <;> (intro hgd; try (simp only [Bool.not_true, Bool.not_false] at hgd))) | (refine gc_Z ?_ ?_ <;> intro _) | fail)
            refine cl_Z (hap) ?_
            intro _ _
            repeat' (first | (refine go_Z ?_; intros) | (refine gs_Z ?_ ?_ <;> (intro hgd; try (simp only [Bool.not_true, Bool.not_false] at hgd))) | (refine gc_Z ?_ ?_ <;> intro _) | fail)
            refine cont_map (L' := cP A b ⟨d', wb, w', hav, ⟨hvv, hvc⟩, [], ⟨.slice none 0 0, hmc⟩, true⟩ ++ R) entD ?_
            refine cont_back (i + 1, ⟨d', wb, w', hav, ⟨hvv, hvc⟩, [], ⟨.slice none 0 0, hmc⟩, true⟩) ⟨h, ⟨hi', .inr ⟨hf', .inl ⟨rfl, rfl⟩⟩, hmvw, hpl⟩, ⟨rfl, rfl, rfl, rfl, rfl, rfl, rfl, trivial⟩, rfl⟩ (by dsimp only; omega)
        · have hap := Reset_spec wb b nW w d hinv.ok (by have := hinv.few; omega) (by decide)
          rw [reset_down hf] at hap
          dsimp only at hap
          rcases hm with ⟨rfl, rfl⟩ | ⟨rfl, p, l', c, rfl⟩
          · repeat' (first | (refine go_Z ?_; intros) | (refine gs_Z ?_ ?_ <;> (intro hgd; try (simp only [Bool.not_true, Bool.not_false] at hgd))) | (refine gc_Z ?_ ?_ <;> intro _) | fail)
            refine cl_Z (hap) ?_
            intro _ _
            repeat' (first | (refine go_Z ?_; intros) | (refine gs_Z ?_ ?_ <;> (intro hgd; try (simp only [Bool.not_true, Bool.not_false] at hgd))) | (refine gc_Z ?_ ?_ <;> intro _) | fail)
            refine cont_map (L' := cP A b ⟨d, wb, w, hav, ⟨hvv, hvc⟩, mr, ⟨.slice none 0 0, hmc⟩, true⟩ ++ R) entD ?_
            refine cont_back (i + 1, ⟨d, wb, w, hav, ⟨hvv, hvc⟩, mr, ⟨.slice none 0 0, hmc⟩, true⟩) ⟨h, ⟨hinv, .inr ⟨hf, .inl ⟨rfl, rfl⟩⟩, hmvw, hpl⟩, ⟨rfl, rfl, rfl, rfl, rfl, rfl, rfl, trivial⟩, rfl⟩ (by dsimp only; omega)
          · repeat' (first | (refine go_Z ?_; intros) | (refine gs_Z ?_ ?_ <;> (intro hgd; try (simp only [Bool.not_true, Bool.not_false] at hgd))) | (refine gc_Z ?_ ?_ <;> intro _) | fail)
            refine cl_Z (hap) ?_
            intro _ _
            repeat' (first | (refine go_Z ?_; intros) | (refine gs_Z ?_ ?_ <;> (intro hgd; try (simp only [Bool.not_true, Bool.not_false] at hgd))) | (refine gc_Z ?_ ?_ <;> intro _) | fail)
            refine cont_map (L' := cP A b ⟨d, wb, w, hav, ⟨hvv, hvc⟩, mr, ⟨.slice (some p) l' c, hmc⟩, false⟩ ++ R) entD ?_
            refine cont_back (i + 1, ⟨d, wb, w, hav, ⟨hvv, hvc⟩, mr, ⟨.slice (some p) l' c, hmc⟩, false⟩) ⟨h, ⟨hinv, .inr ⟨hf, .inr ⟨rfl, _, _, _, rfl⟩⟩, hmvw, hpl⟩, ⟨rfl, rfl, rfl, rfl, rfl, rfl, rfl, trivial⟩, rfl⟩ (by dsimp only; omega)
      | false =>
      cases o3 : decide (o = 3) with
      | true =>
        have hfs := Fault_spec wb b nW w
        rcases hmode with ⟨hg, rfl, rfl, rfl⟩ | ⟨hf, hm⟩
        · have hf0 : w.fault = 0 := by rw [hg.wv]
          rw [hf0] at hfs
          repeat' (first | (refine go_Z ?_; intros) | (refine gs_Z ?_ ?_ <;> (intro hgd; try (simp only [Bool.not_true, Bool.not_false] at hgd))) | (refine gc_Z ?_ ?_ <;> intro _) | fail)
          refine cl_Z (hfs) ?_
          intro _ _
          repeat' (first | (refine go_Z ?_; intros) | (refine gs_Z ?_ ?_ <;> (intro hgd; try (simp only [Bool.not_true, Bool.not_false] at hgd))) | (refine gc_Z ?_ ?_ <;> intro _) | fail)
          refine cl_Z (fuse_spec b d n) ?_
          intro _ _
          repeat' (first | (refine go_Z ?_; intros) | (refine gs_Z ?_ ?_ <;> (intro hgd; try (simp only [Bool.not_true, Bool.not_false] at hgd))) | (refine gc_Z ?_ ?_ <;> intro _) | fail)
          refine cont_map (L' := cP A b ⟨d.fuseTo n, wb, w, hav, ⟨hvv, hvc⟩, [], ⟨.slice none 0 0, hmc⟩, false⟩ ++ R) entD ?_
          refine cont_back (i + 1, ⟨d.fuseTo n, wb, w, hav, ⟨hvv, hvc⟩, [], ⟨.slice none 0 0, hmc⟩, false⟩) ⟨h, ⟨(hg.fuse hnx).inv [] rfl false, .inl ⟨hg.fuse hnx, rfl, rfl, rfl⟩, hmvw, hpl⟩, ⟨rfl, rfl, rfl, rfl, rfl, rfl, rfl, trivial⟩, rfl⟩ (by dsimp only; omega)
        · rw [hf] at hfs
          repeat' (first | (refine go_Z ?_; intros) | (refine gs_Z ?_ ?_ <;> (intro hgd; try (simp only [Bool.not_true, Bool.not_false] at hgd))) | (refine gc_Z ?_ ?_ <;> intro _) | fail)
          refine cl_Z (hfs) ?_
          intro _ _
          repeat' (first | (refine go_Z ?_; intros) | (refine gs_Z ?_ ?_ <;> (intro hgd; try (simp only [Bool.not_true, Bool.not_false] at hgd))) | (refine gc_Z ?_ ?_ <;> intro _) | fail)
          refine cont_map (L' := cP A b ⟨d, wb, w, hav, ⟨hvv, hvc⟩, mr, ⟨mrv, hmc⟩, rs⟩ ++ R) entD ?_
          refine cont_back (i + 1, ⟨d, wb, w, hav, ⟨hvv, hvc⟩, mr, ⟨mrv, hmc⟩, rs⟩) ⟨h, ⟨hinv, .inr ⟨hf, hm⟩, hmvw, hpl⟩, ⟨rfl, rfl, rfl, rfl, rfl, rfl, rfl, trivial⟩, rfl⟩ (by dsimp only; omega)
      | false =>
      cases o4 : decide (o = 4) with
      | true =>
        have hcr := crash_spec b d n k hinv.ok (by have := hinv.few; omega)
        obtain ⟨r, ho1, ho2, ho3⟩ := open_inv hinv n k
        have hop := Open_good b (d.crash n k) nW (hinv.ok.crash n k) (by show 0 ≤ _; omega) (by decide) (by rw [ho1])
        rw [ho1] at hop
        dsimp only at hop
        generalize d.crash n k = dc at hcr hop ho2
        generalize (openW dc nW).1 = d' at hop ho2
        have hrl : (r.map strV).length = r.length := by simp
        have t8 : (!decide ((r.length : Int) = ((r.map strV).length : Int))) = false := by simp
        have hfin : ∀ (G : Prop), (rs = true → decide (((r.map strV).length : Int) = 0) = true → (!decide (((r.map strV).length : Int) = 0)) = false → G) →
            ((∃ j, r = hav ++ mr.take j) → (rs = false → G) ∧ (rs = true → decide (((r.map strV).length : Int) = 0) = false → (!decide (((r.map strV).length : Int) = 0)) = true → G)) → G := by
          intro G g1 g2
          cases t5 : decide (((r.map strV).length : Int) = 0) with
          | true =>
            cases rs with
            | true => exact g1 rfl t5 (by rw [t5]; rfl)
            | false =>
              rcases ho3 with ho3 | ⟨e, _⟩
              · exact (g2 ho3).1 rfl
              · cases e
          | false =>
            have hne : r ≠ [] := by intro e; rw [e] at t5; simp at t5
            rcases ho3 with ho3 | ⟨_, e⟩
            · cases rs with
              | true => exact (g2 ho3).2 rfl t5 (by rw [t5]; rfl)
              | false => exact (g2 ho3).1 rfl
            · exact absurd e hne
        have hrz : r.length ≤ 1099511627776 := by have := ho2.wbound; dsimp only at this; omega
        have hlh : (hav.map strV).length = hav.length := by simp
        have hb1' : (∃ j, r = hav ++ mr.take j) → begB hav r = true ∧ begB (r.drop (hav.map strV).length) mr = true ∧ hav.length ≤ r.length := by
          rintro ⟨j, e⟩
          refine ⟨begB_of ⟨_, e.symm⟩, begB_of ?_, ?_⟩
          · rw [hlh, e, List.drop_left]; exact List.take_prefix _ _
          · rw [e]; simp
        refine hfin _ (fun e1 t5 t6 => ?_) (fun hj => (fun hbb => ⟨fun e1 => ?_, fun e1 t5 t6 => ?_⟩) (hb1' hj))
        · subst e1
          repeat' (first | (refine go_Z ?_; intros) | (refine gs_Z ?_ ?_ <;> (intro hgd; try (simp only [Bool.not_true, Bool.not_false] at hgd))) | (refine gc_Z ?_ ?_ <;> intro _) | fail)
          refine cl_Z (hcr) ?_
          intro _ _
          repeat' (first | (refine go_Z ?_; intros) | (refine gs_Z ?_ ?_ <;> (intro hgd; try (simp only [Bool.not_true, Bool.not_false] at hgd))) | (refine gc_Z ?_ ?_ <;> intro _) | fail)
          refine cl_Z (hop) ?_
          rintro ⟨wb', ⟨v', hv'⟩⟩ _
          repeat' (first | (refine go_Z ?_; intros) | (refine gs_Z ?_ ?_ <;> (intro hgd; try (simp only [Bool.not_true, Bool.not_false] at hgd))) | (refine gc_Z ?_ ?_ <;> intro _) | fail)
          refine cl_Z (wLen_spec wb' b nW ⟨(r.length : Int), ((lenT r : Nat) : Int), 0⟩) ?_
          intro _ _
          repeat' (first | (refine go_Z ?_; intros) | (refine gs_Z ?_ ?_ <;> (intro hgd; try (simp only [Bool.not_true, Bool.not_false] at hgd))) | (refine gc_Z ?_ ?_ <;> intro _) | fail)
          refine cont_map (L' := cP A b ⟨d', wb', ⟨(r.length : Int), ((lenT r : Nat) : Int), 0⟩, r, ⟨v', hv'⟩, [], ⟨.slice none 0 0, rfl⟩, false⟩ ++ R) entD ?_
          refine cont_back (i + 1, ⟨d', wb', ⟨(r.length : Int), ((lenT r : Nat) : Int), 0⟩, r, ⟨v', hv'⟩, [], ⟨.slice none 0 0, rfl⟩, false⟩) ⟨h, ⟨ho2.inv [] rfl false, .inl ⟨ho2, rfl, rfl, rfl⟩, vw_nil, plain_nil⟩, ⟨rfl, rfl, rfl, rfl, rfl, rfl, rfl, trivial⟩, rfl⟩ (by dsimp only; omega)
        · subst e1
          obtain ⟨hb1, hb2, hle2⟩ := hbb
          repeat' (first | (refine go_Z ?_; intros) | (refine gs_Z ?_ ?_ <;> (intro hgd; try (simp only [Bool.not_true, Bool.not_false] at hgd))) | (refine gc_Z ?_ ?_ <;> intro _) | fail)
          refine cl_Z (hcr) ?_
          intro _ _
          repeat' (first | (refine go_Z ?_; intros) | (refine gs_Z ?_ ?_ <;> (intro hgd; try (simp only [Bool.not_true, Bool.not_false] at hgd))) | (refine gc_Z ?_ ?_ <;> intro _) | fail)
          refine cl_Z (hop) ?_
          rintro ⟨wb', ⟨v', hv'⟩⟩ _
          refine ops_learn (row_cases (e := 9) (v := v') (xs := r.map strV) takeD) ?_
          intro hrc
          obtain ⟨pv, cv, rfl, hcv, hsp⟩ := row_plain hrc
          repeat' (first | (refine go_Z ?_; intros) | (refine gs_Z ?_ ?_ <;> (intro hgd; try (simp only [Bool.not_true, Bool.not_false] at hgd))) | (refine gc_Z ?_ ?_ <;> intro _) | fail)
          refine cl_Z (wLen_spec wb' b nW ⟨(r.length : Int), ((lenT r : Nat) : Int), 0⟩) ?_
          intro _ _
          repeat' (first | (refine go_Z ?_; intros) | (refine gs_Z ?_ ?_ <;> (intro hgd; try (simp only [Bool.not_true, Bool.not_false] at hgd))) | (refine gc_Z ?_ ?_ <;> intro _) | fail)
          refine cl_Z (begins_spec hvv (.slice pv (r.map strV).length cv) (row 9 1 hvv (hav.map strV)) (row 9 1 (.slice pv (r.map strV).length cv) (r.map strV)) hav r Vw.row Vw.row ⟨_, _, _, rfl, hcv, hsp⟩ (by omega)) ?_
          intro _ _
          rw [hb1]
          repeat' (first | (refine go_Z ?_; intros) | (refine gs_Z ?_ ?_ <;> (intro hgd; try (simp only [Bool.not_true, Bool.not_false] at hgd))) | (refine gc_Z ?_ ?_ <;> intro _) | fail)
          have hdr : Vw (row 9 1 (.slice pv (r.map strV).length cv) (r.map strV)) 1 (dropV 1 pv (r.map strV).length cv (hav.map strV).length) ((r.drop (hav.map strV).length).map strV) := by
            rw [List.map_drop]; exact Vw.drop Vw.row hcv
          refine cl_Z (begins_spec (dropV 1 pv (r.map strV).length cv (hav.map strV).length) mrv (row 9 1 (.slice pv (r.map strV).length cv) (r.map strV)) A (r.drop (hav.map strV).length) mr hdr hmvw hpl (by rw [List.length_drop]; omega)) ?_
          intro _ _
          rw [hb2]
          repeat' (first | (refine go_Z ?_; intros) | (refine gs_Z ?_ ?_ <;> (intro hgd; try (simp only [Bool.not_true, Bool.not_false] at hgd))) | (refine gc_Z ?_ ?_ <;> intro _) | fail)
          refine cont_map (L' := cP A b ⟨d', wb', ⟨(r.length : Int), ((lenT r : Nat) : Int), 0⟩, r, ⟨.slice pv (r.map strV).length cv, hv'⟩, [], ⟨.slice none 0 0, rfl⟩, false⟩ ++ R) entD ?_
          refine cont_back (i + 1, ⟨d', wb', ⟨(r.length : Int), ((lenT r : Nat) : Int), 0⟩, r, ⟨.slice pv (r.map strV).length cv, hv'⟩, [], ⟨.slice none 0 0, rfl⟩, false⟩) ⟨h, ⟨ho2.inv [] rfl false, .inl ⟨ho2, rfl, rfl, rfl⟩, vw_nil, plain_nil⟩, ⟨rfl, rfl, rfl, rfl, rfl, rfl, rfl, trivial⟩, rfl⟩ (by dsimp only; omega)
        · subst e1
          obtain ⟨hb1, hb2, hle2⟩ := hbb
          repeat' (first | (refine go_Z ?_; intros) | (refine gs_Z ?_ ?_ <;> (intro hgd; try (simp only [Bool.not_true, Bool.not_false] at hgd))) | (refine gc_Z ?_ ?_ <;> intro _) | fail)
          refine cl_Z (hcr) ?_
          intro _ _
          repeat' (first | (refine go_Z ?_; intros) | (refine gs_Z ?_ ?_ <;> (intro hgd; try (simp only [Bool.not_true, Bool.not_false] at hgd))) | (refine gc_Z ?_ ?_ <;> intro _) | fail)
          refine cl_Z (hop) ?_
          rintro ⟨wb', ⟨v', hv'⟩⟩ _
          refine ops_learn (row_cases (e := 9) (v := v') (xs := r.map strV) takeD) ?_
          intro hrc
          obtain ⟨pv, cv, rfl, hcv, hsp⟩ := row_plain hrc
          repeat' (first | (refine go_Z ?_; intros) | (refine gs_Z ?_ ?_ <;> (intro hgd; try (simp only [Bool.not_true, Bool.not_false] at hgd))) | (refine gc_Z ?_ ?_ <;> intro _) | fail)
          refine cl_Z (wLen_spec wb' b nW ⟨(r.length : Int), ((lenT r : Nat) : Int), 0⟩) ?_
          intro _ _
          repeat' (first | (refine go_Z ?_; intros) | (refine gs_Z ?_ ?_ <;> (intro hgd; try (simp only [Bool.not_true, Bool.not_false] at hgd))) | (refine gc_Z ?_ ?_ <;> intro _) | fail)
          refine cl_Z (begins_spec hvv (.slice pv (r.map strV).length cv) (row 9 1 hvv (hav.map strV)) (row 9 1 (.slice pv (r.map strV).length cv) (r.map strV)) hav r Vw.row Vw.row ⟨_, _, _, rfl, hcv, hsp⟩ (by omega)) ?_
          intro _ _
          rw [hb1]
          repeat' (first | (refine go_Z ?_; intros) | (refine gs_Z ?_ ?_ <;> (intro hgd; try (simp only [Bool.not_true, Bool.not_false] at hgd))) | (refine gc_Z ?_ ?_ <;> intro _) | fail)
          have hdr : Vw (row 9 1 (.slice pv (r.map strV).length cv) (r.map strV)) 1 (dropV 1 pv (r.map strV).length cv (hav.map strV).length) ((r.drop (hav.map strV).length).map strV) := by
            rw [List.map_drop]; exact Vw.drop Vw.row hcv
          refine cl_Z (begins_spec (dropV 1 pv (r.map strV).length cv (hav.map strV).length) mrv (row 9 1 (.slice pv (r.map strV).length cv) (r.map strV)) A (r.drop (hav.map strV).length) mr hdr hmvw hpl (by rw [List.length_drop]; omega)) ?_
          intro _ _
          rw [hb2]
          repeat' (first | (refine go_Z ?_; intros) | (refine gs_Z ?_ ?_ <;> (intro hgd; try (simp only [Bool.not_true, Bool.not_false] at hgd))) | (refine gc_Z ?_ ?_ <;> intro _) | fail)
          refine cont_map (L' := cP A b ⟨d', wb', ⟨(r.length : Int), ((lenT r : Nat) : Int), 0⟩, r, ⟨.slice pv (r.map strV).length cv, hv'⟩, [], ⟨.slice none 0 0, rfl⟩, false⟩ ++ R) entD ?_
          refine cont_back (i + 1, ⟨d', wb', ⟨(r.length : Int), ((lenT r : Nat) : Int), 0⟩, r, ⟨.slice pv (r.map strV).length cv, hv'⟩, [], ⟨.slice none 0 0, rfl⟩, false⟩) ⟨h, ⟨ho2.inv [] rfl false, .inl ⟨ho2, rfl, rfl, rfl⟩, vw_nil, plain_nil⟩, ⟨rfl, rfl, rfl, rfl, rfl, rfl, rfl, trivial⟩, rfl⟩ (by dsimp only; omega)
      | false =>
        repeat' (first | (refine go_Z ?_; intros) | (refine gs_Z ?_ ?_ <;> (intro hgd; try (simp only [Bool.not_true, Bool.not_false] at hgd))) | (refine gc_Z ?_ ?_ <;> intro _) | fail)
        refine cont_map (L' := cP A b ⟨d, wb, w, hav, ⟨hvv, hvc⟩, mr, ⟨mrv, hmc⟩, rs⟩ ++ R) entD ?_
        refine cont_back (i + 1, ⟨d, wb, w, hav, ⟨hvv, hvc⟩, mr, ⟨mrv, hmc⟩, rs⟩) ⟨h, ⟨hinv, hmode, hmvw, hpl⟩, ⟨rfl, rfl, rfl, rfl, rfl, rfl, rfl, trivial⟩, rfl⟩ (by dsimp only; omega)
end Go.Proofs.Ytgmobpngcilgjaa
