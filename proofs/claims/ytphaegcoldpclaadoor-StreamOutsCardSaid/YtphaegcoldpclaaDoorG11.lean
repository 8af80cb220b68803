/- Texts merged: QbC QbB QbD. -/
import Derived.Test.YtphaegcoldpclaaDoorG7
import Derived.Test.YtphaegcoldpclaaDoorTxB
import Derived.Test.YtphaegcoldpclaaDoorPool
set_option linter.unusedSimpArgs false
set_option linter.unusedVariables false
set_option maxRecDepth 100000
namespace Go.Proofs.YtphaegcoldpclaaDoor
open Go Go.Fx Go.Proofs Go.Pl

def sqV (n : Int) : List Value := [.int .u64 n]
theorem samePlace_spec (m1 m2 : Int) (l1 l2 : List Int) (u w : Value) (A B : HProp) (hu : u.oneCell' = true) (hw : w.oneCell' = true) (hA : Vw A 1 u (l1.map sqV)) (hB : Vw B 1 w (l2.map sqV)) (hz : l1.length ≤ 140737488355328) :
    FSpec Tryd.prog 12 [.agg #[.int .u64 m1, u], .agg #[.int .u64 m2, w]] [A, B] Bool (fun y => y = true ↔ (m1 = m2 ∧ l1 = l2)) (fun y => .bool y) (fun _ => [A, B]) := by
  have la : (l1.map sqV).length = l1.length := by simp
  have lc : (l2.map sqV).length = l2.length := by simp
  refine spec_intro [] _ Tryd.func12 rfl Tryd.ntmps12 (by rfl) (fun w0 R => ?_)
  refine ok_learn (VwIn.slice (VwIn.here hA)) ?_
  rintro ⟨pu, cu, rfl⟩
  refine ok_learn (VwIn.slice (VwIn.there (VwIn.here hB))) ?_
  rintro ⟨pw, cw, rfl⟩
  cases t0 : (!decide (m1 = m2)) with
  | true =>
    repeat' (first | (refine go_Y ?_; intros) | (refine gs_Y ?_ ?_ <;> (intro hgd; try (simp only [Bool.not_true, Bool.not_false] at hgd))) | (refine gc_Y ?_ ?_ <;> intro _) | fail)
    (refine rt_Y (y := false) (hrs := Tryd.results12) (hv := ?_) (hφ := ?_))
    · rfl
    · exact ⟨fun e => (by cases e), fun e => by simp [e.1] at t0⟩
  | false =>
    cases t1 : (!decide (((l1.map sqV).length : Int) = ((l2.map sqV).length : Int))) with
    | true =>
      repeat' (first | (refine go_Y ?_; intros) | (refine gs_Y ?_ ?_ <;> (intro hgd; try (simp only [Bool.not_true, Bool.not_false] at hgd))) | (refine gc_Y ?_ ?_ <;> intro _) | fail)
      (refine rt_Y (y := false) (hrs := Tryd.results12) (hv := ?_) (hφ := ?_))
      · rfl
      · exact ⟨fun e => (by cases e), fun e => by simp [e.2] at t1⟩
    | false =>
      have hlen : l1.length = l2.length := by simp at t1; omega
      repeat' (first | (refine go_Y ?_; intros) | (refine gs_Y ?_ ?_ <;> (intro hgd; try (simp only [Bool.not_true, Bool.not_false] at hgd))) | (refine gc_Y ?_ ?_ <;> intro _) | fail)
      rename_i b2 b3
      obtain rfl : m1 = m2 := by simpa using t0
      refine ok_map (L' := [pts b3 (.cells [.int .u64 m1, .slice pw (l2.map sqV).length cw].toArray 28), pts b2 (.cells [.int .u64 m1, .slice pu (l1.map sqV).length cu].toArray 28), A, B] ++ R) entD ?_
      refine ok_loop' (γ := Nat) (fun i ρ L => i ≤ l1.length ∧ l1.take i = l2.take i ∧ Knows ρ [(2, .pointer (some ⟨b2, 0, none⟩)), (3, .pointer (some ⟨b3, 0, none⟩)), (5, .int .i64 i)] ∧ L = [pts b3 (.cells [.int .u64 m1, .slice pw (l2.map sqV).length cw].toArray 28), pts b2 (.cells [.int .u64 m1, .slice pu (l1.map sqV).length cu].toArray 28), A, B] ++ R) (fun i => l1.length - i) 0 ⟨by omega, by simp, ⟨rfl, rfl, rfl, trivial⟩, rfl⟩ ?_
      rintro i ρ L ⟨hi, he, hk, rfl⟩
      refine ok_regs hk ?_
      cases t2 : decide ((i : Int) < ((l1.map sqV).length : Int)) with
      | false =>
        have hie : i = l1.length := by have := of_decide_eq_false t2; omega
        have hac : l1 = l2 := by
          rw [hie, List.take_length] at he
          rw [hlen, List.take_length] at he
          exact he
        repeat' (first | (refine go_Y ?_; intros) | (refine gs_Y ?_ ?_ <;> (intro hgd; try (simp only [Bool.not_true, Bool.not_false] at hgd))) | (refine gc_Y ?_ ?_ <;> intro _) | fail)
        (refine rt_Y (y := true) (hrs := Tryd.results12) (hv := ?_) (hφ := ?_))
        · rfl
        · exact ⟨fun _ => ⟨rfl, hac⟩, fun _ => rfl⟩
      | true =>
        have h : i < l1.length := by have := of_decide_eq_true t2; omega
        have hc' : i < l2.length := by omega
        have hx : (l1.map sqV)[i]? = some (sqV l1[i]) := by rw [List.getElem?_map, List.getElem?_eq_getElem h]; rfl
        have hy : (l2.map sqV)[i]? = some (sqV l2[i]) := by rw [List.getElem?_map, List.getElem?_eq_getElem hc']; rfl
        have hn1 : i < (l1.map sqV).length := by omega
        have hn2 : i < (l2.map sqV).length := by omega
        have t1a : l1.take (i + 1) = l1.take i ++ [l1[i]] := List.take_succ_eq_append_getElem h
        have t1c : l2.take (i + 1) = l2.take i ++ [l2[i]] := List.take_succ_eq_append_getElem hc'
        have hdiff : l1[i] ≠ l2[i] → l1 ≠ l2 := fun hn e => by subst e; exact hn rfl
        refine ok_learn (VwIn.base (VwIn.there (VwIn.there (VwIn.here hA))) (by intro e; rw [e] at hn1; simp at hn1)) ?_
        rintro ⟨bu, ou, rfl⟩
        refine ok_learn (VwIn.base (VwIn.there (VwIn.there (VwIn.there (VwIn.here hB)))) (by intro e; rw [e] at hn2; simp at hn2)) ?_
        rintro ⟨bw, ow, rfl⟩
        generalize l1[i] = x at hx hdiff t1a
        generalize l2[i] = y at hy hdiff t1c
        dsimp only [sqV] at hx hy
        cases v1 : (!decide (x = y)) with
        | true =>
          have hn := hdiff (by simpa using v1)
          repeat' (first | (refine go_Y ?_; intros) | (refine gs_Y ?_ ?_ <;> (intro hgd; try (simp only [Bool.not_true, Bool.not_false] at hgd))) | (refine gc_Y ?_ ?_ <;> intro _) | fail)
          (refine rt_Y (y := false) (hrs := Tryd.results12) (hv := ?_) (hφ := ?_))
          · rfl
          · exact ⟨fun e => (by cases e), fun e => absurd e.2 hn⟩
        | false =>
          obtain rfl : x = y := by simpa using v1
          repeat' (first | (refine go_Y ?_; intros) | (refine gs_Y ?_ ?_ <;> (intro hgd; try (simp only [Bool.not_true, Bool.not_false] at hgd))) | (refine gc_Y ?_ ?_ <;> intro _) | fail)
          refine cont_map (L' := [pts b3 (.cells [.int .u64 m1, .slice (some ⟨bw, ow, none⟩) (l2.map sqV).length cw].toArray 28), pts b2 (.cells [.int .u64 m1, .slice (some ⟨bu, ou, none⟩) (l1.map sqV).length cu].toArray 28), A, B] ++ R) entD ?_
          refine cont_back (i + 1) ⟨h, by rw [t1a, t1c, he], ⟨rfl, rfl, rfl, trivial⟩, rfl⟩ (by omega)
end Go.Proofs.YtphaegcoldpclaaDoor
set_option linter.unusedSimpArgs false
set_option linter.unusedVariables false
set_option maxRecDepth 100000
namespace Go.Proofs.YtphaegcoldpclaaDoor
open Go Go.Fx Go.Proofs Go.Pl

theorem copy04_spec (l : List Vl) (u : Value) (A : HProp) (hA : Vw A 4 u (l.map valV)) (hz : l.length ≤ 1000000) :
    FSpec Tryd.prog 32 [u] [A] V1s (fun _ => True) (fun y => y.1) (fun y => [row 71 4 y.1 (l.map valV), A]) := by
  have la : (l.map valV).length = l.length := by simp
  refine spec_intro [] _ Tryd.func32 rfl Tryd.ntmps32 (by rfl) (fun w0 R => ?_)
  refine ok_learn (VwIn.slice (VwIn.here hA)) ?_
  rintro ⟨pu, cu, rfl⟩
  refine ok_map (fun _ h => nilRow (e := 71) (n := 4) h) ?_
  repeat' (first | (refine go_Y ?_; intros) | (refine gs_Y ?_ ?_ <;> (intro hgd; try (simp only [Bool.not_true, Bool.not_false] at hgd))) | (refine gc_Y ?_ ?_ <;> intro _) | fail)
  rename_i v' hv'
  (refine rt_Y (y := ⟨v', hv'⟩) (hrs := Tryd.results32) (hv := ?_) (hφ := ?_))
  · rfl
  · trivial
end Go.Proofs.YtphaegcoldpclaaDoor
set_option linter.unusedSimpArgs false
set_option linter.unusedVariables false
set_option maxRecDepth 100000
namespace Go.Proofs.YtphaegcoldpclaaDoor
open Go Go.Fx Go.Proofs Go.Pl

abbrev G15 (l : List Cm) (A : HProp) := { g : V1s × List Cm × HProp // Ext A g.2.2 ∧ (∀ x ∈ g.2.1, CmR g.2.2 x) }
set_option maxHeartbeats 4000000 in
theorem copy15_spec (l : List Cm) (u : Value) (A : HProp) (hA : Vw A 4 u (l.map cmV)) (hz : l.length ≤ 1000000) (hl : ∀ x ∈ l, CmR A x ∧ x.bef.length ≤ 1000000 ∧ x.aft.length ≤ 1000000) :
    FSpec Tryd.prog 8 [u] [A] (V1s × List Cm × HProp) (fun y => Ext A y.2.2 ∧ (∀ x ∈ y.2.1, CmR y.2.2 x) ∧ y.2.1.map Cm.c = l.map Cm.c) (fun y => y.1.1) (fun y => [row 51 4 y.1.1 (y.2.1.map cmV), y.2.2]) := by
  have la : (l.map cmV).length = l.length := by simp
  refine spec_intro [] _ Tryd.func8 rfl Tryd.ntmps8 (by rfl) (fun w0 R => ?_)
  refine ok_learn (VwIn.slice (VwIn.here hA)) ?_
  rintro ⟨pu, cu, rfl⟩
  repeat' (first | (refine go_Y ?_; intros) | (refine gs_Y ?_ ?_ <;> (intro hgd; try (simp only [Bool.not_true, Bool.not_false] at hgd))) | (refine gc_Y ?_ ?_ <;> intro _) | fail)
  refine ok_map (fun _ h => nilRow (e := 51) (n := 4) h) ?_
  refine ok_loop' (γ := Nat × G15 l A) (fun g ρ L => g.1 ≤ l.length ∧ g.2.1.2.1.map Cm.c = (l.take g.1).map Cm.c ∧ Knows ρ [(0, .slice pu (l.map cmV).length cu), (3, g.2.1.1.1), (4, .int .i64 g.1)] ∧ L = [row 51 4 g.2.1.1.1 (g.2.1.2.1.map cmV), g.2.1.2.2] ++ R) (fun g => l.length - g.1)
    (0, ⟨(⟨.slice none 0 0, rfl⟩, [], A), Ext.refl A, fun _ h => by simp at h⟩) ⟨by simp, rfl, ⟨rfl, rfl, rfl, trivial⟩, rfl⟩ ?_
  rintro ⟨i, ⟨⟨v, hv⟩, l', P⟩, hE, hcr⟩ ρ L ⟨hi, he, hk, rfl⟩
  dsimp only at hE hcr hi he hk ⊢
  refine ok_regs hk ?_
  have hP := hE.vw hA
  have hl' : l'.length = i := by have := congrArg List.length he; simp at this; omega
  have hl'' : (l'.map cmV).length = i := by rw [List.length_map, hl']
  cases t1 : decide ((i : Int) < ((l.map cmV).length : Int)) with
  | false =>
    have hie : i = l.length := by have := of_decide_eq_false t1; omega
    rw [hie, List.take_length] at he
    repeat' (first | (refine go_Y ?_; intros) | (refine gs_Y ?_ ?_ <;> (intro hgd; try (simp only [Bool.not_true, Bool.not_false] at hgd))) | (refine gc_Y ?_ ?_ <;> intro _) | fail)
    (refine rt_Y (y := (⟨v, hv⟩, l', P)) (hrs := Tryd.results8) (hv := ?_) (hφ := ?_))
    · rfl
    · exact ⟨hE, hcr, he⟩
  | true =>
    have h : i < l.length := by have := of_decide_eq_true t1; omega
    have hx : (l.map cmV)[i]? = some (cmV l[i]) := by rw [List.getElem?_map, List.getElem?_eq_getElem h]; rfl
    have hn1 : i < (l.map cmV).length := by omega
    have t1a : l.take (i + 1) = l.take i ++ [l[i]] := List.take_succ_eq_append_getElem h
    obtain ⟨hax, hz1, hz2⟩ := hl _ (List.getElem_mem h)
    have hbv := hE.vw hax.bv
    have hav := hE.vw hax.av
    refine ok_learn (VwIn.base (VwIn.there (VwIn.here hP)) (by intro e; rw [e] at hn1; simp at hn1)) ?_
    rintro ⟨bu, ou, rfl⟩
    generalize l[i] = x at hx t1a hz1 hz2 hbv hav
    obtain ⟨xk, xt, ⟨xb, hxb⟩, xbl, ⟨xa, hxa⟩, xal⟩ := x
    dsimp only [cmV] at hx hz1 hz2 hbv hav
    refine ok_learn (VwIn.slice (VwIn.there (VwIn.here hbv))) ?_
    rintro ⟨pb, cb, rfl⟩
    refine ok_learn (VwIn.slice (VwIn.there (VwIn.here hav))) ?_
    rintro ⟨pa, ca, rfl⟩
    refine ok_learn (row_shape' (e := 51) (n := 4) (v := v) (xs := l'.map cmV) (by decide) takeD) ?_
    rintro ⟨pv, cv, rfl, _⟩
    have s1 := copy04_spec xbl (.slice pb (xbl.map valV).length cb) P hbv hz1
    have s2 := copy04_spec xal (.slice pa (xal.map valV).length ca) P hav hz2
    repeat' (first | (refine go_Y ?_; intros) | (refine gs_Y ?_ ?_ <;> (intro hgd; try (simp only [Bool.not_true, Bool.not_false] at hgd))) | (refine gc_Y ?_ ?_ <;> intro _) | fail)
    refine cl_Y (s1) ?_
    rintro ⟨vb, hvb⟩ _
    refine ops_learn (row_shape' (e := 71) (n := 4) (v := vb) (xs := xbl.map valV) (by decide) takeD) ?_
    rintro ⟨pb2, cb2, rfl, _⟩
    repeat' (first | (refine go_Y ?_; intros) | (refine gs_Y ?_ ?_ <;> (intro hgd; try (simp only [Bool.not_true, Bool.not_false] at hgd))) | (refine gc_Y ?_ ?_ <;> intro _) | fail)
    refine cl_Y (s2) ?_
    rintro ⟨va, hva⟩ _
    refine ops_learn (row_shape' (e := 71) (n := 4) (v := va) (xs := xal.map valV) (by decide) takeD) ?_
    rintro ⟨pa2, ca2, rfl, _⟩
    repeat' (first | (refine go_Y ?_; intros) | (refine gs_Y ?_ ?_ <;> (intro hgd; try (simp only [Bool.not_true, Bool.not_false] at hgd))) | (refine gc_Y ?_ ?_ <;> intro _) | fail)
    dsimp only
    rename_i v3 hv3 v4 hv4
    refine cont_poolN (ty := 71) (n := 4) (v := .slice pb2 (xbl.map valV).length cb2) (xs := xbl.map valV) (P := P) takeD ?_
    intro P1 g1 w1
    refine cont_poolN (ty := 71) (n := 4) (v := .slice pa2 (xal.map valV).length ca2) (xs := xal.map valV) (P := P1) takeD ?_
    intro P2 g2 w2
    refine cont_map (L' := [row 51 4 v4 ((l' ++ [(⟨xk, xt, ⟨.slice pb2 (xbl.map valV).length cb2, rfl⟩, xbl, ⟨.slice pa2 (xal.map valV).length ca2, rfl⟩, xal⟩ : Cm)]).map cmV), P2] ++ R) (by rw [List.map_append]; exact entD) ?_
    refine cont_back (i + 1, ⟨(⟨v4, hv4⟩, l' ++ [(⟨xk, xt, ⟨.slice pb2 (xbl.map valV).length cb2, rfl⟩, xbl, ⟨.slice pa2 (xal.map valV).length ca2, rfl⟩, xal⟩ : Cm)], P2), hE.trans (g1.trans g2), fun x hx => by
      rcases List.mem_append.1 hx with hx | hx
      · exact (hcr x hx).ext (g1.trans g2)
      · rw [List.mem_singleton] at hx; subst hx; exact ⟨g2.vw w1, w2⟩⟩) ⟨by dsimp only; omega, by dsimp only; rw [List.map_append, he, t1a, List.map_append]; rfl, ⟨rfl, rfl, rfl, trivial⟩, rfl⟩ (by show l.length - (i + 1) < l.length - i; omega)
end Go.Proofs.YtphaegcoldpclaaDoor
