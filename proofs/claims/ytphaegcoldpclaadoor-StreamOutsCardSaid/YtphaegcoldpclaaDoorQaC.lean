import Derived.Test.YtphaegcoldpclaaDoorQaP
set_option linter.unusedSimpArgs false
set_option linter.unusedVariables false
set_option maxRecDepth 100000
namespace Go.Proofs.YtphaegcoldpclaaDoor
open Go Go.Fx Go.Proofs Go.Pl

set_option maxHeartbeats 4000000 in
theorem rBelongs_spec (vs : Value) (ts : List Tb) (i : Nat) (t : Tb) (A : HProp) (hvc : vs.oneCell' = true) (h : SV A vs ts) (hi : ts[i]? = some t) (hah : ∀ x ∈ ts.take i, TabOk x.c) :
    FSpec Tryd.prog 41 [.agg #[vs], .int .i64 i] [A] Unit (fun _ => True) (fun _ => .bool (belongsR ((ts.take i).map Tb.c) t.c)) (fun _ => [A]) := by
  obtain ⟨hvw, htab, hlen, _⟩ := h
  have hil : i < ts.length := (List.getElem?_eq_some_iff.1 hi).1
  have htin : t ∈ ts := List.mem_of_getElem? hi
  have hx : (ts.map tbV)[i]? = some (tbV t) := by rw [List.getElem?_map, hi]; rfl
  have hlm : (ts.map tbV).length = ts.length := by simp
  have hn1 : i < (ts.map tbV).length := by omega
  have hal : (((ts.take i).map Tb.c).length : Int) = i := by rw [List.length_map, List.length_take]; omega
  obtain ⟨hv, hlen2, hnm, hcnm⟩ := htab _ htin
  have hpar : ∀ m : Nat, m < i → ∃ p : Tb, ts[m]? = some p ∧ tabAt ((ts.take i).map Tb.c) (m : Int) = p.c ∧ TabOk p.c ∧ p ∈ ts := fun m hm => by
    have e : ts[m]? = some (ts[m]'(by omega)) := List.getElem?_eq_getElem _
    have e2 : (ts.take i)[m]? = some (ts[m]'(by omega)) := by rw [List.getElem?_take, if_pos hm]; exact e
    exact ⟨_, e, tabAt_nat (by rw [List.getElem?_map, e2]; rfl), hah _ (List.mem_of_getElem? e2), List.getElem_mem _⟩
  generalize hT : belongsR ((ts.take i).map Tb.c) t.c = T
  obtain ⟨tn, cols, ⟨cv, hcv⟩, key, ref, par⟩ := t
  dsimp only [tbV, Tb.c] at hv hlen2 hnm hcnm hx hT ⊢
  unfold belongsR at hT
  dsimp only at hT
  rw [hal] at hT
  generalize hah' : (ts.take i).map Tb.c = ah at hT hpar hal
  have hlc : (cols.map coV).length = cols.length := by simp
  refine spec_intro [] _ Tryd.func41 rfl Tryd.ntmps41 (by rfl) (fun w0 R => ?_)
  refine ok_learn (VwIn.slice (VwIn.here hvw)) ?_
  rintro ⟨pv, cvv, rfl⟩
  refine ok_learn (VwIn.base (VwIn.here hvw) (by intro e; rw [e] at hn1; simp at hn1)) ?_
  rintro ⟨bu, ou, rfl⟩
  refine ok_learn (VwIn.slice (VwIn.here hv)) ?_
  rintro ⟨pc, cc, rfl⟩
  cases u1 : decide (ref = -1) with
  | true =>
    obtain rfl : decide (ref = par) = T := by rw [if_pos (.inl (of_decide_eq_true u1))] at hT; exact hT
    clear hT
    repeat' (first | (refine go_Y ?_; intros) | (refine gs_Y ?_ ?_ <;> (intro hgd; try (simp only [Bool.not_true, Bool.not_false] at hgd))) | (refine gc_Y ?_ ?_ <;> intro _) | fail)
    (refine rt_Y (y := ()) (hrs := Tryd.results41) (hv := ?_) (hφ := ?_))
    · rfl
    · trivial
  | false =>
    cases u2 : decide (par = -1) with
    | true =>
      obtain rfl : decide (ref = par) = T := by rw [if_pos (.inr (of_decide_eq_true u2))] at hT; exact hT
      clear hT
      repeat' (first | (refine go_Y ?_; intros) | (refine gs_Y ?_ ?_ <;> (intro hgd; try (simp only [Bool.not_true, Bool.not_false] at hgd))) | (refine gc_Y ?_ ?_ <;> intro _) | fail)
      (refine rt_Y (y := ()) (hrs := Tryd.results41) (hv := ?_) (hφ := ?_))
      · rfl
      · trivial
    | false =>
      have hnn : ¬ (ref = -1 ∨ par = -1) := by rw [not_or]; exact ⟨of_decide_eq_false u1, of_decide_eq_false u2⟩
      rw [if_neg hnn] at hT
      by_cases hb : (ref < 0 ∨ (cols.length : Int) ≤ ref ∨ ref = key ∨ par < 0 ∨ (i : Int) ≤ par)
      · rw [if_pos hb] at hT
        subst hT
        cases v1 : decide (ref < (0 : Int)) <;> cases v2 : decide (((cols.map coV).length : Int) ≤ ref) <;> cases v3 : decide (ref = key) <;> cases v4 : decide (par < (0 : Int)) <;> cases v5 : decide ((i : Int) ≤ par)
        · exfalso; simp only [decide_eq_false_iff_not] at v1 v2 v3 v4 v5; omega
        all_goals clear hb hnn
        all_goals repeat' (first | (refine go_Y ?_; intros) | (refine gs_Y ?_ ?_ <;> (intro hgd; try (simp only [Bool.not_true, Bool.not_false] at hgd))) | (refine gc_Y ?_ ?_ <;> intro _) | fail)
        all_goals
          (refine rt_Y (y := ()) (hrs := Tryd.results41) (hv := ?_) (hφ := ?_))
          · rfl
          · trivial
      · rw [if_neg hb] at hT
        simp only [not_or] at hb
        obtain ⟨b1, b2, b3, b4, b5⟩ := hb
        have v1 : decide (ref < (0 : Int)) = false := by simpa using b1
        have v2 : decide (((cols.map coV).length : Int) ≤ ref) = false := by rw [hlc]; simpa using b2
        have v3 : decide (ref = key) = false := by simpa using b3
        have v4 : decide (par < (0 : Int)) = false := by simpa using b4
        have v5 : decide ((i : Int) ≤ par) = false := by simpa using b5
        obtain ⟨m, rfl⟩ : ∃ m : Nat, ref = m := ⟨ref.toNat, by omega⟩
        obtain ⟨q, rfl⟩ : ∃ q : Nat, par = q := ⟨par.toNat, by omega⟩
        obtain ⟨p, hp, hpt, hpo, hpin⟩ := hpar q (by omega)
        have hxp : (ts.map tbV)[q]? = some (tbV p) := by rw [List.getElem?_map, hp]; rfl
        have hn2 : q < (ts.map tbV).length := by omega
        have hm : m < cols.length := by omega
        have hci : cols[m]? = some cols[m] := List.getElem?_eq_getElem hm
        have hxm : (cols.map coV)[m]? = some (coV cols[m]) := by rw [List.getElem?_map, hci]; rfl
        have hn3 : m < (cols.map coV).length := by omega
        rw [hpt, colAt_nat hm] at hT
        obtain ⟨hvp, _, _, _⟩ := htab _ hpin
        have k0 := hpo.key0
        have k1 := hpo.keyL
        obtain ⟨pn, pcols, ⟨pcv, hpcv⟩, pkey, pref, ppar⟩ := p
        dsimp only [tbV, Tb.c] at hvp k0 k1 hxp hT
        obtain ⟨kk, rfl⟩ : ∃ kk : Nat, pkey = kk := ⟨pkey.toNat, by omega⟩
        have hkk : kk < pcols.length := by omega
        have hck : pcols[kk]? = some pcols[kk] := List.getElem?_eq_getElem hkk
        have hxk : (pcols.map coV)[kk]? = some (coV pcols[kk]) := by rw [List.getElem?_map, hck]; rfl
        have hlp : (pcols.map coV).length = pcols.length := by simp
        have hn4 : kk < (pcols.map coV).length := by omega
        replace hT : decide ((cols[m]).kind = (pcols[kk]).kind) = T := by rw [← colAt_nat hkk]; exact hT
        refine ok_learn (VwIn.slice (VwIn.here hvp)) ?_
        rintro ⟨pp, cp, rfl⟩
        refine ok_learn (VwIn.base (VwIn.here hvp) (by intro e; rw [e] at hn4; simp at hn4)) ?_
        rintro ⟨b7, o7, rfl⟩
        refine ok_learn (VwIn.base (VwIn.here hv) (by intro e; rw [e] at hn3; simp at hn3)) ?_
        rintro ⟨b8, o8, rfl⟩
        generalize cols[m] = c1 at hxm hT
        generalize pcols[kk] = c2 at hxk hT
        obtain ⟨n1, k1', z1⟩ := c1
        obtain ⟨n2, k2', z2⟩ := c2
        dsimp only [coV] at hxm hxk hT
        subst hT
        repeat' (first | (refine go_Y ?_; intros) | (refine gs_Y ?_ ?_ <;> (intro hgd; try (simp only [Bool.not_true, Bool.not_false] at hgd))) | (refine gc_Y ?_ ?_ <;> intro _) | fail)
        (refine rt_Y (y := ()) (hrs := Tryd.results41) (hv := ?_) (hφ := ?_))
        · rfl
        · trivial
end Go.Proofs.YtphaegcoldpclaaDoor
