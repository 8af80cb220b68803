/- Texts merged: RnL RnN. -/
import Derived.Test.YtgmobpngcilgjaaRnJ
/- The walks of the document's mem (fascicleref09), and of the law's sorted. -/
-- @DEFS Z
set_option linter.unusedSimpArgs false
set_option linter.unusedVariables false
set_option maxRecDepth 4000
namespace Go.Proofs.Ytgmobpngcilgjaa
open Go Go.Fx Go.Proofs Go.Pl

theorem less_pre : ∀ (i : Nat) (a b : List UInt8), a.take i = b.take i → i ≤ a.length → i ≤ b.length → Op.bytesLess a b = Op.bytesLess (a.drop i) (b.drop i)
  | 0, a, b, _, _, _ => rfl
  | i + 1, [], _, _, h, _ => by simp at h
  | i + 1, _ :: _, [], _, _, h => by simp at h
  | i + 1, x :: a, y :: b, h, ha, hb => by
    simp only [List.take_succ_cons, List.cons.injEq] at h
    obtain ⟨rfl, h⟩ := h
    rw [List.drop_succ_cons, List.drop_succ_cons, ← less_pre i a b h (by simpa using ha) (by simpa using hb)]
    simp [Op.bytesLess]
theorem lt_u8 (x y : UInt8) : decide ((x.toNat : Int) < (y.toNat : Int)) = decide (x < y) := by
  rw [decide_eq_decide, Int.ofNat_lt]; exact UInt8.lt_iff_toNat_lt.symm

theorem refAhead_spec (a b : BA) (ha : a.size ≤ 4611686018427387904) (hb : b.size ≤ 4611686018427387904) : FSpec Try.prog 149 [.string a, .string b] [] Unit (fun _ => True) (fun _ => .bool (ltS a b)) (fun _ => []) := by
  have e : ltS a b = Op.bytesLess a.data.toList b.data.toList := by unfold ltS; rw [ByteArray.toList_eq, ByteArray.toList_eq]
  have la : a.data.toList.length = a.size := by simp
  have lb : b.data.toList.length = b.size := by simp
  refine spec_intro [] _ Try.func149 rfl Try.ntmps149 (by rfl) (fun w0 R => ?_)
  repeat' (first | (refine go_Z ?_; intros) | (refine gs_Z ?_ ?_ <;> (intro hgd; try (simp only [Bool.not_true, Bool.not_false] at hgd))) | (refine gc_Z ?_ ?_ <;> intro _) | fail)
  refine ok_loop' (γ := Nat) (fun i ρ L => i ≤ a.size ∧ i ≤ b.size ∧ a.data.toList.take i = b.data.toList.take i ∧ Knows ρ [(0, .string a), (1, .string b), (5, .int .i64 i)] ∧ L = R) (fun i => a.size - i) 0 ⟨by simp, by simp, rfl, ⟨rfl, rfl, rfl, trivial⟩, rfl⟩ ?_
  rintro i ρ L ⟨hia, hib, hpre, hk, rfl⟩
  refine ok_regs hk ?_
  have hl := less_pre i _ _ hpre (by omega) (by omega)
  cases t1 : decide ((i : Int) < (a.size : Int)) with
  | false =>
    have hie : i = a.size := by simp at t1; omega
    have hd : a.data.toList.drop i = [] := List.drop_of_length_le (by omega)
    have hr : ltS a b = decide ((a.size : Int) < (b.size : Int)) := by
      rw [e, hl, hd]
      rcases Nat.lt_or_ge i b.size with h | h
      · rw [List.drop_eq_getElem_cons (by omega : i < b.data.toList.length)]
        simp [Op.bytesLess]; omega
      · rw [List.drop_of_length_le (by omega)]
        simp [Op.bytesLess]; omega
    rw [hr]
    repeat' (first | (refine go_Z ?_; intros) | (refine gs_Z ?_ ?_ <;> (intro hgd; try (simp only [Bool.not_true, Bool.not_false] at hgd))) | (refine gc_Z ?_ ?_ <;> intro _) | fail)
    (refine rt_Z (y := ()) (hrs := Try.results149) (hv := ?_) (hφ := ?_))
    · rfl
    · trivial
  | true =>
    have hi1 : i < a.size := by simpa using t1
    cases t2 : decide ((i : Int) < (b.size : Int)) with
    | false =>
      have hd : b.data.toList.drop i = [] := List.drop_of_length_le (by simp at t2; omega)
      have hr : ltS a b = decide ((a.size : Int) < (b.size : Int)) := by
        rw [e, hl, hd]
        have : Op.bytesLess (a.data.toList.drop i) [] = false := by cases (a.data.toList.drop i) <;> rfl
        rw [this]
        simp at t2; simp; omega
      rw [hr]
      repeat' (first | (refine go_Z ?_; intros) | (refine gs_Z ?_ ?_ <;> (intro hgd; try (simp only [Bool.not_true, Bool.not_false] at hgd))) | (refine gc_Z ?_ ?_ <;> intro _) | fail)
      (refine rt_Z (y := ()) (hrs := Try.results149) (hv := ?_) (hφ := ?_))
      · rfl
      · trivial
    | true =>
      have hi2 : i < b.size := by simpa using t2
      have hx : a.data.toList[i]? = some (a.data.toList[i]'(by omega)) := List.getElem?_eq_getElem _
      have hy : b.data.toList[i]? = some (b.data.toList[i]'(by omega)) := List.getElem?_eq_getElem _
      have hd1 : a.data.toList.drop i = (a.data.toList[i]'(by omega)) :: a.data.toList.drop (i + 1) := List.drop_eq_getElem_cons (by omega)
      have hd2 : b.data.toList.drop i = (b.data.toList[i]'(by omega)) :: b.data.toList.drop (i + 1) := List.drop_eq_getElem_cons (by omega)
      have ht1 : a.data.toList.take (i + 1) = a.data.toList.take i ++ [a.data.toList[i]'(by omega)] := List.take_succ_eq_append_getElem (by omega)
      have ht2 : b.data.toList.take (i + 1) = b.data.toList.take i ++ [b.data.toList[i]'(by omega)] := List.take_succ_eq_append_getElem (by omega)
      generalize a.data.toList[i]'(by omega) = x at hx hd1 ht1
      generalize b.data.toList[i]'(by omega) = y at hy hd2 ht2
      cases u1 : (!decide ((x.toNat : Int) = (y.toNat : Int))) with
      | true =>
        have hne : x ≠ y := by
          intro h; subst h; simp at u1
        have hr : ltS a b = decide ((x.toNat : Int) < (y.toNat : Int)) := by
          rw [e, hl, hd1, hd2, lt_u8]
          simp [Op.bytesLess, hne]
        rw [hr]
        repeat' (first | (refine go_Z ?_; intros) | (refine gs_Z ?_ ?_ <;> (intro hgd; try (simp only [Bool.not_true, Bool.not_false] at hgd))) | (refine gc_Z ?_ ?_ <;> intro _) | fail)
        (refine rt_Z (y := ()) (hrs := Try.results149) (hv := ?_) (hφ := ?_))
        · rfl
        · trivial
      | false =>
        have heq : x = y := by
          have u2 : x.toNat = y.toNat := by simp at u1; omega
          exact UInt8.toNat_inj.1 u2
        repeat' (first | (refine go_Z ?_; intros) | (refine gs_Z ?_ ?_ <;> (intro hgd; try (simp only [Bool.not_true, Bool.not_false] at hgd))) | (refine gc_Z ?_ ?_ <;> intro _) | fail)
        refine cont_back (i + 1) ⟨hi1, hi2, by rw [ht1, ht2, hpre, heq], ⟨rfl, rfl, rfl, trivial⟩, rfl⟩ (by omega)

theorem refMay_spec (p : Pr) : FSpec Try.prog 148 [.agg (prV p).toArray] [] Unit (fun _ => True) (fun _ => .bool (okP p)) (fun _ => []) := by
  obtain ⟨k, v, g⟩ := p
  dsimp only [prV]
  refine spec_intro [] _ Try.func148 rfl Try.ntmps148 (by rfl) (fun w0 R => ?_)
  repeat' (first | (refine go_Z ?_; intros) | (refine gs_Z ?_ ?_ <;> (intro hgd; try (simp only [Bool.not_true, Bool.not_false] at hgd))) | (refine gc_Z ?_ ?_ <;> intro _) | fail)
  all_goals (refine rt_Z (y := ()) (hrs := Try.results148) (hv := ?_) (hφ := ?_))
  all_goals first | exact trivial | skip
  all_goals (simp only [retOf, Value.bool.injEq, true_and, nil_toList] at *; simp_all [okP]; try omega)

theorem refWithin_spec (k fr to : BA) (p : Pr) (hp : p.k = k) (h1 : k.size ≤ 4611686018427387904) (h2 : fr.size ≤ 4611686018427387904) (h3 : to.size ≤ 4611686018427387904) : FSpec Try.prog 118 [.string k, .string fr, .string to] [] Unit (fun _ => True) (fun _ => .bool (withB fr to p)) (fun _ => []) := by
  have ha := refAhead_spec k fr h1 h2
  have hb := refAhead_spec k to h1 h3
  unfold withB
  rw [hp]
  cases t1 : ltS k fr with
  | true =>
    rw [t1] at ha
    refine spec_intro [] _ Try.func118 rfl Try.ntmps118 (by rfl) (fun w0 R => ?_)
    repeat' (first | (refine go_Z ?_; intros) | (refine gs_Z ?_ ?_ <;> (intro hgd; try (simp only [Bool.not_true, Bool.not_false] at hgd))) | (refine gc_Z ?_ ?_ <;> intro _) | fail)
    refine cl_Z (ha) ?_
    intro _ _
    repeat' (first | (refine go_Z ?_; intros) | (refine gs_Z ?_ ?_ <;> (intro hgd; try (simp only [Bool.not_true, Bool.not_false] at hgd))) | (refine gc_Z ?_ ?_ <;> intro _) | fail)
    (refine rt_Z (y := ()) (hrs := Try.results118) (hv := ?_) (hφ := ?_))
    · rfl
    · trivial
  | false =>
    rw [t1] at ha
    cases t2 : (to.toList == (⟨#[]⟩ : BA).toList) with
    | true =>
      refine spec_intro [] _ Try.func118 rfl Try.ntmps118 (by rfl) (fun w0 R => ?_)
      repeat' (first | (refine go_Z ?_; intros) | (refine gs_Z ?_ ?_ <;> (intro hgd; try (simp only [Bool.not_true, Bool.not_false] at hgd))) | (refine gc_Z ?_ ?_ <;> intro _) | fail)
      refine cl_Z (ha) ?_
      intro _ _
      repeat' (first | (refine go_Z ?_; intros) | (refine gs_Z ?_ ?_ <;> (intro hgd; try (simp only [Bool.not_true, Bool.not_false] at hgd))) | (refine gc_Z ?_ ?_ <;> intro _) | fail)
      (refine rt_Z (y := ()) (hrs := Try.results118) (hv := ?_) (hφ := ?_))
      · rfl
      · trivial
    | false =>
      generalize ltS k to = c at hb
      refine spec_intro [] _ Try.func118 rfl Try.ntmps118 (by rfl) (fun w0 R => ?_)
      repeat' (first | (refine go_Z ?_; intros) | (refine gs_Z ?_ ?_ <;> (intro hgd; try (simp only [Bool.not_true, Bool.not_false] at hgd))) | (refine gc_Z ?_ ?_ <;> intro _) | fail)
      refine cl_Z (ha) ?_
      intro _ _
      repeat' (first | (refine go_Z ?_; intros) | (refine gs_Z ?_ ?_ <;> (intro hgd; try (simp only [Bool.not_true, Bool.not_false] at hgd))) | (refine gc_Z ?_ ?_ <;> intro _) | fail)
      refine cl_Z (hb) ?_
      intro _ _
      repeat' (first | (refine go_Z ?_; intros) | (refine gs_Z ?_ ?_ <;> (intro hgd; try (simp only [Bool.not_true, Bool.not_false] at hgd))) | (refine gc_Z ?_ ?_ <;> intro _) | fail)
      (refine rt_Z (y := ()) (hrs := Try.results118) (hv := ?_) (hφ := ?_))
      · rfl
      · trivial

/-! ### Put -/
abbrev rmP (mb : Nat) (v : Value) : HProp := pts mb (.cells [v].toArray 94)
def putStep (p : Pr) (st : Bool × List Pr) (x : Pr) : Bool × List Pr :=
  (st.1 || !ltS x.k p.k, st.2 ++ (if !st.1 && !ltS x.k p.k then [p] else []) ++ (if x.k.toList == p.k.toList then [] else [x]))
def putEnd (p : Pr) (st : Bool × List Pr) : List Pr := if st.1 then st.2 else st.2 ++ [p]
def refPutL (p : Pr) (l : List Pr) : List Pr := putEnd p (l.foldl (putStep p) (false, []))
theorem put_done (p : Pr) : ∀ (l out : List Pr), (∀ x ∈ l, ltS p.k x.k = true) → l.foldl (putStep p) (true, out) = (true, out ++ l)
  | [], out, _ => by simp
  | x :: l, out, h => by
    have h1 := h x (List.mem_cons_self ..)
    have h2 : (x.k.toList == p.k.toList) = false := by
      cases hb : (x.k.toList == p.k.toList) with
      | false => rfl
      | true => have := eqS_iff.1 hb; rw [this, ltS_irrefl] at h1; cases h1
    rw [List.foldl_cons]
    have : putStep p (true, out) x = (true, out ++ [x]) := by simp [putStep, h2]
    rw [this, put_done p l _ (fun y hy => h y (List.mem_cons_of_mem _ hy)), List.append_assoc]; rfl
theorem put_ins (p : Pr) : ∀ (l out : List Pr), Sorted l → putEnd p (l.foldl (putStep p) (false, out)) = out ++ ins p l
  | [], out, _ => by simp [putEnd, ins]
  | x :: l, out, hs => by
    have hs' := List.pairwise_cons.1 hs
    rw [List.foldl_cons]
    unfold ins
    rcases ltS_tri x.k p.k with h | h | h
    · have h1 : ltS p.k x.k = false := ltS_asymm h
      have h2 : (p.k.toList == x.k.toList) = false := by
        cases hb : (p.k.toList == x.k.toList) with
        | false => rfl
        | true => have := eqS_iff.1 hb; rw [this, ltS_irrefl] at h; cases h
      have h3 : (x.k.toList == p.k.toList) = false := by
        cases hb : (x.k.toList == p.k.toList) with
        | false => rfl
        | true => have := eqS_iff.1 hb; rw [this, ltS_irrefl] at h; cases h
      have : putStep p (false, out) x = (false, out ++ [x]) := by simp [putStep, h, h3]
      rw [this, put_ins p l _ hs'.2, h1, h2]
      simp
    · have h1 : ltS x.k p.k = false := by rw [h]; exact ltS_irrefl _
      have h2 : ltS p.k x.k = false := by rw [h]; exact ltS_irrefl _
      have h3 : (x.k.toList == p.k.toList) = true := eqS_iff.2 h
      have h4 : (p.k.toList == x.k.toList) = true := eqS_iff.2 h.symm
      have : putStep p (false, out) x = (true, out ++ [p]) := by simp [putStep, h1, h3]
      rw [this, put_done p l _ (fun y hy => by rw [← h]; exact hs'.1 y hy), h2, h4]
      simp [putEnd]
    · have h1 : ltS x.k p.k = false := ltS_asymm h
      have h3 : (x.k.toList == p.k.toList) = false := by
        cases hb : (x.k.toList == p.k.toList) with
        | false => rfl
        | true => have := eqS_iff.1 hb; rw [this, ltS_irrefl] at h; cases h
      have : putStep p (false, out) x = (true, out ++ [p] ++ [x]) := by simp [putStep, h1, h3]
      rw [this, put_done p l _ (fun y hy => ltS_trans h (hs'.1 y hy)), h]
      simp [putEnd]
theorem refPutL_ins {p : Pr} {l : List Pr} (hs : Sorted l) : refPutL p l = ins p l := by
  have := put_ins p l [] hs
  rw [List.nil_append] at this
  exact this
theorem ins_len (p : Pr) : ∀ l : List Pr, (ins p l).length ≤ l.length + 1
  | [] => by simp [ins]
  | x :: l => by
    unfold ins
    split
    · simp
    · split
      · simp
      · have := ins_len p l; simp; omega
theorem ins_sum (p : Pr) : ∀ l : List Pr, sumP (ins p l) ≤ sumP l + (p.k.size + p.v.size)
  | [] => by simp [ins, sumP]
  | x :: l => by
    unfold ins
    split
    · simp [sumP]; omega
    · split
      · simp [sumP]; omega
      · have := ins_sum p l; simp only [sumP, List.map_cons, List.sum_cons] at this ⊢; omega
theorem step_len (p : Pr) (st : Bool × List Pr) (x : Pr) : (putStep p st x).2.length ≤ st.2.length + 2 := by
  unfold putStep
  split <;> split <;> simp <;> omega
theorem fold_len (p : Pr) : ∀ (l : List Pr) (st : Bool × List Pr), (l.foldl (putStep p) st).2.length ≤ st.2.length + 2 * l.length
  | [], st => by simp
  | x :: l, st => by
    rw [List.foldl_cons]
    have h1 := fold_len p l (putStep p st x)
    have h2 := step_len p st x
    simp only [List.length_cons]; omega

theorem refPut_bad (mb : Nat) (v : Value) (p : Pr) (h : okP p = false) : FSpec Try.prog 117 [.pointer (some ⟨mb, 0, none⟩), .agg (prV p).toArray] [rmP mb v] Unit (fun _ => True) (fun _ => .int .i64 2) (fun _ => [rmP mb v]) := by
  have hm := refMay_spec p
  rw [h] at hm
  dsimp only [prV] at hm ⊢
  refine spec_intro [] _ Try.func117 rfl Try.ntmps117 (by rfl) (fun w0 R => ?_)
  repeat' (first | (refine go_Z ?_; intros) | (refine gs_Z ?_ ?_ <;> (intro hgd; try (simp only [Bool.not_true, Bool.not_false] at hgd))) | (refine gc_Z ?_ ?_ <;> intro _) | fail)
  refine cl_Z (hm) ?_
  intro _ _
  repeat' (first | (refine go_Z ?_; intros) | (refine gs_Z ?_ ?_ <;> (intro hgd; try (simp only [Bool.not_true, Bool.not_false] at hgd))) | (refine gc_Z ?_ ?_ <;> intro _) | fail)
  (refine rt_Z (y := ()) (hrs := Try.results117) (hv := ?_) (hφ := ?_))
  · rfl
  · trivial

set_option maxHeartbeats 1000000 in
theorem refPut_spec (mb : Nat) (v : Value) (l : List Pr) (p : Pr) (h : okP p = true) (hl : l.length ≤ 1000000) (hz : ∀ x ∈ l, x.k.size ≤ 512) :
    FSpec Try.prog 117 [.pointer (some ⟨mb, 0, none⟩), .agg (prV p).toArray] [rmP mb v, row 23 3 v (l.map prV)] { v : Value // v.oneCell' = true } (fun _ => True) (fun _ => .int .i64 0) (fun y => [rmP mb y.1, row 23 3 y.1 ((refPutL p l).map prV)]) := by
  have hm := refMay_spec p
  rw [h] at hm
  have hps := okP_k h
  have hlen : (l.map prV).length = l.length := by simp
  dsimp only [prV] at hm ⊢
  unfold rmP
  refine spec_intro [] _ Try.func117 rfl Try.ntmps117 (by rfl) (fun w0 R => ?_)
  refine ok_learn (VwIn.slice (VwIn.there (VwIn.here (Vw.row (e := 23) (n := 3) (v := v) (xs := l.map prV))))) ?_
  rintro ⟨pv, cv, rfl⟩
  repeat' (first | (refine go_Z ?_; intros) | (refine gs_Z ?_ ?_ <;> (intro hgd; try (simp only [Bool.not_true, Bool.not_false] at hgd))) | (refine gc_Z ?_ ?_ <;> intro _) | fail)
  refine cl_Z (hm) ?_
  intro _ _
  repeat' (first | (refine go_Z ?_; intros) | (refine gs_Z ?_ ?_ <;> (intro hgd; try (simp only [Bool.not_true, Bool.not_false] at hgd))) | (refine gc_Z ?_ ?_ <;> intro _) | fail)
  rename_i b3 _ _
  refine ok_map (fun _ h => rowNil (e := 23) (n := 3) h) ?_
  refine ok_map (L' := [pts mb (.cells [.slice pv (l.map prV).length cv].toArray 94), row 23 3 (.slice pv (l.map prV).length cv) (l.map prV), pts b3 (.cells [.string p.k, .string p.v, .bool p.g].toArray 23), row 23 3 (.slice none 0 0) (((l.take 0).foldl (putStep p) (false, [])).2.map prV)] ++ R) entD ?_
  refine ok_loop' (γ := Nat × { v : Value // v.oneCell' = true }) (fun q ρ L => q.1 ≤ l.length ∧ Knows ρ [(0, .pointer (some ⟨mb, 0, none⟩)), (3, .pointer (some ⟨b3, 0, none⟩)), (5, q.2.1), (6, .bool ((l.take q.1).foldl (putStep p) (false, [])).1), (7, .int .i64 q.1)] ∧
      L = [pts mb (.cells [.slice pv (l.map prV).length cv].toArray 94), row 23 3 (.slice pv (l.map prV).length cv) (l.map prV), pts b3 (.cells [.string p.k, .string p.v, .bool p.g].toArray 23), row 23 3 q.2.1 (((l.take q.1).foldl (putStep p) (false, [])).2.map prV)] ++ R) (fun q => l.length - q.1) (0, ⟨.slice none 0 0, rfl⟩) ⟨by simp, ⟨rfl, rfl, rfl, rfl, rfl, trivial⟩, rfl⟩ ?_
  rintro ⟨i, ⟨vo, hvo⟩⟩ ρ L ⟨hi, hk, rfl⟩
  dsimp only at hi hk ⊢
  refine ok_regs hk ?_
  have hfl := fold_len p (l.take i) (false, [])
  rw [List.length_take] at hfl
  simp only [List.length_nil] at hfl
  cases t1 : decide ((i : Int) < ((l.map prV).length : Int)) with
  | true =>
    have h : i < l.length := by simp at t1; omega
    have hn1 : i < (l.map prV).length := by omega
    have hx : (l.map prV)[i]? = some (prV l[i]) := by rw [List.getElem?_map, List.getElem?_eq_getElem h]; rfl
    have htk : l.take (i + 1) = l.take i ++ [l[i]] := List.take_succ_eq_append_getElem h
    have hxz := hz _ (List.getElem_mem h)
    have hfold0 : (l.take (i + 1)).foldl (putStep p) (false, []) = putStep p ((l.take i).foldl (putStep p) (false, [])) l[i] := by rw [htk, List.foldl_append]; rfl
    refine ok_learn (VwIn.base (n := 3) (p := pv) (len := (l.map prV).length) (cap := cv) (xs := l.map prV) (VwIn.there (VwIn.here Vw.row)) (by intro e; rw [e] at hn1; simp at hn1)) ?_
    rintro ⟨bu, ou, rfl⟩
    generalize l[i] = x at hx hxz hfold0
    have ha := refAhead_spec x.k p.k (by omega) (by omega)
    generalize hst : (l.take i).foldl (putStep p) (false, []) = st at hfl hfold0
    obtain ⟨dn, out⟩ := st
    dsimp only at hfl ⊢
    have hol : (out.map prV).length = out.length := by simp
    dsimp only [prV] at hx
    cases c2 : (!(x.k.toList == p.k.toList)) with
    | true =>
      cases dn with
      | true =>
        have hfold : (l.take (i + 1)).foldl (putStep p) (false, []) = (true, out ++ [] ++ [x]) := by
          rw [hfold0]; unfold putStep; rw [show (x.k.toList == p.k.toList) = false from by simpa using c2]; rfl
        repeat' (first | (refine go_Z ?_; intros) | (refine gs_Z ?_ ?_ <;> (intro hgd; try (simp only [Bool.not_true, Bool.not_false] at hgd))) | (refine gc_Z ?_ ?_ <;> intro _) | fail)
        rename_i vc hvc vd hvd
        refine cont_map (L' := [pts mb (.cells [.slice (some ⟨bu, ou, none⟩) (l.map prV).length cv].toArray 94), row 23 3 (.slice (some ⟨bu, ou, none⟩) (l.map prV).length cv) (l.map prV), pts b3 (.cells [.string p.k, .string p.v, .bool p.g].toArray 23), row 23 3 vd ((out.map prV) ++ [[.string x.k, .string x.v, .bool x.g]])] ++ R) entD ?_
        refine cont_back (i + 1, ⟨vd, hvd⟩) ⟨h, ⟨rfl, rfl, rfl, by dsimp only; rw [hfold]; rfl, rfl, trivial⟩, by dsimp only; rw [hfold]; simp only [List.map_append, List.map_cons, List.map_nil, List.append_nil]; try rfl⟩ (by dsimp only; omega)
      | false =>
        cases c1 : ltS x.k p.k with
        | true =>
          rw [c1] at ha
          have hfold : (l.take (i + 1)).foldl (putStep p) (false, []) = (false, out ++ [] ++ [x]) := by
            rw [hfold0]; unfold putStep; rw [show (x.k.toList == p.k.toList) = false from by simpa using c2]; rw [c1]; rfl
          repeat' (first | (refine go_Z ?_; intros) | (refine gs_Z ?_ ?_ <;> (intro hgd; try (simp only [Bool.not_true, Bool.not_false] at hgd))) | (refine gc_Z ?_ ?_ <;> intro _) | fail)
          refine cl_Z (ha) ?_
          intro _ _
          repeat' (first | (refine go_Z ?_; intros) | (refine gs_Z ?_ ?_ <;> (intro hgd; try (simp only [Bool.not_true, Bool.not_false] at hgd))) | (refine gc_Z ?_ ?_ <;> intro _) | fail)
          rename_i vc hvc vd hvd
          refine cont_map (L' := [pts mb (.cells [.slice (some ⟨bu, ou, none⟩) (l.map prV).length cv].toArray 94), row 23 3 (.slice (some ⟨bu, ou, none⟩) (l.map prV).length cv) (l.map prV), pts b3 (.cells [.string p.k, .string p.v, .bool p.g].toArray 23), row 23 3 vd ((out.map prV) ++ [[.string x.k, .string x.v, .bool x.g]])] ++ R) entD ?_
          refine cont_back (i + 1, ⟨vd, hvd⟩) ⟨h, ⟨rfl, rfl, rfl, by dsimp only; rw [hfold]; rfl, rfl, trivial⟩, by dsimp only; rw [hfold]; simp only [List.map_append, List.map_cons, List.map_nil, List.append_nil]; try rfl⟩ (by dsimp only; omega)
        | false =>
          rw [c1] at ha
          have hfold : (l.take (i + 1)).foldl (putStep p) (false, []) = (true, out ++ [p] ++ [x]) := by
            rw [hfold0]; unfold putStep; rw [show (x.k.toList == p.k.toList) = false from by simpa using c2]; rw [c1]; rfl
          repeat' (first | (refine go_Z ?_; intros) | (refine gs_Z ?_ ?_ <;> (intro hgd; try (simp only [Bool.not_true, Bool.not_false] at hgd))) | (refine gc_Z ?_ ?_ <;> intro _) | fail)
          refine cl_Z (ha) ?_
          intro _ _
          repeat' (first | (refine go_Z ?_; intros) | (refine gs_Z ?_ ?_ <;> (intro hgd; try (simp only [Bool.not_true, Bool.not_false] at hgd))) | (refine gc_Z ?_ ?_ <;> intro _) | fail)
          rename_i va hva vb hvb vc hvc vd hvd
          refine cont_map (L' := [pts mb (.cells [.slice (some ⟨bu, ou, none⟩) (l.map prV).length cv].toArray 94), row 23 3 (.slice (some ⟨bu, ou, none⟩) (l.map prV).length cv) (l.map prV), pts b3 (.cells [.string p.k, .string p.v, .bool p.g].toArray 23), row 23 3 vd (((out.map prV) ++ [[.string p.k, .string p.v, .bool p.g]]) ++ [[.string x.k, .string x.v, .bool x.g]])] ++ R) entD ?_
          refine cont_back (i + 1, ⟨vd, hvd⟩) ⟨h, ⟨rfl, rfl, rfl, by dsimp only; rw [hfold]; rfl, rfl, trivial⟩, by dsimp only; rw [hfold]; simp only [List.map_append, List.map_cons, List.map_nil, List.append_nil]; try rfl⟩ (by dsimp only; omega)
    | false =>
      cases dn with
      | true =>
        have hfold : (l.take (i + 1)).foldl (putStep p) (false, []) = (true, out ++ [] ++ []) := by
          rw [hfold0]; unfold putStep; rw [show (x.k.toList == p.k.toList) = true from by simpa using c2]; rfl
        repeat' (first | (refine go_Z ?_; intros) | (refine gs_Z ?_ ?_ <;> (intro hgd; try (simp only [Bool.not_true, Bool.not_false] at hgd))) | (refine gc_Z ?_ ?_ <;> intro _) | fail)
        refine cont_map (L' := [pts mb (.cells [.slice (some ⟨bu, ou, none⟩) (l.map prV).length cv].toArray 94), row 23 3 (.slice (some ⟨bu, ou, none⟩) (l.map prV).length cv) (l.map prV), pts b3 (.cells [.string p.k, .string p.v, .bool p.g].toArray 23), row 23 3 vo (out.map prV)] ++ R) entD ?_
        refine cont_back (i + 1, ⟨vo, hvo⟩) ⟨h, ⟨rfl, rfl, rfl, by dsimp only; rw [hfold]; rfl, rfl, trivial⟩, by dsimp only; rw [hfold]; simp only [List.map_append, List.map_cons, List.map_nil, List.append_nil]; try rfl⟩ (by dsimp only; omega)
      | false =>
        cases c1 : ltS x.k p.k with
        | true =>
          rw [c1] at ha
          have hfold : (l.take (i + 1)).foldl (putStep p) (false, []) = (false, out ++ [] ++ []) := by
            rw [hfold0]; unfold putStep; rw [show (x.k.toList == p.k.toList) = true from by simpa using c2]; rw [c1]; rfl
          repeat' (first | (refine go_Z ?_; intros) | (refine gs_Z ?_ ?_ <;> (intro hgd; try (simp only [Bool.not_true, Bool.not_false] at hgd))) | (refine gc_Z ?_ ?_ <;> intro _) | fail)
          refine cl_Z (ha) ?_
          intro _ _
          repeat' (first | (refine go_Z ?_; intros) | (refine gs_Z ?_ ?_ <;> (intro hgd; try (simp only [Bool.not_true, Bool.not_false] at hgd))) | (refine gc_Z ?_ ?_ <;> intro _) | fail)
          refine cont_map (L' := [pts mb (.cells [.slice (some ⟨bu, ou, none⟩) (l.map prV).length cv].toArray 94), row 23 3 (.slice (some ⟨bu, ou, none⟩) (l.map prV).length cv) (l.map prV), pts b3 (.cells [.string p.k, .string p.v, .bool p.g].toArray 23), row 23 3 vo (out.map prV)] ++ R) entD ?_
          refine cont_back (i + 1, ⟨vo, hvo⟩) ⟨h, ⟨rfl, rfl, rfl, by dsimp only; rw [hfold]; rfl, rfl, trivial⟩, by dsimp only; rw [hfold]; simp only [List.map_append, List.map_cons, List.map_nil, List.append_nil]; try rfl⟩ (by dsimp only; omega)
        | false =>
          rw [c1] at ha
          have hfold : (l.take (i + 1)).foldl (putStep p) (false, []) = (true, out ++ [p] ++ []) := by
            rw [hfold0]; unfold putStep; rw [show (x.k.toList == p.k.toList) = true from by simpa using c2]; rw [c1]; rfl
          repeat' (first | (refine go_Z ?_; intros) | (refine gs_Z ?_ ?_ <;> (intro hgd; try (simp only [Bool.not_true, Bool.not_false] at hgd))) | (refine gc_Z ?_ ?_ <;> intro _) | fail)
          refine cl_Z (ha) ?_
          intro _ _
          repeat' (first | (refine go_Z ?_; intros) | (refine gs_Z ?_ ?_ <;> (intro hgd; try (simp only [Bool.not_true, Bool.not_false] at hgd))) | (refine gc_Z ?_ ?_ <;> intro _) | fail)
          rename_i va hva vb hvb
          refine cont_map (L' := [pts mb (.cells [.slice (some ⟨bu, ou, none⟩) (l.map prV).length cv].toArray 94), row 23 3 (.slice (some ⟨bu, ou, none⟩) (l.map prV).length cv) (l.map prV), pts b3 (.cells [.string p.k, .string p.v, .bool p.g].toArray 23), row 23 3 vb ((out.map prV) ++ [[.string p.k, .string p.v, .bool p.g]])] ++ R) entD ?_
          refine cont_back (i + 1, ⟨vb, hvb⟩) ⟨h, ⟨rfl, rfl, rfl, by dsimp only; rw [hfold]; rfl, rfl, trivial⟩, by dsimp only; rw [hfold]; simp only [List.map_append, List.map_cons, List.map_nil, List.append_nil]; try rfl⟩ (by dsimp only; omega)
  | false =>
    have hie : i = l.length := by simp at t1; omega
    have hfull : l.take i = l := by rw [hie]; exact List.take_length
    unfold refPutL
    rw [hfull] at hfl hk ⊢
    generalize hst : l.foldl (putStep p) (false, []) = st at hfl hk ⊢
    obtain ⟨dn, out⟩ := st
    dsimp only at hfl hk ⊢
    have hol : (out.map prV).length = out.length := by simp
    unfold putEnd
    cases dn with
    | true =>
      simp only [if_true]
      repeat' (first | (refine go_Z ?_; intros) | (refine gs_Z ?_ ?_ <;> (intro hgd; try (simp only [Bool.not_true, Bool.not_false] at hgd))) | (refine gc_Z ?_ ?_ <;> intro _) | fail)
      (refine rt_Z (y := ⟨vo, hvo⟩) (hrs := Try.results117) (hv := ?_) (hφ := ?_))
      · rfl
      · trivial
    | false =>
      simp only [Bool.false_eq_true, if_false]
      repeat' (first | (refine go_Z ?_; intros) | (refine gs_Z ?_ ?_ <;> (intro hgd; try (simp only [Bool.not_true, Bool.not_false] at hgd))) | (refine gc_Z ?_ ?_ <;> intro _) | fail)
      rename_i va hva vb hvb
      rw [List.map_append]
      (refine rt_Z (y := ⟨vb, hvb⟩) (hrs := Try.results117) (hv := ?_) (hφ := ?_))
      · rfl
      · trivial
end Go.Proofs.Ytgmobpngcilgjaa
/- The walks of the law's sorted, and of the document's Get and Scan. -/
-- @DEFS Z
set_option linter.unusedSimpArgs false
set_option linter.unusedVariables false
set_option maxRecDepth 4000
namespace Go.Proofs.Ytgmobpngcilgjaa
open Go Go.Fx Go.Proofs Go.Pl

structure SrtOK (xs : List Pr) (l : List Pr) : Prop where
  srt : Sorted l
  ok : ∀ p ∈ l, okP p = true
  len : l.length ≤ xs.length
  sum : sumP l ≤ sumP xs

theorem sorted_spec (u : Value) (A : HProp) (xs : List Pr) (hA : Vw A 3 u (xs.map prV)) (hz : xs.length ≤ 1000) :
    FSpec Try.prog 61 [u] [A] (List Pr × { v : Value // v.oneCell' = true }) (fun y => SrtOK xs y.1) (fun y => y.2.1) (fun y => [A, row 23 3 y.2.1 (y.1.map prV)]) := by
  have hlen : (xs.map prV).length = xs.length := by simp
  refine spec_intro [] _ Try.func61 rfl Try.ntmps61 (by rfl) (fun w0 R => ?_)
  refine ok_learn (VwIn.slice (VwIn.here hA)) ?_
  rintro ⟨pu, cu, rfl⟩
  repeat' (first | (refine go_Z ?_; intros) | (refine gs_Z ?_ ?_ <;> (intro hgd; try (simp only [Bool.not_true, Bool.not_false] at hgd))) | (refine gc_Z ?_ ?_ <;> intro _) | fail)
  rename_i mb
  refine ok_map (fun _ h => rowNil (e := 23) (n := 3) h) ?_
  refine ok_map (L' := [rmP mb (.slice none 0 0), row 23 3 (.slice none 0 0) (([] : List Pr).map prV), A] ++ R) entD ?_
  refine ok_loop' (γ := Nat × List Pr × { v : Value // v.oneCell' = true }) (fun q ρ L => q.1 ≤ xs.length ∧ SrtOK (xs.take q.1) q.2.1 ∧ Knows ρ [(0, .slice pu (xs.map prV).length cu), (3, .pointer (some ⟨mb, 0, none⟩)), (4, .int .i64 q.1)] ∧ L = [rmP mb q.2.2.1, row 23 3 q.2.2.1 (q.2.1.map prV), A] ++ R) (fun q => xs.length - q.1) (0, [], ⟨.slice none 0 0, rfl⟩) ⟨by simp, ⟨by simp [Sorted], by simp, by simp, by simp [sumP]⟩, ⟨rfl, rfl, rfl, trivial⟩, rfl⟩ ?_
  rintro ⟨i, l, ⟨v, hv⟩⟩ ρ L ⟨hi, hs, hk, rfl⟩
  dsimp only at hi hs hk ⊢
  refine ok_regs hk ?_
  cases t1 : decide ((i : Int) < ((xs.map prV).length : Int)) with
  | false =>
    have hie : i = xs.length := by simp at t1; omega
    have hfull : xs.take i = xs := by rw [hie]; exact List.take_length
    rw [hfull] at hs
    repeat' (first | (refine go_Z ?_; intros) | (refine gs_Z ?_ ?_ <;> (intro hgd; try (simp only [Bool.not_true, Bool.not_false] at hgd))) | (refine gc_Z ?_ ?_ <;> intro _) | fail)
    (refine rt_Z (y := (l, ⟨v, hv⟩)) (hrs := Try.results61) (hv := ?_) (hφ := ?_))
    · rfl
    · exact hs
  | true =>
    have h : i < xs.length := by simp at t1; omega
    have hn1 : i < (xs.map prV).length := by omega
    have hx : (xs.map prV)[i]? = some (prV xs[i]) := by rw [List.getElem?_map, List.getElem?_eq_getElem h]; rfl
    have htk : xs.take (i + 1) = xs.take i ++ [xs[i]] := List.take_succ_eq_append_getElem h
    have hll := hs.len
    rw [List.length_take] at hll
    refine ok_learn (VwIn.base (VwIn.there (VwIn.there (VwIn.here hA))) (by intro e; rw [e] at hn1; simp at hn1)) ?_
    rintro ⟨bu, ou, rfl⟩
    generalize xs[i] = x at hx htk
    cases hok : okP x with
    | false =>
      have hp := refPut_bad mb v x hok
      dsimp only [prV] at hx hp
      repeat' (first | (refine go_Z ?_; intros) | (refine gs_Z ?_ ?_ <;> (intro hgd; try (simp only [Bool.not_true, Bool.not_false] at hgd))) | (refine gc_Z ?_ ?_ <;> intro _) | fail)
      refine cl_Z (hp) ?_
      intro _ _
      repeat' (first | (refine go_Z ?_; intros) | (refine gs_Z ?_ ?_ <;> (intro hgd; try (simp only [Bool.not_true, Bool.not_false] at hgd))) | (refine gc_Z ?_ ?_ <;> intro _) | fail)
      refine cont_map (L' := [rmP mb v, row 23 3 v (l.map prV), A] ++ R) entD ?_
      refine cont_back (i + 1, l, ⟨v, hv⟩) ⟨h, ⟨hs.srt, hs.ok, by dsimp only; rw [htk, List.length_append, List.length_singleton]; have := hs.len; omega, by dsimp only; rw [htk, sumP_snoc]; have := hs.sum; omega⟩, ⟨rfl, rfl, rfl, trivial⟩, rfl⟩ (by dsimp only; omega)
    | true =>
      have hp := refPut_spec mb v l x hok (by omega) (fun y hy => (okP_k (hs.ok y hy)).2.1)
      rw [refPutL_ins hs.srt] at hp
      dsimp only [prV] at hx hp
      have h1 := ins_len x l
      have h2 := ins_sum x l
      repeat' (first | (refine go_Z ?_; intros) | (refine gs_Z ?_ ?_ <;> (intro hgd; try (simp only [Bool.not_true, Bool.not_false] at hgd))) | (refine gc_Z ?_ ?_ <;> intro _) | fail)
      refine cl_Z (hp) ?_
      rintro ⟨v2, hv2⟩ _
      repeat' (first | (refine go_Z ?_; intros) | (refine gs_Z ?_ ?_ <;> (intro hgd; try (simp only [Bool.not_true, Bool.not_false] at hgd))) | (refine gc_Z ?_ ?_ <;> intro _) | fail)
      refine cont_map (L' := [rmP mb v2, row 23 3 v2 ((ins x l).map prV), A] ++ R) entD ?_
      refine cont_back (i + 1, ins x l, ⟨v2, hv2⟩) ⟨h, ⟨ins_sorted hs.srt, fun p hp => ?_, by dsimp only; rw [htk, List.length_append, List.length_singleton]; have := hs.len; omega, by dsimp only; rw [htk, sumP_snoc]; have := hs.sum; omega⟩, ⟨rfl, rfl, rfl, trivial⟩, rfl⟩ (by dsimp only; omega)
      rcases mem_ins hp with rfl | hp
      · exact hok
      · exact hs.ok p hp

theorem refGet_spec (mb : Nat) (v : Value) (l : List Pr) (key : BA) (hz : l.length ≤ 1000000) :
    FSpec Try.prog 62 [.pointer (some ⟨mb, 0, none⟩), .string key] [rmP mb v, row 23 3 v (l.map prV)] (Pr × Bool) (fun y => y.2 = true ↔ ∃ p ∈ l, p.k = key) (fun y => .tuple #[.agg (prV y.1).toArray, .bool y.2]) (fun _ => [rmP mb v, row 23 3 v (l.map prV)]) := by
  have hlen : (l.map prV).length = l.length := by simp
  unfold rmP
  refine spec_intro [] _ Try.func62 rfl Try.ntmps62 (by rfl) (fun w0 R => ?_)
  refine ok_learn (VwIn.slice (VwIn.there (VwIn.here (Vw.row (e := 23) (n := 3) (v := v) (xs := l.map prV))))) ?_
  rintro ⟨pv, cv, rfl⟩
  repeat' (first | (refine go_Z ?_; intros) | (refine gs_Z ?_ ?_ <;> (intro hgd; try (simp only [Bool.not_true, Bool.not_false] at hgd))) | (refine gc_Z ?_ ?_ <;> intro _) | fail)
  rename_i b4
  refine ok_map (L' := [pts mb (.cells [.slice pv (l.map prV).length cv].toArray 94), row 23 3 (.slice pv (l.map prV).length cv) (l.map prV), pts b4 (.cells [.string ⟨#[]⟩, .string ⟨#[]⟩, .bool false].toArray 23)] ++ R) entD ?_
  refine ok_loop' (γ := Nat) (fun i ρ L => i ≤ l.length ∧ (∀ x ∈ l.take i, x.k ≠ key) ∧ Knows ρ [(0, .pointer (some ⟨mb, 0, none⟩)), (1, .string key), (4, .pointer (some ⟨b4, 0, none⟩)), (6, .int .i64 i)] ∧
      L = [pts mb (.cells [.slice pv (l.map prV).length cv].toArray 94), row 23 3 (.slice pv (l.map prV).length cv) (l.map prV), pts b4 (.cells [.string ⟨#[]⟩, .string ⟨#[]⟩, .bool false].toArray 23)] ++ R) (fun i => l.length - i) 0 ⟨by simp, by simp, ⟨rfl, rfl, rfl, rfl, trivial⟩, rfl⟩ ?_
  rintro i ρ L ⟨hi, hno, hk, rfl⟩
  refine ok_regs hk ?_
  cases t1 : decide ((i : Int) < ((l.map prV).length : Int)) with
  | false =>
    have hie : i = l.length := by simp at t1; omega
    have hfull : l.take i = l := by rw [hie]; exact List.take_length
    rw [hfull] at hno
    repeat' (first | (refine go_Z ?_; intros) | (refine gs_Z ?_ ?_ <;> (intro hgd; try (simp only [Bool.not_true, Bool.not_false] at hgd))) | (refine gc_Z ?_ ?_ <;> intro _) | fail)
    (refine rt_Z (y := (pr0, false)) (hrs := Try.results62) (hv := ?_) (hφ := ?_))
    · rfl
    · constructor
      · intro h; cases h
      · rintro ⟨p, hp, hk⟩; exact absurd hk (hno p hp)
  | true =>
    have h : i < l.length := by simp at t1; omega
    have hn1 : i < (l.map prV).length := by omega
    have hx : (l.map prV)[i]? = some (prV l[i]) := by rw [List.getElem?_map, List.getElem?_eq_getElem h]; rfl
    have htk : l.take (i + 1) = l.take i ++ [l[i]] := List.take_succ_eq_append_getElem h
    have hmem := List.getElem_mem h
    refine ok_learn (VwIn.base (n := 3) (p := pv) (len := (l.map prV).length) (cap := cv) (xs := l.map prV) (VwIn.there (VwIn.here Vw.row)) (by intro e; rw [e] at hn1; simp at hn1)) ?_
    rintro ⟨bu, ou, rfl⟩
    generalize l[i] = x at hx htk hmem
    dsimp only [prV] at hx
    cases c : (x.k.toList == key.toList) with
    | true =>
      have hk := eqS_iff.1 c
      repeat' (first | (refine go_Z ?_; intros) | (refine gs_Z ?_ ?_ <;> (intro hgd; try (simp only [Bool.not_true, Bool.not_false] at hgd))) | (refine gc_Z ?_ ?_ <;> intro _) | fail)
      (refine rt_Z (y := (x, true)) (hrs := Try.results62) (hv := ?_) (hφ := ?_))
      · rfl
      · exact ⟨fun _ => ⟨x, hmem, hk⟩, fun _ => rfl⟩
    | false =>
      have hne : x.k ≠ key := fun e => by rw [eqS_iff.2 e] at c; cases c
      repeat' (first | (refine go_Z ?_; intros) | (refine gs_Z ?_ ?_ <;> (intro hgd; try (simp only [Bool.not_true, Bool.not_false] at hgd))) | (refine gc_Z ?_ ?_ <;> intro _) | fail)
      refine cont_back (i + 1) ⟨h, fun y hy => ?_, ⟨rfl, rfl, rfl, rfl, trivial⟩, rfl⟩ (by omega)
      rw [htk] at hy
      rcases List.mem_append.1 hy with hy | hy
      · exact hno y hy
      · rw [List.mem_singleton] at hy; subst hy; exact hne

theorem refScan_spec (mb : Nat) (v : Value) (l : List Pr) (fr to : BA) (most : Int) (hz : l.length ≤ 1000000) (hk : ∀ x ∈ l, x.k.size ≤ 512) (h2 : fr.size ≤ 4611686018427387904) (h3 : to.size ≤ 4611686018427387904) :
    FSpec Try.prog 64 [.pointer (some ⟨mb, 0, none⟩), .string fr, .string to, .int .i64 most] [rmP mb v, row 23 3 v (l.map prV)] { v : Value // v.oneCell' = true } (fun _ => True) (fun y => y.1) (fun y => [rmP mb v, row 23 3 v (l.map prV), row 23 3 y.1 ((scanR l fr to most.toNat).map prV)]) := by
  have hlen : (l.map prV).length = l.length := by simp
  unfold rmP
  refine spec_intro [] _ Try.func64 rfl Try.ntmps64 (by rfl) (fun w0 R => ?_)
  refine ok_learn (VwIn.slice (VwIn.there (VwIn.here (Vw.row (e := 23) (n := 3) (v := v) (xs := l.map prV))))) ?_
  rintro ⟨pv, cv, rfl⟩
  repeat' (first | (refine go_Z ?_; intros) | (refine gs_Z ?_ ?_ <;> (intro hgd; try (simp only [Bool.not_true, Bool.not_false] at hgd))) | (refine gc_Z ?_ ?_ <;> intro _) | fail)
  refine ok_map (fun _ h => rowNil (e := 23) (n := 3) h) ?_
  refine ok_map (L' := [pts mb (.cells [.slice pv (l.map prV).length cv].toArray 94), row 23 3 (.slice pv (l.map prV).length cv) (l.map prV), row 23 3 (.slice none 0 0) (((l.take 0).filter (withB fr to)).map prV)] ++ R) entD ?_
  refine ok_loop' (γ := Nat × { v : Value // v.oneCell' = true }) (fun q ρ L => q.1 ≤ l.length ∧ ((l.take q.1).filter (withB fr to)).length ≤ most.toNat ∧ Knows ρ [(0, .pointer (some ⟨mb, 0, none⟩)), (1, .string fr), (2, .string to), (3, .int .i64 most), (9, q.2.1), (10, .int .i64 q.1)] ∧
      L = [pts mb (.cells [.slice pv (l.map prV).length cv].toArray 94), row 23 3 (.slice pv (l.map prV).length cv) (l.map prV), row 23 3 q.2.1 (((l.take q.1).filter (withB fr to)).map prV)] ++ R) (fun q => l.length - q.1) (0, ⟨.slice none 0 0, rfl⟩) ⟨by simp, by simp, ⟨rfl, rfl, rfl, rfl, rfl, rfl, trivial⟩, rfl⟩ ?_
  rintro ⟨i, ⟨vo, hvo⟩⟩ ρ L ⟨hi, hm, hk', rfl⟩
  dsimp only at hi hm hk' ⊢
  refine ok_regs hk' ?_
  have hfl : ((l.take i).filter (withB fr to)).length ≤ i := by
    have := List.length_filter_le (withB fr to) (l.take i)
    rw [List.length_take] at this; omega
  cases t1 : decide ((i : Int) < ((l.map prV).length : Int)) with
  | false =>
    have hie : i = l.length := by simp at t1; omega
    have hfull : l.take i = l := by rw [hie]; exact List.take_length
    rw [hfull] at hm
    have hr : scanR l fr to most.toNat = (l.take i).filter (withB fr to) := by
      rw [hfull]; unfold scanR; exact List.take_of_length_le hm
    rw [hr]
    repeat' (first | (refine go_Z ?_; intros) | (refine gs_Z ?_ ?_ <;> (intro hgd; try (simp only [Bool.not_true, Bool.not_false] at hgd))) | (refine gc_Z ?_ ?_ <;> intro _) | fail)
    (refine rt_Z (y := ⟨vo, hvo⟩) (hrs := Try.results64) (hv := ?_) (hφ := ?_))
    · rfl
    · trivial
  | true =>
    have h : i < l.length := by simp at t1; omega
    have hn1 : i < (l.map prV).length := by omega
    have hx : (l.map prV)[i]? = some (prV l[i]) := by rw [List.getElem?_map, List.getElem?_eq_getElem h]; rfl
    have htk : l.take (i + 1) = l.take i ++ [l[i]] := List.take_succ_eq_append_getElem h
    have hdx : l.drop i = l[i] :: l.drop (i + 1) := List.drop_eq_getElem_cons h
    have hkx := hk _ (List.getElem_mem h)
    have hrest : scanR l fr to most.toNat = (((l.take i).filter (withB fr to)) ++ ((l.drop i).filter (withB fr to))).take most.toNat := by
      unfold scanR
      rw [← List.filter_append, List.take_append_drop]
    refine ok_learn (VwIn.base (n := 3) (p := pv) (len := (l.map prV).length) (cap := cv) (xs := l.map prV) (VwIn.there (VwIn.here Vw.row)) (by intro e; rw [e] at hn1; simp at hn1)) ?_
    rintro ⟨bu, ou, rfl⟩
    generalize l[i] = x at hx htk hdx hkx
    generalize hout : (l.take i).filter (withB fr to) = out at hm hfl hrest ⊢
    have hol : (out.map prV).length = out.length := by simp
    cases t2 : decide (((out.map prV).length : Int) < most) with
    | false =>
      have hfull : most.toNat ≤ out.length := by simp at t2; omega
      have hr : scanR l fr to most.toNat = out := by
        rw [hrest, List.take_append_of_le_length (by omega)]
        exact List.take_of_length_le (by omega)
      rw [hr]
      repeat' (first | (refine go_Z ?_; intros) | (refine gs_Z ?_ ?_ <;> (intro hgd; try (simp only [Bool.not_true, Bool.not_false] at hgd))) | (refine gc_Z ?_ ?_ <;> intro _) | fail)
      (refine rt_Z (y := ⟨vo, hvo⟩) (hrs := Try.results64) (hv := ?_) (hφ := ?_))
      · rfl
      · trivial
    | true =>
      have hlt : out.length < most.toNat := by simp at t2; omega
      have hw := refWithin_spec x.k fr to x rfl (by omega) h2 h3
      dsimp only [prV] at hx
      cases hb : withB fr to x with
      | true =>
        rw [hb] at hw
        have hflt : (l.take (i + 1)).filter (withB fr to) = out ++ [x] := by rw [htk, List.filter_append, hout]; simp [hb]
        repeat' (first | (refine go_Z ?_; intros) | (refine gs_Z ?_ ?_ <;> (intro hgd; try (simp only [Bool.not_true, Bool.not_false] at hgd))) | (refine gc_Z ?_ ?_ <;> intro _) | fail)
        refine cl_Z (hw) ?_
        intro _ _
        repeat' (first | (refine go_Z ?_; intros) | (refine gs_Z ?_ ?_ <;> (intro hgd; try (simp only [Bool.not_true, Bool.not_false] at hgd))) | (refine gc_Z ?_ ?_ <;> intro _) | fail)
        rename_i va hva vb hvb
        refine cont_map (L' := [pts mb (.cells [.slice (some ⟨bu, ou, none⟩) (l.map prV).length cv].toArray 94), row 23 3 (.slice (some ⟨bu, ou, none⟩) (l.map prV).length cv) (l.map prV), row 23 3 vb (((l.take (i + 1)).filter (withB fr to)).map prV)] ++ R) (by rw [hflt, List.map_append]; exact entD) ?_
        refine cont_back (i + 1, ⟨vb, hvb⟩) ⟨h, by dsimp only; rw [hflt]; simp; omega, ⟨rfl, rfl, rfl, rfl, rfl, rfl, trivial⟩, rfl⟩ (by dsimp only; omega)
      | false =>
        rw [hb] at hw
        have hflt : (l.take (i + 1)).filter (withB fr to) = out := by rw [htk, List.filter_append, hout]; simp [hb]
        repeat' (first | (refine go_Z ?_; intros) | (refine gs_Z ?_ ?_ <;> (intro hgd; try (simp only [Bool.not_true, Bool.not_false] at hgd))) | (refine gc_Z ?_ ?_ <;> intro _) | fail)
        refine cl_Z (hw) ?_
        intro _ _
        repeat' (first | (refine go_Z ?_; intros) | (refine gs_Z ?_ ?_ <;> (intro hgd; try (simp only [Bool.not_true, Bool.not_false] at hgd))) | (refine gc_Z ?_ ?_ <;> intro _) | fail)
        refine cont_map (L' := [pts mb (.cells [.slice (some ⟨bu, ou, none⟩) (l.map prV).length cv].toArray 94), row 23 3 (.slice (some ⟨bu, ou, none⟩) (l.map prV).length cv) (l.map prV), row 23 3 vo (((l.take (i + 1)).filter (withB fr to)).map prV)] ++ R) (by rw [hflt]; exact entD) ?_
        refine cont_back (i + 1, ⟨vo, hvo⟩) ⟨h, by dsimp only; rw [hflt]; omega, ⟨rfl, rfl, rfl, rfl, rfl, rfl, trivial⟩, rfl⟩ (by dsimp only; omega)
end Go.Proofs.Ytgmobpngcilgjaa
