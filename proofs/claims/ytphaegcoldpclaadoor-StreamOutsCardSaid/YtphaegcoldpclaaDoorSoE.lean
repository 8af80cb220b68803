import Derived.Test.YtphaegcoldpclaaDoorG10
import Derived.Test.YtphaegcoldpclaaDoorSrA
import Derived.Test.YtphaegcoldpclaaDoorQaF
import Derived.Test.YtphaegcoldpclaaDoorL14E
import Derived.Test.YtphaegcoldpclaaDoorSoP
set_option linter.unusedSimpArgs false
set_option linter.unusedVariables false
set_option maxRecDepth 100000
namespace Go.Proofs.YtphaegcoldpclaaDoor
open Go Go.Fx Go.Proofs Go.Pl

def txV (s : BA) : List Value := [.string s]
theorem topics20_spec (vs : Value) (ts : List Tb) (A : HProp) (h : SV A vs ts) (hl : ts.length ≤ 12) :
    FSpec Tryd.prog 16 [.agg #[vs]] [A] V1s (fun _ => True) (fun y => y.1) (fun y => [row 9 1 y.1 ((topicsS (ts.map Tb.c)).map txV), A]) := by
  have hA := h.vw
  have l1 : (ts.map tbV).length = ts.length := by simp
  have hn := fun t ht => (h.tab t ht).nm
  refine spec_intro [] _ Tryd.func16 rfl Tryd.ntmps16 (by rfl) (fun w0 R => ?_)
  refine ok_learn (VwIn.slice (VwIn.here hA)) ?_
  rintro ⟨pv, cv, rfl⟩
  repeat' (first | (refine go_Y ?_; intros) | (refine gs_Y ?_ ?_ <;> (intro hgd; try (simp only [Bool.not_true, Bool.not_false] at hgd))) | (refine gc_Y ?_ ?_ <;> intro _) | fail)
  rename_i b1 v0 hv0
  refine ok_map (L' := [row 9 1 v0 [[.string ⟨#[109, 97, 114, 107, 115]⟩]], A, pts b1 (.cells [.slice pv (ts.map tbV).length cv].toArray 24)] ++ R) entD ?_
  refine ok_loop' (γ := Nat × V1s) (fun g ρ L => g.1 ≤ ts.length ∧ Knows ρ [(1, .pointer (some ⟨b1, 0, none⟩)), (3, g.2.1), (4, .int .i64 (g.1 : Int))] ∧
      L = [row 9 1 g.2.1 (((topicsS (ts.map Tb.c)).take (g.1 + 1)).map txV), A, pts b1 (.cells [.slice pv (ts.map tbV).length cv].toArray 24)] ++ R) (fun g => ts.length - g.1) (0, ⟨v0, hv0⟩) ⟨Nat.zero_le _, ⟨rfl, rfl, rfl, trivial⟩, rfl⟩ ?_
  rintro ⟨k, u, hu⟩ ρ L ⟨hk0, hk, rfl⟩
  dsimp only at hk0 hk ⊢
  refine ok_regs hk ?_
  have htl : (topicsS (ts.map Tb.c)).length = ts.length + 1 := by simp [topicsS]
  cases t1 : decide ((k : Int) < ((ts.map tbV).length : Int)) with
  | false =>
    have hje : k = ts.length := by rw [decide_eq_false_iff_not] at t1; omega
    subst hje
    rw [List.take_of_length_le (by omega)]
    repeat' (first | (refine go_Y ?_; intros) | (refine gs_Y ?_ ?_ <;> (intro hgd; try (simp only [Bool.not_true, Bool.not_false] at hgd))) | (refine gc_Y ?_ ?_ <;> intro _) | fail)
    (refine rt_Y (y := ⟨u, hu⟩) (hrs := Tryd.results16) (hv := ?_) (hφ := ?_))
    · rfl
    · trivial
  | true =>
    have hj0 : k < ts.length := by rw [decide_eq_true_eq] at t1; omega
    have hx : (ts.map tbV)[k]? = some (tbV ts[k]) := by rw [List.getElem?_map, List.getElem?_eq_getElem hj0]; rfl
    have hjn : k < (ts.map tbV).length := by omega
    have hst : ((topicsS (ts.map Tb.c)).take (k + 1 + 1)).map txV = ((topicsS (ts.map Tb.c)).take (k + 1)).map txV ++ [(Value.string (⟨#[116, 45]⟩ ++ ts[k].name)).cells.toList] := by
      rw [List.take_succ_eq_append_getElem (by omega), List.map_append]
      congr 1
      have : (topicsS (ts.map Tb.c))[k + 1]'(by omega) = ⟨#[116, 45]⟩ ++ ts[k].name := by
        unfold topicsS
        rw [List.getElem_cons_succ, List.getElem_map, List.getElem_map]; rfl
      rw [List.map_cons, List.map_nil, this]; rfl
    have hnm := hn _ (List.getElem_mem hj0)
    have hz : (⟨#[116, 45]⟩ : BA).size = 2 := rfl
    have hrl : ((topicsS (ts.map Tb.c)).take (k + 1)).length ≤ 13 := by rw [List.length_take]; omega
    refine ok_learn (VwIn.base (VwIn.there (VwIn.here hA)) (by intro e; rw [e] at hjn; simp at hjn)) ?_
    rintro ⟨bu, ou, rfl⟩
    generalize ts[k] = x at hx hst hnm
    obtain ⟨nm, cols, ⟨xc, hxc⟩, ky, rf, pr⟩ := x
    dsimp only [tbV] at hx hst hnm
    repeat' (first | (refine go_Y ?_; intros) | (refine gs_Y ?_ ?_ <;> (intro hgd; try (simp only [Bool.not_true, Bool.not_false] at hgd))) | (refine gc_Y ?_ ?_ <;> intro _) | fail)
    rename_i v3 hv3 v4 hv4
    rw [← hst]
    refine cont_map (L' := [row 9 1 v4 (((topicsS (ts.map Tb.c)).take (k + 1 + 1)).map txV), A, pts b1 (.cells [.slice (some ⟨bu, ou, none⟩) (ts.map tbV).length cv].toArray 24)] ++ R) entD ?_
    refine cont_back (k + 1, ⟨v4, hv4⟩) ⟨hj0, ⟨rfl, rfl, rfl, trivial⟩, rfl⟩ (by show ts.length - (k + 1) < ts.length - k; omega)
theorem texts_spec (l : List BA) (u w : Value) (A B : HProp) (hA : Vw A 1 u (l.map txV)) (hB : Vw B 1 w (l.map txV)) (hl : l.length ≤ 1000000) :
    FSpec Tryd.prog 15 [u, w] [A, B] Unit (fun _ => True) (fun _ => .bool true) (fun _ => [A, B]) := by
  have ll : (l.map txV).length = l.length := by simp
  have e0 : (!decide (((l.map txV).length : Int) = ((l.map txV).length : Int))) = false := by simp
  refine spec_intro [] _ Tryd.func15 rfl Tryd.ntmps15 (by rfl) (fun w0 R => ?_)
  refine ok_learn (VwIn.slice (VwIn.here hA)) ?_
  rintro ⟨pu, cu, rfl⟩
  refine ok_learn (VwIn.slice (VwIn.there (VwIn.here hB))) ?_
  rintro ⟨pw, cw, rfl⟩
  repeat' (first | (refine go_Y ?_; intros) | (refine gs_Y ?_ ?_ <;> (intro hgd; try (simp only [Bool.not_true, Bool.not_false] at hgd))) | (refine gc_Y ?_ ?_ <;> intro _) | fail)
  refine ok_loop' (γ := Nat) (fun j ρ L => j ≤ l.length ∧ Knows ρ [(0, .slice pu (l.map txV).length cu), (1, .slice pw (l.map txV).length cw), (5, .int .i64 (j : Int))] ∧ L = [A, B] ++ R) (fun j => l.length - j) 0 ⟨by omega, ⟨rfl, rfl, rfl, trivial⟩, rfl⟩ ?_
  rintro j ρ L ⟨hj, hk, rfl⟩
  refine ok_regs hk ?_
  cases t1 : decide ((j : Int) < ((l.map txV).length : Int)) with
  | false =>
    repeat' (first | (refine go_Y ?_; intros) | (refine gs_Y ?_ ?_ <;> (intro hgd; try (simp only [Bool.not_true, Bool.not_false] at hgd))) | (refine gc_Y ?_ ?_ <;> intro _) | fail)
    (refine rt_Y (y := ()) (hrs := Tryd.results15) (hv := ?_) (hφ := ?_))
    · rfl
    · trivial
  | true =>
    have hj0 : j < l.length := by rw [decide_eq_true_eq] at t1; omega
    have hx : (l.map txV)[j]? = some (txV l[j]) := by rw [List.getElem?_map, List.getElem?_eq_getElem hj0]; rfl
    have hjn : j < (l.map txV).length := by omega
    refine ok_learn (VwIn.base (n := 1) (p := pu) (len := (l.map txV).length) (cap := cu) (xs := l.map txV) (VwIn.here hA) (by intro e; rw [e] at hjn; simp at hjn)) ?_
    rintro ⟨bl, ol, rfl⟩
    refine ok_learn (VwIn.base (n := 1) (p := pw) (len := (l.map txV).length) (cap := cw) (xs := l.map txV) (VwIn.there (VwIn.here hB)) (by intro e; rw [e] at hjn; simp at hjn)) ?_
    rintro ⟨bw, ow, rfl⟩
    generalize l[j] = x at hx
    dsimp only [txV] at hx
    have e1 : (!(x.toList == x.toList)) = false := by simp
    repeat' (first | (refine go_Y ?_; intros) | (refine gs_Y ?_ ?_ <;> (intro hgd; try (simp only [Bool.not_true, Bool.not_false] at hgd))) | (refine gc_Y ?_ ?_ <;> intro _) | fail)
    refine cont_back (j + 1) ⟨hj0, ⟨rfl, rfl, rfl, trivial⟩, rfl⟩ (by omega)
set_option maxHeartbeats 8000000 in
theorem may20_spec (vs uq ul : Value) (ts : List Tb) (m tx : Int) (qs : List Int) (cs : List Cm) (A : HProp) (hvc : vs.oneCell' = true) (h : SV A vs ts) (hU : UT A) (hB : Vw A 1 uq (qs.map sqV)) (hL : Vw A 4 ul (cs.map cmV)) (hR : ∀ x ∈ cs, CmR A x)
    (hwf : ∀ x ∈ cs, (∀ v ∈ x.bef, v.wf) ∧ (∀ v ∈ x.aft, v.wf) ∧ x.bef.length ≤ 1000000 ∧ x.aft.length ≤ 1000000) (hql : qs.length ≤ 4611686018427387904) (hcl : cs.length ≤ 4611686018427387904) :
    FSpec Tryd.prog 17 [.agg #[vs], .agg #[.int .u64 m, uq], .int .u64 tx, ul] [A] Unit (fun _ => True) (fun _ => .bool (mayOf (ts.map Tb.c) m qs (cs.map Cm.c))) (fun _ => [A]) := by
  have hm := mayOf_cm ts m qs cs
  generalize mayOf (ts.map Tb.c) m qs (cs.map Cm.c) = T at hm
  have hA := h.vw
  have hmay := rMay_spec vs ts A hvc h
  have l1 : (ts.map tbV).length = ts.length := by simp
  have l3 : (cs.map cmV).length = cs.length := by simp
  have hfit := fits20P_spec m qs vs uq ts A hA hB hql
  cases hc : checkS (ts.map Tb.c) with
  | false =>
    obtain rfl : T = false := by rw [hm, hc]; rfl
    rw [hc] at hmay
    refine spec_intro [] _ Tryd.func17 rfl Tryd.ntmps17 (by rfl) (fun w0 R => ?_)
    refine ok_learn (VwIn.slice (VwIn.here hA)) ?_
    rintro ⟨pv, cv, rfl⟩
    refine ok_learn (VwIn.slice (VwIn.here hB)) ?_
    rintro ⟨pq, cq, rfl⟩
    repeat' (first | (refine go_Y ?_; intros) | (refine gs_Y ?_ ?_ <;> (intro hgd; try (simp only [Bool.not_true, Bool.not_false] at hgd))) | (refine gc_Y ?_ ?_ <;> intro _) | fail)
    refine cl_Y (hmay) ?_
    intro _ _
    repeat' (first | (refine go_Y ?_; intros) | (refine gs_Y ?_ ?_ <;> (intro hgd; try (simp only [Bool.not_true, Bool.not_false] at hgd))) | (refine gc_Y ?_ ?_ <;> intro _) | fail)
    (refine rt_Y (y := ()) (hrs := Tryd.results17) (hv := ?_) (hφ := ?_))
    · rfl
    · trivial
  | true =>
  rw [hc] at hmay
  rw [hc, Bool.true_and] at hm
  cases hf : fitsP ts.length m qs with
  | false =>
    obtain rfl : T = false := by rw [hm, hf]; rfl
    rw [hf] at hfit
    refine spec_intro [] _ Tryd.func17 rfl Tryd.ntmps17 (by rfl) (fun w0 R => ?_)
    refine ok_learn (VwIn.slice (VwIn.here hA)) ?_
    rintro ⟨pv, cv, rfl⟩
    refine ok_learn (VwIn.slice (VwIn.here hB)) ?_
    rintro ⟨pq, cq, rfl⟩
    repeat' (first | (refine go_Y ?_; intros) | (refine gs_Y ?_ ?_ <;> (intro hgd; try (simp only [Bool.not_true, Bool.not_false] at hgd))) | (refine gc_Y ?_ ?_ <;> intro _) | fail)
    refine cl_Y (hmay) ?_
    intro _ _
    repeat' (first | (refine go_Y ?_; intros) | (refine gs_Y ?_ ?_ <;> (intro hgd; try (simp only [Bool.not_true, Bool.not_false] at hgd))) | (refine gc_Y ?_ ?_ <;> intro _) | fail)
    refine cl_Y (hfit) ?_
    intro _ _
    repeat' (first | (refine go_Y ?_; intros) | (refine gs_Y ?_ ?_ <;> (intro hgd; try (simp only [Bool.not_true, Bool.not_false] at hgd))) | (refine gc_Y ?_ ?_ <;> intro _) | fail)
    (refine rt_Y (y := ()) (hrs := Tryd.results17) (hv := ?_) (hφ := ?_))
    · rfl
    · trivial
  | true =>
  rw [hf] at hfit
  rw [hf, Bool.true_and] at hm
  cases c3 : decide ((200 : Int) < ((cs.map cmV).length : Int)) with
  | true =>
    obtain rfl : T = false := by rw [hm, show decide (cs.length ≤ 200) = false by rw [decide_eq_true_eq] at c3; rw [decide_eq_false_iff_not]; omega]; rfl
    refine spec_intro [] _ Tryd.func17 rfl Tryd.ntmps17 (by rfl) (fun w0 R => ?_)
    refine ok_learn (VwIn.slice (VwIn.here hA)) ?_
    rintro ⟨pv, cv, rfl⟩
    refine ok_learn (VwIn.slice (VwIn.here hB)) ?_
    rintro ⟨pq, cq, rfl⟩
    refine ok_learn (VwIn.slice (VwIn.here hL)) ?_
    rintro ⟨pl, cl, rfl⟩
    repeat' (first | (refine go_Y ?_; intros) | (refine gs_Y ?_ ?_ <;> (intro hgd; try (simp only [Bool.not_true, Bool.not_false] at hgd))) | (refine gc_Y ?_ ?_ <;> intro _) | fail)
    refine cl_Y (hmay) ?_
    intro _ _
    repeat' (first | (refine go_Y ?_; intros) | (refine gs_Y ?_ ?_ <;> (intro hgd; try (simp only [Bool.not_true, Bool.not_false] at hgd))) | (refine gc_Y ?_ ?_ <;> intro _) | fail)
    refine cl_Y (hfit) ?_
    intro _ _
    repeat' (first | (refine go_Y ?_; intros) | (refine gs_Y ?_ ?_ <;> (intro hgd; try (simp only [Bool.not_true, Bool.not_false] at hgd))) | (refine gc_Y ?_ ?_ <;> intro _) | fail)
    (refine rt_Y (y := ()) (hrs := Tryd.results17) (hv := ?_) (hφ := ?_))
    · rfl
    · trivial
  | false =>
  have hle : cs.length ≤ 200 := by rw [decide_eq_false_iff_not] at c3; omega
  rw [show decide (cs.length ≤ 200) = true by rw [decide_eq_true_eq]; exact hle, Bool.true_and] at hm
  refine spec_intro [] _ Tryd.func17 rfl Tryd.ntmps17 (by rfl) (fun w0 R => ?_)
  refine ok_learn (VwIn.slice (VwIn.here hA)) ?_
  rintro ⟨pv, cv, rfl⟩
  refine ok_learn (VwIn.slice (VwIn.here hB)) ?_
  rintro ⟨pq, cq, rfl⟩
  refine ok_learn (VwIn.slice (VwIn.here hL)) ?_
  rintro ⟨pl, cl, rfl⟩
  repeat' (first | (refine go_Y ?_; intros) | (refine gs_Y ?_ ?_ <;> (intro hgd; try (simp only [Bool.not_true, Bool.not_false] at hgd))) | (refine gc_Y ?_ ?_ <;> intro _) | fail)
  rename_i b4 b5
  refine cl_Y (hmay) ?_
  intro _ _
  repeat' (first | (refine go_Y ?_; intros) | (refine gs_Y ?_ ?_ <;> (intro hgd; try (simp only [Bool.not_true, Bool.not_false] at hgd))) | (refine gc_Y ?_ ?_ <;> intro _) | fail)
  refine cl_Y (hfit) ?_
  intro _ _
  repeat' (first | (refine go_Y ?_; intros) | (refine gs_Y ?_ ?_ <;> (intro hgd; try (simp only [Bool.not_true, Bool.not_false] at hgd))) | (refine gc_Y ?_ ?_ <;> intro _) | fail)
  refine ok_map (L' := [A, pts b4 (.cells [.slice pv (ts.map tbV).length cv].toArray 24)] ++ R) entD ?_
  refine ok_loop' (γ := Nat) (fun j ρ L => j ≤ cs.length ∧ ((cs.take j).all fun c => decide (c.table < (ts.length : Int)) && mayE 0 0 c.c) = true ∧ Knows ρ [(2, .int .u64 tx), (3, .slice pl (cs.map cmV).length cl), (4, .pointer (some ⟨b4, 0, none⟩)), (9, .int .i64 (j : Int))] ∧
      L = [A, pts b4 (.cells [.slice pv (ts.map tbV).length cv].toArray 24)] ++ R) (fun j => cs.length - j) 0 ⟨by omega, rfl, ⟨rfl, rfl, rfl, rfl, trivial⟩, rfl⟩ ?_
  rintro j ρ L ⟨hj, hal, hk, rfl⟩
  refine ok_regs hk ?_
  cases v1 : decide ((j : Int) < ((cs.map cmV).length : Int)) with
  | false =>
    have hje : j = cs.length := by rw [decide_eq_false_iff_not] at v1; omega
    subst hje
    rw [List.take_length] at hal
    obtain rfl : T = true := by rw [hm]; exact hal
    repeat' (first | (refine go_Y ?_; intros) | (refine gs_Y ?_ ?_ <;> (intro hgd; try (simp only [Bool.not_true, Bool.not_false] at hgd))) | (refine gc_Y ?_ ?_ <;> intro _) | fail)
    (refine rt_Y (y := ()) (hrs := Tryd.results17) (hv := ?_) (hφ := ?_))
    · rfl
    · trivial
  | true =>
    have hj0 : j < cs.length := by rw [decide_eq_true_eq] at v1; omega
    have hx : (cs.map cmV)[j]? = some (cmV cs[j]) := by rw [List.getElem?_map, List.getElem?_eq_getElem hj0]; rfl
    have hjn : j < (cs.map cmV).length := by omega
    have hRj := hR _ (List.getElem_mem hj0)
    obtain ⟨hwb, hwa, hlb, hla⟩ := hwf _ (List.getElem_mem hj0)
    have hfl := all_false_of (p := fun c : Cm => decide (c.table < (ts.length : Int)) && mayE 0 0 c.c) hj0
    have hst := all_take_step (p := fun c : Cm => decide (c.table < (ts.length : Int)) && mayE 0 0 c.c) hj0 hal
    refine ok_learn (VwIn.base (n := 4) (p := pl) (len := (cs.map cmV).length) (cap := cl) (xs := cs.map cmV) (VwIn.here hL) (by intro e; rw [e] at hjn; simp at hjn)) ?_
    rintro ⟨bl, ol, rfl⟩
    generalize cs[j] = c at hx hRj hwb hwa hlb hla hfl hst
    obtain ⟨ck, ct, ⟨bv, hbv⟩, bef, ⟨av, hav⟩, aft⟩ := c
    dsimp only [cmV, Cm.c] at hx hwb hwa hlb hla hfl hst
    have hvb : Vw A 4 bv (bef.map valV) := hRj.bv
    have hva : Vw A 4 av (aft.map valV) := hRj.av
    refine ok_learn (VwIn.slice (VwIn.here hvb)) ?_
    rintro ⟨pb, cb, rfl⟩
    refine ok_learn (VwIn.slice (VwIn.here hva)) ?_
    rintro ⟨pa, ca, rfl⟩
    cases c1 : decide (((ts.map tbV).length : Int) ≤ ct) with
    | true =>
      obtain rfl : T = false := by
        rw [hm]
        refine hfl ?_
        rw [show decide (ct < (ts.length : Int)) = false by rw [decide_eq_true_eq] at c1; rw [decide_eq_false_iff_not]; omega, Bool.false_and]
      repeat' (first | (refine go_Y ?_; intros) | (refine gs_Y ?_ ?_ <;> (intro hgd; try (simp only [Bool.not_true, Bool.not_false] at hgd))) | (refine gc_Y ?_ ?_ <;> intro _) | fail)
      (refine rt_Y (y := ()) (hrs := Tryd.results17) (hv := ?_) (hφ := ?_))
      · rfl
      · trivial
    | false =>
    have hlt : decide (ct < (ts.length : Int)) = true := by rw [decide_eq_false_iff_not] at c1; rw [decide_eq_true_eq]; omega
    rw [hlt, Bool.true_and] at hfl hst
    have hme := may16_spec tx 0 0 ck ct (.slice pb (bef.map valV).length cb) (.slice pa (aft.map valV).length ca) bef aft A hU hvb hva hwb hwa hlb hla
    cases he : mayE 0 0 ⟨ck, ct, bef, aft⟩ with
    | false =>
      rw [he] at hme
      obtain rfl : T = false := by rw [hm]; exact hfl he
      repeat' (first | (refine go_Y ?_; intros) | (refine gs_Y ?_ ?_ <;> (intro hgd; try (simp only [Bool.not_true, Bool.not_false] at hgd))) | (refine gc_Y ?_ ?_ <;> intro _) | fail)
      refine cl_Y (hme) ?_
      intro _ _
      repeat' (first | (refine go_Y ?_; intros) | (refine gs_Y ?_ ?_ <;> (intro hgd; try (simp only [Bool.not_true, Bool.not_false] at hgd))) | (refine gc_Y ?_ ?_ <;> intro _) | fail)
      (refine rt_Y (y := ()) (hrs := Tryd.results17) (hv := ?_) (hφ := ?_))
      · rfl
      · trivial
    | true =>
      rw [he] at hme
      repeat' (first | (refine go_Y ?_; intros) | (refine gs_Y ?_ ?_ <;> (intro hgd; try (simp only [Bool.not_true, Bool.not_false] at hgd))) | (refine gc_Y ?_ ?_ <;> intro _) | fail)
      refine cl_Y (hme) ?_
      intro _ _
      repeat' (first | (refine go_Y ?_; intros) | (refine gs_Y ?_ ?_ <;> (intro hgd; try (simp only [Bool.not_true, Bool.not_false] at hgd))) | (refine gc_Y ?_ ?_ <;> intro _) | fail)
      refine cont_map (L' := [A, pts b4 (.cells [.slice pv (ts.map tbV).length cv].toArray 24)] ++ R) entD ?_
      refine cont_back (j + 1) ⟨hj0, hst he, ⟨rfl, rfl, rfl, rfl, trivial⟩, rfl⟩ (by omega)
end Go.Proofs.YtphaegcoldpclaaDoor
