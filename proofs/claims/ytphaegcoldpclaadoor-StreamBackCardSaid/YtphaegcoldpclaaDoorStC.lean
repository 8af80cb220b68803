import Derived.Test.YtphaegcoldpclaaDoorStB
import Derived.Test.YtphaegcoldpclaaDoorG7
import Derived.Test.YtphaegcoldpclaaDoorG0
set_option linter.unusedSimpArgs false
set_option linter.unusedVariables false
set_option maxRecDepth 100000
namespace Go.Proofs.YtphaegcoldpclaaDoor
open Go Go.Fx Go.Proofs Go.Pl

theorem mayOf_cm (ts : List Tb) (m : Int) (qs : List Int) (cs : List Cm) : mayOf (ts.map Tb.c) m qs (cs.map Cm.c) = (checkS (ts.map Tb.c) && (fitsP ts.length m qs && (decide (cs.length ≤ 200) && cs.all fun c => decide (c.table < (ts.length : Int)) && mayE 0 0 c.c))) := by
  unfold mayOf
  rw [List.length_map, List.length_map, List.all_map]
  rfl
theorem mayMk_begin {qs : List Int} (h1 : 1 ≤ qs.length) (h2 : qs.length ≤ 12) : mayMk 1 [] qs = true := by
  unfold mayMk wantM
  simp [h1, h2, sumOk]
theorem mayMk_end {n k : Nat} {z : Ot} (h : OtOk n k z) (h1 : 1 ≤ n) (h2 : n ≤ 12) (hk : k ≤ 200) : mayMk 2 z.counts z.seqs = true := by
  unfold mayMk wantM
  rw [sumOk_of 0 (fun x hx => (h.cs x hx).1) (by rw [h.sum]; omega)]
  simp [h.sl, h.cl, h1, h2]
set_option maxHeartbeats 8000000 in
theorem of_spec (vs uq ul : Value) (ts : List Tb) (m tx : Int) (qs : List Int) (cs : List Cm) (A B : HProp) (h : SV A vs ts) (hU : UT A) (hB : Vw B 1 uq (qs.map sqV)) (hL : Vw A 4 ul (cs.map cmV)) (hR : ∀ x ∈ cs, CmR A x)
    (hwf : ∀ x ∈ cs, (∀ v ∈ x.bef, v.wf) ∧ (∀ v ∈ x.aft, v.wf) ∧ x.bef.length ≤ 1000000 ∧ x.aft.length ≤ 1000000) (m0 : 0 ≤ m) (t0 : 0 ≤ tx) (t1 : tx ≤ 18446744073709551615) (hq : ∀ x ∈ qs, 0 ≤ x) (hql : qs.length ≤ 4611686018427387904) (hcl : cs.length ≤ 4611686018427387904) :
    FSpec Tryd.prog 10 [.agg #[vs], .agg #[.int .u64 m, uq], .int .u64 tx, ul] [A, B] (V1s × V1s) (fun _ => True)
      (fun y => .tuple #[y.1.1, .agg #[.int .u64 (bif mayOf (ts.map Tb.c) m qs (cs.map Cm.c) then m + 2 else 0), y.2.1], .int .i64 (bif mayOf (ts.map Tb.c) m qs (cs.map Cm.c) then 0 else 2)])
      (fun y => [row 57 3 y.1.1 ((bif mayOf (ts.map Tb.c) m qs (cs.map Cm.c) then ofOuts (ts.map Tb.c) tx m qs (cs.map Cm.c) else []).map outV),
        row 25 1 y.2.1 ((bif mayOf (ts.map Tb.c) m qs (cs.map Cm.c) then ofSeqs (ts.map Tb.c) tx m qs (cs.map Cm.c) else []).map sqV), A, B]) := by
  have hm := mayOf_cm ts m qs cs
  generalize mayOf (ts.map Tb.c) m qs (cs.map Cm.c) = T at hm
  have hA := h.vw
  have l1 : (ts.map tbV).length = ts.length := by simp
  have l2 : (qs.map sqV).length = qs.length := by simp
  have l3 : (cs.map cmV).length = cs.length := by simp
  refine fspec_lrn (fun R hh s => (VwIn.slice (VwIn.here hA)) hh s) ?_
  rintro ⟨pv, cv, rfl⟩
  refine fspec_lrn (fun R hh s => (VwIn.slice (VwIn.there (VwIn.here hB))) hh s) ?_
  rintro ⟨pq, cq, rfl⟩
  refine fspec_lrn (fun R hh s => (VwIn.slice (VwIn.here hL)) hh s) ?_
  rintro ⟨pl, cl, rfl⟩
  cases hc : checkS (ts.map Tb.c) with
  | false =>
    obtain rfl : T = false := by rw [hm, hc]; rfl
    dsimp only [cond_false]
    have htop := topics_bad _ ts A h hc
    refine spec_intro [] _ Tryd.func10 rfl Tryd.ntmps10 (by rfl) (fun w0 R => ?_)
    refine ok_map (fun _ h => nilRow (e := 57) (n := 3) (nilRow (e := 25) (n := 1) h)) ?_
    repeat' (first | (refine go_Y ?_; intros) | (refine gs_Y ?_ ?_ <;> (intro hgd; try (simp only [Bool.not_true, Bool.not_false] at hgd))) | (refine gc_Y ?_ ?_ <;> intro _) | fail)
    refine cl_Y (htop) ?_
    intro _ _
    repeat' (first | (refine go_Y ?_; intros) | (refine gs_Y ?_ ?_ <;> (intro hgd; try (simp only [Bool.not_true, Bool.not_false] at hgd))) | (refine gc_Y ?_ ?_ <;> intro _) | fail)
    (refine rt_Y (y := (⟨.slice none 0 0, rfl⟩, ⟨.slice none 0 0, rfl⟩)) (hrs := Tryd.results10) (hv := ?_) (hφ := ?_))
    · rfl
    · trivial
  | true =>
  have htop := topics_ok _ ts A h hc
  rw [hc, Bool.true_and] at hm
  obtain ⟨_, _, _, hl1, hl2⟩ := checkS_ok hc
  rw [List.length_map] at hl1 hl2
  have hfit := stFits_spec m qs (.slice pv (ts.map tbV).length cv) (.slice pq (qs.map sqV).length cq) ts A B hA hB hql
  cases hf : fitsP ts.length m qs with
  | false =>
    obtain rfl : T = false := by rw [hm, hf]; rfl
    rw [hf] at hfit
    dsimp only [cond_false]
    refine spec_intro [] _ Tryd.func10 rfl Tryd.ntmps10 (by rfl) (fun w0 R => ?_)
    refine ok_map (fun _ h => nilRow (e := 57) (n := 3) (nilRow (e := 25) (n := 1) h)) ?_
    repeat' (first | (refine go_Y ?_; intros) | (refine gs_Y ?_ ?_ <;> (intro hgd; try (simp only [Bool.not_true, Bool.not_false] at hgd))) | (refine gc_Y ?_ ?_ <;> intro _) | fail)
    refine cl_Y (htop) ?_
    intro bt _
    repeat' (first | (refine go_Y ?_; intros) | (refine gs_Y ?_ ?_ <;> (intro hgd; try (simp only [Bool.not_true, Bool.not_false] at hgd))) | (refine gc_Y ?_ ?_ <;> intro _) | fail)
    refine cl_Y (hfit) ?_
    intro _ _
    repeat' (first | (refine go_Y ?_; intros) | (refine gs_Y ?_ ?_ <;> (intro hgd; try (simp only [Bool.not_true, Bool.not_false] at hgd))) | (refine gc_Y ?_ ?_ <;> intro _) | fail)
    (refine rt_Y (y := (⟨.slice none 0 0, rfl⟩, ⟨.slice none 0 0, rfl⟩)) (hrs := Tryd.results10) (hv := ?_) (hφ := ?_))
    · rfl
    · trivial
  | true =>
  rw [hf] at hfit
  rw [hf, Bool.true_and] at hm
  cases c3 : decide ((200 : Int) < ((cs.map cmV).length : Int)) with
  | true =>
    obtain rfl : T = false := by rw [hm, show decide (cs.length ≤ 200) = false by rw [decide_eq_true_eq] at c3; rw [decide_eq_false_iff_not]; omega]; rfl
    dsimp only [cond_false]
    refine spec_intro [] _ Tryd.func10 rfl Tryd.ntmps10 (by rfl) (fun w0 R => ?_)
    refine ok_map (fun _ h => nilRow (e := 57) (n := 3) (nilRow (e := 25) (n := 1) h)) ?_
    repeat' (first | (refine go_Y ?_; intros) | (refine gs_Y ?_ ?_ <;> (intro hgd; try (simp only [Bool.not_true, Bool.not_false] at hgd))) | (refine gc_Y ?_ ?_ <;> intro _) | fail)
    refine cl_Y (htop) ?_
    intro bt _
    repeat' (first | (refine go_Y ?_; intros) | (refine gs_Y ?_ ?_ <;> (intro hgd; try (simp only [Bool.not_true, Bool.not_false] at hgd))) | (refine gc_Y ?_ ?_ <;> intro _) | fail)
    refine cl_Y (hfit) ?_
    intro _ _
    repeat' (first | (refine go_Y ?_; intros) | (refine gs_Y ?_ ?_ <;> (intro hgd; try (simp only [Bool.not_true, Bool.not_false] at hgd))) | (refine gc_Y ?_ ?_ <;> intro _) | fail)
    (refine rt_Y (y := (⟨.slice none 0 0, rfl⟩, ⟨.slice none 0 0, rfl⟩)) (hrs := Tryd.results10) (hv := ?_) (hφ := ?_))
    · rfl
    · trivial
  | false =>
  have hle : cs.length ≤ 200 := by rw [decide_eq_false_iff_not] at c3; omega
  rw [show decide (cs.length ≤ 200) = true by rw [decide_eq_true_eq]; exact hle, Bool.true_and] at hm
  have hz0 := of0_ok (tx := tx) hf hq
  have hqn : qs.length = ts.length := hz0.sl
  have hm1 : m ≤ 4611686018427387904 := by
    unfold fitsP at hf
    simp only [Bool.and_eq_true, decide_eq_true_eq] at hf
    exact hf.2.1
  have hpb := fun u B' hu => putMark_spec 1 tx [] qs (.slice none 0 0) u (row 3 1 (.slice none 0 0) []) B' Vw.row hu (mayMk_begin (by omega) (by omega)) t0 t1 (fun x hx => ⟨hq x hx, by have := (hz0.sq x hx).2; omega⟩)
  have lt : (topicsS (ts.map Tb.c)).length = ts.length + 1 := by simp [topicsS]
  rw [show ofOuts (ts.map Tb.c) tx m qs (cs.map Cm.c) = (ofGo tx (topicsS (ts.map Tb.c)) 0 (cs.map Cm.c) (of0 tx m qs)).outs ++ [(⟨#[109, 97, 114, 107, 115]⟩, m + 2, putMB 2 tx (ofGo tx (topicsS (ts.map Tb.c)) 0 (cs.map Cm.c) (of0 tx m qs)).counts (ofGo tx (topicsS (ts.map Tb.c)) 0 (cs.map Cm.c) (of0 tx m qs)).seqs)] from rfl,
    show ofSeqs (ts.map Tb.c) tx m qs (cs.map Cm.c) = (ofGo tx (topicsS (ts.map Tb.c)) 0 (cs.map Cm.c) (of0 tx m qs)).seqs from rfl]
  generalize topicsS (ts.map Tb.c) = tp at htop lt
  have e0 : (!decide ((0 : Int) = (0 : Int))) = false := by decide
  have e2 : (!decide ((2 : Int) = (0 : Int))) = true := by decide
  refine spec_intro [] _ Tryd.func10 rfl Tryd.ntmps10 (by rfl) (fun w0 R => ?_)
  refine ok_map (fun _ h => nilRow (e := 57) (n := 3) (nilRow (e := 25) (n := 1) (nilRow (e := 3) (n := 1) (nilRow (e := 57) (n := 3) h)))) ?_
  repeat' (first | (refine go_Y ?_; intros) | (refine gs_Y ?_ ?_ <;> (intro hgd; try (simp only [Bool.not_true, Bool.not_false] at hgd))) | (refine gc_Y ?_ ?_ <;> intro _) | fail)
  rename_i b4 b5 b9
  refine cl_Y (htop) ?_
  intro bt _
  repeat' (first | (refine go_Y ?_; intros) | (refine gs_Y ?_ ?_ <;> (intro hgd; try (simp only [Bool.not_true, Bool.not_false] at hgd))) | (refine gc_Y ?_ ?_ <;> intro _) | fail)
  refine cl_Y (hfit) ?_
  intro _ _
  repeat' (first | (refine go_Y ?_; intros) | (refine gs_Y ?_ ?_ <;> (intro hgd; try (simp only [Bool.not_true, Bool.not_false] at hgd))) | (refine gc_Y ?_ ?_ <;> intro _) | fail)
  rename_i bs
  refine ops_run (s_copy1 rfl rfl Sel.here (ys := qs.map sqV) (by repeat (first | exact VwIn.here hB | refine VwIn.there ?_)) rfl rfl rfl ?_)
  repeat' (first | (refine go_Y ?_; intros) | (refine gs_Y ?_ ?_ <;> (intro hgd; try (simp only [Bool.not_true, Bool.not_false] at hgd))) | (refine gc_Y ?_ ?_ <;> intro _) | fail)
  rename_i bc bo
  refine cl_Y (hpb (.slice (some ⟨bs, 0, none⟩) (qs.map sqV).length (qs.map sqV).length) (row 25 1 (.slice (some ⟨bs, 0, none⟩) (qs.map sqV).length (qs.map sqV).length) (qs.map sqV)) Vw.row) ?_
  intro _ _
  repeat' (first | (refine go_Y ?_; intros) | (refine gs_Y ?_ ?_ <;> (intro hgd; try (simp only [Bool.not_true, Bool.not_false] at hgd))) | (refine gc_Y ?_ ?_ <;> intro _) | fail)
  have hcnt : List.replicate (qs.map sqV).length [Value.int .i64 0] = (of0 tx m qs).counts.map dpV := by rw [l2]; show _ = (List.replicate _ _).map _; simp [dpV]
  rw [hcnt]
  refine clV_Y (vspec_func (args := [.string ⟨#[109, 97, 114, 107, 115]⟩, .pointer (some ⟨b5, 0, none⟩), .string (putMB 1 tx [] qs)]) (cap := [.pointer (some ⟨bo, 0, none⟩)]) (outPutM_spec ⟨#[109, 97, 114, 107, 115]⟩ (putMB 1 tx [] qs) m b5 bo (.slice none 0 0) (.slice (some ⟨bs, 0, none⟩) (qs.map sqV).length (qs.map sqV).length) [] m0 (by omega) (by decide))) ?_
  rintro ⟨u1, hu1⟩ _
  repeat' (first | (refine go_Y ?_; intros) | (refine gs_Y ?_ ?_ <;> (intro hgd; try (simp only [Bool.not_true, Bool.not_false] at hgd))) | (refine gc_Y ?_ ?_ <;> intro _) | fail)
  refine ok_map (L' := [pts bo (.cells [u1].toArray 34), row 57 3 u1 (([] ++ [(⟨#[109, 97, 114, 107, 115]⟩, m + 1, putMB 1 tx [] qs)] : List (BA × Int × BA)).map outV), pts b5 (.cells [.int .u64 (m + 1), .slice (some ⟨bs, 0, none⟩) (qs.map sqV).length (qs.map sqV).length].toArray 28), row 25 1 (.slice (some ⟨bs, 0, none⟩) (qs.map sqV).length (qs.map sqV).length) (qs.map sqV), row 3 1 (.slice (some ⟨bc, 0, none⟩) (qs.map sqV).length (qs.map sqV).length) ((of0 tx m qs).counts.map dpV), row 9 1 (.slice (some ⟨bt, 0, none⟩) (ts.length + 1) (ts.length + 1)) (tp.map fun s => [.string s]), pts b9 (.cells [.int .u64 0, .slice none 0 0].toArray 28), row 57 3 (.slice none 0 0) [], row 25 1 (.slice none 0 0) [], A, B] ++ R) entD ?_
  refine ok_loop' (γ := Nat × V1s) (fun g ρ L => g.1 ≤ cs.length ∧ ((cs.take g.1).all fun c => decide (c.table < (ts.length : Int)) && mayE 0 0 c.c) = true ∧ OtOk ts.length g.1 (ofGo tx tp 0 ((cs.map Cm.c).take g.1) (of0 tx m qs)) ∧
      Knows ρ [(2, .int .u64 tx), (5, .pointer (some ⟨b5, 0, none⟩)), (9, .pointer (some ⟨b9, 0, none⟩)), (11, .slice (some ⟨bt, 0, none⟩) (ts.length + 1) (ts.length + 1)), (12, .slice (some ⟨bs, 0, none⟩) (qs.map sqV).length (qs.map sqV).length), (13, .slice (some ⟨bc, 0, none⟩) (qs.map sqV).length (qs.map sqV).length), (14, .pointer (some ⟨bo, 0, none⟩)),
        (15, .func (.func 34) #[] #[.pointer (some ⟨bo, 0, none⟩)]), (65, .slice pl (cs.map cmV).length cl), (66, .int .i64 ((cs.map cmV).length : Int)), (67, .int .i64 (g.1 : Int))] ∧
      L = [pts bo (.cells [g.2.1].toArray 34), row 57 3 g.2.1 ((ofGo tx tp 0 ((cs.map Cm.c).take g.1) (of0 tx m qs)).outs.map outV), pts b5 (.cells [.int .u64 (m + 1), .slice (some ⟨bs, 0, none⟩) (qs.map sqV).length (qs.map sqV).length].toArray 28), row 25 1 (.slice (some ⟨bs, 0, none⟩) (qs.map sqV).length (qs.map sqV).length) ((ofGo tx tp 0 ((cs.map Cm.c).take g.1) (of0 tx m qs)).seqs.map sqV), row 3 1 (.slice (some ⟨bc, 0, none⟩) (qs.map sqV).length (qs.map sqV).length) ((ofGo tx tp 0 ((cs.map Cm.c).take g.1) (of0 tx m qs)).counts.map dpV), row 9 1 (.slice (some ⟨bt, 0, none⟩) (ts.length + 1) (ts.length + 1)) (tp.map fun s => [.string s]), pts b9 (.cells [.int .u64 0, .slice none 0 0].toArray 28), row 57 3 (.slice none 0 0) [], row 25 1 (.slice none 0 0) [], A, B] ++ R) (fun g => cs.length - g.1) (0, ⟨u1, hu1⟩) ⟨Nat.zero_le _, rfl, hz0, ⟨rfl, rfl, rfl, rfl, rfl, rfl, rfl, rfl, rfl, rfl, rfl, trivial⟩, rfl⟩ ?_
  rintro ⟨j, u, hu⟩ ρ L ⟨hj, hal, hok, hk, rfl⟩
  dsimp only at hj hal hok hk ⊢
  refine ok_regs hk ?_
  cases v1 : decide ((j : Int) < ((cs.map cmV).length : Int)) with
  | true =>
    have hj0 : j < cs.length := by rw [decide_eq_true_eq] at v1; omega
    have hx : (cs.map cmV)[j]? = some (cmV cs[j]) := by rw [List.getElem?_map, List.getElem?_eq_getElem hj0]; rfl
    have hjn : j < (cs.map cmV).length := by omega
    have hRj := hR _ (List.getElem_mem hj0)
    obtain ⟨hwb, hwa, hlb, hla⟩ := hwf _ (List.getElem_mem hj0)
    have hstep := ofGo_step tx tp (l := cs.map Cm.c) (j := j) (by simpa using hj0) (of0 tx m qs)
    rw [List.getElem_map] at hstep
    have hfl := all_false_of (p := fun c : Cm => decide (c.table < (ts.length : Int)) && mayE 0 0 c.c) hj0
    have hst := all_take_step (p := fun c : Cm => decide (c.table < (ts.length : Int)) && mayE 0 0 c.c) hj0 hal
    refine ok_learn (VwIn.base (n := 4) (p := pl) (len := (cs.map cmV).length) (cap := cl) (xs := cs.map cmV) (VwIn.there (VwIn.there (VwIn.there (VwIn.there (VwIn.there (VwIn.there (VwIn.there (VwIn.there (VwIn.there (VwIn.here hL)))))))))) (by intro e; rw [e] at hjn; simp at hjn)) ?_
    rintro ⟨bl, ol, rfl⟩
    generalize ofGo tx tp 0 ((cs.map Cm.c).take j) (of0 tx m qs) = z at hok hstep
    generalize cs[j] = c at hx hRj hwb hwa hlb hla hstep hfl hst
    obtain ⟨ck, ct, ⟨bv, hbv⟩, bef, ⟨av, hav⟩, aft⟩ := c
    dsimp only [cmV, Cm.c] at hx hwb hwa hlb hla hstep hfl hst
    have hvb : Vw A 4 bv (bef.map valV) := hRj.bv
    have hva : Vw A 4 av (aft.map valV) := hRj.av
    refine ok_learn (VwIn.slice (VwIn.there (VwIn.there (VwIn.there (VwIn.there (VwIn.there (VwIn.there (VwIn.there (VwIn.there (VwIn.there (VwIn.here hvb))))))))))) ?_
    rintro ⟨pb, cb, rfl⟩
    refine ok_learn (VwIn.slice (VwIn.there (VwIn.there (VwIn.there (VwIn.there (VwIn.there (VwIn.there (VwIn.there (VwIn.there (VwIn.there (VwIn.here hva))))))))))) ?_
    rintro ⟨pa, ca, rfl⟩
    cases c1 : decide (ct < 0) with
    | true =>
      obtain rfl : T = false := by
        rw [hm]
        refine hfl ?_
        have : mayE 0 0 ⟨ck, ct, bef, aft⟩ = false := by
          cases hh : mayE 0 0 ⟨ck, ct, bef, aft⟩ with
          | false => rfl
          | true => have := (mayE_all hh).2.2.1; have := of_decide_eq_true c1; dsimp only at *; omega
        rw [this, Bool.and_false]
      dsimp only [cond_false, List.map_nil]
      repeat' (first | (refine go_Y ?_; intros) | (refine gs_Y ?_ ?_ <;> (intro hgd; try (simp only [Bool.not_true, Bool.not_false] at hgd))) | (refine gc_Y ?_ ?_ <;> intro _) | fail)
      (refine rt_Y (y := (⟨.slice none 0 0, rfl⟩, ⟨.slice none 0 0, rfl⟩)) (hrs := Tryd.results10) (hv := ?_) (hφ := ?_))
      · rfl
      · trivial
    | false =>
    cases c2 : decide (((qs.map sqV).length : Int) ≤ ct) with
    | true =>
      obtain rfl : T = false := by
        rw [hm]
        refine hfl ?_
        rw [show decide (ct < (ts.length : Int)) = false by rw [decide_eq_true_eq] at c2; rw [decide_eq_false_iff_not]; omega, Bool.false_and]
      dsimp only [cond_false, List.map_nil]
      repeat' (first | (refine go_Y ?_; intros) | (refine gs_Y ?_ ?_ <;> (intro hgd; try (simp only [Bool.not_true, Bool.not_false] at hgd))) | (refine gc_Y ?_ ?_ <;> intro _) | fail)
      (refine rt_Y (y := (⟨.slice none 0 0, rfl⟩, ⟨.slice none 0 0, rfl⟩)) (hrs := Tryd.results10) (hv := ?_) (hφ := ?_))
      · rfl
      · trivial
    | false =>
    obtain ⟨tn, rfl⟩ : ∃ n : Nat, ct = n := ⟨ct.toNat, by rw [decide_eq_false_iff_not] at c1; omega⟩
    have htn : tn < ts.length := by rw [decide_eq_false_iff_not] at c2; omega
    have htq : tn < (qs.map sqV).length := by omega
    have hzc := hok.cl
    have hzs := hok.sl
    have hcx : (z.counts.map dpV)[tn]? = some [.int .i64 (gI z.counts tn)] := by rw [List.getElem?_map, List.getElem?_eq_getElem (by omega : tn < z.counts.length), gI_get (by omega : tn < z.counts.length)]; rfl
    have htx : (tp.map fun s => [Value.string s])[tn + 1]? = some [.string (gT tp (tn + 1))] := by rw [List.getElem?_map, List.getElem?_eq_getElem (by omega : tn + 1 < tp.length)]; unfold gT; rw [List.getElem?_eq_getElem (by omega : tn + 1 < tp.length)]; rfl
    have htb : tn + 1 < ts.length + 1 := by omega
    have hte : ((tn : Int) + 1) = ((tn + 1 : Nat) : Int) := rfl
    obtain ⟨g1, g2⟩ := hok.cs _ (gI_mem (by omega : tn < z.counts.length))
    obtain ⟨g3, g4⟩ := hok.sq _ (gI_mem (by omega : tn < z.seqs.length))
    have hmE := mayE_nth (c := ⟨ck, tn, bef, aft⟩) g1 g2 (by omega)
    have hset : (z.counts.map dpV).set tn [.int .i64 (gI z.counts tn + 1)] = (z.counts.set tn (gI z.counts tn + 1)).map dpV := by rw [List.map_set]; rfl
    cases hme : mayE 0 0 ⟨ck, tn, bef, aft⟩ with
    | false =>
      obtain rfl : T = false := by
        rw [hm]
        refine hfl ?_
        rw [hme, Bool.and_false]
      have hp := evPut_bad ⟨tx, j, gI z.counts tn, ⟨ck, tn, ⟨.slice pb (bef.map valV).length cb, hbv⟩, bef, ⟨.slice pa (aft.map valV).length ca, hav⟩, aft⟩⟩ A hU hRj hwb hwa hlb hla (hmE.trans hme)
      dsimp only [emV] at hp
      dsimp only [cond_false, List.map_nil]
      repeat' (first | (refine go_Y ?_; intros) | (refine gs_Y ?_ ?_ <;> (intro hgd; try (simp only [Bool.not_true, Bool.not_false] at hgd))) | (refine gc_Y ?_ ?_ <;> intro _) | fail)
      refine cl_Y (hp) ?_
      intro _ _
      repeat' (first | (refine go_Y ?_; intros) | (refine gs_Y ?_ ?_ <;> (intro hgd; try (simp only [Bool.not_true, Bool.not_false] at hgd))) | (refine gc_Y ?_ ?_ <;> intro _) | fail)
      (refine rt_Y (y := (⟨.slice none 0 0, rfl⟩, ⟨.slice none 0 0, rfl⟩)) (hrs := Tryd.results10) (hv := ?_) (hφ := ?_))
      · rfl
      · trivial
    | true =>
      have hp := evPut_spec ⟨tx, j, gI z.counts tn, ⟨ck, tn, ⟨.slice pb (bef.map valV).length cb, hbv⟩, bef, ⟨.slice pa (aft.map valV).length ca, hav⟩, aft⟩⟩ A hU hRj hwb hwa hlb hla (hmE.trans hme) t0 t1
      dsimp only [emV, Cm.c] at hp
      have hot := hok.step (tx := tx) (ts := tp) (c := ⟨ck, tn, bef, aft⟩) (by show (0 : Int) ≤ tn; omega) (by show (tn : Int) < ts.length; omega)
      have hol : z.outs.length ≤ 1000 := by have := hok.ol; omega
      repeat' (first | (refine go_Y ?_; intros) | (refine gs_Y ?_ ?_ <;> (intro hgd; try (simp only [Bool.not_true, Bool.not_false] at hgd))) | (refine gc_Y ?_ ?_ <;> intro _) | fail)
      refine cl_Y (hp) ?_
      intro _ _
      repeat' (first | (refine go_Y ?_; intros) | (refine gs_Y ?_ ?_ <;> (intro hgd; try (simp only [Bool.not_true, Bool.not_false] at hgd))) | (refine gc_Y ?_ ?_ <;> intro _) | fail)
      refine clV_Y (vspec_func (args := [.string (gT tp (tn + 1)), .pointer (some ⟨bs, slot 0 1 tn 0, none⟩), .string (putEB tx j (gI z.counts tn) ⟨ck, tn, bef, aft⟩)]) (cap := [.pointer (some ⟨bo, 0, none⟩)]) (outPutS_spec (gT tp (tn + 1)) (putEB tx j (gI z.counts tn) ⟨ck, tn, bef, aft⟩) z.seqs tn bs (qs.map sqV).length bo u z.outs (by omega) (by omega) g3 (by omega) hol)) ?_
      rintro ⟨u2, hu2⟩ _
      repeat' (first | (refine go_Y ?_; intros) | (refine gs_Y ?_ ?_ <;> (intro hgd; try (simp only [Bool.not_true, Bool.not_false] at hgd))) | (refine gc_Y ?_ ?_ <;> intro _) | fail)
      dsimp only
      rw [hset, show (z.outs ++ [(gT tp (tn + 1), gI z.seqs tn + 1, putEB tx (j : Int) (gI z.counts tn) ⟨ck, tn, bef, aft⟩)]) = (ofStep tx tp j ⟨ck, tn, bef, aft⟩ z).outs from rfl, show z.seqs.set tn (gI z.seqs tn + 1) = (ofStep tx tp j ⟨ck, tn, bef, aft⟩ z).seqs from rfl, show z.counts.set tn (gI z.counts tn + 1) = (ofStep tx tp j ⟨ck, tn, bef, aft⟩ z).counts from rfl, ← hstep]
      rw [← hstep] at hot
      refine cont_map (L' := [pts bo (.cells [u2].toArray 34), row 57 3 u2 ((ofGo tx tp 0 ((cs.map Cm.c).take (j + 1)) (of0 tx m qs)).outs.map outV), pts b5 (.cells [.int .u64 (m + 1), .slice (some ⟨bs, 0, none⟩) (qs.map sqV).length (qs.map sqV).length].toArray 28), row 25 1 (.slice (some ⟨bs, 0, none⟩) (qs.map sqV).length (qs.map sqV).length) ((ofGo tx tp 0 ((cs.map Cm.c).take (j + 1)) (of0 tx m qs)).seqs.map sqV), row 3 1 (.slice (some ⟨bc, 0, none⟩) (qs.map sqV).length (qs.map sqV).length) ((ofGo tx tp 0 ((cs.map Cm.c).take (j + 1)) (of0 tx m qs)).counts.map dpV), row 9 1 (.slice (some ⟨bt, 0, none⟩) (ts.length + 1) (ts.length + 1)) (tp.map fun s => [.string s]), pts b9 (.cells [.int .u64 0, .slice none 0 0].toArray 28), row 57 3 (.slice none 0 0) [], row 25 1 (.slice none 0 0) [], A, B] ++ R) entD ?_
      refine cont_back (j + 1, ⟨u2, hu2⟩) ⟨hj0, hst (by rw [hme, Bool.and_true, decide_eq_true_eq]; omega), hot, ⟨rfl, rfl, rfl, rfl, rfl, rfl, rfl, rfl, rfl, rfl, rfl, trivial⟩, rfl⟩ (by dsimp only; omega)
  | false =>
    have hje : j = cs.length := by rw [decide_eq_false_iff_not] at v1; omega
    subst hje
    rw [List.take_length] at hal
    obtain rfl : T = true := by rw [hm]; exact hal
    rw [List.take_of_length_le (by simp)] at hok
    rw [List.take_of_length_le (by simp)]
    dsimp only [cond_true]
    generalize ofGo tx tp 0 (cs.map Cm.c) (of0 tx m qs) = z at hok
    have hzq := hok.sq
    have hpe := putMark_spec 2 tx z.counts z.seqs (.slice (some ⟨bc, 0, none⟩) (qs.map sqV).length (qs.map sqV).length) (.slice (some ⟨bs, 0, none⟩) (qs.map sqV).length (qs.map sqV).length) (row 3 1 (.slice (some ⟨bc, 0, none⟩) (qs.map sqV).length (qs.map sqV).length) (z.counts.map dpV)) (row 25 1 (.slice (some ⟨bs, 0, none⟩) (qs.map sqV).length (qs.map sqV).length) (z.seqs.map sqV)) Vw.row Vw.row (mayMk_end hok hl1 hl2 hle) t0 t1 (fun x hx => ⟨(hzq x hx).1, by have := (hzq x hx).2; omega⟩)
    have hol : z.outs.length ≤ 1000 := by have := hok.ol; omega
    repeat' (first | (refine go_Y ?_; intros) | (refine gs_Y ?_ ?_ <;> (intro hgd; try (simp only [Bool.not_true, Bool.not_false] at hgd))) | (refine gc_Y ?_ ?_ <;> intro _) | fail)
    refine cl_Y (hpe) ?_
    intro _ _
    repeat' (first | (refine go_Y ?_; intros) | (refine gs_Y ?_ ?_ <;> (intro hgd; try (simp only [Bool.not_true, Bool.not_false] at hgd))) | (refine gc_Y ?_ ?_ <;> intro _) | fail)
    refine clV_Y (vspec_func (args := [.string ⟨#[109, 97, 114, 107, 115]⟩, .pointer (some ⟨b5, 0, none⟩), .string (putMB 2 tx z.counts z.seqs)]) (cap := [.pointer (some ⟨bo, 0, none⟩)]) (outPutM_spec ⟨#[109, 97, 114, 107, 115]⟩ (putMB 2 tx z.counts z.seqs) (m + 1) b5 bo u (.slice (some ⟨bs, 0, none⟩) (qs.map sqV).length (qs.map sqV).length) z.outs (by omega) (by omega) hol)) ?_
    rintro ⟨u3, hu3⟩ _
    rw [show m + 1 + 1 = m + 2 by omega]
    repeat' (first | (refine go_Y ?_; intros) | (refine gs_Y ?_ ?_ <;> (intro hgd; try (simp only [Bool.not_true, Bool.not_false] at hgd))) | (refine gc_Y ?_ ?_ <;> intro _) | fail)
    (refine rt_Y (y := (⟨u3, hu3⟩, ⟨.slice (some ⟨bs, 0, none⟩) (qs.map sqV).length (qs.map sqV).length, rfl⟩)) (hrs := Tryd.results10) (hv := ?_) (hφ := ?_))
    · rfl
    · trivial
end Go.Proofs.YtphaegcoldpclaaDoor
