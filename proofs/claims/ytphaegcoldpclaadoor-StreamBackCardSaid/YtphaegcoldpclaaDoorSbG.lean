import Derived.Test.YtphaegcoldpclaaDoorSbD
import Derived.Test.YtphaegcoldpclaaDoorSbE
import Derived.Test.YtphaegcoldpclaaDoorSbF
import Derived.Test.YtphaegcoldpclaaDoorSoH
import Derived.Test.YtphaegcoldpclaaDoorSoP
import Derived.Test.YtphaegcoldpclaaDoorStG
import Derived.Test.YtphaegcoldpclaaDoorG0
set_option linter.unusedSimpArgs false
set_option linter.unusedVariables false
set_option maxRecDepth 100000
namespace Go.Proofs.YtphaegcoldpclaaDoor
open Go Go.Fx Go.Proofs Go.Pl

def txtV (s : BA) : List Value := [.string s]
theorem outV_at {O : List (BA × Int × BA)} {i : Nat} {o : BA × Int × BA} (h : O[i]? = some o) : (O.map outV)[i]? = some (outV o) := by rw [List.getElem?_map, h]; rfl
set_option maxHeartbeats 32000000 in
theorem StreamBack_spec (vs uq ul : Value) (ts : List Tb) (m tx : Int) (qs : List Int) (cs : List Cm) (A : HProp) (hU : UT A) (hvc : vs.oneCell' = true) (h : SVr A vs ts) (hq : Vw A 1 uq (qs.map sqV)) (hc : CsR A ul cs) (hcap : capOk ul)
    (hwf : ∀ x ∈ cs, (∀ v ∈ x.bef, v.wf) ∧ ∀ v ∈ x.aft, v.wf) (m0 : 0 ≤ m) (t0 : 0 ≤ tx) (tx1 : tx ≤ 18446744073709551615) (hq0 : ∀ x ∈ qs, 0 ≤ x) :
    FSpec Tryd.prog 4 [.agg #[vs], .agg #[.int .u64 m, uq], .int .u64 tx, ul] [A] HProp (fun P' => Ext A P') (fun _ => .bool true) (fun P' => [P']) := by
  have hv := hc.vw
  have hzc := hc.len
  have lm : (cs.map cmV).length = cs.length := by simp
  have lq : (qs.map sqV).length = qs.length := by simp
  have lts : (ts.map tbV).length = ts.length := by simp
  have hh := heavy20_spec vs uq ul ts m qs cs A h hq hc
  have eOK : (!decide ((0 : Int) = (0 : Int))) = false := by decide
  have e2 : (!decide ((2 : Int) = (0 : Int))) = true := by decide
  have hal := alive20_spec A hU
  refine spec_intro [] _ Tryd.func4 rfl Tryd.ntmps4 (by rfl) (fun w0 R => ?_)
  refine ok_learn (VwIn.slice (VwIn.here hv)) ?_
  rintro ⟨pl, cl, rfl⟩
  refine ok_learn (VwIn.slice (VwIn.here hq)) ?_
  rintro ⟨pq, cq, rfl⟩
  refine ok_learn (VwIn.slice (VwIn.here h.vw)) ?_
  rintro ⟨ps, cps, rfl⟩
  have hcl : (cs.map cmV).length ≤ cl := by
    obtain ⟨p, a, b, e, hab⟩ := hcap
    cases e
    exact hab
  clear hcap
  repeat' (first | (refine go_Y ?_; intros) | (refine gs_Y ?_ ?_ <;> (intro hgd; try (simp only [Bool.not_true, Bool.not_false] at hgd))) | (refine gc_Y ?_ ?_ <;> intro _) | fail)
  rename_i b4 b5
  refine cl_Y (hh) ?_
  intro y1 hlg
  cases y1 with
  | true =>
    repeat' (first | (refine go_Y ?_; intros) | (refine gs_Y ?_ ?_ <;> (intro hgd; try (simp only [Bool.not_true, Bool.not_false] at hgd))) | (refine gc_Y ?_ ?_ <;> intro _) | fail)
    refine cl_Y (hal) ?_
    intro _ _
    repeat' (first | (refine go_Y ?_; intros) | (refine gs_Y ?_ ?_ <;> (intro hgd; try (simp only [Bool.not_true, Bool.not_false] at hgd))) | (refine gc_Y ?_ ?_ <;> intro _) | fail)
    (refine rt_Y (y := A) (hrs := Tryd.results4) (hv := ?_) (hφ := ?_))
    · rfl
    · exact Ext.refl A
  | false =>
  obtain ⟨hsm, hql, hcs1, hcs2⟩ := hlg rfl
  have hsv := h.sv hsm
  have hwf2 : ∀ x ∈ cs, (∀ v ∈ x.bef, v.wf) ∧ (∀ v ∈ x.aft, v.wf) ∧ x.bef.length ≤ 1000000 ∧ x.aft.length ≤ 1000000 := fun y hy => by
    have := hcs2 y hy
    exact ⟨(hwf y hy).1, (hwf y hy).2, by omega, by omega⟩
  have hof := ofP_spec (.slice ps (ts.map tbV).length cps) (.slice pq (qs.map sqV).length cq) (.slice pl (cs.map cmV).length cl) ts m tx qs cs A hsv hU hq hv hc.c hwf2 m0 t0 tx1 hq0 (by omega) (by omega)
  cases hT : mayOf (ts.map Tb.c) m qs (cs.map Cm.c) with
  | false =>
    rw [hT] at hof
    simp only [cond_false, List.map_nil] at hof
    repeat' (first | (refine go_Y ?_; intros) | (refine gs_Y ?_ ?_ <;> (intro hgd; try (simp only [Bool.not_true, Bool.not_false] at hgd))) | (refine gc_Y ?_ ?_ <;> intro _) | fail)
    refine cl_Y (hof) ?_
    rintro ⟨⟨v2, hv2'⟩, ⟨v3, hv3⟩⟩ _
    dsimp only
    refine ops_learn (rowShapeS (e := 25) (n := 1) (v := v3) (xs := []) (by decide) takeD) ?_
    rintro ⟨p3, c3, rfl, _, _⟩
    repeat' (first | (refine go_Y ?_; intros) | (refine gs_Y ?_ ?_ <;> (intro hgd; try (simp only [Bool.not_true, Bool.not_false] at hgd))) | (refine gc_Y ?_ ?_ <;> intro _) | fail)
    refine cl_Y (hal) ?_
    intro _ _
    repeat' (first | (refine go_Y ?_; intros) | (refine gs_Y ?_ ?_ <;> (intro hgd; try (simp only [Bool.not_true, Bool.not_false] at hgd))) | (refine gc_Y ?_ ?_ <;> intro _) | fail)
    (refine rt_Y (y := A) (hrs := Tryd.results4) (hv := ?_) (hφ := ?_))
    · rfl
    · exact Ext.refl A
  | true =>
  rw [hT] at hof
  simp only [cond_true] at hof
  have hcs : checkS (ts.map Tb.c) = true := by
    have := hT
    unfold mayOf at this
    rw [Bool.and_eq_true] at this
    exact this.1
  obtain ⟨_, _, _, hl1, hl2⟩ := checkS_ok hcs
  rw [List.length_map] at hl1 hl2
  have htop : FSpec Tryd.prog 13 [.agg #[.slice ps (ts.map tbV).length cps]] [A] Nat (fun _ => True) (fun b => .slice (some ⟨b, 0, none⟩) (ts.length + 1) (ts.length + 1)) (fun b => [row 9 1 (.slice (some ⟨b, 0, none⟩) (ts.length + 1) (ts.length + 1)) ((topicsS (ts.map Tb.c)).map txtV), A]) := topics_ok _ ts A hsv hcs
  have hcq := copy20_spec m qs (.slice pq (qs.map sqV).length cq) A hq (by omega)
  have hzi := fun i hi => zAt_ok (tx := tx) hT hq0 (i := i) hi
  simp only [List.length_map] at hzi
  have hev := fun i (hi : i < (cs.map Cm.c).length) (hz : (zAt (ts.map Tb.c) tx m qs (cs.map Cm.c) i).outs.length = i + 1) => outs_ev (s := ts.map Tb.c) (tx := tx) (m := m) (qs := qs) hi hz
  have ho0 := outs_0 (ts.map Tb.c) tx m qs (cs.map Cm.c)
  have hoe := outs_end (s := ts.map Tb.c) (tx := tx) (m := m) (qs := qs) (l := cs.map Cm.c) (by rw [List.length_map]; exact (hzi cs.length (Nat.le_refl _)).ol)
  have hse := seqs_end (ts.map Tb.c) tx m qs (cs.map Cm.c)
  have hab := at_begin (tx := tx) hT m0
  have hae := at_end (s := ts.map Tb.c) (tx := tx) (l := cs.map Cm.c) hT m0
  have hol : (ofOuts (ts.map Tb.c) tx m qs (cs.map Cm.c)).length = cs.length + 2 := by rw [(ofOuts_len' (ts.map Tb.c) tx m qs (cs.map Cm.c)), List.length_map]
  have hall : ∀ c ∈ cs, c.table < (ts.length : Int) ∧ mayE 0 0 c.c = true := fun c hc' => by
    have := hT
    unfold mayOf at this
    simp only [Bool.and_eq_true, List.all_eq_true, decide_eq_true_eq] at this
    have h5 := this.2.2.2 c.c (List.mem_map_of_mem hc')
    rw [List.length_map] at h5
    exact h5
  have hm1 : m ≤ 4611686018427387904 ∧ qs.length = ts.length := by
    have := hT
    unfold mayOf fitsP at this
    simp only [Bool.and_eq_true, decide_eq_true_eq, List.length_map] at this
    exact ⟨this.2.1.2.1, this.2.1.1⟩
  have hlen200 : cs.length ≤ 200 := by
    have := hT
    unfold mayOf at this
    simp only [Bool.and_eq_true, decide_eq_true_eq, List.length_map] at this
    exact this.2.2.1
  have hz0 : zAt (ts.map Tb.c) tx m qs (cs.map Cm.c) 0 = of0 tx m qs := rfl
  have hzs : ∀ i (hi : i < cs.length), zAt (ts.map Tb.c) tx m qs (cs.map Cm.c) (i + 1) = ofStep tx (topicsS (ts.map Tb.c)) i cs[i].c (zAt (ts.map Tb.c) tx m qs (cs.map Cm.c) i) := fun i hi => by
    have := zAt_succ (s := ts.map Tb.c) (tx := tx) (m := m) (qs := qs) (l := cs.map Cm.c) (i := i) (by simpa using hi)
    rw [List.getElem_map] at this
    exact this
  have hev2 : ∀ i (hi : i < cs.length), (ofOuts (ts.map Tb.c) tx m qs (cs.map Cm.c))[i + 1]? = some (gT (topicsS (ts.map Tb.c)) (cs[i].table.toNat + 1), gI (zAt (ts.map Tb.c) tx m qs (cs.map Cm.c) i).seqs cs[i].table.toNat + 1, putEB tx i (gI (zAt (ts.map Tb.c) tx m qs (cs.map Cm.c) i).counts cs[i].table.toNat) cs[i].c) := fun i hi => by
    have := hev i (by simpa using hi) (hzi i (by omega)).ol
    simp only [List.getElem_map] at this
    exact this
  clear hev
  have ltp : (topicsS (ts.map Tb.c)).length = ts.length + 1 := by simp [topicsS]
  rw [List.length_map] at hoe hse hae
  generalize hOe : ofOuts (ts.map Tb.c) tx m qs (cs.map Cm.c) = O at hof ho0 hoe hol hev2
  generalize ofSeqs (ts.map Tb.c) tx m qs (cs.map Cm.c) = S at hof hoe hse hae
  generalize topicsS (ts.map Tb.c) = tp at htop hzs hev2 ltp
  generalize zAt (ts.map Tb.c) tx m qs (cs.map Cm.c) = Z at hzi hoe hse hz0 hzs hev2 hae
  have lO : (O.map outV).length = cs.length + 2 := by rw [List.length_map, hol]
  repeat' (first | (refine go_Y ?_; intros) | (refine gs_Y ?_ ?_ <;> (intro hgd; try (simp only [Bool.not_true, Bool.not_false] at hgd))) | (refine gc_Y ?_ ?_ <;> intro _) | fail)
  refine cl_Y (hof) ?_
  rintro ⟨⟨v2, hv2'⟩, ⟨v3, hv3⟩⟩ _
  dsimp only
  refine ops_learn (rowShape (e := 57) (n := 3) (v := v2) (xs := O.map outV) (by decide) takeD) ?_
  rintro (⟨rfl, hn⟩ | ⟨bo, co, rfl, _⟩)
  · exfalso; have := congrArg List.length hn; rw [lO, List.length_nil] at this; omega
  refine ops_learn (rowShape (e := 25) (n := 1) (v := v3) (xs := S.map sqV) (by decide) takeD) ?_
  have hSl : S.length = ts.length := by rw [hse]; exact (hzi cs.length (Nat.le_refl _)).sl
  have lS : (S.map sqV).length = ts.length := by rw [List.length_map, hSl]
  rintro (⟨rfl, hn⟩ | ⟨bs, c3, rfl, _⟩)
  · exfalso; have := congrArg List.length hn; rw [lS, List.length_nil] at this; omega
  have f1 : (!decide (((O.map outV).length : Int) = ((cs.map cmV).length : Int) + 2)) = false := by rw [Bool.not_eq_false', decide_eq_true_eq, lO, lm]; omega
  have f2 : (!decide (((ts.length + 1 : Nat) : Int) = ((ts.map tbV).length : Int) + 1)) = false := by rw [Bool.not_eq_false', decide_eq_true_eq, lts]; omega
  repeat' (first | (refine go_Y ?_; intros) | (refine gs_Y ?_ ?_ <;> (intro hgd; try (simp only [Bool.not_true, Bool.not_false] at hgd))) | (refine gc_Y ?_ ?_ <;> intro _) | fail)
  rename_i b10
  refine cl_Y (htop) ?_
  intro bt _
  repeat' (first | (refine go_Y ?_; intros) | (refine gs_Y ?_ ?_ <;> (intro hgd; try (simp only [Bool.not_true, Bool.not_false] at hgd))) | (refine gc_Y ?_ ?_ <;> intro _) | fail)
  refine cl_Y (hcq) ?_
  rintro ⟨v4, hv4⟩ _
  dsimp only
  refine ops_learn (rowShape (e := 25) (n := 1) (v := v4) (xs := qs.map sqV) (by decide) takeD) ?_
  rintro (⟨rfl, hn⟩ | ⟨bq, c4, rfl, _⟩)
  · exfalso; have := congrArg List.length hn; rw [lq, List.length_nil] at this; omega
  repeat' (first | (refine go_Y ?_; intros) | (refine gs_Y ?_ ?_ <;> (intro hgd; try (simp only [Bool.not_true, Bool.not_false] at hgd))) | (refine gc_Y ?_ ?_ <;> intro _) | fail)
  rename_i b13 bc
  have hrep : List.replicate (ts.map tbV).length [Value.int .i64 0] = (Z 0).counts.map dpV := by rw [hz0, lts, ← hm1.2]; show _ = (List.replicate _ _).map _; simp [dpV]
  rw [hrep]
  have hE0 := Ext.refl A
  refine ok_map (L' := [pts b4 (.cells [.slice ps (ts.map tbV).length cps].toArray 24), pts b5 (.cells [.int .u64 m, .slice pq (qs.map sqV).length cq].toArray 28), A, row 57 3 (.slice (some ⟨bo, 0, none⟩) (O.map outV).length co) (O.map outV), row 25 1 (.slice (some ⟨bs, 0, none⟩) (S.map sqV).length c3) (S.map sqV), pts b10 (.cells [.int .u64 (m + 2), .slice (some ⟨bs, 0, none⟩) (S.map sqV).length c3].toArray 28), row 9 1 (.slice (some ⟨bt, 0, none⟩) (ts.length + 1) (ts.length + 1)) (tp.map txtV), row 25 1 (.slice (some ⟨bq, 0, none⟩) (qs.map sqV).length c4) ((Z 0).seqs.map sqV), pts b13 (.cells [.int .u64 m, .slice (some ⟨bq, 0, none⟩) (qs.map sqV).length c4].toArray 28), row 3 1 (.slice (some ⟨bc, 0, none⟩) (ts.map tbV).length (ts.map tbV).length) ((Z 0).counts.map dpV)] ++ R) (by rw [show (Z 0).seqs = qs by rw [hz0]; rfl]; exact entD) ?_
  refine ok_loop' (γ := Nat × { P : HProp // Ext A P }) (fun g ρ L => g.1 ≤ cs.length ∧ Knows ρ [(2, .int .u64 tx), (3, .slice pl (cs.map cmV).length cl), (4, .pointer (some ⟨b4, 0, none⟩)), (5, .pointer (some ⟨b5, 0, none⟩)), (9, .slice (some ⟨bo, 0, none⟩) (O.map outV).length co), (10, .pointer (some ⟨b10, 0, none⟩)), (12, .slice (some ⟨bt, 0, none⟩) (ts.length + 1) (ts.length + 1)), (13, .pointer (some ⟨b13, 0, none⟩)), (14, .slice (some ⟨bc, 0, none⟩) (ts.map tbV).length (ts.map tbV).length), (15, .int .i64 (g.1 : Int))] ∧
      L = [pts b4 (.cells [.slice ps (ts.map tbV).length cps].toArray 24), pts b5 (.cells [.int .u64 m, .slice pq (qs.map sqV).length cq].toArray 28), g.2.1, row 57 3 (.slice (some ⟨bo, 0, none⟩) (O.map outV).length co) (O.map outV), row 25 1 (.slice (some ⟨bs, 0, none⟩) (S.map sqV).length c3) (S.map sqV), pts b10 (.cells [.int .u64 (m + 2), .slice (some ⟨bs, 0, none⟩) (S.map sqV).length c3].toArray 28), row 9 1 (.slice (some ⟨bt, 0, none⟩) (ts.length + 1) (ts.length + 1)) (tp.map txtV), row 25 1 (.slice (some ⟨bq, 0, none⟩) (qs.map sqV).length c4) ((Z g.1).seqs.map sqV), pts b13 (.cells [.int .u64 m, .slice (some ⟨bq, 0, none⟩) (qs.map sqV).length c4].toArray 28), row 3 1 (.slice (some ⟨bc, 0, none⟩) (ts.map tbV).length (ts.map tbV).length) ((Z g.1).counts.map dpV)] ++ R) (fun g => cs.length - g.1) (0, ⟨A, hE0⟩) ⟨by omega, ⟨rfl, rfl, rfl, rfl, rfl, rfl, rfl, rfl, rfl, rfl, trivial⟩, rfl⟩ ?_
  rintro ⟨j, P, hE⟩ ρ L ⟨hj, hk, rfl⟩
  dsimp only at hj hk ⊢
  refine ok_regs hk ?_
  have hok := hzi j hj
  have hUP := hU.ext hE
  cases t1 : decide ((j : Int) < ((cs.map cmV).length : Int)) with
  | true =>
    have hj0 : j < cs.length := by have := of_decide_eq_true t1; omega
    have hx := outV_at (hev2 j hj0)
    have hj1 : j + 1 < (O.map outV).length := by omega
    have hte : ((j : Int) + 1) = ((j + 1 : Nat) : Int) := rfl
    have hstep := hzs j hj0
    have hvj : Vw P 4 (dropV 4 pl (j + 1) cl j) [cmV cs[j]] := by
      have := (hE.vw hv).sub (m := j) (q := j + 1) (by omega) hcl
      rwa [show ((cs.map cmV).take (j + 1)).drop j = [cmV cs[j]] by
        rw [← List.map_take, List.take_succ_eq_append_getElem hj0, List.map_append, List.drop_append_of_le_length (by rw [List.length_map, List.length_take]; omega), List.drop_of_length_le (by rw [List.length_map, List.length_take]; omega)]; rfl] at this
    have hcrj := (hc.c _ (List.getElem_mem hj0)).ext hE
    obtain ⟨hwb, hwa, hlb, hla⟩ := hwf2 _ (List.getElem_mem hj0)
    obtain ⟨htl, hme⟩ := hall _ (List.getElem_mem hj0)
    obtain ⟨k0, k1, b0, b1, _⟩ := mayE_all hme
    have hcjr := hE.vw hv
    generalize Z j = z at hok hx hstep
    generalize cs[j] = c at hx hstep hvj hcrj hwb hwa hlb hla htl hme k0 k1 b0 b1
    obtain ⟨ck, ct, ⟨bv, hbv⟩, bef, ⟨av, hav⟩, aft⟩ := c
    dsimp only [cmV, Cm.c, outV] at hx hstep hvj hwb hwa hlb hla htl hme k0 k1 b0 b1
    obtain ⟨tn, rfl⟩ : ∃ n : Nat, ct = n := ⟨ct.toNat, by omega⟩
    rw [Int.toNat_natCast] at hx
    have hzc := hok.cl
    have hzq := hok.sl
    obtain ⟨g1, g2⟩ := hok.cs _ (gI_mem (by omega : tn < z.counts.length))
    obtain ⟨g3, g4⟩ := hok.sq _ (gI_mem (by omega : tn < z.seqs.length))
    have hmE := mayE_nth (c := ⟨ck, tn, bef, aft⟩) g1 g2 (by omega)
    have hg := evGet_spec tx j (gI z.counts tn) ⟨ck, tn, bef, aft⟩ P hUP (hmE.trans hme) t0 tx1 hwb hwa
    have htc : tn < (z.counts.map dpV).length := by rw [List.length_map]; omega
    have htq : tn < (z.seqs.map sqV).length := by rw [List.length_map]; omega
    have htt : tn + 1 < (tp.map txtV).length := by rw [List.length_map]; omega
    have htte : ((tn : Int) + 1) = ((tn + 1 : Nat) : Int) := rfl
    have hcx : (z.counts.map dpV)[tn]? = some [.int .i64 (gI z.counts tn)] := by rw [List.getElem?_map, List.getElem?_eq_getElem (by omega : tn < z.counts.length), gI_get (by omega : tn < z.counts.length)]; rfl
    have hsx : (z.seqs.map sqV)[tn]? = some [.int .u64 (gI z.seqs tn)] := by rw [List.getElem?_map, List.getElem?_eq_getElem (by omega : tn < z.seqs.length), gI_get (by omega : tn < z.seqs.length)]; rfl
    have htx : (tp.map txtV)[tn + 1]? = some [.string (gT tp (tn + 1))] := by rw [List.getElem?_map, List.getElem?_eq_getElem (by omega : tn + 1 < tp.length)]; unfold gT; rw [List.getElem?_eq_getElem (by omega : tn + 1 < tp.length)]; rfl
    have f3 : (!decide (tx = tx)) = false := by simp
    have f4 : (!decide ((j : Int) = (j : Int))) = false := by simp
    have f5 : decide ((tn : Int) < 0) = false := by rw [decide_eq_false_iff_not]; omega
    have f6 : decide (((ts.map tbV).length : Int) ≤ (tn : Int)) = false := by rw [decide_eq_false_iff_not]; omega
    have f7 : (!decide (gI z.counts tn = gI z.counts tn)) = false := by simp
    repeat' (first | (refine go_Y ?_; intros) | (refine gs_Y ?_ ?_ <;> (intro hgd; try (simp only [Bool.not_true, Bool.not_false] at hgd))) | (refine gc_Y ?_ ?_ <;> intro _) | fail)
    refine cl_Y (hg) ?_
    rintro ⟨⟨ck', ct', ⟨bv', hbv'⟩, bef', ⟨av', hav'⟩, aft'⟩, P'⟩ ⟨hE', hcr', hce'⟩
    dsimp only [Cm.c, emV] at hE' hce' ⊢
    simp only [Chg.mk.injEq] at hce'
    obtain ⟨rfl, rfl, rfl, rfl⟩ := hce'
    have hb' : Vw P' 4 bv' (bef'.map valV) := hcr'.bv
    have ha' : Vw P' 4 av' (aft'.map valV) := hcr'.av
    refine ops_learn (VwIn.slice (VwIn.here hb')) ?_
    rintro ⟨pb', cb', rfl⟩
    refine ops_learn (VwIn.slice (VwIn.here ha')) ?_
    rintro ⟨pa', ca', rfl⟩
    repeat' (first | (refine go_Y ?_; intros) | (refine gs_Y ?_ ?_ <;> (intro hgd; try (simp only [Bool.not_true, Bool.not_false] at hgd))) | (refine gc_Y ?_ ?_ <;> intro _) | fail)
    rename_i b16 u1 hu1
    refine a_slice_view2 rfl rfl rfl rfl hte (by omega) (by omega) rfl ?_
    refine ops_poolN (ty := 51) (n := 4) (v := u1) (xs := [[.int .u8 ck', .int .i64 (tn : Int), .slice pb' (bef'.map valV).length cb', .slice pa' (aft'.map valV).length ca']]) (P := P') takeD ?_
    intro P2 hE2 hvw2
    have hEE := hE'.trans hE2
    have hsm15 := same15P_spec [(⟨ck', tn, ⟨.slice pb' (bef'.map valV).length cb', hbv'⟩, bef', ⟨.slice pa' (aft'.map valV).length ca', hav'⟩, aft'⟩ : Cm)] [(⟨ck', tn, ⟨bv, hbv⟩, bef', ⟨av, hav⟩, aft'⟩ : Cm)] u1 (dropV 4 pl (j + 1) cl j) P2 hvw2 (hEE.vw hvj) (by simp) (fun x hx => by
      rw [List.mem_singleton] at hx; subst hx
      exact ⟨hcr'.ext hE2, hlb, hla⟩) (fun x hx => by
      rw [List.mem_singleton] at hx; subst hx
      exact hcrj.ext hEE)
    repeat' (first | (refine go_Y ?_; intros) | (refine gs_Y ?_ ?_ <;> (intro hgd; try (simp only [Bool.not_true, Bool.not_false] at hgd))) | (refine gc_Y ?_ ?_ <;> intro _) | fail)
    refine cl_Y (hsm15) ?_
    intro y hy
    obtain rfl : y = true := hy.2 rfl
    have hw3 : IntKind.u64.wrap (arith BinOp.add (gI z.seqs tn) 1) = gI z.seqs tn + 1 := u64_eq (x := gI z.seqs tn + 1) (by omega) (by omega)
    have hsy : ((z.seqs.map sqV).set tn [.int .u64 (IntKind.u64.wrap (arith BinOp.add (gI z.seqs tn) 1))])[tn]? = some [.int .u64 (gI z.seqs tn + 1)] := by rw [hw3, List.getElem?_set_self htq]
    have htq' : tn < ((z.seqs.map sqV).set tn [.int .u64 (IntKind.u64.wrap (arith BinOp.add (gI z.seqs tn) 1))]).length := by rw [List.length_set]; exact htq
    have f8 : (!((gT tp (tn + 1)).toList == (gT tp (tn + 1)).toList)) = false := by simp
    have f9 : (!decide (gI z.seqs tn + 1 = gI z.seqs tn + 1)) = false := by simp
    have hset1 : (z.seqs.map sqV).set tn [.int .u64 (gI z.seqs tn + 1)] = (Z (j + 1)).seqs.map sqV := by rw [hstep]; show _ = (z.seqs.set _ _).map sqV; rw [List.map_set]; rfl
    have hset2 : (z.counts.map dpV).set tn [.int .i64 (gI z.counts tn + 1)] = (Z (j + 1)).counts.map dpV := by rw [hstep]; show _ = (z.counts.set _ _).map dpV; rw [List.map_set]; rfl
    repeat' (first | (refine go_Y ?_; intros) | (refine gs_Y ?_ ?_ <;> (intro hgd; try (simp only [Bool.not_true, Bool.not_false] at hgd))) | (refine gc_Y ?_ ?_ <;> intro _) | fail)
    rw [hw3, hset1, hset2]
    refine cont_map (L' := [pts b4 (.cells [.slice ps (ts.map tbV).length cps].toArray 24), pts b5 (.cells [.int .u64 m, .slice pq (qs.map sqV).length cq].toArray 28), P2, row 57 3 (.slice (some ⟨bo, 0, none⟩) (O.map outV).length co) (O.map outV), row 25 1 (.slice (some ⟨bs, 0, none⟩) (S.map sqV).length c3) (S.map sqV), pts b10 (.cells [.int .u64 (m + 2), .slice (some ⟨bs, 0, none⟩) (S.map sqV).length c3].toArray 28), row 9 1 (.slice (some ⟨bt, 0, none⟩) (ts.length + 1) (ts.length + 1)) (tp.map txtV), row 25 1 (.slice (some ⟨bq, 0, none⟩) (qs.map sqV).length c4) ((Z (j + 1)).seqs.map sqV), pts b13 (.cells [.int .u64 m, .slice (some ⟨bq, 0, none⟩) (qs.map sqV).length c4].toArray 28), row 3 1 (.slice (some ⟨bc, 0, none⟩) (ts.map tbV).length (ts.map tbV).length) ((Z (j + 1)).counts.map dpV)] ++ R) entD ?_
    refine cont_back (j + 1, ⟨P2, hE.trans hEE⟩) ⟨hj0, ⟨rfl, rfl, rfl, rfl, rfl, rfl, rfl, rfl, rfl, rfl, trivial⟩, rfl⟩ (by dsimp only; omega)
  | false =>
    have hje : j = cs.length := by have := of_decide_eq_false t1; omega
    subst hje
    have halP := alive20_spec P hUP
    generalize Z cs.length = zE at hok hoe hse hae
    clear hev2 hzs hzi hz0 hrep
    subst hse
    cases q1 : decide ((4611686018427387904 : Int) < m + 2) with
    | true =>
      repeat' (first | (refine go_Y ?_; intros) | (refine gs_Y ?_ ?_ <;> (intro hgd; try (simp only [Bool.not_true, Bool.not_false] at hgd))) | (refine gc_Y ?_ ?_ <;> intro _) | fail)
      refine cl_Y (halP) ?_
      intro _ _
      repeat' (first | (refine go_Y ?_; intros) | (refine gs_Y ?_ ?_ <;> (intro hgd; try (simp only [Bool.not_true, Bool.not_false] at hgd))) | (refine gc_Y ?_ ?_ <;> intro _) | fail)
      (refine rt_Y (y := P) (hrs := Tryd.results4) (hv := ?_) (hφ := ?_))
      · rfl
      · exact hE
    | false =>
    have hm2 : m + 2 ≤ 4611686018427387904 := by have := of_decide_eq_false q1; omega
    repeat' (first | (refine go_Y ?_; intros) | (refine gs_Y ?_ ?_ <;> (intro hgd; try (simp only [Bool.not_true, Bool.not_false] at hgd))) | (refine gc_Y ?_ ?_ <;> intro _) | fail)
    refine ok_map (L' := [pts b4 (.cells [.slice ps (ts.map tbV).length cps].toArray 24), pts b5 (.cells [.int .u64 m, .slice pq (qs.map sqV).length cq].toArray 28), P, row 57 3 (.slice (some ⟨bo, 0, none⟩) (O.map outV).length co) (O.map outV), row 25 1 (.slice (some ⟨bs, 0, none⟩) (zE.seqs.map sqV).length c3) (zE.seqs.map sqV), pts b10 (.cells [.int .u64 (m + 2), .slice (some ⟨bs, 0, none⟩) (zE.seqs.map sqV).length c3].toArray 28), row 9 1 (.slice (some ⟨bt, 0, none⟩) (ts.length + 1) (ts.length + 1)) (tp.map txtV), row 25 1 (.slice (some ⟨bq, 0, none⟩) (qs.map sqV).length c4) ((zE).seqs.map sqV), pts b13 (.cells [.int .u64 m, .slice (some ⟨bq, 0, none⟩) (qs.map sqV).length c4].toArray 28), row 3 1 (.slice (some ⟨bc, 0, none⟩) (ts.map tbV).length (ts.map tbV).length) ((zE).counts.map dpV)] ++ R) entD ?_
    refine ok_loop' (γ := Nat) (fun k ρ L => k ≤ zE.seqs.length ∧ (∀ x ∈ zE.seqs.take k, x ≤ 4611686018427387904) ∧ Knows ρ [(2, .int .u64 tx), (3, .slice pl (cs.map cmV).length cl), (4, .pointer (some ⟨b4, 0, none⟩)), (5, .pointer (some ⟨b5, 0, none⟩)), (9, .slice (some ⟨bo, 0, none⟩) (O.map outV).length co), (10, .pointer (some ⟨b10, 0, none⟩)), (12, .slice (some ⟨bt, 0, none⟩) (ts.length + 1) (ts.length + 1)), (13, .pointer (some ⟨b13, 0, none⟩)), (14, .slice (some ⟨bc, 0, none⟩) (ts.map tbV).length (ts.map tbV).length), (18, .int .i64 (k : Int))] ∧
      L = [pts b4 (.cells [.slice ps (ts.map tbV).length cps].toArray 24), pts b5 (.cells [.int .u64 m, .slice pq (qs.map sqV).length cq].toArray 28), P, row 57 3 (.slice (some ⟨bo, 0, none⟩) (O.map outV).length co) (O.map outV), row 25 1 (.slice (some ⟨bs, 0, none⟩) (zE.seqs.map sqV).length c3) (zE.seqs.map sqV), pts b10 (.cells [.int .u64 (m + 2), .slice (some ⟨bs, 0, none⟩) (zE.seqs.map sqV).length c3].toArray 28), row 9 1 (.slice (some ⟨bt, 0, none⟩) (ts.length + 1) (ts.length + 1)) (tp.map txtV), row 25 1 (.slice (some ⟨bq, 0, none⟩) (qs.map sqV).length c4) ((zE).seqs.map sqV), pts b13 (.cells [.int .u64 m, .slice (some ⟨bq, 0, none⟩) (qs.map sqV).length c4].toArray 28), row 3 1 (.slice (some ⟨bc, 0, none⟩) (ts.map tbV).length (ts.map tbV).length) ((zE).counts.map dpV)] ++ R) (fun k => zE.seqs.length - k) 0 ⟨by omega, fun x hx => by simp at hx, ⟨rfl, rfl, rfl, rfl, rfl, rfl, rfl, rfl, rfl, rfl, trivial⟩, rfl⟩ ?_
    rintro k ρ L ⟨hk2, hsk, hk, rfl⟩
    refine ok_regs hk ?_
    have lS2 : (zE.seqs.map sqV).length = zE.seqs.length := by simp
    cases t2 : decide ((k : Int) < ((zE.seqs.map sqV).length : Int)) with
    | true =>
      have hk0 : k < zE.seqs.length := by have := of_decide_eq_true t2; omega
      have hkx : (zE.seqs.map sqV)[k]? = some (sqV zE.seqs[k]) := by rw [List.getElem?_map, List.getElem?_eq_getElem hk0]; rfl
      have hkn : k < (zE.seqs.map sqV).length := by omega
      have htk : zE.seqs.take (k + 1) = zE.seqs.take k ++ [zE.seqs[k]] := List.take_succ_eq_append_getElem hk0
      generalize zE.seqs[k] = x at hkx htk
      dsimp only [sqV] at hkx
      cases q2 : decide ((4611686018427387904 : Int) < x) with
      | true =>
        repeat' (first | (refine go_Y ?_; intros) | (refine gs_Y ?_ ?_ <;> (intro hgd; try (simp only [Bool.not_true, Bool.not_false] at hgd))) | (refine gc_Y ?_ ?_ <;> intro _) | fail)
        refine cl_Y (halP) ?_
        intro _ _
        repeat' (first | (refine go_Y ?_; intros) | (refine gs_Y ?_ ?_ <;> (intro hgd; try (simp only [Bool.not_true, Bool.not_false] at hgd))) | (refine gc_Y ?_ ?_ <;> intro _) | fail)
        (refine rt_Y (y := P) (hrs := Tryd.results4) (hv := ?_) (hφ := ?_))
        · rfl
        · exact hE
      | false =>
        repeat' (first | (refine go_Y ?_; intros) | (refine gs_Y ?_ ?_ <;> (intro hgd; try (simp only [Bool.not_true, Bool.not_false] at hgd))) | (refine gc_Y ?_ ?_ <;> intro _) | fail)
        refine cont_map (L' := [pts b4 (.cells [.slice ps (ts.map tbV).length cps].toArray 24), pts b5 (.cells [.int .u64 m, .slice pq (qs.map sqV).length cq].toArray 28), P, row 57 3 (.slice (some ⟨bo, 0, none⟩) (O.map outV).length co) (O.map outV), row 25 1 (.slice (some ⟨bs, 0, none⟩) (zE.seqs.map sqV).length c3) (zE.seqs.map sqV), pts b10 (.cells [.int .u64 (m + 2), .slice (some ⟨bs, 0, none⟩) (zE.seqs.map sqV).length c3].toArray 28), row 9 1 (.slice (some ⟨bt, 0, none⟩) (ts.length + 1) (ts.length + 1)) (tp.map txtV), row 25 1 (.slice (some ⟨bq, 0, none⟩) (qs.map sqV).length c4) ((zE).seqs.map sqV), pts b13 (.cells [.int .u64 m, .slice (some ⟨bq, 0, none⟩) (qs.map sqV).length c4].toArray 28), row 3 1 (.slice (some ⟨bc, 0, none⟩) (ts.map tbV).length (ts.map tbV).length) ((zE).counts.map dpV)] ++ R) entD ?_
        refine cont_back (k + 1) ⟨hk0, fun y hy => by
          rw [htk] at hy
          rcases List.mem_append.1 hy with hy | hy
          · exact hsk y hy
          · rw [List.mem_singleton] at hy; subst hy; have := of_decide_eq_false q2; omega, ⟨rfl, rfl, rfl, rfl, rfl, rfl, rfl, rfl, rfl, rfl, trivial⟩, rfl⟩ (by omega)
    | false =>
      have hke : k = zE.seqs.length := by have := of_decide_eq_false t2; omega
      rw [hke, List.take_length] at hsk
      have hsz1 : (putMB 1 tx [] qs).size ≤ 1000000 := by
        unfold putMB
        rw [numsB_size, numsB_size, ByteArray.size_append, ByteArray.size_append, oneB_size, oneB_size, numB_size, List.length_nil]
        omega
      have hzl := hok.sl
      have hzc := hok.cl
      have hsz2 : (putMB 2 tx zE.counts zE.seqs).size ≤ 1000000 := by
        unfold putMB
        rw [numsB_size, numsB_size, ByteArray.size_append, ByteArray.size_append, oneB_size, oneB_size, numB_size]
        omega
      have hpos1 : decide (((putMB 1 tx [] qs).size : Int) = 0) = false := by
        rw [decide_eq_false_iff_not]
        unfold putMB
        rw [numsB_size, numsB_size, ByteArray.size_append, ByteArray.size_append, oneB_size, oneB_size, numB_size]
        omega
      have hat1 := at_spec (.slice ps (ts.map tbV).length cps) ts (m + 1) (putMB 1 tx [] qs) P (hsv.ext hE) hsz1 (by omega)
      rw [hab hm2 hq0 t0 tx1] at hat1
      dsimp only at hat1
      have hat2 := at_spec (.slice ps (ts.map tbV).length cps) ts (m + 2) (putMB 2 tx zE.counts zE.seqs) P (hsv.ext hE) hsz2 (by omega)
      rw [hae hm2 hq0 t0 tx1 hsk] at hat2
      dsimp only at hat2
      clear hab hae hsz1 hsz2
      have hx0 := outV_at ho0
      have hx1 := outV_at hoe
      dsimp only [outV] at hx0 hx1
      generalize putMB 1 tx [] qs = T1 at hat1 hx0 hpos1
      generalize putMB 2 tx zE.counts zE.seqs = T2 at hat2 hx1
      have hi0 : 0 < (O.map outV).length := by omega
      have hi1 : cs.length + 1 < (O.map outV).length := by omega
      have hii : ((O.map outV).length : Int) - 1 = ((cs.length + 1 : Nat) : Int) := by omega
      repeat' (first | (refine go_Y ?_; intros) | (refine gs_Y ?_ ?_ <;> (intro hgd; try (simp only [Bool.not_true, Bool.not_false] at hgd))) | (refine gc_Y ?_ ?_ <;> intro _) | fail)
      refine ok_meetE (γ := Option Addr × Nat × Nat × Nat × Option Addr × Nat × Option Addr × Nat) (fun g ρ L => Knows ρ [(2, .int .u64 tx), (3, .slice pl (cs.map cmV).length cl), (4, .pointer (some ⟨b4, 0, none⟩)), (5, .pointer (some ⟨b5, 0, none⟩)), (9, .slice (some ⟨bo, 0, none⟩) (O.map outV).length co), (10, .pointer (some ⟨b10, 0, none⟩)), (12, .slice (some ⟨bt, 0, none⟩) (ts.length + 1) (ts.length + 1)), (13, .pointer (some ⟨b13, 0, none⟩)), (14, .slice (some ⟨bc, 0, none⟩) (ts.map tbV).length (ts.map tbV).length), (19, .pointer (some ⟨g.2.2.1, 0, none⟩)), (20, .pointer (some ⟨g.2.2.2.1, 0, none⟩)), (21, .int .i64 0)] ∧
        L = [pts b4 (.cells [.slice ps (ts.map tbV).length cps].toArray 24), pts b5 (.cells [.int .u64 m, .slice pq (qs.map sqV).length cq].toArray 28), P, row 57 3 (.slice (some ⟨bo, 0, none⟩) (O.map outV).length co) (O.map outV), row 25 1 (.slice (some ⟨bs, 0, none⟩) (zE.seqs.map sqV).length c3) (zE.seqs.map sqV), pts b10 (.cells [.int .u64 (m + 2), .slice (some ⟨bs, 0, none⟩) (zE.seqs.map sqV).length c3].toArray 28), row 9 1 (.slice (some ⟨bt, 0, none⟩) (ts.length + 1) (ts.length + 1)) (tp.map txtV), row 25 1 (.slice (some ⟨bq, 0, none⟩) (qs.map sqV).length c4) ((zE).seqs.map sqV), pts b13 (.cells [.int .u64 m, .slice (some ⟨bq, 0, none⟩) (qs.map sqV).length c4].toArray 28), row 3 1 (.slice (some ⟨bc, 0, none⟩) (ts.map tbV).length (ts.map tbV).length) ((zE).counts.map dpV), row 25 1 (.slice g.1 (qs.map sqV).length g.2.1) (qs.map sqV), pts g.2.2.1 (.cells [.int .u64 m, .slice g.1 (qs.map sqV).length g.2.1].toArray 28), pts g.2.2.2.1 (.cells [.int .u8 1, .int .u64 tx, .slice g.2.2.2.2.1 (([] : List Int).map dpV).length g.2.2.2.2.2.1, .slice g.2.2.2.2.2.2.1 (qs.map sqV).length g.2.2.2.2.2.2.2].toArray 59)] ++ R) ?_ ?_
      · refine ok_map (L' := [pts b4 (.cells [.slice ps (ts.map tbV).length cps].toArray 24), row 57 3 (.slice (some ⟨bo, 0, none⟩) (O.map outV).length co) (O.map outV), pts b5 (.cells [.int .u64 m, .slice pq (qs.map sqV).length cq].toArray 28), P, row 25 1 (.slice (some ⟨bs, 0, none⟩) (zE.seqs.map sqV).length c3) (zE.seqs.map sqV), pts b10 (.cells [.int .u64 (m + 2), .slice (some ⟨bs, 0, none⟩) (zE.seqs.map sqV).length c3].toArray 28), row 9 1 (.slice (some ⟨bt, 0, none⟩) (ts.length + 1) (ts.length + 1)) (tp.map txtV), row 25 1 (.slice (some ⟨bq, 0, none⟩) (qs.map sqV).length c4) ((zE).seqs.map sqV), pts b13 (.cells [.int .u64 m, .slice (some ⟨bq, 0, none⟩) (qs.map sqV).length c4].toArray 28), row 3 1 (.slice (some ⟨bc, 0, none⟩) (ts.map tbV).length (ts.map tbV).length) ((zE).counts.map dpV)] ++ R) entD ?_
        refine ok_draw_node (cv := []) 5 [9, 14, 15, 16, 17] [pts b4 (.cells [.slice ps (ts.map tbV).length cps].toArray 24), row 57 3 (.slice (some ⟨bo, 0, none⟩) (O.map outV).length co) (O.map outV)] (by kernel_rfl) rfl (by decide +kernel) (by decide +kernel) (by decide +kernel) (takePre takeD) _ rfl ?_
        refine node_have 0 [13, 18] (γ := Option Addr × Nat × Nat × Nat × Option Addr × Nat × Option Addr × Nat) (fun ⟨pp, cp, b19, b20, pk, ck, pm, cm⟩ ρ L => Knows ρ [(2, .int .u64 tx), (3, .slice pl (cs.map cmV).length cl), (4, .pointer (some ⟨b4, 0, none⟩)), (5, .pointer (some ⟨b5, 0, none⟩)), (9, .slice (some ⟨bo, 0, none⟩) (O.map outV).length co), (10, .pointer (some ⟨b10, 0, none⟩)), (12, .slice (some ⟨bt, 0, none⟩) (ts.length + 1) (ts.length + 1)), (13, .pointer (some ⟨b13, 0, none⟩)), (14, .slice (some ⟨bc, 0, none⟩) (ts.map tbV).length (ts.map tbV).length), (201, .tuple #[.agg #[.int .u64 m, .slice pp (qs.map sqV).length cp], .agg #[.int .u8 1, .int .u64 tx, .slice pk (([] : List Int).map dpV).length ck, .slice pm (qs.map sqV).length cm], .int .i64 0]), (19, .pointer (some ⟨b19, 0, none⟩)), (20, .pointer (some ⟨b20, 0, none⟩))] ∧ L = [pts b4 (.cells [.slice ps (ts.map tbV).length cps].toArray 24), row 57 3 (.slice (some ⟨bo, 0, none⟩) (O.map outV).length co) (O.map outV), pts b5 (.cells [.int .u64 m, .slice pq (qs.map sqV).length cq].toArray 28), P, row 25 1 (.slice (some ⟨bs, 0, none⟩) (zE.seqs.map sqV).length c3) (zE.seqs.map sqV), pts b10 (.cells [.int .u64 (m + 2), .slice (some ⟨bs, 0, none⟩) (zE.seqs.map sqV).length c3].toArray 28), row 9 1 (.slice (some ⟨bt, 0, none⟩) (ts.length + 1) (ts.length + 1)) (tp.map txtV), row 25 1 (.slice (some ⟨bq, 0, none⟩) (qs.map sqV).length c4) ((zE).seqs.map sqV), pts b13 (.cells [.int .u64 m, .slice (some ⟨bq, 0, none⟩) (qs.map sqV).length c4].toArray 28), row 3 1 (.slice (some ⟨bc, 0, none⟩) (ts.map tbV).length (ts.map tbV).length) ((zE).counts.map dpV), row 25 1 (.slice pp (qs.map sqV).length cp) (qs.map sqV), row 3 1 (.slice pk (([] : List Int).map dpV).length ck) (([] : List Int).map dpV), row 25 1 (.slice pm (qs.map sqV).length cm) (qs.map sqV), pts b19 (.cells [.int .u64 m, .slice pp (qs.map sqV).length cp].toArray 28), pts b20 (.cells [.int .u8 1, .int .u64 tx, .slice pk (([] : List Int).map dpV).length ck, .slice pm (qs.map sqV).length cm].toArray 59)] ++ R) ?_ ?_
        · rintro ⟨pp, cp, b19, b20, pk, ck, pm, cm⟩ ρ L ⟨hk, rfl⟩
          refine cont_regs hk ?_
          refine cont_node0 (by decide +kernel) ?_
          repeat' (first | (refine go_Y ?_; intros) | fail)
          refine cont_map (L' := [pts b4 (.cells [.slice ps (ts.map tbV).length cps].toArray 24), pts b5 (.cells [.int .u64 m, .slice pq (qs.map sqV).length cq].toArray 28), P, row 57 3 (.slice (some ⟨bo, 0, none⟩) (O.map outV).length co) (O.map outV), row 25 1 (.slice (some ⟨bs, 0, none⟩) (zE.seqs.map sqV).length c3) (zE.seqs.map sqV), pts b10 (.cells [.int .u64 (m + 2), .slice (some ⟨bs, 0, none⟩) (zE.seqs.map sqV).length c3].toArray 28), row 9 1 (.slice (some ⟨bt, 0, none⟩) (ts.length + 1) (ts.length + 1)) (tp.map txtV), row 25 1 (.slice (some ⟨bq, 0, none⟩) (qs.map sqV).length c4) ((zE).seqs.map sqV), pts b13 (.cells [.int .u64 m, .slice (some ⟨bq, 0, none⟩) (qs.map sqV).length c4].toArray 28), row 3 1 (.slice (some ⟨bc, 0, none⟩) (ts.map tbV).length (ts.map tbV).length) ((zE).counts.map dpV), row 25 1 (.slice pp (qs.map sqV).length cp) (qs.map sqV), pts b19 (.cells [.int .u64 m, .slice pp (qs.map sqV).length cp].toArray 28), pts b20 (.cells [.int .u8 1, .int .u64 tx, .slice pk (([] : List Int).map dpV).length ck, .slice pm (qs.map sqV).length cm].toArray 59)] ++ R) entD ?_
          exact cont_meet (pp, cp, b19, b20, pk, ck, pm, cm) ⟨⟨rfl, rfl, rfl, rfl, rfl, rfl, rfl, rfl, rfl, rfl, rfl, rfl, trivial⟩, rfl⟩
        intro n9_14_15_16_17
        refine node_have 1 [12, 13, 17, 18] (γ := Option Addr × Nat × Nat × Nat × Option Addr × Nat × Option Addr × Nat) (fun ⟨pp, cp, b19, b20, pk, ck, pm, cm⟩ ρ L => Knows ρ [(2, .int .u64 tx), (3, .slice pl (cs.map cmV).length cl), (4, .pointer (some ⟨b4, 0, none⟩)), (5, .pointer (some ⟨b5, 0, none⟩)), (9, .slice (some ⟨bo, 0, none⟩) (O.map outV).length co), (10, .pointer (some ⟨b10, 0, none⟩)), (12, .slice (some ⟨bt, 0, none⟩) (ts.length + 1) (ts.length + 1)), (13, .pointer (some ⟨b13, 0, none⟩)), (14, .slice (some ⟨bc, 0, none⟩) (ts.map tbV).length (ts.map tbV).length), (201, .tuple #[.agg #[.int .u64 m, .slice pp (qs.map sqV).length cp], .agg #[.int .u8 1, .int .u64 tx, .slice pk (([] : List Int).map dpV).length ck, .slice pm (qs.map sqV).length cm], .int .i64 0]), (19, .pointer (some ⟨b19, 0, none⟩)), (20, .pointer (some ⟨b20, 0, none⟩))] ∧ L = [pts b4 (.cells [.slice ps (ts.map tbV).length cps].toArray 24), row 57 3 (.slice (some ⟨bo, 0, none⟩) (O.map outV).length co) (O.map outV), pts b5 (.cells [.int .u64 m, .slice pq (qs.map sqV).length cq].toArray 28), P, row 25 1 (.slice (some ⟨bs, 0, none⟩) (zE.seqs.map sqV).length c3) (zE.seqs.map sqV), pts b10 (.cells [.int .u64 (m + 2), .slice (some ⟨bs, 0, none⟩) (zE.seqs.map sqV).length c3].toArray 28), row 9 1 (.slice (some ⟨bt, 0, none⟩) (ts.length + 1) (ts.length + 1)) (tp.map txtV), row 25 1 (.slice (some ⟨bq, 0, none⟩) (qs.map sqV).length c4) ((zE).seqs.map sqV), pts b13 (.cells [.int .u64 m, .slice (some ⟨bq, 0, none⟩) (qs.map sqV).length c4].toArray 28), row 3 1 (.slice (some ⟨bc, 0, none⟩) (ts.map tbV).length (ts.map tbV).length) ((zE).counts.map dpV), row 25 1 (.slice pp (qs.map sqV).length cp) (qs.map sqV), row 3 1 (.slice pk (([] : List Int).map dpV).length ck) (([] : List Int).map dpV), row 25 1 (.slice pm (qs.map sqV).length cm) (qs.map sqV), pts b19 (.cells [.int .u64 m, .slice pp (qs.map sqV).length cp].toArray 28), pts b20 (.cells [.int .u8 0, .int .u64 0, .slice none 0 0, .slice none 0 0].toArray 59)] ++ R) ?_ ?_
        · rintro ⟨pp, cp, b19, b20, pk, ck, pm, cm⟩ ρ L ⟨hk, rfl⟩
          refine cont_regs hk ?_
          refine cont_node [] [(17, [12, 17], [13, 18])] rfl (by decide +kernel) ?_
          refine nodeE1 ?_
          · dsimp only [List.length_cons, List.length_nil]
            repeat' (first | (refine go_Y ?_; intros) | fail)
            refine cont_map (L' := [pts b4 (.cells [.slice ps (ts.map tbV).length cps].toArray 24), row 57 3 (.slice (some ⟨bo, 0, none⟩) (O.map outV).length co) (O.map outV), pts b5 (.cells [.int .u64 m, .slice pq (qs.map sqV).length cq].toArray 28), P, row 25 1 (.slice (some ⟨bs, 0, none⟩) (zE.seqs.map sqV).length c3) (zE.seqs.map sqV), pts b10 (.cells [.int .u64 (m + 2), .slice (some ⟨bs, 0, none⟩) (zE.seqs.map sqV).length c3].toArray 28), row 9 1 (.slice (some ⟨bt, 0, none⟩) (ts.length + 1) (ts.length + 1)) (tp.map txtV), row 25 1 (.slice (some ⟨bq, 0, none⟩) (qs.map sqV).length c4) ((zE).seqs.map sqV), pts b13 (.cells [.int .u64 m, .slice (some ⟨bq, 0, none⟩) (qs.map sqV).length c4].toArray 28), row 3 1 (.slice (some ⟨bc, 0, none⟩) (ts.map tbV).length (ts.map tbV).length) ((zE).counts.map dpV), row 25 1 (.slice pp (qs.map sqV).length cp) (qs.map sqV), row 3 1 (.slice pk (([] : List Int).map dpV).length ck) (([] : List Int).map dpV), row 25 1 (.slice pm (qs.map sqV).length cm) (qs.map sqV), pts b19 (.cells [.int .u64 m, .slice pp (qs.map sqV).length cp].toArray 28), pts b20 (.cells [.int .u8 1, .int .u64 tx, .slice pk (([] : List Int).map dpV).length ck, .slice pm (qs.map sqV).length cm].toArray 59)] ++ R) entD ?_
            exact n9_14_15_16_17 ⟨pp, cp, b19, b20, pk, ck, pm, cm⟩ _ _ ⟨⟨rfl, rfl, rfl, rfl, rfl, rfl, rfl, rfl, rfl, rfl, rfl, rfl, trivial⟩, rfl⟩
        intro n9_14_15_16
        refine node_have 2 [10, 11, 12, 13, 16, 17, 18] (γ := Option Addr × Nat × Nat × Nat × Option Addr × Nat × Option Addr × Nat) (fun ⟨pp, cp, b19, b20, pk, ck, pm, cm⟩ ρ L => Knows ρ [(2, .int .u64 tx), (3, .slice pl (cs.map cmV).length cl), (4, .pointer (some ⟨b4, 0, none⟩)), (5, .pointer (some ⟨b5, 0, none⟩)), (9, .slice (some ⟨bo, 0, none⟩) (O.map outV).length co), (10, .pointer (some ⟨b10, 0, none⟩)), (12, .slice (some ⟨bt, 0, none⟩) (ts.length + 1) (ts.length + 1)), (13, .pointer (some ⟨b13, 0, none⟩)), (14, .slice (some ⟨bc, 0, none⟩) (ts.map tbV).length (ts.map tbV).length), (211, .tuple #[.agg #[.int .u64 m, .slice pp (qs.map sqV).length cp], .agg #[.int .u8 1, .int .u64 tx, .slice pk (([] : List Int).map dpV).length ck, .slice pm (qs.map sqV).length cm], .int .i64 0]), (19, .pointer (some ⟨b19, 0, none⟩)), (20, .pointer (some ⟨b20, 0, none⟩))] ∧ L = [pts b4 (.cells [.slice ps (ts.map tbV).length cps].toArray 24), row 57 3 (.slice (some ⟨bo, 0, none⟩) (O.map outV).length co) (O.map outV), pts b5 (.cells [.int .u64 m, .slice pq (qs.map sqV).length cq].toArray 28), P, row 25 1 (.slice (some ⟨bs, 0, none⟩) (zE.seqs.map sqV).length c3) (zE.seqs.map sqV), pts b10 (.cells [.int .u64 (m + 2), .slice (some ⟨bs, 0, none⟩) (zE.seqs.map sqV).length c3].toArray 28), row 9 1 (.slice (some ⟨bt, 0, none⟩) (ts.length + 1) (ts.length + 1)) (tp.map txtV), row 25 1 (.slice (some ⟨bq, 0, none⟩) (qs.map sqV).length c4) ((zE).seqs.map sqV), pts b13 (.cells [.int .u64 m, .slice (some ⟨bq, 0, none⟩) (qs.map sqV).length c4].toArray 28), row 3 1 (.slice (some ⟨bc, 0, none⟩) (ts.map tbV).length (ts.map tbV).length) ((zE).counts.map dpV), row 25 1 (.slice pp (qs.map sqV).length cp) (qs.map sqV), row 3 1 (.slice pk (([] : List Int).map dpV).length ck) (([] : List Int).map dpV), row 25 1 (.slice pm (qs.map sqV).length cm) (qs.map sqV), pts b19 (.cells [.int .u64 0, .slice none 0 0].toArray 28), pts b20 (.cells [.int .u8 0, .int .u64 0, .slice none 0 0, .slice none 0 0].toArray 59)] ++ R) ?_ ?_
        · rintro ⟨pp, cp, b19, b20, pk, ck, pm, cm⟩ ρ L ⟨hk, rfl⟩
          refine cont_regs hk ?_
          refine cont_node [] [(16, [10, 11, 16], [12, 13, 17, 18])] rfl (by decide +kernel) ?_
          refine nodeE1 ?_
          · dsimp only [List.length_cons, List.length_nil]
            repeat' (first | (refine go_Y ?_; intros) | fail)
            refine cont_map (L' := [pts b4 (.cells [.slice ps (ts.map tbV).length cps].toArray 24), row 57 3 (.slice (some ⟨bo, 0, none⟩) (O.map outV).length co) (O.map outV), pts b5 (.cells [.int .u64 m, .slice pq (qs.map sqV).length cq].toArray 28), P, row 25 1 (.slice (some ⟨bs, 0, none⟩) (zE.seqs.map sqV).length c3) (zE.seqs.map sqV), pts b10 (.cells [.int .u64 (m + 2), .slice (some ⟨bs, 0, none⟩) (zE.seqs.map sqV).length c3].toArray 28), row 9 1 (.slice (some ⟨bt, 0, none⟩) (ts.length + 1) (ts.length + 1)) (tp.map txtV), row 25 1 (.slice (some ⟨bq, 0, none⟩) (qs.map sqV).length c4) ((zE).seqs.map sqV), pts b13 (.cells [.int .u64 m, .slice (some ⟨bq, 0, none⟩) (qs.map sqV).length c4].toArray 28), row 3 1 (.slice (some ⟨bc, 0, none⟩) (ts.map tbV).length (ts.map tbV).length) ((zE).counts.map dpV), row 25 1 (.slice pp (qs.map sqV).length cp) (qs.map sqV), row 3 1 (.slice pk (([] : List Int).map dpV).length ck) (([] : List Int).map dpV), row 25 1 (.slice pm (qs.map sqV).length cm) (qs.map sqV), pts b19 (.cells [.int .u64 m, .slice pp (qs.map sqV).length cp].toArray 28), pts b20 (.cells [.int .u8 0, .int .u64 0, .slice none 0 0, .slice none 0 0].toArray 59)] ++ R) entD ?_
            exact n9_14_15_16 ⟨pp, cp, b19, b20, pk, ck, pm, cm⟩ _ _ ⟨⟨rfl, rfl, rfl, rfl, rfl, rfl, rfl, rfl, rfl, rfl, rfl, rfl, trivial⟩, rfl⟩
        intro n9_14_15
        refine node_have 3 [10, 11, 12, 13, 15, 16, 17, 18] (γ := Option Addr × Nat × Nat × Nat × Option Addr × Nat × Option Addr × Nat) (fun ⟨pp, cp, b19, b20, pk, ck, pm, cm⟩ ρ L => Knows ρ [(2, .int .u64 tx), (3, .slice pl (cs.map cmV).length cl), (4, .pointer (some ⟨b4, 0, none⟩)), (5, .pointer (some ⟨b5, 0, none⟩)), (9, .slice (some ⟨bo, 0, none⟩) (O.map outV).length co), (10, .pointer (some ⟨b10, 0, none⟩)), (12, .slice (some ⟨bt, 0, none⟩) (ts.length + 1) (ts.length + 1)), (13, .pointer (some ⟨b13, 0, none⟩)), (14, .slice (some ⟨bc, 0, none⟩) (ts.map tbV).length (ts.map tbV).length), (211, .tuple #[.agg #[.int .u64 m, .slice pp (qs.map sqV).length cp], .agg #[.int .u8 1, .int .u64 tx, .slice pk (([] : List Int).map dpV).length ck, .slice pm (qs.map sqV).length cm], .int .i64 0]), (19, .pointer (some ⟨b19, 0, none⟩))] ∧ L = [pts b4 (.cells [.slice ps (ts.map tbV).length cps].toArray 24), row 57 3 (.slice (some ⟨bo, 0, none⟩) (O.map outV).length co) (O.map outV), pts b5 (.cells [.int .u64 m, .slice pq (qs.map sqV).length cq].toArray 28), P, row 25 1 (.slice (some ⟨bs, 0, none⟩) (zE.seqs.map sqV).length c3) (zE.seqs.map sqV), pts b10 (.cells [.int .u64 (m + 2), .slice (some ⟨bs, 0, none⟩) (zE.seqs.map sqV).length c3].toArray 28), row 9 1 (.slice (some ⟨bt, 0, none⟩) (ts.length + 1) (ts.length + 1)) (tp.map txtV), row 25 1 (.slice (some ⟨bq, 0, none⟩) (qs.map sqV).length c4) ((zE).seqs.map sqV), pts b13 (.cells [.int .u64 m, .slice (some ⟨bq, 0, none⟩) (qs.map sqV).length c4].toArray 28), row 3 1 (.slice (some ⟨bc, 0, none⟩) (ts.map tbV).length (ts.map tbV).length) ((zE).counts.map dpV), row 25 1 (.slice pp (qs.map sqV).length cp) (qs.map sqV), row 3 1 (.slice pk (([] : List Int).map dpV).length ck) (([] : List Int).map dpV), row 25 1 (.slice pm (qs.map sqV).length cm) (qs.map sqV), pts b19 (.cells [.int .u64 0, .slice none 0 0].toArray 28)] ++ R) ?_ ?_
        · rintro ⟨pp, cp, b19, b20, pk, ck, pm, cm⟩ ρ L ⟨hk, rfl⟩
          refine cont_regs hk ?_
          refine cont_node [] [(15, [15], [10, 11, 12, 13, 16, 17, 18])] rfl (by decide +kernel) ?_
          refine nodeE1 ?_
          · dsimp only [List.length_cons, List.length_nil]
            repeat' (first | (refine go_Y ?_; intros) | fail)
            rename_i w
            refine cont_map (L' := [pts b4 (.cells [.slice ps (ts.map tbV).length cps].toArray 24), row 57 3 (.slice (some ⟨bo, 0, none⟩) (O.map outV).length co) (O.map outV), pts b5 (.cells [.int .u64 m, .slice pq (qs.map sqV).length cq].toArray 28), P, row 25 1 (.slice (some ⟨bs, 0, none⟩) (zE.seqs.map sqV).length c3) (zE.seqs.map sqV), pts b10 (.cells [.int .u64 (m + 2), .slice (some ⟨bs, 0, none⟩) (zE.seqs.map sqV).length c3].toArray 28), row 9 1 (.slice (some ⟨bt, 0, none⟩) (ts.length + 1) (ts.length + 1)) (tp.map txtV), row 25 1 (.slice (some ⟨bq, 0, none⟩) (qs.map sqV).length c4) ((zE).seqs.map sqV), pts b13 (.cells [.int .u64 m, .slice (some ⟨bq, 0, none⟩) (qs.map sqV).length c4].toArray 28), row 3 1 (.slice (some ⟨bc, 0, none⟩) (ts.map tbV).length (ts.map tbV).length) ((zE).counts.map dpV), row 25 1 (.slice pp (qs.map sqV).length cp) (qs.map sqV), row 3 1 (.slice pk (([] : List Int).map dpV).length ck) (([] : List Int).map dpV), row 25 1 (.slice pm (qs.map sqV).length cm) (qs.map sqV), pts b19 (.cells [.int .u64 0, .slice none 0 0].toArray 28), pts w (.cells [.int .u8 0, .int .u64 0, .slice none 0 0, .slice none 0 0].toArray 59)] ++ R) entD ?_
            exact n9_14_15 ⟨pp, cp, b19, w, pk, ck, pm, cm⟩ _ _ ⟨⟨rfl, rfl, rfl, rfl, rfl, rfl, rfl, rfl, rfl, rfl, rfl, rfl, trivial⟩, rfl⟩
        intro n9_14
        refine node_have 3 [10, 11, 12, 13, 14, 16, 17, 18] (γ := Option Addr × Nat × Nat × Nat × Option Addr × Nat × Option Addr × Nat) (fun ⟨pp, cp, b19, b20, pk, ck, pm, cm⟩ ρ L => Knows ρ [(2, .int .u64 tx), (3, .slice pl (cs.map cmV).length cl), (4, .pointer (some ⟨b4, 0, none⟩)), (5, .pointer (some ⟨b5, 0, none⟩)), (9, .slice (some ⟨bo, 0, none⟩) (O.map outV).length co), (10, .pointer (some ⟨b10, 0, none⟩)), (12, .slice (some ⟨bt, 0, none⟩) (ts.length + 1) (ts.length + 1)), (13, .pointer (some ⟨b13, 0, none⟩)), (14, .slice (some ⟨bc, 0, none⟩) (ts.map tbV).length (ts.map tbV).length), (211, .tuple #[.agg #[.int .u64 m, .slice pp (qs.map sqV).length cp], .agg #[.int .u8 1, .int .u64 tx, .slice pk (([] : List Int).map dpV).length ck, .slice pm (qs.map sqV).length cm], .int .i64 0]), (20, .pointer (some ⟨b20, 0, none⟩))] ∧ L = [pts b4 (.cells [.slice ps (ts.map tbV).length cps].toArray 24), row 57 3 (.slice (some ⟨bo, 0, none⟩) (O.map outV).length co) (O.map outV), pts b5 (.cells [.int .u64 m, .slice pq (qs.map sqV).length cq].toArray 28), P, row 25 1 (.slice (some ⟨bs, 0, none⟩) (zE.seqs.map sqV).length c3) (zE.seqs.map sqV), pts b10 (.cells [.int .u64 (m + 2), .slice (some ⟨bs, 0, none⟩) (zE.seqs.map sqV).length c3].toArray 28), row 9 1 (.slice (some ⟨bt, 0, none⟩) (ts.length + 1) (ts.length + 1)) (tp.map txtV), row 25 1 (.slice (some ⟨bq, 0, none⟩) (qs.map sqV).length c4) ((zE).seqs.map sqV), pts b13 (.cells [.int .u64 m, .slice (some ⟨bq, 0, none⟩) (qs.map sqV).length c4].toArray 28), row 3 1 (.slice (some ⟨bc, 0, none⟩) (ts.map tbV).length (ts.map tbV).length) ((zE).counts.map dpV), row 25 1 (.slice pp (qs.map sqV).length cp) (qs.map sqV), row 3 1 (.slice pk (([] : List Int).map dpV).length ck) (([] : List Int).map dpV), row 25 1 (.slice pm (qs.map sqV).length cm) (qs.map sqV), pts b20 (.cells [.int .u8 0, .int .u64 0, .slice none 0 0, .slice none 0 0].toArray 59)] ++ R) ?_ ?_
        · rintro ⟨pp, cp, b19, b20, pk, ck, pm, cm⟩ ρ L ⟨hk, rfl⟩
          refine cont_regs hk ?_
          refine cont_node [] [(14, [14], [10, 11, 12, 13, 16, 17, 18])] rfl (by decide +kernel) ?_
          refine nodeE1 ?_
          · dsimp only [List.length_cons, List.length_nil]
            repeat' (first | (refine go_Y ?_; intros) | fail)
            rename_i w
            refine cont_map (L' := [pts b4 (.cells [.slice ps (ts.map tbV).length cps].toArray 24), row 57 3 (.slice (some ⟨bo, 0, none⟩) (O.map outV).length co) (O.map outV), pts b5 (.cells [.int .u64 m, .slice pq (qs.map sqV).length cq].toArray 28), P, row 25 1 (.slice (some ⟨bs, 0, none⟩) (zE.seqs.map sqV).length c3) (zE.seqs.map sqV), pts b10 (.cells [.int .u64 (m + 2), .slice (some ⟨bs, 0, none⟩) (zE.seqs.map sqV).length c3].toArray 28), row 9 1 (.slice (some ⟨bt, 0, none⟩) (ts.length + 1) (ts.length + 1)) (tp.map txtV), row 25 1 (.slice (some ⟨bq, 0, none⟩) (qs.map sqV).length c4) ((zE).seqs.map sqV), pts b13 (.cells [.int .u64 m, .slice (some ⟨bq, 0, none⟩) (qs.map sqV).length c4].toArray 28), row 3 1 (.slice (some ⟨bc, 0, none⟩) (ts.map tbV).length (ts.map tbV).length) ((zE).counts.map dpV), row 25 1 (.slice pp (qs.map sqV).length cp) (qs.map sqV), row 3 1 (.slice pk (([] : List Int).map dpV).length ck) (([] : List Int).map dpV), row 25 1 (.slice pm (qs.map sqV).length cm) (qs.map sqV), pts w (.cells [.int .u64 0, .slice none 0 0].toArray 28), pts b20 (.cells [.int .u8 0, .int .u64 0, .slice none 0 0, .slice none 0 0].toArray 59)] ++ R) entD ?_
            exact n9_14_15 ⟨pp, cp, w, b20, pk, ck, pm, cm⟩ _ _ ⟨⟨rfl, rfl, rfl, rfl, rfl, rfl, rfl, rfl, rfl, rfl, rfl, rfl, trivial⟩, rfl⟩
        intro n9_15
        refine node_have 3 [0, 1, 2, 3, 4, 5, 6, 7, 8, 9, 10, 11, 12, 13, 16, 17, 18] (γ := Option Addr × Nat × Nat × Nat × Option Addr × Nat × Option Addr × Nat) (fun ⟨pp, cp, b19, b20, pk, ck, pm, cm⟩ ρ L => Knows ρ [(2, .int .u64 tx), (3, .slice pl (cs.map cmV).length cl), (4, .pointer (some ⟨b4, 0, none⟩)), (5, .pointer (some ⟨b5, 0, none⟩)), (9, .slice (some ⟨bo, 0, none⟩) (O.map outV).length co), (10, .pointer (some ⟨b10, 0, none⟩)), (12, .slice (some ⟨bt, 0, none⟩) (ts.length + 1) (ts.length + 1)), (13, .pointer (some ⟨b13, 0, none⟩)), (14, .slice (some ⟨bc, 0, none⟩) (ts.map tbV).length (ts.map tbV).length), (19, .pointer (some ⟨b19, 0, none⟩)), (20, .pointer (some ⟨b20, 0, none⟩))] ∧ L = [pts b4 (.cells [.slice ps (ts.map tbV).length cps].toArray 24), row 57 3 (.slice (some ⟨bo, 0, none⟩) (O.map outV).length co) (O.map outV), pts b5 (.cells [.int .u64 m, .slice pq (qs.map sqV).length cq].toArray 28), P, row 25 1 (.slice (some ⟨bs, 0, none⟩) (zE.seqs.map sqV).length c3) (zE.seqs.map sqV), pts b10 (.cells [.int .u64 (m + 2), .slice (some ⟨bs, 0, none⟩) (zE.seqs.map sqV).length c3].toArray 28), row 9 1 (.slice (some ⟨bt, 0, none⟩) (ts.length + 1) (ts.length + 1)) (tp.map txtV), row 25 1 (.slice (some ⟨bq, 0, none⟩) (qs.map sqV).length c4) ((zE).seqs.map sqV), pts b13 (.cells [.int .u64 m, .slice (some ⟨bq, 0, none⟩) (qs.map sqV).length c4].toArray 28), row 3 1 (.slice (some ⟨bc, 0, none⟩) (ts.map tbV).length (ts.map tbV).length) ((zE).counts.map dpV), pts b19 (.cells [.int .u64 0, .slice none 0 0].toArray 28), pts b20 (.cells [.int .u8 0, .int .u64 0, .slice none 0 0, .slice none 0 0].toArray 59)] ++ R) ?_ ?_
        · rintro ⟨pp, cp, b19, b20, pk, ck, pm, cm⟩ ρ L ⟨hk, rfl⟩
          refine cont_regs hk ?_
          refine cont_node [] [(9, [0, 1, 2, 3, 4, 5, 6, 7, 8, 9], [10, 11, 12, 13, 16, 17, 18])] rfl (by decide +kernel) ?_
          refine nodeE1 ?_
          · dsimp only [List.length_cons, List.length_nil]
            repeat' (first | (refine go_Y ?_; intros) | fail)
            refine clN_Y (hat1) ?_
            rintro ⟨⟨wp, hwp⟩, ⟨wc, hwc⟩, ⟨wm, hwm⟩⟩ _
            dsimp only
            refine ops_learn (rowShapeS (e := 25) (n := 1) (v := wp) (xs := qs.map sqV) (by decide) takeD) ?_
            rintro ⟨p1, c1, rfl, _, _⟩
            refine ops_learn (rowShapeS (e := 3) (n := 1) (v := wc) (xs := ([] : List Int).map dpV) (by decide) takeD) ?_
            rintro ⟨p2, c2, rfl, _, _⟩
            refine ops_learn (rowShapeS (e := 25) (n := 1) (v := wm) (xs := qs.map sqV) (by decide) takeD) ?_
            rintro ⟨p3, c3', rfl, _, _⟩
            repeat' (first | (refine go_Y ?_; intros) | fail)
            refine cont_map (L' := [pts b4 (.cells [.slice ps (ts.map tbV).length cps].toArray 24), row 57 3 (.slice (some ⟨bo, 0, none⟩) (O.map outV).length co) (O.map outV), pts b5 (.cells [.int .u64 m, .slice pq (qs.map sqV).length cq].toArray 28), P, row 25 1 (.slice (some ⟨bs, 0, none⟩) (zE.seqs.map sqV).length c3) (zE.seqs.map sqV), pts b10 (.cells [.int .u64 (m + 2), .slice (some ⟨bs, 0, none⟩) (zE.seqs.map sqV).length c3].toArray 28), row 9 1 (.slice (some ⟨bt, 0, none⟩) (ts.length + 1) (ts.length + 1)) (tp.map txtV), row 25 1 (.slice (some ⟨bq, 0, none⟩) (qs.map sqV).length c4) ((zE).seqs.map sqV), pts b13 (.cells [.int .u64 m, .slice (some ⟨bq, 0, none⟩) (qs.map sqV).length c4].toArray 28), row 3 1 (.slice (some ⟨bc, 0, none⟩) (ts.map tbV).length (ts.map tbV).length) ((zE).counts.map dpV), row 25 1 (.slice p1 (qs.map sqV).length c1) (qs.map sqV), row 3 1 (.slice p2 (([] : List Int).map dpV).length c2) (([] : List Int).map dpV), row 25 1 (.slice p3 (qs.map sqV).length c3') (qs.map sqV), pts b19 (.cells [.int .u64 0, .slice none 0 0].toArray 28), pts b20 (.cells [.int .u8 0, .int .u64 0, .slice none 0 0, .slice none 0 0].toArray 59)] ++ R) entD ?_
            exact n9_14_15 ⟨p1, c1, b19, b20, p2, c2, p3, c3'⟩ _ _ ⟨⟨rfl, rfl, rfl, rfl, rfl, rfl, rfl, rfl, rfl, rfl, rfl, rfl, trivial⟩, rfl⟩
        intro n14_15
        refine node_have 4 [10, 11, 12, 13, 14, 15, 16, 17, 18] (γ := Option Addr × Nat × Nat × Nat × Option Addr × Nat × Option Addr × Nat) (fun ⟨pp, cp, b19, b20, pk, ck, pm, cm⟩ ρ L => Knows ρ [(2, .int .u64 tx), (3, .slice pl (cs.map cmV).length cl), (4, .pointer (some ⟨b4, 0, none⟩)), (5, .pointer (some ⟨b5, 0, none⟩)), (9, .slice (some ⟨bo, 0, none⟩) (O.map outV).length co), (10, .pointer (some ⟨b10, 0, none⟩)), (12, .slice (some ⟨bt, 0, none⟩) (ts.length + 1) (ts.length + 1)), (13, .pointer (some ⟨b13, 0, none⟩)), (14, .slice (some ⟨bc, 0, none⟩) (ts.map tbV).length (ts.map tbV).length), (211, .tuple #[.agg #[.int .u64 m, .slice pp (qs.map sqV).length cp], .agg #[.int .u8 1, .int .u64 tx, .slice pk (([] : List Int).map dpV).length ck, .slice pm (qs.map sqV).length cm], .int .i64 0])] ∧ L = [pts b4 (.cells [.slice ps (ts.map tbV).length cps].toArray 24), row 57 3 (.slice (some ⟨bo, 0, none⟩) (O.map outV).length co) (O.map outV), pts b5 (.cells [.int .u64 m, .slice pq (qs.map sqV).length cq].toArray 28), P, row 25 1 (.slice (some ⟨bs, 0, none⟩) (zE.seqs.map sqV).length c3) (zE.seqs.map sqV), pts b10 (.cells [.int .u64 (m + 2), .slice (some ⟨bs, 0, none⟩) (zE.seqs.map sqV).length c3].toArray 28), row 9 1 (.slice (some ⟨bt, 0, none⟩) (ts.length + 1) (ts.length + 1)) (tp.map txtV), row 25 1 (.slice (some ⟨bq, 0, none⟩) (qs.map sqV).length c4) ((zE).seqs.map sqV), pts b13 (.cells [.int .u64 m, .slice (some ⟨bq, 0, none⟩) (qs.map sqV).length c4].toArray 28), row 3 1 (.slice (some ⟨bc, 0, none⟩) (ts.map tbV).length (ts.map tbV).length) ((zE).counts.map dpV), row 25 1 (.slice pp (qs.map sqV).length cp) (qs.map sqV), row 3 1 (.slice pk (([] : List Int).map dpV).length ck) (([] : List Int).map dpV), row 25 1 (.slice pm (qs.map sqV).length cm) (qs.map sqV)] ++ R) ?_ ?_
        · rintro ⟨pp, cp, b19, b20, pk, ck, pm, cm⟩ ρ L ⟨hk, rfl⟩
          refine cont_regs hk ?_
          refine cont_node [] [(14, [14], [10, 11, 12, 13, 15, 16, 17, 18]), (15, [15], [10, 11, 12, 13, 14, 16, 17, 18])] rfl (by decide +kernel) ?_
          refine nodeE2 ?_ ?_
          · dsimp only [List.length_cons, List.length_nil]
            repeat' (first | (refine go_Y ?_; intros) | fail)
            rename_i w
            refine cont_map (L' := [pts b4 (.cells [.slice ps (ts.map tbV).length cps].toArray 24), row 57 3 (.slice (some ⟨bo, 0, none⟩) (O.map outV).length co) (O.map outV), pts b5 (.cells [.int .u64 m, .slice pq (qs.map sqV).length cq].toArray 28), P, row 25 1 (.slice (some ⟨bs, 0, none⟩) (zE.seqs.map sqV).length c3) (zE.seqs.map sqV), pts b10 (.cells [.int .u64 (m + 2), .slice (some ⟨bs, 0, none⟩) (zE.seqs.map sqV).length c3].toArray 28), row 9 1 (.slice (some ⟨bt, 0, none⟩) (ts.length + 1) (ts.length + 1)) (tp.map txtV), row 25 1 (.slice (some ⟨bq, 0, none⟩) (qs.map sqV).length c4) ((zE).seqs.map sqV), pts b13 (.cells [.int .u64 m, .slice (some ⟨bq, 0, none⟩) (qs.map sqV).length c4].toArray 28), row 3 1 (.slice (some ⟨bc, 0, none⟩) (ts.map tbV).length (ts.map tbV).length) ((zE).counts.map dpV), row 25 1 (.slice pp (qs.map sqV).length cp) (qs.map sqV), row 3 1 (.slice pk (([] : List Int).map dpV).length ck) (([] : List Int).map dpV), row 25 1 (.slice pm (qs.map sqV).length cm) (qs.map sqV), pts w (.cells [.int .u64 0, .slice none 0 0].toArray 28)] ++ R) entD ?_
            exact n9_14 ⟨pp, cp, w, b20, pk, ck, pm, cm⟩ _ _ ⟨⟨rfl, rfl, rfl, rfl, rfl, rfl, rfl, rfl, rfl, rfl, rfl, trivial⟩, rfl⟩
          · dsimp only [List.length_cons, List.length_nil]
            repeat' (first | (refine go_Y ?_; intros) | fail)
            rename_i w
            refine cont_map (L' := [pts b4 (.cells [.slice ps (ts.map tbV).length cps].toArray 24), row 57 3 (.slice (some ⟨bo, 0, none⟩) (O.map outV).length co) (O.map outV), pts b5 (.cells [.int .u64 m, .slice pq (qs.map sqV).length cq].toArray 28), P, row 25 1 (.slice (some ⟨bs, 0, none⟩) (zE.seqs.map sqV).length c3) (zE.seqs.map sqV), pts b10 (.cells [.int .u64 (m + 2), .slice (some ⟨bs, 0, none⟩) (zE.seqs.map sqV).length c3].toArray 28), row 9 1 (.slice (some ⟨bt, 0, none⟩) (ts.length + 1) (ts.length + 1)) (tp.map txtV), row 25 1 (.slice (some ⟨bq, 0, none⟩) (qs.map sqV).length c4) ((zE).seqs.map sqV), pts b13 (.cells [.int .u64 m, .slice (some ⟨bq, 0, none⟩) (qs.map sqV).length c4].toArray 28), row 3 1 (.slice (some ⟨bc, 0, none⟩) (ts.map tbV).length (ts.map tbV).length) ((zE).counts.map dpV), row 25 1 (.slice pp (qs.map sqV).length cp) (qs.map sqV), row 3 1 (.slice pk (([] : List Int).map dpV).length ck) (([] : List Int).map dpV), row 25 1 (.slice pm (qs.map sqV).length cm) (qs.map sqV), pts w (.cells [.int .u8 0, .int .u64 0, .slice none 0 0, .slice none 0 0].toArray 59)] ++ R) entD ?_
            exact n9_15 ⟨pp, cp, b19, w, pk, ck, pm, cm⟩ _ _ ⟨⟨rfl, rfl, rfl, rfl, rfl, rfl, rfl, rfl, rfl, rfl, rfl, trivial⟩, rfl⟩
        intro n9
        refine node_have 4 [0, 1, 2, 3, 4, 5, 6, 7, 8, 9, 10, 11, 12, 13, 15, 16, 17, 18] (γ := Option Addr × Nat × Nat × Nat × Option Addr × Nat × Option Addr × Nat) (fun ⟨pp, cp, b19, b20, pk, ck, pm, cm⟩ ρ L => Knows ρ [(2, .int .u64 tx), (3, .slice pl (cs.map cmV).length cl), (4, .pointer (some ⟨b4, 0, none⟩)), (5, .pointer (some ⟨b5, 0, none⟩)), (9, .slice (some ⟨bo, 0, none⟩) (O.map outV).length co), (10, .pointer (some ⟨b10, 0, none⟩)), (12, .slice (some ⟨bt, 0, none⟩) (ts.length + 1) (ts.length + 1)), (13, .pointer (some ⟨b13, 0, none⟩)), (14, .slice (some ⟨bc, 0, none⟩) (ts.map tbV).length (ts.map tbV).length), (19, .pointer (some ⟨b19, 0, none⟩))] ∧ L = [pts b4 (.cells [.slice ps (ts.map tbV).length cps].toArray 24), row 57 3 (.slice (some ⟨bo, 0, none⟩) (O.map outV).length co) (O.map outV), pts b5 (.cells [.int .u64 m, .slice pq (qs.map sqV).length cq].toArray 28), P, row 25 1 (.slice (some ⟨bs, 0, none⟩) (zE.seqs.map sqV).length c3) (zE.seqs.map sqV), pts b10 (.cells [.int .u64 (m + 2), .slice (some ⟨bs, 0, none⟩) (zE.seqs.map sqV).length c3].toArray 28), row 9 1 (.slice (some ⟨bt, 0, none⟩) (ts.length + 1) (ts.length + 1)) (tp.map txtV), row 25 1 (.slice (some ⟨bq, 0, none⟩) (qs.map sqV).length c4) ((zE).seqs.map sqV), pts b13 (.cells [.int .u64 m, .slice (some ⟨bq, 0, none⟩) (qs.map sqV).length c4].toArray 28), row 3 1 (.slice (some ⟨bc, 0, none⟩) (ts.map tbV).length (ts.map tbV).length) ((zE).counts.map dpV), pts b19 (.cells [.int .u64 0, .slice none 0 0].toArray 28)] ++ R) ?_ ?_
        · rintro ⟨pp, cp, b19, b20, pk, ck, pm, cm⟩ ρ L ⟨hk, rfl⟩
          refine cont_regs hk ?_
          refine cont_node [] [(9, [0, 1, 2, 3, 4, 5, 6, 7, 8, 9], [10, 11, 12, 13, 15, 16, 17, 18]), (15, [15], [0, 1, 2, 3, 4, 5, 6, 7, 8, 9, 10, 11, 12, 13, 16, 17, 18])] rfl (by decide +kernel) ?_
          refine nodeE2 ?_ ?_
          · dsimp only [List.length_cons, List.length_nil]
            repeat' (first | (refine go_Y ?_; intros) | fail)
            refine clN_Y (hat1) ?_
            rintro ⟨⟨wp, hwp⟩, ⟨wc, hwc⟩, ⟨wm, hwm⟩⟩ _
            dsimp only
            refine ops_learn (rowShapeS (e := 25) (n := 1) (v := wp) (xs := qs.map sqV) (by decide) takeD) ?_
            rintro ⟨p1, c1, rfl, _, _⟩
            refine ops_learn (rowShapeS (e := 3) (n := 1) (v := wc) (xs := ([] : List Int).map dpV) (by decide) takeD) ?_
            rintro ⟨p2, c2, rfl, _, _⟩
            refine ops_learn (rowShapeS (e := 25) (n := 1) (v := wm) (xs := qs.map sqV) (by decide) takeD) ?_
            rintro ⟨p3, c3', rfl, _, _⟩
            repeat' (first | (refine go_Y ?_; intros) | fail)
            refine cont_map (L' := [pts b4 (.cells [.slice ps (ts.map tbV).length cps].toArray 24), row 57 3 (.slice (some ⟨bo, 0, none⟩) (O.map outV).length co) (O.map outV), pts b5 (.cells [.int .u64 m, .slice pq (qs.map sqV).length cq].toArray 28), P, row 25 1 (.slice (some ⟨bs, 0, none⟩) (zE.seqs.map sqV).length c3) (zE.seqs.map sqV), pts b10 (.cells [.int .u64 (m + 2), .slice (some ⟨bs, 0, none⟩) (zE.seqs.map sqV).length c3].toArray 28), row 9 1 (.slice (some ⟨bt, 0, none⟩) (ts.length + 1) (ts.length + 1)) (tp.map txtV), row 25 1 (.slice (some ⟨bq, 0, none⟩) (qs.map sqV).length c4) ((zE).seqs.map sqV), pts b13 (.cells [.int .u64 m, .slice (some ⟨bq, 0, none⟩) (qs.map sqV).length c4].toArray 28), row 3 1 (.slice (some ⟨bc, 0, none⟩) (ts.map tbV).length (ts.map tbV).length) ((zE).counts.map dpV), row 25 1 (.slice p1 (qs.map sqV).length c1) (qs.map sqV), row 3 1 (.slice p2 (([] : List Int).map dpV).length c2) (([] : List Int).map dpV), row 25 1 (.slice p3 (qs.map sqV).length c3') (qs.map sqV), pts b19 (.cells [.int .u64 0, .slice none 0 0].toArray 28)] ++ R) entD ?_
            exact n9_14 ⟨p1, c1, b19, b20, p2, c2, p3, c3'⟩ _ _ ⟨⟨rfl, rfl, rfl, rfl, rfl, rfl, rfl, rfl, rfl, rfl, rfl, trivial⟩, rfl⟩
          · dsimp only [List.length_cons, List.length_nil]
            repeat' (first | (refine go_Y ?_; intros) | fail)
            rename_i w
            refine cont_map (L' := [pts b4 (.cells [.slice ps (ts.map tbV).length cps].toArray 24), row 57 3 (.slice (some ⟨bo, 0, none⟩) (O.map outV).length co) (O.map outV), pts b5 (.cells [.int .u64 m, .slice pq (qs.map sqV).length cq].toArray 28), P, row 25 1 (.slice (some ⟨bs, 0, none⟩) (zE.seqs.map sqV).length c3) (zE.seqs.map sqV), pts b10 (.cells [.int .u64 (m + 2), .slice (some ⟨bs, 0, none⟩) (zE.seqs.map sqV).length c3].toArray 28), row 9 1 (.slice (some ⟨bt, 0, none⟩) (ts.length + 1) (ts.length + 1)) (tp.map txtV), row 25 1 (.slice (some ⟨bq, 0, none⟩) (qs.map sqV).length c4) ((zE).seqs.map sqV), pts b13 (.cells [.int .u64 m, .slice (some ⟨bq, 0, none⟩) (qs.map sqV).length c4].toArray 28), row 3 1 (.slice (some ⟨bc, 0, none⟩) (ts.map tbV).length (ts.map tbV).length) ((zE).counts.map dpV), pts b19 (.cells [.int .u64 0, .slice none 0 0].toArray 28), pts w (.cells [.int .u8 0, .int .u64 0, .slice none 0 0, .slice none 0 0].toArray 59)] ++ R) entD ?_
            exact n14_15 ⟨pp, cp, b19, w, pk, ck, pm, cm⟩ _ _ ⟨⟨rfl, rfl, rfl, rfl, rfl, rfl, rfl, rfl, rfl, rfl, rfl, trivial⟩, rfl⟩
        intro n14
        refine node_have 4 [0, 1, 2, 3, 4, 5, 6, 7, 8, 9, 10, 11, 12, 13, 14, 16, 17, 18] (γ := Option Addr × Nat × Nat × Nat × Option Addr × Nat × Option Addr × Nat) (fun ⟨pp, cp, b19, b20, pk, ck, pm, cm⟩ ρ L => Knows ρ [(2, .int .u64 tx), (3, .slice pl (cs.map cmV).length cl), (4, .pointer (some ⟨b4, 0, none⟩)), (5, .pointer (some ⟨b5, 0, none⟩)), (9, .slice (some ⟨bo, 0, none⟩) (O.map outV).length co), (10, .pointer (some ⟨b10, 0, none⟩)), (12, .slice (some ⟨bt, 0, none⟩) (ts.length + 1) (ts.length + 1)), (13, .pointer (some ⟨b13, 0, none⟩)), (14, .slice (some ⟨bc, 0, none⟩) (ts.map tbV).length (ts.map tbV).length), (20, .pointer (some ⟨b20, 0, none⟩))] ∧ L = [pts b4 (.cells [.slice ps (ts.map tbV).length cps].toArray 24), row 57 3 (.slice (some ⟨bo, 0, none⟩) (O.map outV).length co) (O.map outV), pts b5 (.cells [.int .u64 m, .slice pq (qs.map sqV).length cq].toArray 28), P, row 25 1 (.slice (some ⟨bs, 0, none⟩) (zE.seqs.map sqV).length c3) (zE.seqs.map sqV), pts b10 (.cells [.int .u64 (m + 2), .slice (some ⟨bs, 0, none⟩) (zE.seqs.map sqV).length c3].toArray 28), row 9 1 (.slice (some ⟨bt, 0, none⟩) (ts.length + 1) (ts.length + 1)) (tp.map txtV), row 25 1 (.slice (some ⟨bq, 0, none⟩) (qs.map sqV).length c4) ((zE).seqs.map sqV), pts b13 (.cells [.int .u64 m, .slice (some ⟨bq, 0, none⟩) (qs.map sqV).length c4].toArray 28), row 3 1 (.slice (some ⟨bc, 0, none⟩) (ts.map tbV).length (ts.map tbV).length) ((zE).counts.map dpV), pts b20 (.cells [.int .u8 0, .int .u64 0, .slice none 0 0, .slice none 0 0].toArray 59)] ++ R) ?_ ?_
        · rintro ⟨pp, cp, b19, b20, pk, ck, pm, cm⟩ ρ L ⟨hk, rfl⟩
          refine cont_regs hk ?_
          refine cont_node [] [(9, [0, 1, 2, 3, 4, 5, 6, 7, 8, 9], [10, 11, 12, 13, 14, 16, 17, 18]), (14, [14], [0, 1, 2, 3, 4, 5, 6, 7, 8, 9, 10, 11, 12, 13, 16, 17, 18])] rfl (by decide +kernel) ?_
          refine nodeE2 ?_ ?_
          · dsimp only [List.length_cons, List.length_nil]
            repeat' (first | (refine go_Y ?_; intros) | fail)
            refine clN_Y (hat1) ?_
            rintro ⟨⟨wp, hwp⟩, ⟨wc, hwc⟩, ⟨wm, hwm⟩⟩ _
            dsimp only
            refine ops_learn (rowShapeS (e := 25) (n := 1) (v := wp) (xs := qs.map sqV) (by decide) takeD) ?_
            rintro ⟨p1, c1, rfl, _, _⟩
            refine ops_learn (rowShapeS (e := 3) (n := 1) (v := wc) (xs := ([] : List Int).map dpV) (by decide) takeD) ?_
            rintro ⟨p2, c2, rfl, _, _⟩
            refine ops_learn (rowShapeS (e := 25) (n := 1) (v := wm) (xs := qs.map sqV) (by decide) takeD) ?_
            rintro ⟨p3, c3', rfl, _, _⟩
            repeat' (first | (refine go_Y ?_; intros) | fail)
            refine cont_map (L' := [pts b4 (.cells [.slice ps (ts.map tbV).length cps].toArray 24), row 57 3 (.slice (some ⟨bo, 0, none⟩) (O.map outV).length co) (O.map outV), pts b5 (.cells [.int .u64 m, .slice pq (qs.map sqV).length cq].toArray 28), P, row 25 1 (.slice (some ⟨bs, 0, none⟩) (zE.seqs.map sqV).length c3) (zE.seqs.map sqV), pts b10 (.cells [.int .u64 (m + 2), .slice (some ⟨bs, 0, none⟩) (zE.seqs.map sqV).length c3].toArray 28), row 9 1 (.slice (some ⟨bt, 0, none⟩) (ts.length + 1) (ts.length + 1)) (tp.map txtV), row 25 1 (.slice (some ⟨bq, 0, none⟩) (qs.map sqV).length c4) ((zE).seqs.map sqV), pts b13 (.cells [.int .u64 m, .slice (some ⟨bq, 0, none⟩) (qs.map sqV).length c4].toArray 28), row 3 1 (.slice (some ⟨bc, 0, none⟩) (ts.map tbV).length (ts.map tbV).length) ((zE).counts.map dpV), row 25 1 (.slice p1 (qs.map sqV).length c1) (qs.map sqV), row 3 1 (.slice p2 (([] : List Int).map dpV).length c2) (([] : List Int).map dpV), row 25 1 (.slice p3 (qs.map sqV).length c3') (qs.map sqV), pts b20 (.cells [.int .u8 0, .int .u64 0, .slice none 0 0, .slice none 0 0].toArray 59)] ++ R) entD ?_
            exact n9_15 ⟨p1, c1, b19, b20, p2, c2, p3, c3'⟩ _ _ ⟨⟨rfl, rfl, rfl, rfl, rfl, rfl, rfl, rfl, rfl, rfl, rfl, trivial⟩, rfl⟩
          · dsimp only [List.length_cons, List.length_nil]
            repeat' (first | (refine go_Y ?_; intros) | fail)
            rename_i w
            refine cont_map (L' := [pts b4 (.cells [.slice ps (ts.map tbV).length cps].toArray 24), row 57 3 (.slice (some ⟨bo, 0, none⟩) (O.map outV).length co) (O.map outV), pts b5 (.cells [.int .u64 m, .slice pq (qs.map sqV).length cq].toArray 28), P, row 25 1 (.slice (some ⟨bs, 0, none⟩) (zE.seqs.map sqV).length c3) (zE.seqs.map sqV), pts b10 (.cells [.int .u64 (m + 2), .slice (some ⟨bs, 0, none⟩) (zE.seqs.map sqV).length c3].toArray 28), row 9 1 (.slice (some ⟨bt, 0, none⟩) (ts.length + 1) (ts.length + 1)) (tp.map txtV), row 25 1 (.slice (some ⟨bq, 0, none⟩) (qs.map sqV).length c4) ((zE).seqs.map sqV), pts b13 (.cells [.int .u64 m, .slice (some ⟨bq, 0, none⟩) (qs.map sqV).length c4].toArray 28), row 3 1 (.slice (some ⟨bc, 0, none⟩) (ts.map tbV).length (ts.map tbV).length) ((zE).counts.map dpV), pts w (.cells [.int .u64 0, .slice none 0 0].toArray 28), pts b20 (.cells [.int .u8 0, .int .u64 0, .slice none 0 0, .slice none 0 0].toArray 59)] ++ R) entD ?_
            exact n14_15 ⟨pp, cp, w, b20, pk, ck, pm, cm⟩ _ _ ⟨⟨rfl, rfl, rfl, rfl, rfl, rfl, rfl, rfl, rfl, rfl, rfl, trivial⟩, rfl⟩
        intro n15
        refine cont_node [] [(9, [0, 1, 2, 3, 4, 5, 6, 7, 8, 9], [10, 11, 12, 13, 14, 15, 16, 17, 18]), (14, [14], [0, 1, 2, 3, 4, 5, 6, 7, 8, 9, 10, 11, 12, 13, 15, 16, 17, 18]), (15, [15], [0, 1, 2, 3, 4, 5, 6, 7, 8, 9, 10, 11, 12, 13, 14, 16, 17, 18])] rfl (by decide +kernel) ?_
        refine nodeE3 ?_ ?_ ?_
        · dsimp only [List.length_cons, List.length_nil]
          repeat' (first | (refine go_Y ?_; intros) | fail)
          refine clN_Y (hat1) ?_
          rintro ⟨⟨wp, hwp⟩, ⟨wc, hwc⟩, ⟨wm, hwm⟩⟩ _
          dsimp only
          refine ops_learn (rowShapeS (e := 25) (n := 1) (v := wp) (xs := qs.map sqV) (by decide) takeD) ?_
          rintro ⟨p1, c1, rfl, _, _⟩
          refine ops_learn (rowShapeS (e := 3) (n := 1) (v := wc) (xs := ([] : List Int).map dpV) (by decide) takeD) ?_
          rintro ⟨p2, c2, rfl, _, _⟩
          refine ops_learn (rowShapeS (e := 25) (n := 1) (v := wm) (xs := qs.map sqV) (by decide) takeD) ?_
          rintro ⟨p3, c3', rfl, _, _⟩
          repeat' (first | (refine go_Y ?_; intros) | fail)
          refine cont_map (L' := [pts b4 (.cells [.slice ps (ts.map tbV).length cps].toArray 24), row 57 3 (.slice (some ⟨bo, 0, none⟩) (O.map outV).length co) (O.map outV), pts b5 (.cells [.int .u64 m, .slice pq (qs.map sqV).length cq].toArray 28), P, row 25 1 (.slice (some ⟨bs, 0, none⟩) (zE.seqs.map sqV).length c3) (zE.seqs.map sqV), pts b10 (.cells [.int .u64 (m + 2), .slice (some ⟨bs, 0, none⟩) (zE.seqs.map sqV).length c3].toArray 28), row 9 1 (.slice (some ⟨bt, 0, none⟩) (ts.length + 1) (ts.length + 1)) (tp.map txtV), row 25 1 (.slice (some ⟨bq, 0, none⟩) (qs.map sqV).length c4) ((zE).seqs.map sqV), pts b13 (.cells [.int .u64 m, .slice (some ⟨bq, 0, none⟩) (qs.map sqV).length c4].toArray 28), row 3 1 (.slice (some ⟨bc, 0, none⟩) (ts.map tbV).length (ts.map tbV).length) ((zE).counts.map dpV), row 25 1 (.slice p1 (qs.map sqV).length c1) (qs.map sqV), row 3 1 (.slice p2 (([] : List Int).map dpV).length c2) (([] : List Int).map dpV), row 25 1 (.slice p3 (qs.map sqV).length c3') (qs.map sqV)] ++ R) entD ?_
          exact n9 ⟨p1, c1, 0, 0, p2, c2, p3, c3'⟩ _ _ ⟨⟨rfl, rfl, rfl, rfl, rfl, rfl, rfl, rfl, rfl, rfl, trivial⟩, rfl⟩
        · dsimp only [List.length_cons, List.length_nil]
          repeat' (first | (refine go_Y ?_; intros) | fail)
          rename_i w
          refine cont_map (L' := [pts b4 (.cells [.slice ps (ts.map tbV).length cps].toArray 24), row 57 3 (.slice (some ⟨bo, 0, none⟩) (O.map outV).length co) (O.map outV), pts b5 (.cells [.int .u64 m, .slice pq (qs.map sqV).length cq].toArray 28), P, row 25 1 (.slice (some ⟨bs, 0, none⟩) (zE.seqs.map sqV).length c3) (zE.seqs.map sqV), pts b10 (.cells [.int .u64 (m + 2), .slice (some ⟨bs, 0, none⟩) (zE.seqs.map sqV).length c3].toArray 28), row 9 1 (.slice (some ⟨bt, 0, none⟩) (ts.length + 1) (ts.length + 1)) (tp.map txtV), row 25 1 (.slice (some ⟨bq, 0, none⟩) (qs.map sqV).length c4) ((zE).seqs.map sqV), pts b13 (.cells [.int .u64 m, .slice (some ⟨bq, 0, none⟩) (qs.map sqV).length c4].toArray 28), row 3 1 (.slice (some ⟨bc, 0, none⟩) (ts.map tbV).length (ts.map tbV).length) ((zE).counts.map dpV), pts w (.cells [.int .u64 0, .slice none 0 0].toArray 28)] ++ R) entD ?_
          exact n14 ⟨none, 0, w, 0, none, 0, none, 0⟩ _ _ ⟨⟨rfl, rfl, rfl, rfl, rfl, rfl, rfl, rfl, rfl, rfl, trivial⟩, rfl⟩
        · dsimp only [List.length_cons, List.length_nil]
          repeat' (first | (refine go_Y ?_; intros) | fail)
          rename_i w
          refine cont_map (L' := [pts b4 (.cells [.slice ps (ts.map tbV).length cps].toArray 24), row 57 3 (.slice (some ⟨bo, 0, none⟩) (O.map outV).length co) (O.map outV), pts b5 (.cells [.int .u64 m, .slice pq (qs.map sqV).length cq].toArray 28), P, row 25 1 (.slice (some ⟨bs, 0, none⟩) (zE.seqs.map sqV).length c3) (zE.seqs.map sqV), pts b10 (.cells [.int .u64 (m + 2), .slice (some ⟨bs, 0, none⟩) (zE.seqs.map sqV).length c3].toArray 28), row 9 1 (.slice (some ⟨bt, 0, none⟩) (ts.length + 1) (ts.length + 1)) (tp.map txtV), row 25 1 (.slice (some ⟨bq, 0, none⟩) (qs.map sqV).length c4) ((zE).seqs.map sqV), pts b13 (.cells [.int .u64 m, .slice (some ⟨bq, 0, none⟩) (qs.map sqV).length c4].toArray 28), row 3 1 (.slice (some ⟨bc, 0, none⟩) (ts.map tbV).length (ts.map tbV).length) ((zE).counts.map dpV), pts w (.cells [.int .u8 0, .int .u64 0, .slice none 0 0, .slice none 0 0].toArray 59)] ++ R) entD ?_
          exact n15 ⟨none, 0, 0, w, none, 0, none, 0⟩ _ _ ⟨⟨rfl, rfl, rfl, rfl, rfl, rfl, rfl, rfl, rfl, rfl, trivial⟩, rfl⟩
      rintro ⟨ap, ac, b19, b20, ak, ack, am, acm⟩ ρ L ⟨hk, rfl⟩
      dsimp only at hk ⊢
      refine cont_regs hk ?_
      repeat' (first | (refine go_Y ?_; intros) | (refine gs_Y ?_ ?_ <;> (intro hgd; try (simp only [Bool.not_true, Bool.not_false] at hgd))) | (refine gc_Y ?_ ?_ <;> intro _) | fail)
      refine ok_meetE (γ := Option Addr × Nat × Nat × Nat × Option Addr × Nat × Option Addr × Nat) (fun g ρ L => Knows ρ [(2, .int .u64 tx), (3, .slice pl (cs.map cmV).length cl), (4, .pointer (some ⟨b4, 0, none⟩)), (5, .pointer (some ⟨b5, 0, none⟩)), (9, .slice (some ⟨bo, 0, none⟩) (O.map outV).length co), (10, .pointer (some ⟨b10, 0, none⟩)), (12, .slice (some ⟨bt, 0, none⟩) (ts.length + 1) (ts.length + 1)), (13, .pointer (some ⟨b13, 0, none⟩)), (14, .slice (some ⟨bc, 0, none⟩) (ts.map tbV).length (ts.map tbV).length), (19, .pointer (some ⟨b19, 0, none⟩)), (20, .pointer (some ⟨b20, 0, none⟩)), (21, .int .i64 0), (22, .pointer (some ⟨g.2.2.1, 0, none⟩)), (23, .pointer (some ⟨g.2.2.2.1, 0, none⟩)), (24, .int .i64 0)] ∧
        L = [pts b4 (.cells [.slice ps (ts.map tbV).length cps].toArray 24), pts b5 (.cells [.int .u64 m, .slice pq (qs.map sqV).length cq].toArray 28), P, row 57 3 (.slice (some ⟨bo, 0, none⟩) (O.map outV).length co) (O.map outV), row 25 1 (.slice (some ⟨bs, 0, none⟩) (zE.seqs.map sqV).length c3) (zE.seqs.map sqV), pts b10 (.cells [.int .u64 (m + 2), .slice (some ⟨bs, 0, none⟩) (zE.seqs.map sqV).length c3].toArray 28), row 9 1 (.slice (some ⟨bt, 0, none⟩) (ts.length + 1) (ts.length + 1)) (tp.map txtV), row 25 1 (.slice (some ⟨bq, 0, none⟩) (qs.map sqV).length c4) ((zE).seqs.map sqV), pts b13 (.cells [.int .u64 m, .slice (some ⟨bq, 0, none⟩) (qs.map sqV).length c4].toArray 28), row 3 1 (.slice (some ⟨bc, 0, none⟩) (ts.map tbV).length (ts.map tbV).length) ((zE).counts.map dpV), row 25 1 (.slice ap (qs.map sqV).length ac) (qs.map sqV), pts b19 (.cells [.int .u64 m, .slice ap (qs.map sqV).length ac].toArray 28), pts b20 (.cells [.int .u8 1, .int .u64 tx, .slice ak (([] : List Int).map dpV).length ack, .slice am (qs.map sqV).length acm].toArray 59), row 25 1 (.slice g.1 (zE.seqs.map sqV).length g.2.1) (zE.seqs.map sqV), row 3 1 (.slice g.2.2.2.2.1 (zE.counts.map dpV).length g.2.2.2.2.2.1) (zE.counts.map dpV), pts g.2.2.1 (.cells [.int .u64 (m + 2), .slice g.1 (zE.seqs.map sqV).length g.2.1].toArray 28), pts g.2.2.2.1 (.cells [.int .u8 2, .int .u64 tx, .slice g.2.2.2.2.1 (zE.counts.map dpV).length g.2.2.2.2.2.1, .slice g.2.2.2.2.2.2.1 (zE.seqs.map sqV).length g.2.2.2.2.2.2.2].toArray 59)] ++ R) ?_ ?_
      · refine ok_map (L' := [pts b4 (.cells [.slice ps (ts.map tbV).length cps].toArray 24), row 57 3 (.slice (some ⟨bo, 0, none⟩) (O.map outV).length co) (O.map outV), pts b5 (.cells [.int .u64 m, .slice pq (qs.map sqV).length cq].toArray 28), P, row 25 1 (.slice (some ⟨bs, 0, none⟩) (zE.seqs.map sqV).length c3) (zE.seqs.map sqV), pts b10 (.cells [.int .u64 (m + 2), .slice (some ⟨bs, 0, none⟩) (zE.seqs.map sqV).length c3].toArray 28), row 9 1 (.slice (some ⟨bt, 0, none⟩) (ts.length + 1) (ts.length + 1)) (tp.map txtV), row 25 1 (.slice (some ⟨bq, 0, none⟩) (qs.map sqV).length c4) ((zE).seqs.map sqV), pts b13 (.cells [.int .u64 m, .slice (some ⟨bq, 0, none⟩) (qs.map sqV).length c4].toArray 28), row 3 1 (.slice (some ⟨bc, 0, none⟩) (ts.map tbV).length (ts.map tbV).length) ((zE).counts.map dpV), row 25 1 (.slice ap (qs.map sqV).length ac) (qs.map sqV), pts b19 (.cells [.int .u64 m, .slice ap (qs.map sqV).length ac].toArray 28), pts b20 (.cells [.int .u8 1, .int .u64 tx, .slice ak (([] : List Int).map dpV).length ack, .slice am (qs.map sqV).length acm].toArray 59)] ++ R) entD ?_
        refine ok_draw_node (cv := []) 5 [15, 20, 21, 22, 23] [pts b4 (.cells [.slice ps (ts.map tbV).length cps].toArray 24), row 57 3 (.slice (some ⟨bo, 0, none⟩) (O.map outV).length co) (O.map outV)] (by kernel_rfl) rfl (by decide +kernel) (by decide +kernel) (by decide +kernel) (takePre takeD) _ rfl ?_
        refine node_have 0 [19, 24] (γ := Option Addr × Nat × Nat × Nat × Option Addr × Nat × Option Addr × Nat) (fun ⟨pp, cp, b22, b23, pk, ck, pm, cm⟩ ρ L => Knows ρ [(2, .int .u64 tx), (3, .slice pl (cs.map cmV).length cl), (4, .pointer (some ⟨b4, 0, none⟩)), (5, .pointer (some ⟨b5, 0, none⟩)), (9, .slice (some ⟨bo, 0, none⟩) (O.map outV).length co), (10, .pointer (some ⟨b10, 0, none⟩)), (12, .slice (some ⟨bt, 0, none⟩) (ts.length + 1) (ts.length + 1)), (13, .pointer (some ⟨b13, 0, none⟩)), (14, .slice (some ⟨bc, 0, none⟩) (ts.map tbV).length (ts.map tbV).length), (19, .pointer (some ⟨b19, 0, none⟩)), (20, .pointer (some ⟨b20, 0, none⟩)), (21, .int .i64 0), (215, .tuple #[.agg #[.int .u64 (m + 2), .slice pp (zE.seqs.map sqV).length cp], .agg #[.int .u8 2, .int .u64 tx, .slice pk (zE.counts.map dpV).length ck, .slice pm (zE.seqs.map sqV).length cm], .int .i64 0]), (22, .pointer (some ⟨b22, 0, none⟩)), (23, .pointer (some ⟨b23, 0, none⟩))] ∧ L = [pts b4 (.cells [.slice ps (ts.map tbV).length cps].toArray 24), row 57 3 (.slice (some ⟨bo, 0, none⟩) (O.map outV).length co) (O.map outV), pts b5 (.cells [.int .u64 m, .slice pq (qs.map sqV).length cq].toArray 28), P, row 25 1 (.slice (some ⟨bs, 0, none⟩) (zE.seqs.map sqV).length c3) (zE.seqs.map sqV), pts b10 (.cells [.int .u64 (m + 2), .slice (some ⟨bs, 0, none⟩) (zE.seqs.map sqV).length c3].toArray 28), row 9 1 (.slice (some ⟨bt, 0, none⟩) (ts.length + 1) (ts.length + 1)) (tp.map txtV), row 25 1 (.slice (some ⟨bq, 0, none⟩) (qs.map sqV).length c4) ((zE).seqs.map sqV), pts b13 (.cells [.int .u64 m, .slice (some ⟨bq, 0, none⟩) (qs.map sqV).length c4].toArray 28), row 3 1 (.slice (some ⟨bc, 0, none⟩) (ts.map tbV).length (ts.map tbV).length) ((zE).counts.map dpV), row 25 1 (.slice ap (qs.map sqV).length ac) (qs.map sqV), pts b19 (.cells [.int .u64 m, .slice ap (qs.map sqV).length ac].toArray 28), pts b20 (.cells [.int .u8 1, .int .u64 tx, .slice ak (([] : List Int).map dpV).length ack, .slice am (qs.map sqV).length acm].toArray 59), row 25 1 (.slice pp (zE.seqs.map sqV).length cp) (zE.seqs.map sqV), row 3 1 (.slice pk (zE.counts.map dpV).length ck) (zE.counts.map dpV), row 25 1 (.slice pm (zE.seqs.map sqV).length cm) (zE.seqs.map sqV), pts b22 (.cells [.int .u64 (m + 2), .slice pp (zE.seqs.map sqV).length cp].toArray 28), pts b23 (.cells [.int .u8 2, .int .u64 tx, .slice pk (zE.counts.map dpV).length ck, .slice pm (zE.seqs.map sqV).length cm].toArray 59)] ++ R) ?_ ?_
        · rintro ⟨pp, cp, b22, b23, pk, ck, pm, cm⟩ ρ L ⟨hk, rfl⟩
          refine cont_regs hk ?_
          refine cont_node0 (by decide +kernel) ?_
          repeat' (first | (refine go_Y ?_; intros) | fail)
          refine cont_map (L' := [pts b4 (.cells [.slice ps (ts.map tbV).length cps].toArray 24), pts b5 (.cells [.int .u64 m, .slice pq (qs.map sqV).length cq].toArray 28), P, row 57 3 (.slice (some ⟨bo, 0, none⟩) (O.map outV).length co) (O.map outV), row 25 1 (.slice (some ⟨bs, 0, none⟩) (zE.seqs.map sqV).length c3) (zE.seqs.map sqV), pts b10 (.cells [.int .u64 (m + 2), .slice (some ⟨bs, 0, none⟩) (zE.seqs.map sqV).length c3].toArray 28), row 9 1 (.slice (some ⟨bt, 0, none⟩) (ts.length + 1) (ts.length + 1)) (tp.map txtV), row 25 1 (.slice (some ⟨bq, 0, none⟩) (qs.map sqV).length c4) ((zE).seqs.map sqV), pts b13 (.cells [.int .u64 m, .slice (some ⟨bq, 0, none⟩) (qs.map sqV).length c4].toArray 28), row 3 1 (.slice (some ⟨bc, 0, none⟩) (ts.map tbV).length (ts.map tbV).length) ((zE).counts.map dpV), row 25 1 (.slice ap (qs.map sqV).length ac) (qs.map sqV), pts b19 (.cells [.int .u64 m, .slice ap (qs.map sqV).length ac].toArray 28), pts b20 (.cells [.int .u8 1, .int .u64 tx, .slice ak (([] : List Int).map dpV).length ack, .slice am (qs.map sqV).length acm].toArray 59), row 25 1 (.slice pp (zE.seqs.map sqV).length cp) (zE.seqs.map sqV), row 3 1 (.slice pk (zE.counts.map dpV).length ck) (zE.counts.map dpV), pts b22 (.cells [.int .u64 (m + 2), .slice pp (zE.seqs.map sqV).length cp].toArray 28), pts b23 (.cells [.int .u8 2, .int .u64 tx, .slice pk (zE.counts.map dpV).length ck, .slice pm (zE.seqs.map sqV).length cm].toArray 59)] ++ R) entD ?_
          exact cont_meet (pp, cp, b22, b23, pk, ck, pm, cm) ⟨⟨rfl, rfl, rfl, rfl, rfl, rfl, rfl, rfl, rfl, rfl, rfl, rfl, rfl, rfl, rfl, trivial⟩, rfl⟩
        intro n15_20_21_22_23
        refine node_have 1 [18, 19, 23, 24] (γ := Option Addr × Nat × Nat × Nat × Option Addr × Nat × Option Addr × Nat) (fun ⟨pp, cp, b22, b23, pk, ck, pm, cm⟩ ρ L => Knows ρ [(2, .int .u64 tx), (3, .slice pl (cs.map cmV).length cl), (4, .pointer (some ⟨b4, 0, none⟩)), (5, .pointer (some ⟨b5, 0, none⟩)), (9, .slice (some ⟨bo, 0, none⟩) (O.map outV).length co), (10, .pointer (some ⟨b10, 0, none⟩)), (12, .slice (some ⟨bt, 0, none⟩) (ts.length + 1) (ts.length + 1)), (13, .pointer (some ⟨b13, 0, none⟩)), (14, .slice (some ⟨bc, 0, none⟩) (ts.map tbV).length (ts.map tbV).length), (19, .pointer (some ⟨b19, 0, none⟩)), (20, .pointer (some ⟨b20, 0, none⟩)), (21, .int .i64 0), (215, .tuple #[.agg #[.int .u64 (m + 2), .slice pp (zE.seqs.map sqV).length cp], .agg #[.int .u8 2, .int .u64 tx, .slice pk (zE.counts.map dpV).length ck, .slice pm (zE.seqs.map sqV).length cm], .int .i64 0]), (22, .pointer (some ⟨b22, 0, none⟩)), (23, .pointer (some ⟨b23, 0, none⟩))] ∧ L = [pts b4 (.cells [.slice ps (ts.map tbV).length cps].toArray 24), row 57 3 (.slice (some ⟨bo, 0, none⟩) (O.map outV).length co) (O.map outV), pts b5 (.cells [.int .u64 m, .slice pq (qs.map sqV).length cq].toArray 28), P, row 25 1 (.slice (some ⟨bs, 0, none⟩) (zE.seqs.map sqV).length c3) (zE.seqs.map sqV), pts b10 (.cells [.int .u64 (m + 2), .slice (some ⟨bs, 0, none⟩) (zE.seqs.map sqV).length c3].toArray 28), row 9 1 (.slice (some ⟨bt, 0, none⟩) (ts.length + 1) (ts.length + 1)) (tp.map txtV), row 25 1 (.slice (some ⟨bq, 0, none⟩) (qs.map sqV).length c4) ((zE).seqs.map sqV), pts b13 (.cells [.int .u64 m, .slice (some ⟨bq, 0, none⟩) (qs.map sqV).length c4].toArray 28), row 3 1 (.slice (some ⟨bc, 0, none⟩) (ts.map tbV).length (ts.map tbV).length) ((zE).counts.map dpV), row 25 1 (.slice ap (qs.map sqV).length ac) (qs.map sqV), pts b19 (.cells [.int .u64 m, .slice ap (qs.map sqV).length ac].toArray 28), pts b20 (.cells [.int .u8 1, .int .u64 tx, .slice ak (([] : List Int).map dpV).length ack, .slice am (qs.map sqV).length acm].toArray 59), row 25 1 (.slice pp (zE.seqs.map sqV).length cp) (zE.seqs.map sqV), row 3 1 (.slice pk (zE.counts.map dpV).length ck) (zE.counts.map dpV), row 25 1 (.slice pm (zE.seqs.map sqV).length cm) (zE.seqs.map sqV), pts b22 (.cells [.int .u64 (m + 2), .slice pp (zE.seqs.map sqV).length cp].toArray 28), pts b23 (.cells [.int .u8 0, .int .u64 0, .slice none 0 0, .slice none 0 0].toArray 59)] ++ R) ?_ ?_
        · rintro ⟨pp, cp, b22, b23, pk, ck, pm, cm⟩ ρ L ⟨hk, rfl⟩
          refine cont_regs hk ?_
          refine cont_node [] [(23, [18, 23], [19, 24])] rfl (by decide +kernel) ?_
          refine nodeE1 ?_
          · dsimp only [List.length_cons, List.length_nil]
            repeat' (first | (refine go_Y ?_; intros) | fail)
            refine cont_map (L' := [pts b4 (.cells [.slice ps (ts.map tbV).length cps].toArray 24), row 57 3 (.slice (some ⟨bo, 0, none⟩) (O.map outV).length co) (O.map outV), pts b5 (.cells [.int .u64 m, .slice pq (qs.map sqV).length cq].toArray 28), P, row 25 1 (.slice (some ⟨bs, 0, none⟩) (zE.seqs.map sqV).length c3) (zE.seqs.map sqV), pts b10 (.cells [.int .u64 (m + 2), .slice (some ⟨bs, 0, none⟩) (zE.seqs.map sqV).length c3].toArray 28), row 9 1 (.slice (some ⟨bt, 0, none⟩) (ts.length + 1) (ts.length + 1)) (tp.map txtV), row 25 1 (.slice (some ⟨bq, 0, none⟩) (qs.map sqV).length c4) ((zE).seqs.map sqV), pts b13 (.cells [.int .u64 m, .slice (some ⟨bq, 0, none⟩) (qs.map sqV).length c4].toArray 28), row 3 1 (.slice (some ⟨bc, 0, none⟩) (ts.map tbV).length (ts.map tbV).length) ((zE).counts.map dpV), row 25 1 (.slice ap (qs.map sqV).length ac) (qs.map sqV), pts b19 (.cells [.int .u64 m, .slice ap (qs.map sqV).length ac].toArray 28), pts b20 (.cells [.int .u8 1, .int .u64 tx, .slice ak (([] : List Int).map dpV).length ack, .slice am (qs.map sqV).length acm].toArray 59), row 25 1 (.slice pp (zE.seqs.map sqV).length cp) (zE.seqs.map sqV), row 3 1 (.slice pk (zE.counts.map dpV).length ck) (zE.counts.map dpV), row 25 1 (.slice pm (zE.seqs.map sqV).length cm) (zE.seqs.map sqV), pts b22 (.cells [.int .u64 (m + 2), .slice pp (zE.seqs.map sqV).length cp].toArray 28), pts b23 (.cells [.int .u8 2, .int .u64 tx, .slice pk (zE.counts.map dpV).length ck, .slice pm (zE.seqs.map sqV).length cm].toArray 59)] ++ R) entD ?_
            exact n15_20_21_22_23 ⟨pp, cp, b22, b23, pk, ck, pm, cm⟩ _ _ ⟨⟨rfl, rfl, rfl, rfl, rfl, rfl, rfl, rfl, rfl, rfl, rfl, rfl, rfl, rfl, rfl, trivial⟩, rfl⟩
        intro n15_20_21_22
        refine node_have 2 [16, 17, 18, 19, 22, 23, 24] (γ := Option Addr × Nat × Nat × Nat × Option Addr × Nat × Option Addr × Nat) (fun ⟨pp, cp, b22, b23, pk, ck, pm, cm⟩ ρ L => Knows ρ [(2, .int .u64 tx), (3, .slice pl (cs.map cmV).length cl), (4, .pointer (some ⟨b4, 0, none⟩)), (5, .pointer (some ⟨b5, 0, none⟩)), (9, .slice (some ⟨bo, 0, none⟩) (O.map outV).length co), (10, .pointer (some ⟨b10, 0, none⟩)), (12, .slice (some ⟨bt, 0, none⟩) (ts.length + 1) (ts.length + 1)), (13, .pointer (some ⟨b13, 0, none⟩)), (14, .slice (some ⟨bc, 0, none⟩) (ts.map tbV).length (ts.map tbV).length), (19, .pointer (some ⟨b19, 0, none⟩)), (20, .pointer (some ⟨b20, 0, none⟩)), (21, .int .i64 0), (231, .tuple #[.agg #[.int .u64 (m + 2), .slice pp (zE.seqs.map sqV).length cp], .agg #[.int .u8 2, .int .u64 tx, .slice pk (zE.counts.map dpV).length ck, .slice pm (zE.seqs.map sqV).length cm], .int .i64 0]), (22, .pointer (some ⟨b22, 0, none⟩)), (23, .pointer (some ⟨b23, 0, none⟩))] ∧ L = [pts b4 (.cells [.slice ps (ts.map tbV).length cps].toArray 24), row 57 3 (.slice (some ⟨bo, 0, none⟩) (O.map outV).length co) (O.map outV), pts b5 (.cells [.int .u64 m, .slice pq (qs.map sqV).length cq].toArray 28), P, row 25 1 (.slice (some ⟨bs, 0, none⟩) (zE.seqs.map sqV).length c3) (zE.seqs.map sqV), pts b10 (.cells [.int .u64 (m + 2), .slice (some ⟨bs, 0, none⟩) (zE.seqs.map sqV).length c3].toArray 28), row 9 1 (.slice (some ⟨bt, 0, none⟩) (ts.length + 1) (ts.length + 1)) (tp.map txtV), row 25 1 (.slice (some ⟨bq, 0, none⟩) (qs.map sqV).length c4) ((zE).seqs.map sqV), pts b13 (.cells [.int .u64 m, .slice (some ⟨bq, 0, none⟩) (qs.map sqV).length c4].toArray 28), row 3 1 (.slice (some ⟨bc, 0, none⟩) (ts.map tbV).length (ts.map tbV).length) ((zE).counts.map dpV), row 25 1 (.slice ap (qs.map sqV).length ac) (qs.map sqV), pts b19 (.cells [.int .u64 m, .slice ap (qs.map sqV).length ac].toArray 28), pts b20 (.cells [.int .u8 1, .int .u64 tx, .slice ak (([] : List Int).map dpV).length ack, .slice am (qs.map sqV).length acm].toArray 59), row 25 1 (.slice pp (zE.seqs.map sqV).length cp) (zE.seqs.map sqV), row 3 1 (.slice pk (zE.counts.map dpV).length ck) (zE.counts.map dpV), row 25 1 (.slice pm (zE.seqs.map sqV).length cm) (zE.seqs.map sqV), pts b22 (.cells [.int .u64 0, .slice none 0 0].toArray 28), pts b23 (.cells [.int .u8 0, .int .u64 0, .slice none 0 0, .slice none 0 0].toArray 59)] ++ R) ?_ ?_
        · rintro ⟨pp, cp, b22, b23, pk, ck, pm, cm⟩ ρ L ⟨hk, rfl⟩
          refine cont_regs hk ?_
          refine cont_node [] [(22, [16, 17, 22], [18, 19, 23, 24])] rfl (by decide +kernel) ?_
          refine nodeE1 ?_
          · dsimp only [List.length_cons, List.length_nil]
            repeat' (first | (refine go_Y ?_; intros) | fail)
            refine cont_map (L' := [pts b4 (.cells [.slice ps (ts.map tbV).length cps].toArray 24), row 57 3 (.slice (some ⟨bo, 0, none⟩) (O.map outV).length co) (O.map outV), pts b5 (.cells [.int .u64 m, .slice pq (qs.map sqV).length cq].toArray 28), P, row 25 1 (.slice (some ⟨bs, 0, none⟩) (zE.seqs.map sqV).length c3) (zE.seqs.map sqV), pts b10 (.cells [.int .u64 (m + 2), .slice (some ⟨bs, 0, none⟩) (zE.seqs.map sqV).length c3].toArray 28), row 9 1 (.slice (some ⟨bt, 0, none⟩) (ts.length + 1) (ts.length + 1)) (tp.map txtV), row 25 1 (.slice (some ⟨bq, 0, none⟩) (qs.map sqV).length c4) ((zE).seqs.map sqV), pts b13 (.cells [.int .u64 m, .slice (some ⟨bq, 0, none⟩) (qs.map sqV).length c4].toArray 28), row 3 1 (.slice (some ⟨bc, 0, none⟩) (ts.map tbV).length (ts.map tbV).length) ((zE).counts.map dpV), row 25 1 (.slice ap (qs.map sqV).length ac) (qs.map sqV), pts b19 (.cells [.int .u64 m, .slice ap (qs.map sqV).length ac].toArray 28), pts b20 (.cells [.int .u8 1, .int .u64 tx, .slice ak (([] : List Int).map dpV).length ack, .slice am (qs.map sqV).length acm].toArray 59), row 25 1 (.slice pp (zE.seqs.map sqV).length cp) (zE.seqs.map sqV), row 3 1 (.slice pk (zE.counts.map dpV).length ck) (zE.counts.map dpV), row 25 1 (.slice pm (zE.seqs.map sqV).length cm) (zE.seqs.map sqV), pts b22 (.cells [.int .u64 (m + 2), .slice pp (zE.seqs.map sqV).length cp].toArray 28), pts b23 (.cells [.int .u8 0, .int .u64 0, .slice none 0 0, .slice none 0 0].toArray 59)] ++ R) entD ?_
            exact n15_20_21_22 ⟨pp, cp, b22, b23, pk, ck, pm, cm⟩ _ _ ⟨⟨rfl, rfl, rfl, rfl, rfl, rfl, rfl, rfl, rfl, rfl, rfl, rfl, rfl, rfl, rfl, trivial⟩, rfl⟩
        intro n15_20_21
        refine node_have 3 [16, 17, 18, 19, 21, 22, 23, 24] (γ := Option Addr × Nat × Nat × Nat × Option Addr × Nat × Option Addr × Nat) (fun ⟨pp, cp, b22, b23, pk, ck, pm, cm⟩ ρ L => Knows ρ [(2, .int .u64 tx), (3, .slice pl (cs.map cmV).length cl), (4, .pointer (some ⟨b4, 0, none⟩)), (5, .pointer (some ⟨b5, 0, none⟩)), (9, .slice (some ⟨bo, 0, none⟩) (O.map outV).length co), (10, .pointer (some ⟨b10, 0, none⟩)), (12, .slice (some ⟨bt, 0, none⟩) (ts.length + 1) (ts.length + 1)), (13, .pointer (some ⟨b13, 0, none⟩)), (14, .slice (some ⟨bc, 0, none⟩) (ts.map tbV).length (ts.map tbV).length), (19, .pointer (some ⟨b19, 0, none⟩)), (20, .pointer (some ⟨b20, 0, none⟩)), (21, .int .i64 0), (231, .tuple #[.agg #[.int .u64 (m + 2), .slice pp (zE.seqs.map sqV).length cp], .agg #[.int .u8 2, .int .u64 tx, .slice pk (zE.counts.map dpV).length ck, .slice pm (zE.seqs.map sqV).length cm], .int .i64 0]), (22, .pointer (some ⟨b22, 0, none⟩))] ∧ L = [pts b4 (.cells [.slice ps (ts.map tbV).length cps].toArray 24), row 57 3 (.slice (some ⟨bo, 0, none⟩) (O.map outV).length co) (O.map outV), pts b5 (.cells [.int .u64 m, .slice pq (qs.map sqV).length cq].toArray 28), P, row 25 1 (.slice (some ⟨bs, 0, none⟩) (zE.seqs.map sqV).length c3) (zE.seqs.map sqV), pts b10 (.cells [.int .u64 (m + 2), .slice (some ⟨bs, 0, none⟩) (zE.seqs.map sqV).length c3].toArray 28), row 9 1 (.slice (some ⟨bt, 0, none⟩) (ts.length + 1) (ts.length + 1)) (tp.map txtV), row 25 1 (.slice (some ⟨bq, 0, none⟩) (qs.map sqV).length c4) ((zE).seqs.map sqV), pts b13 (.cells [.int .u64 m, .slice (some ⟨bq, 0, none⟩) (qs.map sqV).length c4].toArray 28), row 3 1 (.slice (some ⟨bc, 0, none⟩) (ts.map tbV).length (ts.map tbV).length) ((zE).counts.map dpV), row 25 1 (.slice ap (qs.map sqV).length ac) (qs.map sqV), pts b19 (.cells [.int .u64 m, .slice ap (qs.map sqV).length ac].toArray 28), pts b20 (.cells [.int .u8 1, .int .u64 tx, .slice ak (([] : List Int).map dpV).length ack, .slice am (qs.map sqV).length acm].toArray 59), row 25 1 (.slice pp (zE.seqs.map sqV).length cp) (zE.seqs.map sqV), row 3 1 (.slice pk (zE.counts.map dpV).length ck) (zE.counts.map dpV), row 25 1 (.slice pm (zE.seqs.map sqV).length cm) (zE.seqs.map sqV), pts b22 (.cells [.int .u64 0, .slice none 0 0].toArray 28)] ++ R) ?_ ?_
        · rintro ⟨pp, cp, b22, b23, pk, ck, pm, cm⟩ ρ L ⟨hk, rfl⟩
          refine cont_regs hk ?_
          refine cont_node [] [(21, [21], [16, 17, 18, 19, 22, 23, 24])] rfl (by decide +kernel) ?_
          refine nodeE1 ?_
          · dsimp only [List.length_cons, List.length_nil]
            repeat' (first | (refine go_Y ?_; intros) | fail)
            rename_i w
            refine cont_map (L' := [pts b4 (.cells [.slice ps (ts.map tbV).length cps].toArray 24), row 57 3 (.slice (some ⟨bo, 0, none⟩) (O.map outV).length co) (O.map outV), pts b5 (.cells [.int .u64 m, .slice pq (qs.map sqV).length cq].toArray 28), P, row 25 1 (.slice (some ⟨bs, 0, none⟩) (zE.seqs.map sqV).length c3) (zE.seqs.map sqV), pts b10 (.cells [.int .u64 (m + 2), .slice (some ⟨bs, 0, none⟩) (zE.seqs.map sqV).length c3].toArray 28), row 9 1 (.slice (some ⟨bt, 0, none⟩) (ts.length + 1) (ts.length + 1)) (tp.map txtV), row 25 1 (.slice (some ⟨bq, 0, none⟩) (qs.map sqV).length c4) ((zE).seqs.map sqV), pts b13 (.cells [.int .u64 m, .slice (some ⟨bq, 0, none⟩) (qs.map sqV).length c4].toArray 28), row 3 1 (.slice (some ⟨bc, 0, none⟩) (ts.map tbV).length (ts.map tbV).length) ((zE).counts.map dpV), row 25 1 (.slice ap (qs.map sqV).length ac) (qs.map sqV), pts b19 (.cells [.int .u64 m, .slice ap (qs.map sqV).length ac].toArray 28), pts b20 (.cells [.int .u8 1, .int .u64 tx, .slice ak (([] : List Int).map dpV).length ack, .slice am (qs.map sqV).length acm].toArray 59), row 25 1 (.slice pp (zE.seqs.map sqV).length cp) (zE.seqs.map sqV), row 3 1 (.slice pk (zE.counts.map dpV).length ck) (zE.counts.map dpV), row 25 1 (.slice pm (zE.seqs.map sqV).length cm) (zE.seqs.map sqV), pts b22 (.cells [.int .u64 0, .slice none 0 0].toArray 28), pts w (.cells [.int .u8 0, .int .u64 0, .slice none 0 0, .slice none 0 0].toArray 59)] ++ R) entD ?_
            exact n15_20_21 ⟨pp, cp, b22, w, pk, ck, pm, cm⟩ _ _ ⟨⟨rfl, rfl, rfl, rfl, rfl, rfl, rfl, rfl, rfl, rfl, rfl, rfl, rfl, rfl, rfl, trivial⟩, rfl⟩
        intro n15_20
        refine node_have 3 [16, 17, 18, 19, 20, 22, 23, 24] (γ := Option Addr × Nat × Nat × Nat × Option Addr × Nat × Option Addr × Nat) (fun ⟨pp, cp, b22, b23, pk, ck, pm, cm⟩ ρ L => Knows ρ [(2, .int .u64 tx), (3, .slice pl (cs.map cmV).length cl), (4, .pointer (some ⟨b4, 0, none⟩)), (5, .pointer (some ⟨b5, 0, none⟩)), (9, .slice (some ⟨bo, 0, none⟩) (O.map outV).length co), (10, .pointer (some ⟨b10, 0, none⟩)), (12, .slice (some ⟨bt, 0, none⟩) (ts.length + 1) (ts.length + 1)), (13, .pointer (some ⟨b13, 0, none⟩)), (14, .slice (some ⟨bc, 0, none⟩) (ts.map tbV).length (ts.map tbV).length), (19, .pointer (some ⟨b19, 0, none⟩)), (20, .pointer (some ⟨b20, 0, none⟩)), (21, .int .i64 0), (231, .tuple #[.agg #[.int .u64 (m + 2), .slice pp (zE.seqs.map sqV).length cp], .agg #[.int .u8 2, .int .u64 tx, .slice pk (zE.counts.map dpV).length ck, .slice pm (zE.seqs.map sqV).length cm], .int .i64 0]), (23, .pointer (some ⟨b23, 0, none⟩))] ∧ L = [pts b4 (.cells [.slice ps (ts.map tbV).length cps].toArray 24), row 57 3 (.slice (some ⟨bo, 0, none⟩) (O.map outV).length co) (O.map outV), pts b5 (.cells [.int .u64 m, .slice pq (qs.map sqV).length cq].toArray 28), P, row 25 1 (.slice (some ⟨bs, 0, none⟩) (zE.seqs.map sqV).length c3) (zE.seqs.map sqV), pts b10 (.cells [.int .u64 (m + 2), .slice (some ⟨bs, 0, none⟩) (zE.seqs.map sqV).length c3].toArray 28), row 9 1 (.slice (some ⟨bt, 0, none⟩) (ts.length + 1) (ts.length + 1)) (tp.map txtV), row 25 1 (.slice (some ⟨bq, 0, none⟩) (qs.map sqV).length c4) ((zE).seqs.map sqV), pts b13 (.cells [.int .u64 m, .slice (some ⟨bq, 0, none⟩) (qs.map sqV).length c4].toArray 28), row 3 1 (.slice (some ⟨bc, 0, none⟩) (ts.map tbV).length (ts.map tbV).length) ((zE).counts.map dpV), row 25 1 (.slice ap (qs.map sqV).length ac) (qs.map sqV), pts b19 (.cells [.int .u64 m, .slice ap (qs.map sqV).length ac].toArray 28), pts b20 (.cells [.int .u8 1, .int .u64 tx, .slice ak (([] : List Int).map dpV).length ack, .slice am (qs.map sqV).length acm].toArray 59), row 25 1 (.slice pp (zE.seqs.map sqV).length cp) (zE.seqs.map sqV), row 3 1 (.slice pk (zE.counts.map dpV).length ck) (zE.counts.map dpV), row 25 1 (.slice pm (zE.seqs.map sqV).length cm) (zE.seqs.map sqV), pts b23 (.cells [.int .u8 0, .int .u64 0, .slice none 0 0, .slice none 0 0].toArray 59)] ++ R) ?_ ?_
        · rintro ⟨pp, cp, b22, b23, pk, ck, pm, cm⟩ ρ L ⟨hk, rfl⟩
          refine cont_regs hk ?_
          refine cont_node [] [(20, [20], [16, 17, 18, 19, 22, 23, 24])] rfl (by decide +kernel) ?_
          refine nodeE1 ?_
          · dsimp only [List.length_cons, List.length_nil]
            repeat' (first | (refine go_Y ?_; intros) | fail)
            rename_i w
            refine cont_map (L' := [pts b4 (.cells [.slice ps (ts.map tbV).length cps].toArray 24), row 57 3 (.slice (some ⟨bo, 0, none⟩) (O.map outV).length co) (O.map outV), pts b5 (.cells [.int .u64 m, .slice pq (qs.map sqV).length cq].toArray 28), P, row 25 1 (.slice (some ⟨bs, 0, none⟩) (zE.seqs.map sqV).length c3) (zE.seqs.map sqV), pts b10 (.cells [.int .u64 (m + 2), .slice (some ⟨bs, 0, none⟩) (zE.seqs.map sqV).length c3].toArray 28), row 9 1 (.slice (some ⟨bt, 0, none⟩) (ts.length + 1) (ts.length + 1)) (tp.map txtV), row 25 1 (.slice (some ⟨bq, 0, none⟩) (qs.map sqV).length c4) ((zE).seqs.map sqV), pts b13 (.cells [.int .u64 m, .slice (some ⟨bq, 0, none⟩) (qs.map sqV).length c4].toArray 28), row 3 1 (.slice (some ⟨bc, 0, none⟩) (ts.map tbV).length (ts.map tbV).length) ((zE).counts.map dpV), row 25 1 (.slice ap (qs.map sqV).length ac) (qs.map sqV), pts b19 (.cells [.int .u64 m, .slice ap (qs.map sqV).length ac].toArray 28), pts b20 (.cells [.int .u8 1, .int .u64 tx, .slice ak (([] : List Int).map dpV).length ack, .slice am (qs.map sqV).length acm].toArray 59), row 25 1 (.slice pp (zE.seqs.map sqV).length cp) (zE.seqs.map sqV), row 3 1 (.slice pk (zE.counts.map dpV).length ck) (zE.counts.map dpV), row 25 1 (.slice pm (zE.seqs.map sqV).length cm) (zE.seqs.map sqV), pts w (.cells [.int .u64 0, .slice none 0 0].toArray 28), pts b23 (.cells [.int .u8 0, .int .u64 0, .slice none 0 0, .slice none 0 0].toArray 59)] ++ R) entD ?_
            exact n15_20_21 ⟨pp, cp, w, b23, pk, ck, pm, cm⟩ _ _ ⟨⟨rfl, rfl, rfl, rfl, rfl, rfl, rfl, rfl, rfl, rfl, rfl, rfl, rfl, rfl, rfl, trivial⟩, rfl⟩
        intro n15_21
        refine node_have 3 [0, 1, 2, 3, 4, 5, 6, 7, 8, 9, 10, 11, 12, 13, 14, 15, 16, 17, 18, 19, 22, 23, 24] (γ := Option Addr × Nat × Nat × Nat × Option Addr × Nat × Option Addr × Nat) (fun ⟨pp, cp, b22, b23, pk, ck, pm, cm⟩ ρ L => Knows ρ [(2, .int .u64 tx), (3, .slice pl (cs.map cmV).length cl), (4, .pointer (some ⟨b4, 0, none⟩)), (5, .pointer (some ⟨b5, 0, none⟩)), (9, .slice (some ⟨bo, 0, none⟩) (O.map outV).length co), (10, .pointer (some ⟨b10, 0, none⟩)), (12, .slice (some ⟨bt, 0, none⟩) (ts.length + 1) (ts.length + 1)), (13, .pointer (some ⟨b13, 0, none⟩)), (14, .slice (some ⟨bc, 0, none⟩) (ts.map tbV).length (ts.map tbV).length), (19, .pointer (some ⟨b19, 0, none⟩)), (20, .pointer (some ⟨b20, 0, none⟩)), (21, .int .i64 0), (22, .pointer (some ⟨b22, 0, none⟩)), (23, .pointer (some ⟨b23, 0, none⟩))] ∧ L = [pts b4 (.cells [.slice ps (ts.map tbV).length cps].toArray 24), row 57 3 (.slice (some ⟨bo, 0, none⟩) (O.map outV).length co) (O.map outV), pts b5 (.cells [.int .u64 m, .slice pq (qs.map sqV).length cq].toArray 28), P, row 25 1 (.slice (some ⟨bs, 0, none⟩) (zE.seqs.map sqV).length c3) (zE.seqs.map sqV), pts b10 (.cells [.int .u64 (m + 2), .slice (some ⟨bs, 0, none⟩) (zE.seqs.map sqV).length c3].toArray 28), row 9 1 (.slice (some ⟨bt, 0, none⟩) (ts.length + 1) (ts.length + 1)) (tp.map txtV), row 25 1 (.slice (some ⟨bq, 0, none⟩) (qs.map sqV).length c4) ((zE).seqs.map sqV), pts b13 (.cells [.int .u64 m, .slice (some ⟨bq, 0, none⟩) (qs.map sqV).length c4].toArray 28), row 3 1 (.slice (some ⟨bc, 0, none⟩) (ts.map tbV).length (ts.map tbV).length) ((zE).counts.map dpV), row 25 1 (.slice ap (qs.map sqV).length ac) (qs.map sqV), pts b19 (.cells [.int .u64 m, .slice ap (qs.map sqV).length ac].toArray 28), pts b20 (.cells [.int .u8 1, .int .u64 tx, .slice ak (([] : List Int).map dpV).length ack, .slice am (qs.map sqV).length acm].toArray 59), pts b22 (.cells [.int .u64 0, .slice none 0 0].toArray 28), pts b23 (.cells [.int .u8 0, .int .u64 0, .slice none 0 0, .slice none 0 0].toArray 59)] ++ R) ?_ ?_
        · rintro ⟨pp, cp, b22, b23, pk, ck, pm, cm⟩ ρ L ⟨hk, rfl⟩
          refine cont_regs hk ?_
          refine cont_node [] [(15, [0, 1, 2, 3, 4, 5, 6, 7, 8, 9, 10, 11, 12, 13, 14, 15], [16, 17, 18, 19, 22, 23, 24])] rfl (by decide +kernel) ?_
          refine nodeE1 ?_
          · dsimp only [List.length_cons, List.length_nil]
            repeat' (first | (refine go_Y ?_; intros) | fail)
            refine clN_Y (hat2) ?_
            rintro ⟨⟨wp, hwp⟩, ⟨wc, hwc⟩, ⟨wm, hwm⟩⟩ _
            dsimp only
            refine ops_learn (rowShapeS (e := 25) (n := 1) (v := wp) (xs := zE.seqs.map sqV) (by decide) takeD) ?_
            rintro ⟨p1, c1, rfl, _, _⟩
            refine ops_learn (rowShapeS (e := 3) (n := 1) (v := wc) (xs := zE.counts.map dpV) (by decide) takeD) ?_
            rintro ⟨p2, c2, rfl, _, _⟩
            refine ops_learn (rowShapeS (e := 25) (n := 1) (v := wm) (xs := zE.seqs.map sqV) (by decide) takeD) ?_
            rintro ⟨p3, c3', rfl, _, _⟩
            repeat' (first | (refine go_Y ?_; intros) | fail)
            refine cont_map (L' := [pts b4 (.cells [.slice ps (ts.map tbV).length cps].toArray 24), row 57 3 (.slice (some ⟨bo, 0, none⟩) (O.map outV).length co) (O.map outV), pts b5 (.cells [.int .u64 m, .slice pq (qs.map sqV).length cq].toArray 28), P, row 25 1 (.slice (some ⟨bs, 0, none⟩) (zE.seqs.map sqV).length c3) (zE.seqs.map sqV), pts b10 (.cells [.int .u64 (m + 2), .slice (some ⟨bs, 0, none⟩) (zE.seqs.map sqV).length c3].toArray 28), row 9 1 (.slice (some ⟨bt, 0, none⟩) (ts.length + 1) (ts.length + 1)) (tp.map txtV), row 25 1 (.slice (some ⟨bq, 0, none⟩) (qs.map sqV).length c4) ((zE).seqs.map sqV), pts b13 (.cells [.int .u64 m, .slice (some ⟨bq, 0, none⟩) (qs.map sqV).length c4].toArray 28), row 3 1 (.slice (some ⟨bc, 0, none⟩) (ts.map tbV).length (ts.map tbV).length) ((zE).counts.map dpV), row 25 1 (.slice ap (qs.map sqV).length ac) (qs.map sqV), pts b19 (.cells [.int .u64 m, .slice ap (qs.map sqV).length ac].toArray 28), pts b20 (.cells [.int .u8 1, .int .u64 tx, .slice ak (([] : List Int).map dpV).length ack, .slice am (qs.map sqV).length acm].toArray 59), row 25 1 (.slice p1 (zE.seqs.map sqV).length c1) (zE.seqs.map sqV), row 3 1 (.slice p2 (zE.counts.map dpV).length c2) (zE.counts.map dpV), row 25 1 (.slice p3 (zE.seqs.map sqV).length c3') (zE.seqs.map sqV), pts b22 (.cells [.int .u64 0, .slice none 0 0].toArray 28), pts b23 (.cells [.int .u8 0, .int .u64 0, .slice none 0 0, .slice none 0 0].toArray 59)] ++ R) entD ?_
            exact n15_20_21 ⟨p1, c1, b22, b23, p2, c2, p3, c3'⟩ _ _ ⟨⟨rfl, rfl, rfl, rfl, rfl, rfl, rfl, rfl, rfl, rfl, rfl, rfl, rfl, rfl, rfl, trivial⟩, rfl⟩
        intro n20_21
        refine node_have 4 [16, 17, 18, 19, 20, 21, 22, 23, 24] (γ := Option Addr × Nat × Nat × Nat × Option Addr × Nat × Option Addr × Nat) (fun ⟨pp, cp, b22, b23, pk, ck, pm, cm⟩ ρ L => Knows ρ [(2, .int .u64 tx), (3, .slice pl (cs.map cmV).length cl), (4, .pointer (some ⟨b4, 0, none⟩)), (5, .pointer (some ⟨b5, 0, none⟩)), (9, .slice (some ⟨bo, 0, none⟩) (O.map outV).length co), (10, .pointer (some ⟨b10, 0, none⟩)), (12, .slice (some ⟨bt, 0, none⟩) (ts.length + 1) (ts.length + 1)), (13, .pointer (some ⟨b13, 0, none⟩)), (14, .slice (some ⟨bc, 0, none⟩) (ts.map tbV).length (ts.map tbV).length), (19, .pointer (some ⟨b19, 0, none⟩)), (20, .pointer (some ⟨b20, 0, none⟩)), (21, .int .i64 0), (231, .tuple #[.agg #[.int .u64 (m + 2), .slice pp (zE.seqs.map sqV).length cp], .agg #[.int .u8 2, .int .u64 tx, .slice pk (zE.counts.map dpV).length ck, .slice pm (zE.seqs.map sqV).length cm], .int .i64 0])] ∧ L = [pts b4 (.cells [.slice ps (ts.map tbV).length cps].toArray 24), row 57 3 (.slice (some ⟨bo, 0, none⟩) (O.map outV).length co) (O.map outV), pts b5 (.cells [.int .u64 m, .slice pq (qs.map sqV).length cq].toArray 28), P, row 25 1 (.slice (some ⟨bs, 0, none⟩) (zE.seqs.map sqV).length c3) (zE.seqs.map sqV), pts b10 (.cells [.int .u64 (m + 2), .slice (some ⟨bs, 0, none⟩) (zE.seqs.map sqV).length c3].toArray 28), row 9 1 (.slice (some ⟨bt, 0, none⟩) (ts.length + 1) (ts.length + 1)) (tp.map txtV), row 25 1 (.slice (some ⟨bq, 0, none⟩) (qs.map sqV).length c4) ((zE).seqs.map sqV), pts b13 (.cells [.int .u64 m, .slice (some ⟨bq, 0, none⟩) (qs.map sqV).length c4].toArray 28), row 3 1 (.slice (some ⟨bc, 0, none⟩) (ts.map tbV).length (ts.map tbV).length) ((zE).counts.map dpV), row 25 1 (.slice ap (qs.map sqV).length ac) (qs.map sqV), pts b19 (.cells [.int .u64 m, .slice ap (qs.map sqV).length ac].toArray 28), pts b20 (.cells [.int .u8 1, .int .u64 tx, .slice ak (([] : List Int).map dpV).length ack, .slice am (qs.map sqV).length acm].toArray 59), row 25 1 (.slice pp (zE.seqs.map sqV).length cp) (zE.seqs.map sqV), row 3 1 (.slice pk (zE.counts.map dpV).length ck) (zE.counts.map dpV), row 25 1 (.slice pm (zE.seqs.map sqV).length cm) (zE.seqs.map sqV)] ++ R) ?_ ?_
        · rintro ⟨pp, cp, b22, b23, pk, ck, pm, cm⟩ ρ L ⟨hk, rfl⟩
          refine cont_regs hk ?_
          refine cont_node [] [(20, [20], [16, 17, 18, 19, 21, 22, 23, 24]), (21, [21], [16, 17, 18, 19, 20, 22, 23, 24])] rfl (by decide +kernel) ?_
          refine nodeE2 ?_ ?_
          · dsimp only [List.length_cons, List.length_nil]
            repeat' (first | (refine go_Y ?_; intros) | fail)
            rename_i w
            refine cont_map (L' := [pts b4 (.cells [.slice ps (ts.map tbV).length cps].toArray 24), row 57 3 (.slice (some ⟨bo, 0, none⟩) (O.map outV).length co) (O.map outV), pts b5 (.cells [.int .u64 m, .slice pq (qs.map sqV).length cq].toArray 28), P, row 25 1 (.slice (some ⟨bs, 0, none⟩) (zE.seqs.map sqV).length c3) (zE.seqs.map sqV), pts b10 (.cells [.int .u64 (m + 2), .slice (some ⟨bs, 0, none⟩) (zE.seqs.map sqV).length c3].toArray 28), row 9 1 (.slice (some ⟨bt, 0, none⟩) (ts.length + 1) (ts.length + 1)) (tp.map txtV), row 25 1 (.slice (some ⟨bq, 0, none⟩) (qs.map sqV).length c4) ((zE).seqs.map sqV), pts b13 (.cells [.int .u64 m, .slice (some ⟨bq, 0, none⟩) (qs.map sqV).length c4].toArray 28), row 3 1 (.slice (some ⟨bc, 0, none⟩) (ts.map tbV).length (ts.map tbV).length) ((zE).counts.map dpV), row 25 1 (.slice ap (qs.map sqV).length ac) (qs.map sqV), pts b19 (.cells [.int .u64 m, .slice ap (qs.map sqV).length ac].toArray 28), pts b20 (.cells [.int .u8 1, .int .u64 tx, .slice ak (([] : List Int).map dpV).length ack, .slice am (qs.map sqV).length acm].toArray 59), row 25 1 (.slice pp (zE.seqs.map sqV).length cp) (zE.seqs.map sqV), row 3 1 (.slice pk (zE.counts.map dpV).length ck) (zE.counts.map dpV), row 25 1 (.slice pm (zE.seqs.map sqV).length cm) (zE.seqs.map sqV), pts w (.cells [.int .u64 0, .slice none 0 0].toArray 28)] ++ R) entD ?_
            exact n15_20 ⟨pp, cp, w, b23, pk, ck, pm, cm⟩ _ _ ⟨⟨rfl, rfl, rfl, rfl, rfl, rfl, rfl, rfl, rfl, rfl, rfl, rfl, rfl, rfl, trivial⟩, rfl⟩
          · dsimp only [List.length_cons, List.length_nil]
            repeat' (first | (refine go_Y ?_; intros) | fail)
            rename_i w
            refine cont_map (L' := [pts b4 (.cells [.slice ps (ts.map tbV).length cps].toArray 24), row 57 3 (.slice (some ⟨bo, 0, none⟩) (O.map outV).length co) (O.map outV), pts b5 (.cells [.int .u64 m, .slice pq (qs.map sqV).length cq].toArray 28), P, row 25 1 (.slice (some ⟨bs, 0, none⟩) (zE.seqs.map sqV).length c3) (zE.seqs.map sqV), pts b10 (.cells [.int .u64 (m + 2), .slice (some ⟨bs, 0, none⟩) (zE.seqs.map sqV).length c3].toArray 28), row 9 1 (.slice (some ⟨bt, 0, none⟩) (ts.length + 1) (ts.length + 1)) (tp.map txtV), row 25 1 (.slice (some ⟨bq, 0, none⟩) (qs.map sqV).length c4) ((zE).seqs.map sqV), pts b13 (.cells [.int .u64 m, .slice (some ⟨bq, 0, none⟩) (qs.map sqV).length c4].toArray 28), row 3 1 (.slice (some ⟨bc, 0, none⟩) (ts.map tbV).length (ts.map tbV).length) ((zE).counts.map dpV), row 25 1 (.slice ap (qs.map sqV).length ac) (qs.map sqV), pts b19 (.cells [.int .u64 m, .slice ap (qs.map sqV).length ac].toArray 28), pts b20 (.cells [.int .u8 1, .int .u64 tx, .slice ak (([] : List Int).map dpV).length ack, .slice am (qs.map sqV).length acm].toArray 59), row 25 1 (.slice pp (zE.seqs.map sqV).length cp) (zE.seqs.map sqV), row 3 1 (.slice pk (zE.counts.map dpV).length ck) (zE.counts.map dpV), row 25 1 (.slice pm (zE.seqs.map sqV).length cm) (zE.seqs.map sqV), pts w (.cells [.int .u8 0, .int .u64 0, .slice none 0 0, .slice none 0 0].toArray 59)] ++ R) entD ?_
            exact n15_21 ⟨pp, cp, b22, w, pk, ck, pm, cm⟩ _ _ ⟨⟨rfl, rfl, rfl, rfl, rfl, rfl, rfl, rfl, rfl, rfl, rfl, rfl, rfl, rfl, trivial⟩, rfl⟩
        intro n15
        refine node_have 4 [0, 1, 2, 3, 4, 5, 6, 7, 8, 9, 10, 11, 12, 13, 14, 15, 16, 17, 18, 19, 21, 22, 23, 24] (γ := Option Addr × Nat × Nat × Nat × Option Addr × Nat × Option Addr × Nat) (fun ⟨pp, cp, b22, b23, pk, ck, pm, cm⟩ ρ L => Knows ρ [(2, .int .u64 tx), (3, .slice pl (cs.map cmV).length cl), (4, .pointer (some ⟨b4, 0, none⟩)), (5, .pointer (some ⟨b5, 0, none⟩)), (9, .slice (some ⟨bo, 0, none⟩) (O.map outV).length co), (10, .pointer (some ⟨b10, 0, none⟩)), (12, .slice (some ⟨bt, 0, none⟩) (ts.length + 1) (ts.length + 1)), (13, .pointer (some ⟨b13, 0, none⟩)), (14, .slice (some ⟨bc, 0, none⟩) (ts.map tbV).length (ts.map tbV).length), (19, .pointer (some ⟨b19, 0, none⟩)), (20, .pointer (some ⟨b20, 0, none⟩)), (21, .int .i64 0), (22, .pointer (some ⟨b22, 0, none⟩))] ∧ L = [pts b4 (.cells [.slice ps (ts.map tbV).length cps].toArray 24), row 57 3 (.slice (some ⟨bo, 0, none⟩) (O.map outV).length co) (O.map outV), pts b5 (.cells [.int .u64 m, .slice pq (qs.map sqV).length cq].toArray 28), P, row 25 1 (.slice (some ⟨bs, 0, none⟩) (zE.seqs.map sqV).length c3) (zE.seqs.map sqV), pts b10 (.cells [.int .u64 (m + 2), .slice (some ⟨bs, 0, none⟩) (zE.seqs.map sqV).length c3].toArray 28), row 9 1 (.slice (some ⟨bt, 0, none⟩) (ts.length + 1) (ts.length + 1)) (tp.map txtV), row 25 1 (.slice (some ⟨bq, 0, none⟩) (qs.map sqV).length c4) ((zE).seqs.map sqV), pts b13 (.cells [.int .u64 m, .slice (some ⟨bq, 0, none⟩) (qs.map sqV).length c4].toArray 28), row 3 1 (.slice (some ⟨bc, 0, none⟩) (ts.map tbV).length (ts.map tbV).length) ((zE).counts.map dpV), row 25 1 (.slice ap (qs.map sqV).length ac) (qs.map sqV), pts b19 (.cells [.int .u64 m, .slice ap (qs.map sqV).length ac].toArray 28), pts b20 (.cells [.int .u8 1, .int .u64 tx, .slice ak (([] : List Int).map dpV).length ack, .slice am (qs.map sqV).length acm].toArray 59), pts b22 (.cells [.int .u64 0, .slice none 0 0].toArray 28)] ++ R) ?_ ?_
        · rintro ⟨pp, cp, b22, b23, pk, ck, pm, cm⟩ ρ L ⟨hk, rfl⟩
          refine cont_regs hk ?_
          refine cont_node [] [(15, [0, 1, 2, 3, 4, 5, 6, 7, 8, 9, 10, 11, 12, 13, 14, 15], [16, 17, 18, 19, 21, 22, 23, 24]), (21, [21], [0, 1, 2, 3, 4, 5, 6, 7, 8, 9, 10, 11, 12, 13, 14, 15, 16, 17, 18, 19, 22, 23, 24])] rfl (by decide +kernel) ?_
          refine nodeE2 ?_ ?_
          · dsimp only [List.length_cons, List.length_nil]
            repeat' (first | (refine go_Y ?_; intros) | fail)
            refine clN_Y (hat2) ?_
            rintro ⟨⟨wp, hwp⟩, ⟨wc, hwc⟩, ⟨wm, hwm⟩⟩ _
            dsimp only
            refine ops_learn (rowShapeS (e := 25) (n := 1) (v := wp) (xs := zE.seqs.map sqV) (by decide) takeD) ?_
            rintro ⟨p1, c1, rfl, _, _⟩
            refine ops_learn (rowShapeS (e := 3) (n := 1) (v := wc) (xs := zE.counts.map dpV) (by decide) takeD) ?_
            rintro ⟨p2, c2, rfl, _, _⟩
            refine ops_learn (rowShapeS (e := 25) (n := 1) (v := wm) (xs := zE.seqs.map sqV) (by decide) takeD) ?_
            rintro ⟨p3, c3', rfl, _, _⟩
            repeat' (first | (refine go_Y ?_; intros) | fail)
            refine cont_map (L' := [pts b4 (.cells [.slice ps (ts.map tbV).length cps].toArray 24), row 57 3 (.slice (some ⟨bo, 0, none⟩) (O.map outV).length co) (O.map outV), pts b5 (.cells [.int .u64 m, .slice pq (qs.map sqV).length cq].toArray 28), P, row 25 1 (.slice (some ⟨bs, 0, none⟩) (zE.seqs.map sqV).length c3) (zE.seqs.map sqV), pts b10 (.cells [.int .u64 (m + 2), .slice (some ⟨bs, 0, none⟩) (zE.seqs.map sqV).length c3].toArray 28), row 9 1 (.slice (some ⟨bt, 0, none⟩) (ts.length + 1) (ts.length + 1)) (tp.map txtV), row 25 1 (.slice (some ⟨bq, 0, none⟩) (qs.map sqV).length c4) ((zE).seqs.map sqV), pts b13 (.cells [.int .u64 m, .slice (some ⟨bq, 0, none⟩) (qs.map sqV).length c4].toArray 28), row 3 1 (.slice (some ⟨bc, 0, none⟩) (ts.map tbV).length (ts.map tbV).length) ((zE).counts.map dpV), row 25 1 (.slice ap (qs.map sqV).length ac) (qs.map sqV), pts b19 (.cells [.int .u64 m, .slice ap (qs.map sqV).length ac].toArray 28), pts b20 (.cells [.int .u8 1, .int .u64 tx, .slice ak (([] : List Int).map dpV).length ack, .slice am (qs.map sqV).length acm].toArray 59), row 25 1 (.slice p1 (zE.seqs.map sqV).length c1) (zE.seqs.map sqV), row 3 1 (.slice p2 (zE.counts.map dpV).length c2) (zE.counts.map dpV), row 25 1 (.slice p3 (zE.seqs.map sqV).length c3') (zE.seqs.map sqV), pts b22 (.cells [.int .u64 0, .slice none 0 0].toArray 28)] ++ R) entD ?_
            exact n15_20 ⟨p1, c1, b22, b23, p2, c2, p3, c3'⟩ _ _ ⟨⟨rfl, rfl, rfl, rfl, rfl, rfl, rfl, rfl, rfl, rfl, rfl, rfl, rfl, rfl, trivial⟩, rfl⟩
          · dsimp only [List.length_cons, List.length_nil]
            repeat' (first | (refine go_Y ?_; intros) | fail)
            rename_i w
            refine cont_map (L' := [pts b4 (.cells [.slice ps (ts.map tbV).length cps].toArray 24), row 57 3 (.slice (some ⟨bo, 0, none⟩) (O.map outV).length co) (O.map outV), pts b5 (.cells [.int .u64 m, .slice pq (qs.map sqV).length cq].toArray 28), P, row 25 1 (.slice (some ⟨bs, 0, none⟩) (zE.seqs.map sqV).length c3) (zE.seqs.map sqV), pts b10 (.cells [.int .u64 (m + 2), .slice (some ⟨bs, 0, none⟩) (zE.seqs.map sqV).length c3].toArray 28), row 9 1 (.slice (some ⟨bt, 0, none⟩) (ts.length + 1) (ts.length + 1)) (tp.map txtV), row 25 1 (.slice (some ⟨bq, 0, none⟩) (qs.map sqV).length c4) ((zE).seqs.map sqV), pts b13 (.cells [.int .u64 m, .slice (some ⟨bq, 0, none⟩) (qs.map sqV).length c4].toArray 28), row 3 1 (.slice (some ⟨bc, 0, none⟩) (ts.map tbV).length (ts.map tbV).length) ((zE).counts.map dpV), row 25 1 (.slice ap (qs.map sqV).length ac) (qs.map sqV), pts b19 (.cells [.int .u64 m, .slice ap (qs.map sqV).length ac].toArray 28), pts b20 (.cells [.int .u8 1, .int .u64 tx, .slice ak (([] : List Int).map dpV).length ack, .slice am (qs.map sqV).length acm].toArray 59), pts b22 (.cells [.int .u64 0, .slice none 0 0].toArray 28), pts w (.cells [.int .u8 0, .int .u64 0, .slice none 0 0, .slice none 0 0].toArray 59)] ++ R) entD ?_
            exact n20_21 ⟨pp, cp, b22, w, pk, ck, pm, cm⟩ _ _ ⟨⟨rfl, rfl, rfl, rfl, rfl, rfl, rfl, rfl, rfl, rfl, rfl, rfl, rfl, rfl, trivial⟩, rfl⟩
        intro n20
        refine node_have 4 [0, 1, 2, 3, 4, 5, 6, 7, 8, 9, 10, 11, 12, 13, 14, 15, 16, 17, 18, 19, 20, 22, 23, 24] (γ := Option Addr × Nat × Nat × Nat × Option Addr × Nat × Option Addr × Nat) (fun ⟨pp, cp, b22, b23, pk, ck, pm, cm⟩ ρ L => Knows ρ [(2, .int .u64 tx), (3, .slice pl (cs.map cmV).length cl), (4, .pointer (some ⟨b4, 0, none⟩)), (5, .pointer (some ⟨b5, 0, none⟩)), (9, .slice (some ⟨bo, 0, none⟩) (O.map outV).length co), (10, .pointer (some ⟨b10, 0, none⟩)), (12, .slice (some ⟨bt, 0, none⟩) (ts.length + 1) (ts.length + 1)), (13, .pointer (some ⟨b13, 0, none⟩)), (14, .slice (some ⟨bc, 0, none⟩) (ts.map tbV).length (ts.map tbV).length), (19, .pointer (some ⟨b19, 0, none⟩)), (20, .pointer (some ⟨b20, 0, none⟩)), (21, .int .i64 0), (23, .pointer (some ⟨b23, 0, none⟩))] ∧ L = [pts b4 (.cells [.slice ps (ts.map tbV).length cps].toArray 24), row 57 3 (.slice (some ⟨bo, 0, none⟩) (O.map outV).length co) (O.map outV), pts b5 (.cells [.int .u64 m, .slice pq (qs.map sqV).length cq].toArray 28), P, row 25 1 (.slice (some ⟨bs, 0, none⟩) (zE.seqs.map sqV).length c3) (zE.seqs.map sqV), pts b10 (.cells [.int .u64 (m + 2), .slice (some ⟨bs, 0, none⟩) (zE.seqs.map sqV).length c3].toArray 28), row 9 1 (.slice (some ⟨bt, 0, none⟩) (ts.length + 1) (ts.length + 1)) (tp.map txtV), row 25 1 (.slice (some ⟨bq, 0, none⟩) (qs.map sqV).length c4) ((zE).seqs.map sqV), pts b13 (.cells [.int .u64 m, .slice (some ⟨bq, 0, none⟩) (qs.map sqV).length c4].toArray 28), row 3 1 (.slice (some ⟨bc, 0, none⟩) (ts.map tbV).length (ts.map tbV).length) ((zE).counts.map dpV), row 25 1 (.slice ap (qs.map sqV).length ac) (qs.map sqV), pts b19 (.cells [.int .u64 m, .slice ap (qs.map sqV).length ac].toArray 28), pts b20 (.cells [.int .u8 1, .int .u64 tx, .slice ak (([] : List Int).map dpV).length ack, .slice am (qs.map sqV).length acm].toArray 59), pts b23 (.cells [.int .u8 0, .int .u64 0, .slice none 0 0, .slice none 0 0].toArray 59)] ++ R) ?_ ?_
        · rintro ⟨pp, cp, b22, b23, pk, ck, pm, cm⟩ ρ L ⟨hk, rfl⟩
          refine cont_regs hk ?_
          refine cont_node [] [(15, [0, 1, 2, 3, 4, 5, 6, 7, 8, 9, 10, 11, 12, 13, 14, 15], [16, 17, 18, 19, 20, 22, 23, 24]), (20, [20], [0, 1, 2, 3, 4, 5, 6, 7, 8, 9, 10, 11, 12, 13, 14, 15, 16, 17, 18, 19, 22, 23, 24])] rfl (by decide +kernel) ?_
          refine nodeE2 ?_ ?_
          · dsimp only [List.length_cons, List.length_nil]
            repeat' (first | (refine go_Y ?_; intros) | fail)
            refine clN_Y (hat2) ?_
            rintro ⟨⟨wp, hwp⟩, ⟨wc, hwc⟩, ⟨wm, hwm⟩⟩ _
            dsimp only
            refine ops_learn (rowShapeS (e := 25) (n := 1) (v := wp) (xs := zE.seqs.map sqV) (by decide) takeD) ?_
            rintro ⟨p1, c1, rfl, _, _⟩
            refine ops_learn (rowShapeS (e := 3) (n := 1) (v := wc) (xs := zE.counts.map dpV) (by decide) takeD) ?_
            rintro ⟨p2, c2, rfl, _, _⟩
            refine ops_learn (rowShapeS (e := 25) (n := 1) (v := wm) (xs := zE.seqs.map sqV) (by decide) takeD) ?_
            rintro ⟨p3, c3', rfl, _, _⟩
            repeat' (first | (refine go_Y ?_; intros) | fail)
            refine cont_map (L' := [pts b4 (.cells [.slice ps (ts.map tbV).length cps].toArray 24), row 57 3 (.slice (some ⟨bo, 0, none⟩) (O.map outV).length co) (O.map outV), pts b5 (.cells [.int .u64 m, .slice pq (qs.map sqV).length cq].toArray 28), P, row 25 1 (.slice (some ⟨bs, 0, none⟩) (zE.seqs.map sqV).length c3) (zE.seqs.map sqV), pts b10 (.cells [.int .u64 (m + 2), .slice (some ⟨bs, 0, none⟩) (zE.seqs.map sqV).length c3].toArray 28), row 9 1 (.slice (some ⟨bt, 0, none⟩) (ts.length + 1) (ts.length + 1)) (tp.map txtV), row 25 1 (.slice (some ⟨bq, 0, none⟩) (qs.map sqV).length c4) ((zE).seqs.map sqV), pts b13 (.cells [.int .u64 m, .slice (some ⟨bq, 0, none⟩) (qs.map sqV).length c4].toArray 28), row 3 1 (.slice (some ⟨bc, 0, none⟩) (ts.map tbV).length (ts.map tbV).length) ((zE).counts.map dpV), row 25 1 (.slice ap (qs.map sqV).length ac) (qs.map sqV), pts b19 (.cells [.int .u64 m, .slice ap (qs.map sqV).length ac].toArray 28), pts b20 (.cells [.int .u8 1, .int .u64 tx, .slice ak (([] : List Int).map dpV).length ack, .slice am (qs.map sqV).length acm].toArray 59), row 25 1 (.slice p1 (zE.seqs.map sqV).length c1) (zE.seqs.map sqV), row 3 1 (.slice p2 (zE.counts.map dpV).length c2) (zE.counts.map dpV), row 25 1 (.slice p3 (zE.seqs.map sqV).length c3') (zE.seqs.map sqV), pts b23 (.cells [.int .u8 0, .int .u64 0, .slice none 0 0, .slice none 0 0].toArray 59)] ++ R) entD ?_
            exact n15_21 ⟨p1, c1, b22, b23, p2, c2, p3, c3'⟩ _ _ ⟨⟨rfl, rfl, rfl, rfl, rfl, rfl, rfl, rfl, rfl, rfl, rfl, rfl, rfl, rfl, trivial⟩, rfl⟩
          · dsimp only [List.length_cons, List.length_nil]
            repeat' (first | (refine go_Y ?_; intros) | fail)
            rename_i w
            refine cont_map (L' := [pts b4 (.cells [.slice ps (ts.map tbV).length cps].toArray 24), row 57 3 (.slice (some ⟨bo, 0, none⟩) (O.map outV).length co) (O.map outV), pts b5 (.cells [.int .u64 m, .slice pq (qs.map sqV).length cq].toArray 28), P, row 25 1 (.slice (some ⟨bs, 0, none⟩) (zE.seqs.map sqV).length c3) (zE.seqs.map sqV), pts b10 (.cells [.int .u64 (m + 2), .slice (some ⟨bs, 0, none⟩) (zE.seqs.map sqV).length c3].toArray 28), row 9 1 (.slice (some ⟨bt, 0, none⟩) (ts.length + 1) (ts.length + 1)) (tp.map txtV), row 25 1 (.slice (some ⟨bq, 0, none⟩) (qs.map sqV).length c4) ((zE).seqs.map sqV), pts b13 (.cells [.int .u64 m, .slice (some ⟨bq, 0, none⟩) (qs.map sqV).length c4].toArray 28), row 3 1 (.slice (some ⟨bc, 0, none⟩) (ts.map tbV).length (ts.map tbV).length) ((zE).counts.map dpV), row 25 1 (.slice ap (qs.map sqV).length ac) (qs.map sqV), pts b19 (.cells [.int .u64 m, .slice ap (qs.map sqV).length ac].toArray 28), pts b20 (.cells [.int .u8 1, .int .u64 tx, .slice ak (([] : List Int).map dpV).length ack, .slice am (qs.map sqV).length acm].toArray 59), pts w (.cells [.int .u64 0, .slice none 0 0].toArray 28), pts b23 (.cells [.int .u8 0, .int .u64 0, .slice none 0 0, .slice none 0 0].toArray 59)] ++ R) entD ?_
            exact n20_21 ⟨pp, cp, w, b23, pk, ck, pm, cm⟩ _ _ ⟨⟨rfl, rfl, rfl, rfl, rfl, rfl, rfl, rfl, rfl, rfl, rfl, rfl, rfl, rfl, trivial⟩, rfl⟩
        intro n21
        refine cont_node [] [(15, [0, 1, 2, 3, 4, 5, 6, 7, 8, 9, 10, 11, 12, 13, 14, 15], [16, 17, 18, 19, 20, 21, 22, 23, 24]), (20, [20], [0, 1, 2, 3, 4, 5, 6, 7, 8, 9, 10, 11, 12, 13, 14, 15, 16, 17, 18, 19, 21, 22, 23, 24]), (21, [21], [0, 1, 2, 3, 4, 5, 6, 7, 8, 9, 10, 11, 12, 13, 14, 15, 16, 17, 18, 19, 20, 22, 23, 24])] rfl (by decide +kernel) ?_
        refine nodeE3 ?_ ?_ ?_
        · dsimp only [List.length_cons, List.length_nil]
          repeat' (first | (refine go_Y ?_; intros) | fail)
          refine clN_Y (hat2) ?_
          rintro ⟨⟨wp, hwp⟩, ⟨wc, hwc⟩, ⟨wm, hwm⟩⟩ _
          dsimp only
          refine ops_learn (rowShapeS (e := 25) (n := 1) (v := wp) (xs := zE.seqs.map sqV) (by decide) takeD) ?_
          rintro ⟨p1, c1, rfl, _, _⟩
          refine ops_learn (rowShapeS (e := 3) (n := 1) (v := wc) (xs := zE.counts.map dpV) (by decide) takeD) ?_
          rintro ⟨p2, c2, rfl, _, _⟩
          refine ops_learn (rowShapeS (e := 25) (n := 1) (v := wm) (xs := zE.seqs.map sqV) (by decide) takeD) ?_
          rintro ⟨p3, c3', rfl, _, _⟩
          repeat' (first | (refine go_Y ?_; intros) | fail)
          refine cont_map (L' := [pts b4 (.cells [.slice ps (ts.map tbV).length cps].toArray 24), row 57 3 (.slice (some ⟨bo, 0, none⟩) (O.map outV).length co) (O.map outV), pts b5 (.cells [.int .u64 m, .slice pq (qs.map sqV).length cq].toArray 28), P, row 25 1 (.slice (some ⟨bs, 0, none⟩) (zE.seqs.map sqV).length c3) (zE.seqs.map sqV), pts b10 (.cells [.int .u64 (m + 2), .slice (some ⟨bs, 0, none⟩) (zE.seqs.map sqV).length c3].toArray 28), row 9 1 (.slice (some ⟨bt, 0, none⟩) (ts.length + 1) (ts.length + 1)) (tp.map txtV), row 25 1 (.slice (some ⟨bq, 0, none⟩) (qs.map sqV).length c4) ((zE).seqs.map sqV), pts b13 (.cells [.int .u64 m, .slice (some ⟨bq, 0, none⟩) (qs.map sqV).length c4].toArray 28), row 3 1 (.slice (some ⟨bc, 0, none⟩) (ts.map tbV).length (ts.map tbV).length) ((zE).counts.map dpV), row 25 1 (.slice ap (qs.map sqV).length ac) (qs.map sqV), pts b19 (.cells [.int .u64 m, .slice ap (qs.map sqV).length ac].toArray 28), pts b20 (.cells [.int .u8 1, .int .u64 tx, .slice ak (([] : List Int).map dpV).length ack, .slice am (qs.map sqV).length acm].toArray 59), row 25 1 (.slice p1 (zE.seqs.map sqV).length c1) (zE.seqs.map sqV), row 3 1 (.slice p2 (zE.counts.map dpV).length c2) (zE.counts.map dpV), row 25 1 (.slice p3 (zE.seqs.map sqV).length c3') (zE.seqs.map sqV)] ++ R) entD ?_
          exact n15 ⟨p1, c1, 0, 0, p2, c2, p3, c3'⟩ _ _ ⟨⟨rfl, rfl, rfl, rfl, rfl, rfl, rfl, rfl, rfl, rfl, rfl, rfl, rfl, trivial⟩, rfl⟩
        · dsimp only [List.length_cons, List.length_nil]
          repeat' (first | (refine go_Y ?_; intros) | fail)
          rename_i w
          refine cont_map (L' := [pts b4 (.cells [.slice ps (ts.map tbV).length cps].toArray 24), row 57 3 (.slice (some ⟨bo, 0, none⟩) (O.map outV).length co) (O.map outV), pts b5 (.cells [.int .u64 m, .slice pq (qs.map sqV).length cq].toArray 28), P, row 25 1 (.slice (some ⟨bs, 0, none⟩) (zE.seqs.map sqV).length c3) (zE.seqs.map sqV), pts b10 (.cells [.int .u64 (m + 2), .slice (some ⟨bs, 0, none⟩) (zE.seqs.map sqV).length c3].toArray 28), row 9 1 (.slice (some ⟨bt, 0, none⟩) (ts.length + 1) (ts.length + 1)) (tp.map txtV), row 25 1 (.slice (some ⟨bq, 0, none⟩) (qs.map sqV).length c4) ((zE).seqs.map sqV), pts b13 (.cells [.int .u64 m, .slice (some ⟨bq, 0, none⟩) (qs.map sqV).length c4].toArray 28), row 3 1 (.slice (some ⟨bc, 0, none⟩) (ts.map tbV).length (ts.map tbV).length) ((zE).counts.map dpV), row 25 1 (.slice ap (qs.map sqV).length ac) (qs.map sqV), pts b19 (.cells [.int .u64 m, .slice ap (qs.map sqV).length ac].toArray 28), pts b20 (.cells [.int .u8 1, .int .u64 tx, .slice ak (([] : List Int).map dpV).length ack, .slice am (qs.map sqV).length acm].toArray 59), pts w (.cells [.int .u64 0, .slice none 0 0].toArray 28)] ++ R) entD ?_
          exact n20 ⟨none, 0, w, 0, none, 0, none, 0⟩ _ _ ⟨⟨rfl, rfl, rfl, rfl, rfl, rfl, rfl, rfl, rfl, rfl, rfl, rfl, rfl, trivial⟩, rfl⟩
        · dsimp only [List.length_cons, List.length_nil]
          repeat' (first | (refine go_Y ?_; intros) | fail)
          rename_i w
          refine cont_map (L' := [pts b4 (.cells [.slice ps (ts.map tbV).length cps].toArray 24), row 57 3 (.slice (some ⟨bo, 0, none⟩) (O.map outV).length co) (O.map outV), pts b5 (.cells [.int .u64 m, .slice pq (qs.map sqV).length cq].toArray 28), P, row 25 1 (.slice (some ⟨bs, 0, none⟩) (zE.seqs.map sqV).length c3) (zE.seqs.map sqV), pts b10 (.cells [.int .u64 (m + 2), .slice (some ⟨bs, 0, none⟩) (zE.seqs.map sqV).length c3].toArray 28), row 9 1 (.slice (some ⟨bt, 0, none⟩) (ts.length + 1) (ts.length + 1)) (tp.map txtV), row 25 1 (.slice (some ⟨bq, 0, none⟩) (qs.map sqV).length c4) ((zE).seqs.map sqV), pts b13 (.cells [.int .u64 m, .slice (some ⟨bq, 0, none⟩) (qs.map sqV).length c4].toArray 28), row 3 1 (.slice (some ⟨bc, 0, none⟩) (ts.map tbV).length (ts.map tbV).length) ((zE).counts.map dpV), row 25 1 (.slice ap (qs.map sqV).length ac) (qs.map sqV), pts b19 (.cells [.int .u64 m, .slice ap (qs.map sqV).length ac].toArray 28), pts b20 (.cells [.int .u8 1, .int .u64 tx, .slice ak (([] : List Int).map dpV).length ack, .slice am (qs.map sqV).length acm].toArray 59), pts w (.cells [.int .u8 0, .int .u64 0, .slice none 0 0, .slice none 0 0].toArray 59)] ++ R) entD ?_
          exact n21 ⟨none, 0, 0, w, none, 0, none, 0⟩ _ _ ⟨⟨rfl, rfl, rfl, rfl, rfl, rfl, rfl, rfl, rfl, rfl, rfl, rfl, rfl, trivial⟩, rfl⟩
      rintro ⟨ep, ec, b22, b23, ek, eck, em, ecm⟩ ρ L ⟨hk, rfl⟩
      dsimp only at hk ⊢
      refine cont_regs hk ?_
      have hPq := hE.vw hq
      have hPv := hE.vw hv
      have lc2 : (zE.counts.map dpV).length = zE.counts.length := by simp
      have s1 := samePlace_spec m m qs qs (.slice ap (qs.map sqV).length ac) (.slice pq (qs.map sqV).length cq) (row 25 1 (.slice ap (qs.map sqV).length ac) (qs.map sqV)) P rfl rfl Vw.row hPq (by omega)
      have s2 := samePlace_spec (m + 2) (m + 2) zE.seqs zE.seqs (.slice ep (zE.seqs.map sqV).length ec) (.slice (some ⟨bs, 0, none⟩) (zE.seqs.map sqV).length c3) (row 25 1 (.slice ep (zE.seqs.map sqV).length ec) (zE.seqs.map sqV)) (row 25 1 (.slice (some ⟨bs, 0, none⟩) (zE.seqs.map sqV).length c3) (zE.seqs.map sqV)) rfl rfl Vw.row Vw.row (by omega)
      have hlen13 : (qs.map sqV).length = (zE.seqs.map sqV).length := by omega
      have s3 := samePlace_spec (m + 2) (m + 2) zE.seqs zE.seqs (.slice (some ⟨bs, 0, none⟩) (zE.seqs.map sqV).length c3) (.slice (some ⟨bq, 0, none⟩) (qs.map sqV).length c4) (row 25 1 (.slice (some ⟨bs, 0, none⟩) (zE.seqs.map sqV).length c3) (zE.seqs.map sqV)) (row 25 1 (.slice (some ⟨bq, 0, none⟩) (qs.map sqV).length c4) ((zE).seqs.map sqV)) rfl rfl Vw.row Vw.row (by omega)
      have g1 : (!(marksT.toList == (⟨#[109, 97, 114, 107, 115]⟩ : BA).toList)) = false := by decide +kernel
      have g2 : (!decide ((1 : Int) = 1)) = false := by decide
      have g3 : (!decide ((2 : Int) = 2)) = false := by decide
      have g4 : (!decide (tx = tx)) = false := by simp
      have g5 : (!decide (((zE.counts.map dpV).length : Int) = ((ts.map tbV).length : Int))) = false := by rw [Bool.not_eq_false', decide_eq_true_eq]; omega
      have hwm : IntKind.u64.wrap (arith BinOp.add m 2) = m + 2 := u64_eq (x := m + 2) (by omega) (by omega)
      repeat' (first | (refine go_Y ?_; intros) | (refine gs_Y ?_ ?_ <;> (intro hgd; try (simp only [Bool.not_true, Bool.not_false] at hgd))) | (refine gc_Y ?_ ?_ <;> intro _) | fail)
      refine cl_Y (s1) ?_
      intro y hy
      obtain rfl : y = true := hy.2 ⟨rfl, rfl⟩
      repeat' (first | (refine go_Y ?_; intros) | (refine gs_Y ?_ ?_ <;> (intro hgd; try (simp only [Bool.not_true, Bool.not_false] at hgd))) | (refine gc_Y ?_ ?_ <;> intro _) | fail)
      rw [hwm]
      refine cl_Y (s2) ?_
      intro y hy
      obtain rfl : y = true := hy.2 ⟨rfl, rfl⟩
      repeat' (first | (refine go_Y ?_; intros) | (refine gs_Y ?_ ?_ <;> (intro hgd; try (simp only [Bool.not_true, Bool.not_false] at hgd))) | (refine gc_Y ?_ ?_ <;> intro _) | fail)
      refine cl_Y (s3) ?_
      intro y hy
      obtain rfl : y = true := hy.2 ⟨rfl, rfl⟩
      refine ops_learn (rowShape (e := 3) (n := 1) (v := .slice ek (zE.counts.map dpV).length eck) (xs := zE.counts.map dpV) (by decide) takeD) ?_
      rintro (⟨hno, hn⟩ | ⟨gek, ceck, heq, _⟩)
      · exfalso; have := congrArg List.length hn; rw [lc2, List.length_nil] at this; omega
      simp only [Value.slice.injEq, true_and] at heq
      obtain ⟨rfl, rfl⟩ := heq
      repeat' (first | (refine go_Y ?_; intros) | (refine gs_Y ?_ ?_ <;> (intro hgd; try (simp only [Bool.not_true, Bool.not_false] at hgd))) | (refine gc_Y ?_ ?_ <;> intro _) | fail)
      refine ok_map (L' := [pts b4 (.cells [.slice ps (ts.map tbV).length cps].toArray 24), pts b5 (.cells [.int .u64 m, .slice pq (qs.map sqV).length cq].toArray 28), P, row 57 3 (.slice (some ⟨bo, 0, none⟩) (O.map outV).length co) (O.map outV), row 25 1 (.slice ap (qs.map sqV).length ac) (qs.map sqV), pts b19 (.cells [.int .u64 m, .slice ap (qs.map sqV).length ac].toArray 28), pts b23 (.cells [.int .u8 2, .int .u64 tx, .slice (some ⟨gek, 0, none⟩) (zE.counts.map dpV).length eck, .slice em (zE.seqs.map sqV).length ecm].toArray 59), row 3 1 (.slice (some ⟨gek, 0, none⟩) (zE.counts.map dpV).length eck) (zE.counts.map dpV), row 3 1 (.slice (some ⟨bc, 0, none⟩) (ts.map tbV).length (ts.map tbV).length) ((zE).counts.map dpV)] ++ R) entD ?_
      refine ok_loop' (γ := Nat) (fun k ρ L => k ≤ zE.counts.length ∧ Knows ρ [(2, .int .u64 tx), (3, .slice pl (cs.map cmV).length cl), (4, .pointer (some ⟨b4, 0, none⟩)), (9, .slice (some ⟨bo, 0, none⟩) (O.map outV).length co), (14, .slice (some ⟨bc, 0, none⟩) (ts.map tbV).length (ts.map tbV).length), (19, .pointer (some ⟨b19, 0, none⟩)), (23, .pointer (some ⟨b23, 0, none⟩)), (25, .int .i64 (k : Int))] ∧
        L = [pts b4 (.cells [.slice ps (ts.map tbV).length cps].toArray 24), pts b5 (.cells [.int .u64 m, .slice pq (qs.map sqV).length cq].toArray 28), P, row 57 3 (.slice (some ⟨bo, 0, none⟩) (O.map outV).length co) (O.map outV), row 25 1 (.slice ap (qs.map sqV).length ac) (qs.map sqV), pts b19 (.cells [.int .u64 m, .slice ap (qs.map sqV).length ac].toArray 28), pts b23 (.cells [.int .u8 2, .int .u64 tx, .slice (some ⟨gek, 0, none⟩) (zE.counts.map dpV).length eck, .slice em (zE.seqs.map sqV).length ecm].toArray 59), row 3 1 (.slice (some ⟨gek, 0, none⟩) (zE.counts.map dpV).length eck) (zE.counts.map dpV), row 3 1 (.slice (some ⟨bc, 0, none⟩) (ts.map tbV).length (ts.map tbV).length) ((zE).counts.map dpV)] ++ R) (fun k => zE.counts.length - k) 0 ⟨by omega, ⟨rfl, rfl, rfl, rfl, rfl, rfl, rfl, rfl, trivial⟩, rfl⟩ ?_
      rintro k3 ρ L ⟨hk3, hk, rfl⟩
      refine ok_regs hk ?_
      cases t3 : decide ((k3 : Int) < ((ts.map tbV).length : Int)) with
      | true =>
        have hk30 : k3 < zE.counts.length := by have := of_decide_eq_true t3; omega
        have hkx : (zE.counts.map dpV)[k3]? = some (dpV zE.counts[k3]) := by rw [List.getElem?_map, List.getElem?_eq_getElem hk30]; rfl
        have hkn : k3 < (zE.counts.map dpV).length := by omega
        generalize zE.counts[k3] = x at hkx
        dsimp only [dpV] at hkx
        have f10 : (!decide (x = x)) = false := by simp
        repeat' (first | (refine go_Y ?_; intros) | (refine gs_Y ?_ ?_ <;> (intro hgd; try (simp only [Bool.not_true, Bool.not_false] at hgd))) | (refine gc_Y ?_ ?_ <;> intro _) | fail)
        refine cont_map (L' := [pts b4 (.cells [.slice ps (ts.map tbV).length cps].toArray 24), pts b5 (.cells [.int .u64 m, .slice pq (qs.map sqV).length cq].toArray 28), P, row 57 3 (.slice (some ⟨bo, 0, none⟩) (O.map outV).length co) (O.map outV), row 25 1 (.slice ap (qs.map sqV).length ac) (qs.map sqV), pts b19 (.cells [.int .u64 m, .slice ap (qs.map sqV).length ac].toArray 28), pts b23 (.cells [.int .u8 2, .int .u64 tx, .slice (some ⟨gek, 0, none⟩) (zE.counts.map dpV).length eck, .slice em (zE.seqs.map sqV).length ecm].toArray 59), row 3 1 (.slice (some ⟨gek, 0, none⟩) (zE.counts.map dpV).length eck) (zE.counts.map dpV), row 3 1 (.slice (some ⟨bc, 0, none⟩) (ts.map tbV).length (ts.map tbV).length) ((zE).counts.map dpV)] ++ R) entD ?_
        refine cont_back (k3 + 1) ⟨hk30, ⟨rfl, rfl, rfl, rfl, rfl, rfl, rfl, rfl, trivial⟩, rfl⟩ (by omega)
      | false =>
        have hof2 := of_spec (.slice ps (ts.map tbV).length cps) (.slice ap (qs.map sqV).length ac) (.slice pl (cs.map cmV).length cl) ts m tx qs cs P (row 25 1 (.slice ap (qs.map sqV).length ac) (qs.map sqV)) (hsv.ext hE) hUP Vw.row hPv (fun x hx => (hc.c x hx).ext hE) hwf2 m0 t0 tx1 hq0 (by omega) (by omega)
        rw [hT] at hof2
        simp only [cond_true] at hof2
        rw [hOe] at hof2
        repeat' (first | (refine go_Y ?_; intros) | (refine gs_Y ?_ ?_ <;> (intro hgd; try (simp only [Bool.not_true, Bool.not_false] at hgd))) | (refine gc_Y ?_ ?_ <;> intro _) | fail)
        refine cl_Y (hof2) ?_
        rintro ⟨⟨v6, hv6⟩, ⟨v7, hv7⟩⟩ _
        dsimp only
        refine ops_learn (rowShapeS (e := 57) (n := 3) (v := v6) (xs := O.map outV) (by decide) takeD) ?_
        rintro ⟨p6, c6, rfl, _, _⟩
        refine ops_learn (rowShapeS (e := 25) (n := 1) (v := v7) (by decide) takeD) ?_
        rintro ⟨p7, c7, rfl, _, _⟩
        have hso := sameOut_spec O (.slice p6 (O.map outV).length c6) (.slice (some ⟨bo, 0, none⟩) (O.map outV).length co) (row 57 3 (.slice p6 (O.map outV).length c6) (O.map outV)) (row 57 3 (.slice (some ⟨bo, 0, none⟩) (O.map outV).length co) (O.map outV)) Vw.row Vw.row (by omega)
        repeat' (first | (refine go_Y ?_; intros) | (refine gs_Y ?_ ?_ <;> (intro hgd; try (simp only [Bool.not_true, Bool.not_false] at hgd))) | (refine gc_Y ?_ ?_ <;> intro _) | fail)
        refine cl_Y (hso) ?_
        intro _ _
        repeat' (first | (refine go_Y ?_; intros) | (refine gs_Y ?_ ?_ <;> (intro hgd; try (simp only [Bool.not_true, Bool.not_false] at hgd))) | (refine gc_Y ?_ ?_ <;> intro _) | fail)
        refine cl_Y (halP) ?_
        intro _ _
        repeat' (first | (refine go_Y ?_; intros) | (refine gs_Y ?_ ?_ <;> (intro hgd; try (simp only [Bool.not_true, Bool.not_false] at hgd))) | (refine gc_Y ?_ ?_ <;> intro _) | fail)
        (refine rt_Y (y := P) (hrs := Tryd.results4) (hv := ?_) (hφ := ?_))
        · rfl
        · exact hE
end Go.Proofs.YtphaegcoldpclaaDoor
