import Derived.Test.YtphaegcoldpclaaDoorSoE
import Derived.Test.YtphaegcoldpclaaDoorG12
set_option linter.unusedSimpArgs false
set_option linter.unusedVariables false
set_option maxRecDepth 100000
namespace Go.Proofs.YtphaegcoldpclaaDoor
open Go Go.Fx Go.Proofs Go.Pl

set_option maxHeartbeats 16000000 in
theorem of20_spec (vs uq ul : Value) (ts : List Tb) (m tx : Int) (qs : List Int) (cs : List Cm) (A : HProp) (h : SV A vs ts) (hB : Vw A 1 uq (qs.map sqV)) (hL : Vw A 4 ul (cs.map cmV)) (hR : ∀ x ∈ cs, CmR A x)
    (hwf : ∀ x ∈ cs, (∀ v ∈ x.bef, v.wf) ∧ (∀ v ∈ x.aft, v.wf) ∧ x.bef.length ≤ 1000000 ∧ x.aft.length ≤ 1000000) (m0 : 0 ≤ m) (t0 : 0 ≤ tx) (t1 : tx ≤ 18446744073709551615) (hq : ∀ x ∈ qs, 0 ≤ x) (hmay : mayOf (ts.map Tb.c) m qs (cs.map Cm.c) = true) :
    FSpec Tryd.prog 18 [.agg #[vs], .agg #[.int .u64 m, uq], .int .u64 tx, ul] [A] (V1s × V1s) (fun _ => True)
      (fun y => .tuple #[y.1.1, .agg #[.int .u64 (m + 2), y.2.1]])
      (fun y => [row 57 3 y.1.1 ((ofOuts (ts.map Tb.c) tx m qs (cs.map Cm.c)).map outV), row 25 1 y.2.1 ((ofSeqs (ts.map Tb.c) tx m qs (cs.map Cm.c)).map sqV), A]) := by
  have hm := mayOf_cm ts m qs cs
  rw [hmay] at hm
  have hm2 := hm.symm
  simp only [Bool.and_eq_true, decide_eq_true_eq] at hm2
  obtain ⟨hc, hf, hle, hall⟩ := hm2
  have hA := h.vw
  have l1 : (ts.map tbV).length = ts.length := by simp
  have l2 : (qs.map sqV).length = qs.length := by simp
  have l3 : (cs.map cmV).length = cs.length := by simp
  obtain ⟨_, _, _, hl1, hl2⟩ := checkS_ok hc
  rw [List.length_map] at hl1 hl2
  have hz0 := of0_ok (tx := tx) hf hq
  have hqn : qs.length = ts.length := hz0.sl
  have hm1 : m ≤ 4611686018427387904 := by
    unfold fitsP at hf
    simp only [Bool.and_eq_true, decide_eq_true_eq] at hf
    exact hf.2.1
  have htop := topics20_spec vs ts A h hl2
  have hcp := copy20_spec m qs uq A hB (by omega)
  have hpb := fun u B' hu => putMark16_spec 1 tx [] qs (.slice none 0 0) u (row 3 1 (.slice none 0 0) []) B' Vw.row hu (mayMk_begin (by omega) (by omega)) t0 t1 (fun x hx => ⟨hq x hx, by have := (hz0.sq x hx).2; omega⟩)
  have lt : (topicsS (ts.map Tb.c)).length = ts.length + 1 := by simp [topicsS]
  rw [show ofOuts (ts.map Tb.c) tx m qs (cs.map Cm.c) = (ofGo tx (topicsS (ts.map Tb.c)) 0 (cs.map Cm.c) (of0 tx m qs)).outs ++ [(⟨#[109, 97, 114, 107, 115]⟩, m + 2, putMB 2 tx (ofGo tx (topicsS (ts.map Tb.c)) 0 (cs.map Cm.c) (of0 tx m qs)).counts (ofGo tx (topicsS (ts.map Tb.c)) 0 (cs.map Cm.c) (of0 tx m qs)).seqs)] from rfl,
    show ofSeqs (ts.map Tb.c) tx m qs (cs.map Cm.c) = (ofGo tx (topicsS (ts.map Tb.c)) 0 (cs.map Cm.c) (of0 tx m qs)).seqs from rfl]
  generalize topicsS (ts.map Tb.c) = tp at htop lt
  have hw1 : IntKind.u64.wrap (arith BinOp.add m 1) = m + 1 := u64_eq (x := m + 1) (by omega) (by omega)
  have hw2 : IntKind.u64.wrap (arith BinOp.add (m + 1) 1) = m + 2 := (u64_eq (x := m + 1 + 1) (by omega) (by omega)).trans (by omega)
  refine spec_intro [] _ Tryd.func18 rfl Tryd.ntmps18 (by rfl) (fun w0 R => ?_)
  refine ok_learn (VwIn.slice (VwIn.here hA)) ?_
  rintro ⟨pv, cv, rfl⟩
  refine ok_learn (VwIn.slice (VwIn.here hB)) ?_
  rintro ⟨pq, cq, rfl⟩
  refine ok_learn (VwIn.slice (VwIn.here hL)) ?_
  rintro ⟨pl, cl, rfl⟩
  refine ok_map (fun _ h => nilRow (e := 3) (n := 1) h) ?_
  repeat' (first | (refine go_Y ?_; intros) | (refine gs_Y ?_ ?_ <;> (intro hgd; try (simp only [Bool.not_true, Bool.not_false] at hgd))) | (refine gc_Y ?_ ?_ <;> intro _) | fail)
  rename_i b4 b5 b9
  refine cl_Y (hcp) ?_
  rintro ⟨vq, hvq⟩ _
  refine ops_learn (rowShape (e := 25) (n := 1) (v := vq) (xs := qs.map sqV) (by decide) takeD) ?_
  rintro (⟨rfl, hn⟩ | ⟨bs, c0, rfl, hc0⟩)
  · exfalso; have := congrArg List.length hn; rw [l2, List.length_nil] at this; omega
  repeat' (first | (refine go_Y ?_; intros) | (refine gs_Y ?_ ?_ <;> (intro hgd; try (simp only [Bool.not_true, Bool.not_false] at hgd))) | (refine gc_Y ?_ ?_ <;> intro _) | fail)
  refine cl_Y (htop) ?_
  rintro ⟨vt, hvt⟩ _
  refine ops_learn (rowShape (e := 9) (n := 1) (v := vt) (xs := tp.map txV) (by decide) takeD) ?_
  rintro (⟨rfl, hn⟩ | ⟨bt, c1, he, hc1⟩)
  · exfalso; have := congrArg List.length hn; rw [List.length_map, lt, List.length_nil] at this; omega
  rw [List.length_map] at he
  subst he
  repeat' (first | (refine go_Y ?_; intros) | (refine gs_Y ?_ ?_ <;> (intro hgd; try (simp only [Bool.not_true, Bool.not_false] at hgd))) | (refine gc_Y ?_ ?_ <;> intro _) | fail)
  rename_i bc
  rw [hw1]
  have hcnt : List.replicate (ts.map tbV).length [Value.int .i64 0] = (of0 tx m qs).counts.map dpV := by rw [l1, ← hqn]; show _ = (List.replicate _ _).map _; simp [dpV]
  rw [hcnt]
  dsimp only
  refine ok_drawL (cv := []) [6] ([pts b5 (.cells [.int .u64 (m + 1), .slice (some ⟨bs, 0, none⟩) (qs.map sqV).length c0].toArray 28)]) (takeD) (by kernel_rfl) rfl (by decide +kernel) ?_
  repeat' (first | (refine go_Y ?_; intros) | (refine gs_Y ?_ ?_ <;> (intro hgd; try (simp only [Bool.not_true, Bool.not_false] at hgd))) | (refine gc_Y ?_ ?_ <;> intro _) | fail)
  refine clN_Y (hpb (.slice (some ⟨bs, 0, none⟩) (qs.map sqV).length c0) (row 25 1 (.slice (some ⟨bs, 0, none⟩) (qs.map sqV).length c0) (qs.map sqV)) Vw.row) ?_
  intro _ _
  repeat' (first | (refine go_Y ?_; intros) | (refine gs_Y ?_ ?_ <;> (intro hgd; try (simp only [Bool.not_true, Bool.not_false] at hgd))) | (refine gc_Y ?_ ?_ <;> intro _) | fail)
  rename_i u1 hu1
  refine ok_map (L' := [row 57 3 u1 [[.string ⟨#[109, 97, 114, 107, 115]⟩, .int .u64 (m + 1), .string (putMB 1 tx [] qs)]], pts b5 (.cells [.int .u64 (m + 1), .slice (some ⟨bs, 0, none⟩) (qs.map sqV).length c0].toArray 28), row 25 1 (.slice (some ⟨bs, 0, none⟩) (qs.map sqV).length c0) (qs.map sqV), row 3 1 (.slice (some ⟨bc, 0, none⟩) (ts.map tbV).length (ts.map tbV).length) ((of0 tx m qs).counts.map dpV), row 9 1 (.slice (some ⟨bt, 0, none⟩) tp.length c1) (tp.map txV), pts b9 (.cells [.int .u64 0, .slice none 0 0].toArray 28), A] ++ R) entD ?_
  refine ok_loop' (γ := Nat × V1s) (fun g ρ L => g.1 ≤ cs.length ∧ OtOk ts.length g.1 (ofGo tx tp 0 ((cs.map Cm.c).take g.1) (of0 tx m qs)) ∧
      Knows ρ [(2, .int .u64 tx), (3, .slice pl (cs.map cmV).length cl), (5, .pointer (some ⟨b5, 0, none⟩)), (9, .pointer (some ⟨b9, 0, none⟩)), (10, .slice (some ⟨bt, 0, none⟩) tp.length c1), (11, .slice (some ⟨bc, 0, none⟩) (ts.map tbV).length (ts.map tbV).length), (12, g.2.1), (13, .int .i64 (g.1 : Int))] ∧
      L = [row 57 3 g.2.1 ((ofGo tx tp 0 ((cs.map Cm.c).take g.1) (of0 tx m qs)).outs.map outV), pts b5 (.cells [.int .u64 (m + 1), .slice (some ⟨bs, 0, none⟩) (qs.map sqV).length c0].toArray 28), row 25 1 (.slice (some ⟨bs, 0, none⟩) (qs.map sqV).length c0) ((ofGo tx tp 0 ((cs.map Cm.c).take g.1) (of0 tx m qs)).seqs.map sqV), row 3 1 (.slice (some ⟨bc, 0, none⟩) (ts.map tbV).length (ts.map tbV).length) ((ofGo tx tp 0 ((cs.map Cm.c).take g.1) (of0 tx m qs)).counts.map dpV), row 9 1 (.slice (some ⟨bt, 0, none⟩) tp.length c1) (tp.map txV), pts b9 (.cells [.int .u64 0, .slice none 0 0].toArray 28), A] ++ R) (fun g => cs.length - g.1) (0, ⟨u1, hu1⟩) ⟨Nat.zero_le _, hz0, ⟨rfl, rfl, rfl, rfl, rfl, rfl, rfl, rfl, trivial⟩, rfl⟩ ?_
  rintro ⟨j, u, hu⟩ ρ L ⟨hj, hok, hk, rfl⟩
  dsimp only at hj hok hk ⊢
  refine ok_regs hk ?_
  cases v1 : decide ((j : Int) < ((cs.map cmV).length : Int)) with
  | true =>
    have hj0 : j < cs.length := by rw [decide_eq_true_eq] at v1; omega
    have hx : (cs.map cmV)[j]? = some (cmV cs[j]) := by rw [List.getElem?_map, List.getElem?_eq_getElem hj0]; rfl
    have hjn : j < (cs.map cmV).length := by omega
    have hRj := hR _ (List.getElem_mem hj0)
    obtain ⟨hwb, hwa, hlb, hla⟩ := hwf _ (List.getElem_mem hj0)
    have hstep := ofGo_step tx tp (l := cs.map Cm.c) (j := j) (by simpa using hj0) (of0 tx m qs)
    rw [List.getElem_map] at hstep
    have hcj := List.all_eq_true.1 hall _ (List.getElem_mem hj0)
    refine ok_learn (VwIn.base (n := 4) (p := pl) (len := (cs.map cmV).length) (cap := cl) (xs := cs.map cmV) (VwIn.there (VwIn.there (VwIn.there (VwIn.there (VwIn.there (VwIn.there (VwIn.here hL))))))) (by intro e; rw [e] at hjn; simp at hjn)) ?_
    rintro ⟨bl, ol, rfl⟩
    generalize ofGo tx tp 0 ((cs.map Cm.c).take j) (of0 tx m qs) = z at hok hstep
    generalize cs[j] = c at hx hRj hwb hwa hlb hla hstep hcj
    obtain ⟨ck, ct, ⟨bv, hbv⟩, bef, ⟨av, hav⟩, aft⟩ := c
    dsimp only [cmV, Cm.c] at hx hwb hwa hlb hla hstep hcj
    rw [Bool.and_eq_true, decide_eq_true_eq] at hcj
    obtain ⟨htl, hme⟩ := hcj
    obtain ⟨k0, k1, b0, b1, _⟩ := mayE_all hme
    dsimp only at b0 b1
    obtain ⟨tn, rfl⟩ : ∃ n : Nat, ct = n := ⟨ct.toNat, by omega⟩
    have htn : tn < ts.length := by omega
    have htq : tn < (qs.map sqV).length := by omega
    have htb : tn < (ts.map tbV).length := by omega
    have htt : tn + 1 < tp.length := by omega
    have hte : ((tn : Int) + 1) = ((tn + 1 : Nat) : Int) := rfl
    have hzc := hok.cl
    have hzs := hok.sl
    have hol := hok.ol
    have hvb : Vw A 4 bv (bef.map valV) := hRj.bv
    have hva : Vw A 4 av (aft.map valV) := hRj.av
    refine ok_learn (VwIn.slice (VwIn.there (VwIn.there (VwIn.there (VwIn.there (VwIn.there (VwIn.there (VwIn.here hvb)))))))) ?_
    rintro ⟨pb, cb, rfl⟩
    refine ok_learn (VwIn.slice (VwIn.there (VwIn.there (VwIn.there (VwIn.there (VwIn.there (VwIn.there (VwIn.here hva)))))))) ?_
    rintro ⟨pa, ca, rfl⟩
    obtain ⟨g1, g2⟩ := hok.cs _ (gI_mem (by omega : tn < z.counts.length))
    obtain ⟨g3, g4⟩ := hok.sq _ (gI_mem (by omega : tn < z.seqs.length))
    have hsx : (z.seqs.map sqV)[tn]? = some [.int .u64 (gI z.seqs tn)] := by rw [List.getElem?_map, List.getElem?_eq_getElem (by omega : tn < z.seqs.length), gI_get (by omega : tn < z.seqs.length)]; rfl
    have hcx : (z.counts.map dpV)[tn]? = some [.int .i64 (gI z.counts tn)] := by rw [List.getElem?_map, List.getElem?_eq_getElem (by omega : tn < z.counts.length), gI_get (by omega : tn < z.counts.length)]; rfl
    have htx : (tp.map txV)[tn + 1]? = some [.string (gT tp (tn + 1))] := by rw [List.getElem?_map, List.getElem?_eq_getElem htt]; unfold gT; rw [List.getElem?_eq_getElem htt]; rfl
    have hset1 : (z.seqs.map sqV).set tn [.int .u64 (gI z.seqs tn + 1)] = (z.seqs.set tn (gI z.seqs tn + 1)).map sqV := by rw [List.map_set]; rfl
    have hsy : ((z.seqs.set tn (gI z.seqs tn + 1)).map sqV)[tn]? = some [.int .u64 (gI z.seqs tn + 1)] := by rw [← hset1, List.getElem?_set_self (by simpa using (by omega : tn < z.seqs.length))]
    have hset2 : (z.counts.map dpV).set tn [.int .i64 (gI z.counts tn + 1)] = (z.counts.set tn (gI z.counts tn + 1)).map dpV := by rw [List.map_set]; rfl
    have hw3 : IntKind.u64.wrap (arith BinOp.add (gI z.seqs tn) 1) = gI z.seqs tn + 1 := u64_eq (x := gI z.seqs tn + 1) (by omega) (by omega)
    have hmE := mayE_nth (c := ⟨ck, tn, bef, aft⟩) g1 g2 (by omega)
    have hp := put16_spec tx j (gI z.counts tn) ck tn (.slice pb (bef.map valV).length cb) (.slice pa (aft.map valV).length ca) bef aft A hvb hva hwb hwa (hmE.trans hme) t0 t1
    have hot := hok.step (tx := tx) (ts := tp) (c := ⟨ck, tn, bef, aft⟩) (by show (0 : Int) ≤ tn; omega) (by show (tn : Int) < ts.length; omega)
    have hlo : (z.outs.map outV).length ≤ 1000 := by rw [List.length_map]; omega
    repeat' (first | (refine go_Y ?_; intros) | (refine gs_Y ?_ ?_ <;> (intro hgd; try (simp only [Bool.not_true, Bool.not_false] at hgd))) | (refine gc_Y ?_ ?_ <;> intro _) | fail)
    rw [hw3, hset1]
    refine ok_drawL (cv := []) [22] ([row 9 1 (.slice (some ⟨bt, 0, none⟩) tp.length c1) (tp.map txV), pts b5 (.cells [.int .u64 (m + 1), .slice (some ⟨bs, 0, none⟩) (qs.map sqV).length c0].toArray 28), row 25 1 (.slice (some ⟨bs, 0, none⟩) (qs.map sqV).length c0) ((z.seqs.set tn (gI z.seqs tn + 1)).map sqV), row 3 1 (.slice (some ⟨bc, 0, none⟩) (ts.map tbV).length (ts.map tbV).length) (z.counts.map dpV), A]) (takeD) (by kernel_rfl) rfl (by decide +kernel) ?_
    repeat' (first | (refine go_Y ?_; intros) | (refine gs_Y ?_ ?_ <;> (intro hgd; try (simp only [Bool.not_true, Bool.not_false] at hgd))) | (refine gc_Y ?_ ?_ <;> intro _) | fail)
    refine clN_Y (hp) ?_
    intro _ _
    repeat' (first | (refine go_Y ?_; intros) | (refine gs_Y ?_ ?_ <;> (intro hgd; try (simp only [Bool.not_true, Bool.not_false] at hgd))) | (refine gc_Y ?_ ?_ <;> intro _) | fail)
    rename_i v3 hv3 v4 hv4
    rw [hset2, outV_app, show (z.outs ++ [(gT tp (tn + 1), gI z.seqs tn + 1, putEB tx (j : Int) (gI z.counts tn) ⟨ck, tn, bef, aft⟩)]) = (ofStep tx tp j ⟨ck, tn, bef, aft⟩ z).outs from rfl, show z.seqs.set tn (gI z.seqs tn + 1) = (ofStep tx tp j ⟨ck, tn, bef, aft⟩ z).seqs from rfl, show z.counts.set tn (gI z.counts tn + 1) = (ofStep tx tp j ⟨ck, tn, bef, aft⟩ z).counts from rfl, ← hstep]
    rw [← hstep] at hot
    refine cont_map (L' := [row 57 3 v4 ((ofGo tx tp 0 ((cs.map Cm.c).take (j + 1)) (of0 tx m qs)).outs.map outV), pts b5 (.cells [.int .u64 (m + 1), .slice (some ⟨bs, 0, none⟩) (qs.map sqV).length c0].toArray 28), row 25 1 (.slice (some ⟨bs, 0, none⟩) (qs.map sqV).length c0) ((ofGo tx tp 0 ((cs.map Cm.c).take (j + 1)) (of0 tx m qs)).seqs.map sqV), row 3 1 (.slice (some ⟨bc, 0, none⟩) (ts.map tbV).length (ts.map tbV).length) ((ofGo tx tp 0 ((cs.map Cm.c).take (j + 1)) (of0 tx m qs)).counts.map dpV), row 9 1 (.slice (some ⟨bt, 0, none⟩) tp.length c1) (tp.map txV), pts b9 (.cells [.int .u64 0, .slice none 0 0].toArray 28), A] ++ R) entD ?_
    refine cont_back (j + 1, ⟨v4, hv4⟩) ⟨hj0, hot, ⟨rfl, rfl, rfl, rfl, rfl, rfl, rfl, rfl, trivial⟩, rfl⟩ (by dsimp only; omega)
  | false =>
    have hje : j = cs.length := by rw [decide_eq_false_iff_not] at v1; omega
    subst hje
    rw [List.take_of_length_le (by simp)] at hok
    rw [List.take_of_length_le (by simp)]
    generalize ofGo tx tp 0 (cs.map Cm.c) (of0 tx m qs) = z at hok
    have hzq := hok.sq
    have hol := hok.ol
    have hlo : (z.outs.map outV).length ≤ 1000 := by rw [List.length_map]; omega
    have hpe := putMark16_spec 2 tx z.counts z.seqs (.slice (some ⟨bc, 0, none⟩) (ts.map tbV).length (ts.map tbV).length) (.slice (some ⟨bs, 0, none⟩) (qs.map sqV).length c0) (row 3 1 (.slice (some ⟨bc, 0, none⟩) (ts.map tbV).length (ts.map tbV).length) (z.counts.map dpV)) (row 25 1 (.slice (some ⟨bs, 0, none⟩) (qs.map sqV).length c0) (z.seqs.map sqV)) Vw.row Vw.row (mayMk_end hok hl1 hl2 hle) t0 t1 (fun x hx => ⟨(hzq x hx).1, by have := (hzq x hx).2; omega⟩)
    repeat' (first | (refine go_Y ?_; intros) | (refine gs_Y ?_ ?_ <;> (intro hgd; try (simp only [Bool.not_true, Bool.not_false] at hgd))) | (refine gc_Y ?_ ?_ <;> intro _) | fail)
    rw [hw2]
    refine ok_drawL (cv := []) [8] ([pts b5 (.cells [.int .u64 (m + 2), .slice (some ⟨bs, 0, none⟩) (qs.map sqV).length c0].toArray 28)]) (takeD) (by kernel_rfl) rfl (by decide +kernel) ?_
    repeat' (first | (refine go_Y ?_; intros) | (refine gs_Y ?_ ?_ <;> (intro hgd; try (simp only [Bool.not_true, Bool.not_false] at hgd))) | (refine gc_Y ?_ ?_ <;> intro _) | fail)
    refine clN_Y (hpe) ?_
    intro _ _
    repeat' (first | (refine go_Y ?_; intros) | (refine gs_Y ?_ ?_ <;> (intro hgd; try (simp only [Bool.not_true, Bool.not_false] at hgd))) | (refine gc_Y ?_ ?_ <;> intro _) | fail)
    rename_i v3 hv3 v4 hv4
    rw [outV_app]
    (refine rt_Y (y := (⟨v4, hv4⟩, ⟨.slice (some ⟨bs, 0, none⟩) (qs.map sqV).length c0, rfl⟩)) (hrs := Tryd.results18) (hv := ?_) (hφ := ?_))
    · rfl
    · trivial
end Go.Proofs.YtphaegcoldpclaaDoor
