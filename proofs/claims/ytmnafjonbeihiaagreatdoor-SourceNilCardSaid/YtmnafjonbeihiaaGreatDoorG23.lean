import Derived.Test.YtmnafjonbeihiaaGreatDoorG23a
import Derived.Test.YtmnafjonbeihiaaGreatDoorG21
import Derived.Test.YtmnafjonbeihiaaGreatDoorG22
import Derived.Test.YtmnafjonbeihiaaGreatDoorG1
import Derived.Test.YtmnafjonbeihiaaGreatDoorG4
import Derived.Test.YtmnafjonbeihiaaGreatDoorG11
set_option linter.unusedSimpArgs false
set_option linter.unusedVariables false
set_option maxRecDepth 100000
namespace Go.Pl
open Go
def doneN (r : Rl) (l : List Chg) : Rl := l.foldl (fun r c => (doneC r c).1) r
theorem dones_N : ∀ {l : List Chg} {r r' : Rl}, dones r l = some r' → doneN r l = r' ∧ ∀ k c, l[k]? = some c → (doneC (doneN r (l.take k)) c).2 = true
  | [], r, r', h => ⟨Option.some.inj h, fun k c hk => by simp at hk⟩
  | a :: l, r, r', h => by
    unfold dones at h
    split at h
    · rename_i h1
      obtain ⟨e1, e2⟩ := dones_N h
      refine ⟨e1, fun k c hk => ?_⟩
      cases k with
      | zero =>
        obtain rfl : a = c := by simpa using hk
        exact h1
      | succ k => exact e2 k c (by simpa using hk)
    · cases h
theorem doneN_succ (r : Rl) {l : List Chg} {k : Nat} {c : Chg} (h : l[k]? = some c) : doneN r (l.take (k + 1)) = (doneC (doneN r (l.take k)) c).1 := by
  have hk : k < l.length := by
    rcases Nat.lt_or_ge k l.length with h1 | h1
    · exact h1
    · rw [List.getElem?_eq_none h1] at h; cases h
  rw [List.getElem?_eq_getElem hk] at h
  obtain rfl := Option.some.inj h
  unfold doneN
  rw [List.take_succ_eq_append_getElem hk, List.foldl_append]
  rfl
theorem doneC_ok {r : Rl} (h : r.Ok) (c : Chg) : (doneC r c).1.Ok := by
  unfold doneC
  split
  · exact h
  · exact h.doOp _
theorem doneN_ok {r : Rl} (h : r.Ok) : ∀ l : List Chg, (doneN r l).Ok := fun l => by
  unfold doneN
  induction l generalizing r with
  | nil => exact h
  | cons c l ih => exact ih (doneC_ok h c)
theorem doneN_s (r : Rl) : ∀ l : List Chg, (doneN r l).s = r.s := fun l => by
  unfold doneN
  induction l generalizing r with
  | nil => rfl
  | cons c l ih => rw [List.foldl_cons, ih, doneC_s]
end Go.Pl
namespace Go.Proofs.YtmnafjonbeihiaaGreatDoor
open Go Go.Fx Go.Proofs Go.Pl
abbrev Cmt := V1s × List Cm
def cmtV (x : Cmt) : List Value := [x.1.1]
theorem ChI.ext {P P' : HProp} (e : Ext P P') {c : Cm} (h : ChI P c) : ChI P' c := ⟨h.r.ext e, h.wb, h.wa, h.lb, h.la, h.t0⟩
structure CmtI (P : HProp) (x : Cmt) : Prop where
  vw : Vw P 4 x.1.1 (x.2.map cmV)
  ch : ∀ c ∈ x.2, ChI P c ∧ ChOk c.c
  len : x.2.length ≤ 199
theorem CmtI.ext {P P' : HProp} (e : Ext P P') {x : Cmt} (h : CmtI P x) : CmtI P' x := ⟨e.vw h.vw, fun c hc => ⟨(h.ch c hc).1.ext e, (h.ch c hc).2⟩, h.len⟩
theorem rowB_len {l : List Vl} (h : rowB l = true) : l.length ≤ 8 := by
  unfold rowB at h
  simp only [Bool.and_eq_true, decide_eq_true_eq] at h
  exact h.2.1
theorem chok_lens {c : Chg} (h : ChOk c) : c.bef.length ≤ 1000000 ∧ c.aft.length ≤ 1000000 ∧ 0 ≤ c.table := by
  have hm := h.may 0 0 (by decide) (by decide) (by decide)
  obtain ⟨_, _, b0, _, _, _, _, _, hrow⟩ := mayE_all hm
  have hn := notE_nil hm
  refine ⟨?_, ?_, b0⟩
  · have : c.bef ∈ hasE c ∨ c.bef ∈ notE c := by unfold hasE notE; split <;> (try split) <;> simp
    rcases this with h1 | h1
    · have := rowB_len (hrow _ h1); omega
    · rw [hn _ h1]; simp
  · have : c.aft ∈ hasE c ∨ c.aft ∈ notE c := by unfold hasE notE; split <;> (try split) <;> simp
    rcases this with h1 | h1
    · have := rowB_len (hrow _ h1); omega
    · rw [hn _ h1]; simp
theorem ChI.of {P : HProp} {b : Cm} (h : CmR P b) (hc : ChOk b.c) : ChI P b := ⟨h, hc.wb, hc.wa, (chok_lens hc).1, (chok_lens hc).2.1, (chok_lens hc).2.2⟩
theorem allR_eq {P : HProp} {l : List Chg} {bs : List Cm} (h : AllR YcR P l bs) (hl : bs.length ≤ l.length) : bs.map Cm.c = l.take bs.length := by
  apply List.ext_getElem?
  intro j
  rcases Nat.lt_or_ge j bs.length with h1 | h1
  · rw [List.getElem?_map, List.getElem?_eq_getElem h1, List.getElem?_take_of_lt h1, List.getElem?_eq_getElem (by omega : j < l.length)]
    exact congrArg some (h j _ _ (List.getElem?_eq_getElem (by omega)) (List.getElem?_eq_getElem h1)).2
  · rw [List.getElem?_eq_none (by rw [List.length_map]; exact h1), List.getElem?_eq_none (by rw [List.length_take]; omega)]
def grwM (b5 : Nat) (bs : List Cm) (v : V1s) : List HProp := [pts b5 (.cells [v.1].toArray 33), row 61 4 v.1 (bs.map cmV)]
set_option maxHeartbeats 32000000 in
theorem stake_spec (xb wb rb : Nat) (vs : Value) (ts : List Tb) (lv : V1s) (ls : List Cmt) (tp : Value) (r r' : Rl) (l : List Chg) (P : HProp) (hvc : vs.oneCell' = true) (htc : tp.oneCell' = true) (hsv : SV P vs ts) (hts : ts.map Tb.c = r.s) (hok : r.Ok) (hU : UT P) (hls : ls.length < 300) (hll : l.length ≤ 199) (hd : dones r l = some r') (hw : r'.whole = true) (hch : ∀ c ∈ l, ChOk c) :
    FSpec Tryz.prog 62 [.pointer (some ⟨xb, 0, none⟩), .string (recB (ls.length + 1) l)] [pts xb (.cells [vs, .pointer (some ⟨wb, 0, none⟩), lv.1, .pointer (some ⟨rb, 0, none⟩), tp].toArray 99), row 33 1 lv.1 (ls.map cmtV), relP P rb r, P]
      (V1s × Cmt × HProp) (fun y => Ext P y.2.2 ∧ CmtI y.2.2 y.2.1 ∧ y.2.1.2.map Cm.c = l) (fun _ => .bool true)
      (fun y => [pts xb (.cells [vs, .pointer (some ⟨wb, 0, none⟩), y.1.1, .pointer (some ⟨rb, 0, none⟩), tp].toArray 99), row 33 1 y.1.1 ((ls ++ [y.2.1]).map cmtV), relP y.2.2 rb r', y.2.2]) := by
  obtain ⟨lv, hlv⟩ := lv
  dsimp only
  obtain ⟨hN1, hN2⟩ := dones_N hd
  have lls : (ls.map cmtV).length = ls.length := by simp
  refine spec_intro [] _ Tryz.func62 rfl Tryz.ntmps62 (by rfl) (fun w0 R => ?_)
  repeat' (first | (refine gY ?_; intros) | (refine hY ?_ ?_ <;> (intro hgd; try simp only [bn] at hgd)) | (refine jY ?_ ?_ <;> intro _) | fail)
  rename_i b4 b5
  refine ok_meetE (γ := Nat × Nat × Nat) (fun g ρ L => Knows ρ [(0, .pointer (some ⟨xb, 0, none⟩)), (1, .string (recB (ls.length + 1) l)), (4, .pointer (some ⟨b4, 0, none⟩)), (5, .pointer (some ⟨b5, 0, none⟩)), (6, .pointer (some ⟨g.2.2, 0, none⟩))] ∧
      L = [pts xb (.cells [vs, .pointer (some ⟨wb, 0, none⟩), lv, .pointer (some ⟨rb, 0, none⟩), tp].toArray 99), row 33 1 lv (ls.map cmtV), relP P rb r, P, pts b4 (.cells [.bool false].toArray 4), pts b5 (.cells [.slice none 0 0].toArray 33),
        pts g.2.2 (.cells [.func (.func 89) #[] [.pointer (some ⟨g.1, 0, none⟩), .pointer (some ⟨g.2.1, 0, none⟩)].toArray].toArray 101), pts g.1 (.cells [vs].toArray 29), pts g.2.1 (.cells [.pointer (some ⟨rb, 0, none⟩)].toArray 37)] ++ R) ?_ ?_
  · refine ok_draw_forkQ (cv := []) 8 9 [8, 9] [pts xb (.cells [vs, .pointer (some ⟨wb, 0, none⟩), lv, .pointer (some ⟨rb, 0, none⟩), tp].toArray 99)] (by decide) (by kernel_rfl) rfl (by decide +kernel) (by decide +kernel) (takePre takeD) ?_
    repeat' (first | (refine gY ?_; intros) | (refine hY ?_ ?_ <;> (intro hgd; try simp only [bn] at hgd)) | (refine jY ?_ ?_ <;> intro _) | fail)
    refine cont_forkQ (cv := []) rfl (by decide) rfl rfl rfl rfl rfl rfl (takePre takeD) (by decide +kernel) (by decide +kernel) ?_ ?_
    · repeat' (first | (refine gY ?_; intros) | (refine hY ?_ ?_ <;> (intro hgd; try simp only [bn] at hgd)) | (refine jY ?_ ?_ <;> intro _) | fail)
      refine clN_Y (doer_spec rb vs hvc) ?_
      rintro ⟨d1, d2⟩ _
      repeat' (first | (refine gY ?_; intros) | (refine hY ?_ ?_ <;> (intro hgd; try simp only [bn] at hgd)) | (refine jY ?_ ?_ <;> intro _) | fail)
      rename_i b6
      refine cont_map (L' := [pts xb (.cells [vs, .pointer (some ⟨wb, 0, none⟩), lv, .pointer (some ⟨rb, 0, none⟩), tp].toArray 99), row 33 1 lv (ls.map cmtV), relP P rb r, P, pts b4 (.cells [.bool false].toArray 4), pts b5 (.cells [.slice none 0 0].toArray 33), pts b6 (.cells [.func (.func 89) #[] [.pointer (some ⟨d1, 0, none⟩), .pointer (some ⟨d2, 0, none⟩)].toArray].toArray 101), pts d1 (.cells [vs].toArray 29), pts d2 (.cells [.pointer (some ⟨rb, 0, none⟩)].toArray 37)] ++ R) entD ?_
      exact cont_meet (d1, d2, b6) ⟨⟨rfl, rfl, rfl, rfl, rfl, trivial⟩, rfl⟩
    · intro b6
      repeat' (first | (refine gY ?_; intros) | (refine hY ?_ ?_ <;> (intro hgd; try simp only [bn] at hgd)) | (refine jY ?_ ?_ <;> intro _) | fail)
      refine clN_Y (doer_spec rb vs hvc) ?_
      rintro ⟨d1, d2⟩ _
      repeat' (first | (refine gY ?_; intros) | (refine hY ?_ ?_ <;> (intro hgd; try simp only [bn] at hgd)) | (refine jY ?_ ?_ <;> intro _) | fail)
      refine cont_late rfl ?_
      repeat' (first | (refine gY ?_; intros) | (refine hY ?_ ?_ <;> (intro hgd; try simp only [bn] at hgd)) | (refine jY ?_ ?_ <;> intro _) | fail)
      refine cont_map (L' := [pts xb (.cells [vs, .pointer (some ⟨wb, 0, none⟩), lv, .pointer (some ⟨rb, 0, none⟩), tp].toArray 99), row 33 1 lv (ls.map cmtV), relP P rb r, P, pts b4 (.cells [.bool false].toArray 4), pts b5 (.cells [.slice none 0 0].toArray 33), pts b6 (.cells [.func (.func 89) #[] [.pointer (some ⟨d1, 0, none⟩), .pointer (some ⟨d2, 0, none⟩)].toArray].toArray 101), pts d1 (.cells [vs].toArray 29), pts d2 (.cells [.pointer (some ⟨rb, 0, none⟩)].toArray 37)] ++ R) entD ?_
      exact cont_meet (d1, d2, b6) ⟨⟨rfl, rfl, rfl, rfl, rfl, trivial⟩, rfl⟩
  rintro ⟨d1, d2, b6⟩ ρ L ⟨hk, rfl⟩
  refine cont_regs hk ?_
  dsimp only
  repeat' (first | (refine gY ?_; intros) | (refine hY ?_ ?_ <;> (intro hgd; try simp only [bn] at hgd)) | (refine jY ?_ ?_ <;> intro _) | fail)
  refine cl_Y (sChgs_spec (recB (ls.length + 1) l)) ?_
  intro bt _
  repeat' (first | (refine gY ?_; intros) | (refine hY ?_ ?_ <;> (intro hgd; try simp only [bn] at hgd)) | (refine jY ?_ ?_ <;> intro _) | fail)
  refine ok_map (fun _ h => nilRow (e := 61) (n := 4) h) ?_
  refine ok_map (fun _ h => ex_in (M := grwM b5 []) ⟨.slice none 0 0, rfl⟩ rfl (Take.out takeD h)) ?_
  refine ok_rangeP (P0 := P) (fun Pq q => [relP Pq rb (doneN r (l.take q.length)), exP (grwM b5 q), pts b4 (.cells [.bool false].toArray 4), pts b6 (.cells [.func (.func 89) #[] [.pointer (some ⟨d1, 0, none⟩), .pointer (some ⟨d2, 0, none⟩)].toArray].toArray 101), pts d1 (.cells [vs].toArray 29), pts d2 (.cells [.pointer (some ⟨rb, 0, none⟩)].toArray 37), pts xb (.cells [vs, .pointer (some ⟨wb, 0, none⟩), lv, .pointer (some ⟨rb, 0, none⟩), tp].toArray 99), row 33 1 lv (ls.map cmtV)]) (changes1_iter bt (ls.length + 1) l P hU (by omega) hll hch) rfl rfl takeD (R' := R) entD (fun _ => rfl) (by rfl) ?_ ?_
  · intro l0 pre x b Pq Pa hx hall h0 hq hrel w1 R1 LP0 LP1 QB QE hB hN
    have hpl : pre.length < l.length := by
      rcases Nat.lt_or_ge pre.length l.length with h1 | h1
      · exact h1
      · rw [List.getElem?_eq_none h1] at hx; cases hx
    have hcx := hch x (List.mem_of_getElem? hx)
    have hdc := hN2 _ _ hx
    have hds := doneN_succ r hx
    obtain ⟨hcr, hce⟩ := hrel
    have hUa := hU.ext (h0.trans hq)
    have hI : ChI Pa b := ChI.of hcr (by rw [hce]; exact hcx)
    have hdo := doer1_spec d1 d2 rb (doneN r (l.take pre.length)) vs ts b Pa (doneN_ok hok _) hUa (hsv.ext (h0.trans hq)) (by rw [hts, doneN_s]) hvc hI
    rw [hce, hdc, ← hds] at hdo
    have hl1 : (pre ++ [b]).length = pre.length + 1 := by rw [List.length_append, List.length_singleton]
    rw [hl1] at hN
    generalize doneN r (l.take (pre.length + 1)) = r2 at hdo hN
    generalize doneN r (l.take pre.length) = r1 at hdo ⊢
    have hv := vspec_func (args := [.agg (cmV b).toArray]) (cap := [.pointer (some ⟨d1, 0, none⟩), .pointer (some ⟨d2, 0, none⟩)]) hdo
    have hb' : Vw Pa 4 b.bv.1 (b.bef.map valV) := hcr.bv
    have ha' : Vw Pa 4 b.av.1 (b.aft.map valV) := hcr.av
    have lp : (pre.map cmV).length = pre.length := by simp
    refine ok_map (fun _ h => relP_ext hq (b := rb) (r := r1) (Take.out1 (A := relP Pq rb r1) takeD h)) ?_
    refine ok_ex (M := grwM b5 pre) (by repeat (first | exact Sel.here | apply Sel.there)) ?_
    rintro ⟨gv, hgv⟩
    unfold grwM
    dsimp only
    have hmm : (pre ++ [b]).map cmV = pre.map cmV ++ [cmV b] := by rw [List.map_append]; rfl
    generalize hpb : pre ++ [b] = pb at hN hmm
    clear hce hcr hI hdo hpb
    obtain ⟨ck, ct, ⟨bv, hbv⟩, bef, ⟨av, hav⟩, aft⟩ := b
    dsimp only [ycV, cmV] at hv hb' ha' hmm ⊢
    refine ok_learn (VwIn.slice (VwIn.there (VwIn.there (VwIn.there (VwIn.there (VwIn.here hb')))))) ?_
    rintro ⟨pb', cb', rfl⟩
    refine ok_learn (VwIn.slice (VwIn.there (VwIn.there (VwIn.there (VwIn.there (VwIn.here ha')))))) ?_
    rintro ⟨pa', ca', rfl⟩
    repeat' (first | (refine gY ?_; intros) | (refine hY ?_ ?_ <;> (intro hgd; try simp only [bn] at hgd)) | (refine jY ?_ ?_ <;> intro _) | fail)
    (refine hB takeD ?_)
    repeat' (first | (refine gY ?_; intros) | (refine hY ?_ ?_ <;> (intro hgd; try simp only [bn] at hgd)) | (refine jY ?_ ?_ <;> intro _) | fail)
    refine clV_Y (hv) ?_
    intro Pb hEb
    repeat' (first | (refine gY ?_; intros) | (refine hY ?_ ?_ <;> (intro hgd; try simp only [bn] at hgd)) | (refine jY ?_ ?_ <;> intro _) | fail)
    rename_i w hw
    rw [← hmm]
    refine cont_map (fun _ h => ex_in (M := grwM b5 pb) ⟨w, hw⟩ rfl (Take.out takeD h)) ?_
    exact hN Pb hEb takeD entD
  · intro dk bs Pq Pe hbl hall h0 hq
    have hlt : l.take bs.length = l := by rw [hbl, List.take_length]
    have hbc := allR_eq hall (by omega)
    rw [hlt] at hbc ⊢
    rw [hN1]
    have lb : (bs.map cmV).length = bs.length := by simp
    refine cont_ex (M := grwM b5 bs) (by repeat (first | exact Sel.here | apply Sel.there)) ?_
    rintro ⟨gv, hgv⟩
    unfold grwM
    dsimp only
    refine cont_map (fun _ h => relP_ext hq (b := rb) (r := r') (Take.out1 (A := relP Pq rb r') takeD h)) ?_
    refine cont_map (L' := [row 61 4 gv (bs.map cmV), Pe, relP Pe rb r', Fx.marked dk, pts b5 (.cells [gv].toArray 33), pts b4 (.cells [.bool false].toArray 4), pts xb (.cells [vs, .pointer (some ⟨wb, 0, none⟩), lv, .pointer (some ⟨rb, 0, none⟩), tp].toArray 99), row 33 1 lv (ls.map cmtV)] ++ R) entD ?_
    refine cont_poolN (ty := 61) (n := 4) (v := gv) (xs := bs.map cmV) (P := Pe) takeD ?_
    intro P1 hE1 hv1
    refine cont_map (fun _ h => relP_ext hE1 (b := rb) (r := r') (Take.out1 (A := relP Pe rb r') takeD h)) ?_
    have hE0 := h0.trans (hq.trans hE1)
    have hcs : ∀ c ∈ bs, ChI P1 c ∧ ChOk c.c := fun c hm => by
      obtain ⟨k, hk, rfl⟩ := List.getElem_of_mem hm
      have hx : l[k]? = some (l[k]'(by omega)) := List.getElem?_eq_getElem _
      obtain ⟨a1, a2⟩ := hall k _ _ hx (List.getElem?_eq_getElem hk)
      have hO : ChOk bs[k].c := by rw [a2]; exact hch _ (List.getElem_mem _)
      exact ⟨ChI.of (a1.ext (hq.trans hE1)) hO, hO⟩
    have hrc := record_spec (ls.length + 1) gv P1 bs (by omega) (hU.ext hE0) hv1 hcs (by omega)
    rw [hbc] at hrc
    have hok' : r'.Ok := by rw [← hN1]; exact doneN_ok hok l
    have hWh := relWhole_spec rb r' P1 hok'
    rw [hw, cond_true] at hWh
    have hI : CmtI P1 (⟨gv, hgv⟩, bs) := ⟨hv1, hcs, by show bs.length ≤ 199; omega⟩
    have f1 : ((recB (ls.length + 1) l).toList == (recB (ls.length + 1) l).toList) = true := by simp
    have f2 : decide ((0 : Int) = 0) = true := rfl
    generalize recB (ls.length + 1) l = S at hrc f1 ⊢
    repeat' (first | (refine gY ?_; intros) | (refine hY ?_ ?_ <;> (intro hgd; try simp only [bn] at hgd)) | (refine jY ?_ ?_ <;> intro _) | fail)
    refine ok_learn (VwIn.slice (VwIn.there (VwIn.here hv1))) ?_
    rintro ⟨pg, cg, rfl⟩
    refine ok_learn (rowShapeS (e := 33) (n := 1) (v := lv) (xs := ls.map cmtV) (by decide) takeD) ?_
    rintro ⟨pl, cl, rfl, _, _⟩
    have f3 : decide (((ls.map cmtV ++ [(Value.slice pg (bs.map cmV).length cg).cells.toList]).length : Int) ≤ 300) = true := by rw [List.length_append, List.length_map]; exact decide_eq_true (by show ((ls.length + 1 : Nat) : Int) ≤ 300; omega)
    have f4 : ((ls.map cmtV ++ [(Value.slice pg (bs.map cmV).length cg).cells.toList]).length : Int) = ((ls.length + 1 : Nat) : Int) := by rw [List.length_append, List.length_map]; rfl
    refine ok_drawL (cv := []) [6] ([pts xb (.cells [vs, .pointer (some ⟨wb, 0, none⟩), .slice pl (ls.map cmtV).length cl, .pointer (some ⟨rb, 0, none⟩), tp].toArray 99), pts b5 (.cells [.slice pg (bs.map cmV).length cg].toArray 33)]) (takeD) (by kernel_rfl) rfl (by decide +kernel) ?_
    repeat' (first | (refine gY ?_; intros) | (refine hY ?_ ?_ <;> (intro hgd; try simp only [bn] at hgd)) | (refine jY ?_ ?_ <;> intro _) | fail)
    rename_i w2 hw2 w1 hw1
    refine cl_Y (hWh) ?_
    intro _ _
    repeat' (first | (refine gY ?_; intros) | (refine hY ?_ ?_ <;> (intro hgd; try simp only [bn] at hgd)) | (refine jY ?_ ?_ <;> intro _) | fail)
    rw [f4, show IntKind.u64.wrap ((ls.length + 1 : Nat) : Int) = ((ls.length + 1 : Nat) : Int) by rw [wrap_u64]; omega]
    refine cl_Y (hrc) ?_
    intro _ _
    repeat' (first | (refine gY ?_; intros) | (refine hY ?_ ?_ <;> (intro hgd; try simp only [bn] at hgd)) | (refine jY ?_ ?_ <;> intro _) | fail)
    rw [f1, show ls.map cmtV ++ [(Value.slice pg (bs.map cmV).length cg).cells.toList] = (ls ++ [((⟨.slice pg (bs.map cmV).length cg, hgv⟩, bs) : Cmt)]).map cmtV by rw [List.map_append]; rfl]
    refine rtM_Y (y := (⟨w1, hw1⟩, (⟨.slice pg (bs.map cmV).length cg, hgv⟩, bs), P1)) (hrs := Tryz.results62) (hv := ?_) (hφ := ?_)
    · rfl
    · exact ⟨hE0, hI, hbc⟩
end Go.Proofs.YtmnafjonbeihiaaGreatDoor
