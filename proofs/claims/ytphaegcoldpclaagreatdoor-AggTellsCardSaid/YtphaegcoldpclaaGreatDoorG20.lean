/- Texts merged: PhG PhT. -/
import Derived.Test.YtphaegcoldpclaaGreatDoorG19
import Derived.Test.YtphaegcoldpclaaGreatDoorG13
import Derived.Test.YtphaegcoldpclaaGreatDoorG16
/- The reference's root of a row, how often a row stands in a document (fascicleref24: Root, Count). -/
-- @DEFS Y
set_option linter.unusedSimpArgs false
set_option linter.unusedVariables false
set_option maxRecDepth 100000
namespace Go.Proofs.YtphaegcoldpclaaGreatDoor
open Go Go.Fx Go.Proofs Go.Pl

abbrev GRq (r : Rl) (R0 : List Pr2) (p0 : Pr2) (P : HProp) := { g : Pr2 × V1s // g.1 ∈ R0 ∧ rootR r g.1 = rootR r p0 ∧ Vw P 4 g.2.1 (g.1.2.map valV) }
set_option maxHeartbeats 8000000 in
theorem root24_spec {r : Rl} {R0 : List Pr2} (hR : RowsQ r R0) (hok : r.Ok) (hwf : Rl.Wf r) (b : Nat) (t : Int) (w : V1s) (l : List Vl) (P : HProp) (hU : UT P) (hm : (t, l) ∈ R0) (hw : Vw P 4 w.1 (l.map valV)) :
    FSpec Tryz.prog 18 [.pointer (some ⟨b, 0, none⟩), .int .i64 t, w.1] [rfP P b r, P] Unit (fun _ => True)
      (fun _ => .tuple #[.int .i64 (rootAns r (t, l)).1, .agg (valV (rootAns r (t, l)).2.1).toArray, .bool (rootAns r (t, l)).2.2]) (fun y => [rfP P b r, P]) := by
  have hget := fun (t : Int) (v : Vl) (hv : v.wf) => get14_spec b r t v P hok hwf hU hv
  obtain ⟨dep, _, hdep⟩ := dep_ex hR.ok.sch
  obtain ⟨w, hwc⟩ := w
  dsimp only at hw ⊢
  refine spec_intro [] _ Tryz.func18 rfl Tryz.ntmps18 (by rfl) (fun w0 R => ?_)
  repeat' (first | (refine go_Y ?_; intros) | (refine gs_Y ?_ ?_ <;> (intro hgd; try (simp only [Bool.not_true, Bool.not_false] at hgd))) | (refine gc_Y ?_ ?_ <;> intro _) | fail)
  rename_i b7
  refine ok_map (L' := [rfP P b r, P, pts b7 (.cells [.int .u8 0, .int .i64 0, .int .u64 0, .string ⟨#[]⟩].toArray 28)] ++ R) entD ?_
  refine ok_loop' (γ := GRq r R0 (t, l) P) (fun g ρ L => Knows ρ [(0, .pointer (some ⟨b, 0, none⟩)), (1, .int .i64 g.1.1.1), (2, g.1.2.1), (7, .pointer (some ⟨b7, 0, none⟩))] ∧
      L = [rfP P b r, P, pts b7 (.cells [.int .u8 0, .int .i64 0, .int .u64 0, .string ⟨#[]⟩].toArray 28)] ++ R) (fun g => g.1.1.1.toNat)
    ⟨((t, l), ⟨w, hwc⟩), hm, rfl, hw⟩ ⟨⟨rfl, rfl, rfl, rfl, trivial⟩, rfl⟩ ?_
  rintro ⟨⟨⟨t', l'⟩, ⟨w', hw'⟩⟩, hm', hrr, hwv⟩ ρ L ⟨hk, rfl⟩
  dsimp only at hm' hrr hwv hk ⊢
  refine ok_regs hk ?_
  refine ok_ex .here ?_
  rintro ⟨⟨vs, ts, vr, q⟩, hy⟩
  have hy' := hy
  unfold rfL
  dsimp only
  obtain ⟨hvc, hvrc, hsv, hss, hrq, hrv⟩ := hy
  dsimp only at hvc hvrc hsv hss hrq hrv
  have hvw := hsv.vw
  have hro' := hR.row _ hm'
  dsimp only at hro'
  have hh : hasS (ts.map Tb.c) t' = true := by rw [hss]; simp only [rowS, Bool.and_eq_true] at hro'; exact hro'.1
  obtain ⟨m, tb, rfl, htt, hxt, htl, hta, htok, _⟩ := hasS_tb hh
  rw [hss] at hta
  obtain ⟨hk1, hk2, hlen⟩ := rowS_key hro'
  have hx' : (((m : Int), Pl.keyOf r.s (m : Int) l'), l') ∈ r.rows := aget_mem ((hR.mem _).1 hm')
  have hwl := hwf _ hx'
  dsimp only at hwl
  have htop := rootR_top hR hm'
  have hlost := rootR_lost hR hm'
  have hup := fun h => rootR_up (l := h) hR hm'
  have hpar := fun (l2 : List Vl) h1 => hR.parent (l := l2) hm' h1
  have hup0 : upOf r.s ((m : Int), l') = ((tabAt r.s (m : Int)).par, (l'[(tabAt r.s (m : Int)).ref.toNat]?).getD default) := rfl
  obtain ⟨r0, r1⟩ := hR.ok.tab _ hm'
  have hdm := hdep (m : Int) r0 r1
  dsimp only at htop hlost hup hpar
  rw [hup0] at hlost hup hpar
  have k0 := htok.key0
  have kL := htok.keyL
  have rL := htok.refL
  rw [hta] at htop hlost hup hpar hk2 hlen hdm
  obtain ⟨tn, cols, ⟨tcv, htcv⟩, tk, tr, tp⟩ := tb
  dsimp only [tbV, Tb.c] at hxt htop hlost hup hpar hk2 hlen hdm k0 kL rL ⊢
  have hone : oneCells [Value.string tn, tcv, Value.int .i64 tk, Value.int .i64 tr, Value.int .i64 tp] = true := by
    simp only [oneCells, List.all_cons, List.all_nil, htcv, Bool.and_true]; rfl
  refine ok_learn (VwIn.slice (VwIn.there (VwIn.there (VwIn.here hvw)))) ?_
  rintro ⟨pv, cv, rfl⟩
  refine ok_learn (VwIn.base (n := 5) (xs := ts.map tbV) (VwIn.there (VwIn.there (VwIn.here hvw))) (by intro e; rw [e] at htl; simp at htl)) ?_
  rintro ⟨bv, ov, rfl⟩
  refine ok_learn (VwIn.slice (VwIn.there (VwIn.there (VwIn.here hwv)))) ?_
  rintro ⟨pw, cw, rfl⟩
  cases t1 : decide (0 ≤ tp) with
  | false =>
    have hrt := htop (by have := of_decide_eq_false t1; omega)
    rw [hrr] at hrt
    rw [rootAns_some hrt]
    generalize Pl.keyOf r.s (m : Int) l' = key at hk2
    obtain ⟨km, rfl⟩ : ∃ km : Nat, tk = km := ⟨tk.toNat, by omega⟩
    rw [Int.toNat_natCast] at hk2
    have hkl := (List.getElem?_eq_some_iff.1 hk2).1
    have hnk : km < (l'.map valV).length := by rw [List.length_map]; exact hkl
    have hxk : (l'.map valV)[km]? = some (valV key) := by rw [List.getElem?_map, hk2]; rfl
    obtain ⟨yk, yi, yr, ys⟩ := key
    dsimp only [valV] at hxk ⊢
    refine ok_learn (VwIn.base (n := 4) (xs := l'.map valV) (VwIn.there (VwIn.there (VwIn.here hwv))) (by intro e; rw [e] at hnk; simp at hnk)) ?_
    rintro ⟨bw, ow, rfl⟩
    repeat' (first | (refine go_Y ?_; intros) | (refine gs_Y ?_ ?_ <;> (intro hgd; try (simp only [Bool.not_true, Bool.not_false] at hgd))) | (refine gc_Y ?_ ?_ <;> intro _) | fail)
    refine cont_map (fun _ h => rf_in (b := b) (r := r) (P := P) hy' (Take.out takeD h)) ?_
    (refine rt_Y (y := ()) (hrs := Tryz.results18) (hv := ?_) (hφ := ?_))
    · rfl
    · trivial
  | true =>
    have hp0 := of_decide_eq_true t1
    have hr0 : 0 ≤ tr := by rcases hdm with ⟨_, h2⟩ | ⟨h2, _⟩ <;> omega
    obtain ⟨rm, rfl⟩ : ∃ rm : Nat, tr = rm := ⟨tr.toNat, by omega⟩
    have hrm : rm < l'.length := by omega
    have hli : l'[rm]? = some l'[rm] := List.getElem?_eq_getElem hrm
    have hxr : (l'.map valV)[rm]? = some (valV l'[rm]) := by rw [List.getElem?_map, hli]; rfl
    have hnr : rm < (l'.map valV).length := by rw [List.length_map]; exact hrm
    have huw := hwl _ (List.getElem_mem hrm)
    rw [Int.toNat_natCast, hli, Option.getD_some] at hlost hup hpar
    have hgt := hget tp l'[rm] huw
    have hkn : ∀ l2, aget (tp, l'[rm]) r.rows = some l2 → l'[rm].kind ≠ 0 := fun l2 h => keyS_kind (hR.get _ _ h).2.2
    generalize l'[rm] = u at hli hxr huw hlost hup hpar hgt hkn
    refine ok_learn (VwIn.base (n := 4) (xs := l'.map valV) (VwIn.there (VwIn.there (VwIn.here hwv))) (by intro e; rw [e] at hnr; simp at hnr)) ?_
    rintro ⟨bw, ow, rfl⟩
    cases t2 : decide (u.kind = 0) with
    | true =>
      have hg2 : aget (tp, u) r.rows = none := by
        cases hg : aget (tp, u) r.rows with
        | none => rfl
        | some l2 => exact absurd (of_decide_eq_true t2) (hkn l2 hg)
      have hrt := hlost hp0 hg2
      rw [hrr] at hrt
      rw [rootAns_none hrt]
      obtain ⟨uk, ui, ur, us⟩ := u
      dsimp only [valV] at hxr t2 ⊢
      repeat' (first | (refine go_Y ?_; intros) | (refine gs_Y ?_ ?_ <;> (intro hgd; try (simp only [Bool.not_true, Bool.not_false] at hgd))) | (refine gc_Y ?_ ?_ <;> intro _) | fail)
      refine cont_map (fun _ h => rf_in (b := b) (r := r) (P := P) hy' (Take.out takeD h)) ?_
      (refine rt_Y (y := ()) (hrs := Tryz.results18) (hv := ?_) (hφ := ?_))
      · rfl
      · trivial
    | false =>
    cases hg2 : aget (tp, u) r.rows with
    | none =>
      have hrt := hlost hp0 hg2
      rw [hrr] at hrt
      rw [rootAns_none hrt]
      obtain ⟨h1, h2⟩ := getOp_none hg2
      rw [h1] at hgt
      generalize (r.getOp tp u).2 = e at hgt h2
      have f1 : (!decide (e = (0 : Int))) = true := by rcases h2 with rfl | rfl <;> decide
      obtain ⟨uk, ui, ur, us⟩ := u
      dsimp only [valV] at hxr hgt t2 ⊢
      repeat' (first | (refine go_Y ?_; intros) | (refine gs_Y ?_ ?_ <;> (intro hgd; try (simp only [Bool.not_true, Bool.not_false] at hgd))) | (refine gc_Y ?_ ?_ <;> intro _) | fail)
      refine opsL_map (fun _ h => rf_in (b := b) (r := r) (P := P) hy' (Take.out takeD h)) ?_
      refine cl_Y (hgt) ?_
      rintro ⟨v2, hv2⟩ _
      dsimp only
      repeat' (first | (refine go_Y ?_; intros) | (refine gs_Y ?_ ?_ <;> (intro hgd; try (simp only [Bool.not_true, Bool.not_false] at hgd))) | (refine gc_Y ?_ ?_ <;> intro _) | fail)
      (refine rt_Y (y := ()) (hrs := Tryz.results18) (hv := ?_) (hφ := ?_))
      · rfl
      · trivial
    | some l2 =>
      have hrt := hup l2 hp0 hg2
      rw [hrr] at hrt
      obtain ⟨hm2, _, hlt⟩ := hpar l2 hp0 hg2
      rw [getOp_some hR hg2] at hgt
      dsimp only at hgt
      have f1 : (!decide ((0 : Int) = (0 : Int))) = false := by decide
      obtain ⟨uk, ui, ur, us⟩ := u
      dsimp only [valV] at hxr hgt t2
      repeat' (first | (refine go_Y ?_; intros) | (refine gs_Y ?_ ?_ <;> (intro hgd; try (simp only [Bool.not_true, Bool.not_false] at hgd))) | (refine gc_Y ?_ ?_ <;> intro _) | fail)
      refine opsL_map (fun _ h => rf_in (b := b) (r := r) (P := P) hy' (Take.out takeD h)) ?_
      refine cl_Y (hgt) ?_
      rintro ⟨v2, hv2⟩ hvw2
      dsimp only at hvw2 ⊢
      repeat' (first | (refine go_Y ?_; intros) | (refine gs_Y ?_ ?_ <;> (intro hgd; try (simp only [Bool.not_true, Bool.not_false] at hgd))) | (refine gc_Y ?_ ?_ <;> intro _) | fail)
      refine cont_map (L' := [rfP P b r, P, pts b7 (.cells [.int .u8 0, .int .i64 0, .int .u64 0, .string ⟨#[]⟩].toArray 28)] ++ R) entD ?_
      refine cont_back ⟨((tp, l2), ⟨v2, hv2⟩), hm2, hrt.symm.trans rfl, hvw2⟩ ⟨⟨rfl, rfl, rfl, rfl, trivial⟩, rfl⟩ (by show tp.toNat < (m : Int).toNat; omega)

/-! ### Count -/
end Go.Proofs.YtphaegcoldpclaaGreatDoor
/- The law AggTells (layer 24). -/
-- @DEFS Y
set_option linter.unusedSimpArgs false
set_option linter.unusedVariables false
set_option maxRecDepth 100000
namespace Go.Proofs.YtphaegcoldpclaaGreatDoor
open Go Go.Fx Go.Proofs Go.Pl

theorem RowsQ.uniq {r : Rl} {R R' : List Pr2} (h : RowsQ r R) (h' : RowsQ r R') : R = R' := by
  have := filter_same (s := r.s) h.srt h'.srt (f := fun _ => true) (fun x _ => by rw [h.mem, h'.mem])
  rwa [List.filter_eq_self.2 (fun _ _ => rfl), List.filter_eq_self.2 (fun _ _ => rfl)] at this
/-- All, over the reference's state as it stands. -/
theorem all24c_spec {r : Rl} {R0 : List Pr2} (hR : RowsQ r R0) (hok : r.Ok) (hwf : Rl.Wf r) (b : Nat) (P : HProp) :
    FSpec Tryz.prog 13 [.pointer (some ⟨b, 0, none⟩)] [rfP P b r, P] (V1s × List Dm × HProp) (fun y => Ext P y.2.2 ∧ (∀ x ∈ y.2.1, DocR y.2.2 x) ∧ y.2.1.map Dm.c = docsR r R0) (fun y => y.1.1)
      (fun y => [row 44 3 y.1.1 (y.2.1.map docV), rfP y.2.2 b r, y.2.2]) := by
  refine fspec_ex ?_
  rintro ⟨⟨vs, ts, vr, q⟩, hy⟩
  intro w0 w R hs
  have e : q.map Rr.tl = R0 := (hy.rq.rowsQ hok).uniq hR
  have h := all24_spec hok hwf hy.rq b vs vr ts P hy
  rw [e] at h
  refine (h w0 w R hs).mono ?_
  rintro en w' ⟨y, hφ, he, hs'⟩
  exact ⟨y, hφ, he, hs'.map fun _ h => h.consMono fun _ h => rf_in (hy.ext hφ.1) h⟩
theorem doc24c_spec {r : Rl} {R0 : List Pr2} (hR : RowsQ r R0) (hok : r.Ok) (hwf : Rl.Wf r) (b : Nat) (P : HProp) (t : Int) (w : V1s) (row0 : List Vl) (hm : (t, row0) ∈ R0) (hw : Vw P 4 w.1 (row0.map valV)) :
    FSpec Tryz.prog 20 [.pointer (some ⟨b, 0, none⟩), .int .i64 t, w.1] [rfP P b r, P] DmP (fun y => Ext P y.2 ∧ DocR y.2 y.1 ∧ y.1.c = docS r.s R0 r.s.length t row0) (fun y => .agg (docV y.1).toArray) (fun y => [rfP y.2 b r, y.2]) := by
  refine fspec_ex ?_
  rintro ⟨⟨vs, ts, vr, q⟩, hy⟩
  intro w0 w' R hs
  have e : q.map Rr.tl = R0 := (hy.rq.rowsQ hok).uniq hR
  have h := doc24_spec hok hwf hy.rq b vs vr ts r.s.length P t w row0 (by rw [e]; exact hm) (by have := (hR.ok.tab _ hm).1; dsimp only at this; omega) hy hw
  rw [e] at h
  refine (h w0 w' R hs).mono ?_
  rintro en w'' ⟨y, hφ, he, hs'⟩
  exact ⟨y, hφ, he, hs'.map fun _ h => rf_in (hy.ext hφ.1) h⟩
theorem docsR_pos {r : Rl} {R0 : List Pr2} (hR : RowsQ r R0) {l : List Dm} (h : l.map Dm.c = docsR r R0) : ∀ x ∈ l, 0 < sizeS x.c := by
  intro x hx
  have hm : x.c ∈ docsR r R0 := by rw [← h]; exact List.mem_map_of_mem hx
  unfold docsR rootsR at hm
  obtain ⟨p, hp, e⟩ := List.mem_map.1 hm
  have h1 := (docS_size hR.ok r.s.length (List.mem_filter.1 hp).1).1
  have h2 := nodesD_pos (docS r.s R0 r.s.length p.1 p.2)
  rw [← e, h1]; omega
theorem docsR_len {r : Rl} {R0 : List Pr2} (hR : RowsQ r R0) {l : List Dm} (h : l.map Dm.c = docsR r R0) : l.length ≤ 200 := by
  have e := congrArg List.length h
  unfold docsR rootsR at e
  rw [List.length_map, List.length_map] at e
  have h1 := List.length_filter_le (fun p : Pr2 => decide ((tabAt r.s p.1).par < 0)) R0
  have h2 := hR.ok.len
  omega
theorem zV_eq : nilB BinOp.eql (eqL [TypeDesc.int .u8, TypeDesc.int .i64, TypeDesc.int .u64, TypeDesc.string] [Value.int .u8 0, Value.int .i64 0, Value.int .u64 0, Value.string ⟨#[]⟩] [Value.int .u8 0, Value.int .i64 0, Value.int .u64 0, Value.string ⟨#[]⟩]) = true := by
  have := eqL_valV ⟨0, 0, 0, ⟨#[]⟩⟩ ⟨0, 0, 0, ⟨#[]⟩⟩
  simp only [nilB]
  rw [show eqL [TypeDesc.int .u8, TypeDesc.int .i64, TypeDesc.int .u64, TypeDesc.string] [Value.int .u8 0, Value.int .i64 0, Value.int .u64 0, Value.string ⟨#[]⟩] [Value.int .u8 0, Value.int .i64 0, Value.int .u64 0, Value.string ⟨#[]⟩] = _ from this]
  simp
theorem sV_eq (v : Vl) : nilB BinOp.eql (eqL [TypeDesc.int .u8, TypeDesc.int .i64, TypeDesc.int .u64, TypeDesc.string] (valV v) (valV v)) = true := by
  have := eqL_valV v v
  simp only [nilB]
  rw [this]; simp
def dmE : Dm := .mk 0 ⟨.slice none 0 0, rfl⟩ [] ⟨.slice none 0 0, rfl⟩ []
theorem dmE_R (P : HProp) : DocR P dmE := .mk (fun h _ => ⟨fun _ hx => by simp at hx, none, 0, rfl, .inl rfl, fun _ => rfl, fun b o hp => by cases hp⟩) (fun h _ => ⟨fun _ hx => by simp at hx, none, 0, rfl, .inl rfl, fun _ => rfl, fun b o hp => by cases hp⟩) (fun _ h => by simp at h) (by simp) (by simp) (fun _ h => by simp at h)
theorem dmE_size : sizeS dmE.c = 1 := by decide +kernel
set_option maxHeartbeats 16000000 in
theorem AggTells_spec (vs vo : Value) (ts : List Tb) (ops : List Om) (t : Int) (k : Vl) (A : HProp) (hU : UT A) (hvc : vs.oneCell' = true) (h : SVr A vs ts) (ho : OsR A vo ops) (hwops : ∀ q ∈ ops, ∀ v ∈ q.row, v.wf) (hkw : k.wf) :
    FSpec Tryz.prog 3 [.agg #[vs], vo, .int .i64 t, .agg (valV k).toArray] [A] HProp (fun P' => Ext A P') (fun _ => .bool true) (fun P' => [P']) := by
  have hkt := hkw.t
  have hh1 := heavy14_spec vs vo ts ops A h ho
  have hal := fun (P : HProp) (e : Ext A P) => alive24_spec P (hU.ext e)
  have hget := fun b (r : Rl) Q (h1 : r.Ok) (h2 : Rl.Wf r) (h3 : UT Q) => get14_spec b r t k Q h1 h2 h3 hkw
  have hofS := fun b (r : Rl) R0 Q (h1 : RowsQ r R0) (h2 : r.Ok) (h3 : Rl.Wf r) (h4 : UT Q) l (h5 : aget (t, k) r.rows = some l) => aOf_some h1 h2 h3 b t k l Q h4 hkw h5
  have hofN := fun b (r : Rl) Q (h2 : r.Ok) (h4 : UT Q) (h5 : aget (t, k) r.rows = none) => aOf_none h2 b t k Q h4 hkw h5
  have hrtS := fun b (r : Rl) R0 Q (h1 : RowsQ r R0) (h2 : r.Ok) (h3 : Rl.Wf r) (h4 : UT Q) l (h5 : aget (t, k) r.rows = some l) => aRoot_some h1 h2 h3 b t k l Q h4 hkw h5
  have hrtN := fun b (r : Rl) Q (h2 : r.Ok) (h4 : UT Q) (h5 : aget (t, k) r.rows = none) => aRoot_none h2 b t k Q h4 hkw h5
  have hgS := fun (r : Rl) R0 (h1 : RowsQ r R0) l (h5 : aget (t, k) r.rows = some l) => getOp_some h1 h5
  have hgN := fun (r : Rl) (h5 : aget (t, k) r.rows = none) => getOp_none h5
  have hmS := fun (r : Rl) R0 (h1 : RowsQ r R0) l (h5 : aget (t, k) r.rows = some l) => (h1.get _ _ h5).1
  have hkk : ∃ k0, k0 = k := ⟨_, rfl⟩
  obtain ⟨k0, hk0⟩ := hkk
  obtain ⟨kk, ki, kr, ks⟩ := k
  dsimp only [valV] at hget hofS hofN hrtS hrtN hkt hmS ⊢
  rw [← hk0] at hget hofS hofN hrtS hrtN hgS hgN hmS
  refine spec_intro [] _ Tryz.func3 rfl Tryz.ntmps3 (by rfl) (fun w0 R => ?_)
  refine ok_learn (VwIn.slice (VwIn.here h.vw)) ?_
  rintro ⟨ps, cs, rfl⟩
  repeat' (first | (refine go_Y ?_; intros) | (refine gs_Y ?_ ?_ <;> (intro hgd; try (simp only [Bool.not_true, Bool.not_false] at hgd))) | (refine gc_Y ?_ ?_ <;> intro _) | fail)
  rename_i b4 b7
  refine cl_Y (hh1) ?_
  intro y1 hlg
  cases y1 with
  | true =>
    repeat' (first | (refine go_Y ?_; intros) | (refine gs_Y ?_ ?_ <;> (intro hgd; try (simp only [Bool.not_true, Bool.not_false] at hgd))) | (refine gc_Y ?_ ?_ <;> intro _) | fail)
    refine cl_Y (hal A (Ext.refl A)) ?_
    intro _ _
    repeat' (first | (refine go_Y ?_; intros) | (refine gs_Y ?_ ?_ <;> (intro hgd; try (simp only [Bool.not_true, Bool.not_false] at hgd))) | (refine gc_Y ?_ ?_ <;> intro _) | fail)
    (refine rt_Y (y := A) (hrs := Tryz.results3) (hv := ?_) (hφ := ?_))
    · rfl
    · exact Ext.refl A
  | false =>
  have hsm := hlg rfl
  cases u1 : decide ((4096 : Int) < (ks.size : Int)) with
  | true =>
    repeat' (first | (refine go_Y ?_; intros) | (refine gs_Y ?_ ?_ <;> (intro hgd; try (simp only [Bool.not_true, Bool.not_false] at hgd))) | (refine gc_Y ?_ ?_ <;> intro _) | fail)
    refine cl_Y (hal A (Ext.refl A)) ?_
    intro _ _
    repeat' (first | (refine go_Y ?_; intros) | (refine gs_Y ?_ ?_ <;> (intro hgd; try (simp only [Bool.not_true, Bool.not_false] at hgd))) | (refine gc_Y ?_ ?_ <;> intro _) | fail)
    (refine rt_Y (y := A) (hrs := Tryz.results3) (hv := ?_) (hφ := ?_))
    · rfl
    · exact Ext.refl A
  | false =>
  have hsv := h.sv hsm.1
  cases hck : checkS (ts.map Tb.c) with
  | false =>
    have hmay0 := rMay_spec (.slice ps (ts.map tbV).length cs) ts A hvc hsv
    rw [hck] at hmay0
    repeat' (first | (refine go_Y ?_; intros) | (refine gs_Y ?_ ?_ <;> (intro hgd; try (simp only [Bool.not_true, Bool.not_false] at hgd))) | (refine gc_Y ?_ ?_ <;> intro _) | fail)
    refine cl_Y (both24_bad (.slice ps (ts.map tbV).length cs) vo ts ops A hsv ho hck) ?_
    intro _ _
    repeat' (first | (refine go_Y ?_; intros) | (refine gs_Y ?_ ?_ <;> (intro hgd; try (simp only [Bool.not_true, Bool.not_false] at hgd))) | (refine gc_Y ?_ ?_ <;> intro _) | fail)
    refine cl_Y (hmay0) ?_
    intro _ _
    repeat' (first | (refine go_Y ?_; intros) | (refine gs_Y ?_ ?_ <;> (intro hgd; try (simp only [Bool.not_true, Bool.not_false] at hgd))) | (refine gc_Y ?_ ?_ <;> intro _) | fail)
    refine cl_Y (hal A (Ext.refl A)) ?_
    intro _ _
    repeat' (first | (refine go_Y ?_; intros) | (refine gs_Y ?_ ?_ <;> (intro hgd; try (simp only [Bool.not_true, Bool.not_false] at hgd))) | (refine gc_Y ?_ ?_ <;> intro _) | fail)
    (refine rt_Y (y := A) (hrs := Tryz.results3) (hv := ?_) (hφ := ?_))
    · rfl
    · exact Ext.refl A
  | true =>
  repeat' (first | (refine go_Y ?_; intros) | (refine gs_Y ?_ ?_ <;> (intro hgd; try (simp only [Bool.not_true, Bool.not_false] at hgd))) | (refine gc_Y ?_ ?_ <;> intro _) | fail)
  refine cl_Y (both24_ok (.slice ps (ts.map tbV).length cs) vo ts ops A hU hsv ho hwops hsm hck) ?_
  rintro ⟨b, bx, r, P⟩ ⟨hok, hwf, hrs, hE⟩
  dsimp only at hok hwf hrs hE ⊢
  refine rfP_Q (P := P) (b := bx) (r := r) takeD fun hQ => ?_
  obtain ⟨R0, hR⟩ := hQ.rows hok
  repeat' (first | (refine go_Y ?_; intros) | (refine gs_Y ?_ ?_ <;> (intro hgd; try (simp only [Bool.not_true, Bool.not_false] at hgd))) | (refine gc_Y ?_ ?_ <;> intro _) | fail)
  refine cl_Y (aAll_spec hR hok hwf b P) ?_
  rintro ⟨⟨v1, hv1⟩, l1, P1⟩ ⟨hE1, hd1, hc1⟩
  dsimp only at hE1 hd1 hc1 ⊢
  refine opsL_mapL (fun _ h => rfP_ext hE1 (b := bx) (r := r) (Take.out1 (A := rfP P bx r) takeD h)) ?_
  have f0 : (!decide ((0 : Int) = (0 : Int))) = false := by decide
  repeat' (first | (refine go_Y ?_; intros) | (refine gs_Y ?_ ?_ <;> (intro hgd; try (simp only [Bool.not_true, Bool.not_false] at hgd))) | (refine gc_Y ?_ ?_ <;> intro _) | fail)
  refine cl_Y (all24c_spec hR hok hwf bx P1) ?_
  rintro ⟨⟨v2, hv2⟩, l2, P2⟩ ⟨hE2, hd2, hc2⟩
  dsimp only at hE2 hd2 hc2 ⊢
  refine opsL_mapL (fun _ h => relP_ext hE2 (b := b) (r := r) (Take.out1 (A := relP P1 b r) takeD h)) ?_
  have hsa := sameAllT_spec l1 l2 v1 v2 (row 44 3 v1 (l1.map docV)) (row 44 3 v2 (l2.map docV)) P2 Vw.row Vw.row (docs_mono hE2 hd1) hd2 (by have := docsR_len hR hc1; omega) (hc2.trans hc1.symm) (docsR_pos hR hc1)
  repeat' (first | (refine go_Y ?_; intros) | (refine gs_Y ?_ ?_ <;> (intro hgd; try (simp only [Bool.not_true, Bool.not_false] at hgd))) | (refine gc_Y ?_ ?_ <;> intro _) | fail)
  refine cl_Y (hsa) ?_
  intro _ _
  repeat' (first | (refine go_Y ?_; intros) | (refine gs_Y ?_ ?_ <;> (intro hgd; try (simp only [Bool.not_true, Bool.not_false] at hgd))) | (refine gc_Y ?_ ?_ <;> intro _) | fail)
  have hE02 := hE.trans (hE1.trans hE2)
  have hU2 := hU.ext hE02
  cases hg : aget (t, k0) r.rows with
  | none =>
    obtain ⟨hg1, hg2⟩ := hgN r hg
    have s1 := hofN b r P2 hok hU2 hg
    have s2 := hrtN b r P2 hok hU2 hg
    have s3 := hget bx r P2 hok hwf hU2
    rw [hg1] at s3
    generalize (r.getOp t k0).2 = e at s1 s2 s3 hg2
    have f1 : (!decide (e = e)) = false := by simp
    have f2 : (!decide (e = (0 : Int))) = true := by rcases hg2 with rfl | rfl <;> decide
    have s4 := aSize_spec (dmE_R P2)
    rw [dmE_size] at s4
    have q0 := zV_eq
    dsimp only [dmE, docV, docE] at s1 s4
    try dsimp only [valV] at s2
    have hz : decide (((0 : Nat) : Int) = 0) = true := by decide
    refine cl_Y (s1) ?_
    intro _ _
    repeat' (first | (refine go_Y ?_; intros) | (refine gs_Y ?_ ?_ <;> (intro hgd; try (simp only [Bool.not_true, Bool.not_false] at hgd))) | (refine gc_Y ?_ ?_ <;> intro _) | fail)
    refine cl_Y (s2) ?_
    intro _ _
    repeat' (first | (refine go_Y ?_; intros) | (refine gs_Y ?_ ?_ <;> (intro hgd; try (simp only [Bool.not_true, Bool.not_false] at hgd))) | (refine gc_Y ?_ ?_ <;> intro _) | fail)
    refine cl_Y (s3) ?_
    rintro ⟨v3, hv3⟩ _
    dsimp only
    repeat' (first | (refine go_Y ?_; intros) | (refine gs_Y ?_ ?_ <;> (intro hgd; try (simp only [Bool.not_true, Bool.not_false] at hgd))) | (refine gc_Y ?_ ?_ <;> intro _) | fail)
    refine cl_Y (s4) ?_
    intro _ _
    repeat' (first | (refine go_Y ?_; intros) | (refine gs_Y ?_ ?_ <;> (intro hgd; try (simp only [Bool.not_true, Bool.not_false] at hgd))) | (refine gc_Y ?_ ?_ <;> intro _) | fail)
    refine cl_Y (hal P2 hE02) ?_
    intro _ _
    repeat' (first | (refine go_Y ?_; intros) | (refine gs_Y ?_ ?_ <;> (intro hgd; try (simp only [Bool.not_true, Bool.not_false] at hgd))) | (refine gc_Y ?_ ?_ <;> intro _) | fail)
    (refine rt_Y (y := P2) (hrs := Tryz.results3) (hv := ?_) (hφ := ?_))
    · rfl
    · exact hE02
  | some l =>
    have hm := hmS r R0 hR l hg
    have s1 := hofS b r R0 P2 hR hok hwf hU2 l hg
    have f1 : (!decide ((0 : Int) = (0 : Int))) = false := by decide
    refine cl_Y (s1) ?_
    rintro ⟨d, P3⟩ ⟨hE3, hdR, hdc⟩
    dsimp only at hE3 hdR hdc ⊢
    have hE03 := hE02.trans hE3
    have hU3 := hU.ext hE03
    refine opsL_mapL (fun _ h => rfP_ext hE3 (b := bx) (r := r) (Take.out1 (A := rfP P2 bx r) takeD h)) ?_
    obtain ⟨dt, ⟨dlv, hdlv⟩, drow, ⟨dkv, hdkv⟩, dk⟩ := d
    have hone : oneCells [Value.int .i64 dt, dlv, dkv] = true := by
      simp only [oneCells, List.all_cons, List.all_nil, hdlv, hdkv, Bool.and_true]; rfl
    dsimp only [docV] at hdR hdc ⊢
    repeat' (first | (refine go_Y ?_; intros) | (refine gs_Y ?_ ?_ <;> (intro hgd; try (simp only [Bool.not_true, Bool.not_false] at hgd))) | (refine gc_Y ?_ ?_ <;> intro _) | fail)
    rename_i b14
    have s2 := hrtS b r R0 P3 hR hok hwf hU3 l hg
    have s6 := fun Q hUQ w hw => root24_spec hR hok hwf bx t w l Q hUQ hm hw
    obtain ⟨⟨at', ak, ab⟩, hans⟩ : ∃ x, x = rootAns r (t, l) := ⟨_, rfl⟩
    rw [← hans] at s2 s6
    clear hans
    dsimp only at s2 s6
    obtain ⟨akk, aki, akr, aks⟩ := ak
    dsimp only [valV] at s2 s6
    refine cl_Y (s2) ?_
    intro P4 hE4
    have hE04 := hE03.trans hE4
    have hU4 := hU.ext hE04
    refine opsL_mapL (fun _ h => rfP_ext hE4 (b := bx) (r := r) (Take.out1 (A := rfP P3 bx r) takeD h)) ?_
    repeat' (first | (refine go_Y ?_; intros) | (refine gs_Y ?_ ?_ <;> (intro hgd; try (simp only [Bool.not_true, Bool.not_false] at hgd))) | (refine gc_Y ?_ ?_ <;> intro _) | fail)
    have s3 := hget bx r P4 hok hwf hU4
    rw [hgS r R0 hR l hg] at s3
    dsimp only at s3
    refine cl_Y (s3) ?_
    rintro ⟨v3, hv3⟩ hvw3
    dsimp only at hvw3 ⊢
    repeat' (first | (refine go_Y ?_; intros) | (refine gs_Y ?_ ?_ <;> (intro hgd; try (simp only [Bool.not_true, Bool.not_false] at hgd))) | (refine gc_Y ?_ ?_ <;> intro _) | fail)
    have s6 := s6 P4 hU4 ⟨v3, hv3⟩ hvw3
    dsimp only at s6
    refine cl_Y (s6) ?_
    intro _ _
    repeat' (first | (refine go_Y ?_; intros) | (refine gs_Y ?_ ?_ <;> (intro hgd; try (simp only [Bool.not_true, Bool.not_false] at hgd))) | (refine gc_Y ?_ ?_ <;> intro _) | fail)
    have s7 := doc24c_spec hR hok hwf bx P4 t ⟨v3, hv3⟩ l hm hvw3
    dsimp only at s7
    refine ok_drawL (cv := []) [4] ([pts b14 (.cells [.int .i64 dt, dlv, dkv].toArray 44)]) (takeD) (by kernel_rfl) rfl (by decide +kernel) ?_
    repeat' (first | (refine go_Y ?_; intros) | (refine gs_Y ?_ ?_ <;> (intro hgd; try (simp only [Bool.not_true, Bool.not_false] at hgd))) | (refine gc_Y ?_ ?_ <;> intro _) | fail)
    refine clN_Y (s7) ?_
    rintro ⟨d2, P5⟩ ⟨hE5, hdR2, hdc2⟩
    dsimp only at hE5 hdR2 hdc2 ⊢
    have s8 := Same24_spec (hdR.ext (hE4.trans hE5)) hdR2
    have hpos : 0 < sizeS (docS r.s R0 r.s.length t l) := by
      have h1 := (docS_size hR.ok r.s.length hm).1
      have h2 := nodesD_pos (docS r.s R0 r.s.length t l)
      dsimp only at h1
      omega
    rw [hdc2, hdc, (sameD_iff _ _).2 rfl, show decide (0 < sizeS (docS r.s R0 r.s.length t l)) = true from by simpa using hpos] at s8
    simp only [Bool.and_self] at s8
    obtain ⟨dt2, ⟨dlv2, hdlv2⟩, drow2, ⟨dkv2, hdkv2⟩, dk2⟩ := d2
    dsimp only [docV] at s8 ⊢
    have q0 := sV_eq ⟨akk, aki, akr, aks⟩
    dsimp only [valV] at q0
    have q1 : decide (at' = at') = true := by simp
    have q2 : (ab == ab) = true := by simp
    repeat' (first | (refine go_Y ?_; intros) | (refine gs_Y ?_ ?_ <;> (intro hgd; try (simp only [Bool.not_true, Bool.not_false] at hgd))) | (refine gc_Y ?_ ?_ <;> intro _) | fail)
    refine cl_Y (s8) ?_
    intro _ _
    repeat' (first | (refine go_Y ?_; intros) | (refine gs_Y ?_ ?_ <;> (intro hgd; try (simp only [Bool.not_true, Bool.not_false] at hgd))) | (refine gc_Y ?_ ?_ <;> intro _) | fail)
    have hE05 := hE04.trans hE5
    refine cl_Y (hal P5 hE05) ?_
    intro _ _
    repeat' (first | (refine go_Y ?_; intros) | (refine gs_Y ?_ ?_ <;> (intro hgd; try (simp only [Bool.not_true, Bool.not_false] at hgd))) | (refine gc_Y ?_ ?_ <;> intro _) | fail)
    (refine rt_Y (y := P5) (hrs := Tryz.results3) (hv := ?_) (hφ := ?_))
    · rfl
    · exact hE05
end Go.Proofs.YtphaegcoldpclaaGreatDoor
