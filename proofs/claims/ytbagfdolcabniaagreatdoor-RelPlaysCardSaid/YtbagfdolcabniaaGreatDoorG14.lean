/- Texts merged: QcL QcM QcN QcR. -/
import Derived.Test.YtbagfdolcabniaaGreatDoorG13
import Derived.Test.YtbagfdolcabniaaGreatDoorG12
import Derived.Test.YtbagfdolcabniaaGreatDoorFwFk
/- rel.Of, rel.Schema; two schemas told apart (fascicleref13.Same). -/
-- @DEFS Y
set_option linter.unusedSimpArgs false
set_option linter.unusedVariables false
set_option maxRecDepth 100000
namespace Go.Proofs.YtbagfdolcabniaaGreatDoor
open Go Go.Fx Go.Proofs Go.Pl

/-- What the question of Of reads. -/
def ofF (b bx bt bk : Nat) (t : Int) (k : Vl) : List HProp := [pts bx (.cells [.pointer (some ⟨b, 0, none⟩)].toArray 29), pts bt (.cells [.int .i64 t].toArray 3), pts bk (.cells (valV k).toArray 50)]
set_option maxHeartbeats 2000000 in
theorem of1_spec (b bx bt bk : Nat) (vs vm : Value) (turns : Int) (ts : List Tb) (t : Int) (k : Vl) (w : Value) (l : List Vl) (A : HProp) (hsv : SV A vs ts) (hw : Vw A 4 w (l.map valV)) (hr : rowS (ts.map Tb.c) t l = true) :
    FSpec Tryz.prog 101 [w, .pointer (some ⟨bx, 0, none⟩), .pointer (some ⟨bt, 0, none⟩), .pointer (some ⟨bk, 0, none⟩)] ([pts b (.cells [vs, vm, .int .u64 turns].toArray 100), A] ++ ofF b bx bt bk t k) Unit (fun _ => True)
      (fun _ => .bool (askOf (ts.map Tb.c) t k l)) (fun _ => [pts b (.cells [vs, vm, .int .u64 turns].toArray 100), A] ++ ofF b bx bt bk t k) := by
  have hvw := hsv.vw
  have hh : hasS (ts.map Tb.c) t = true := by simp only [rowS, Bool.and_eq_true] at hr; exact hr.1
  obtain ⟨_, _, hlen⟩ := rowS_key hr
  unfold ofF
  have hax : askOf (ts.map Tb.c) t k l = (decide (0 ≤ (tabAt (ts.map Tb.c) t).ref) && decide ((l[(tabAt (ts.map Tb.c) t).ref.toNat]?).getD default = k)) := rfl
  generalize askOf (ts.map Tb.c) t k l = a at hax ⊢
  obtain ⟨tm, tb, rfl, htt, hxt, htl, hta, htok, htmem⟩ := hasS_tb hh
  have hrL := htok.refL
  rw [hta] at hax hlen
  obtain ⟨tn, cols, ⟨tcv, htcv⟩, key, ref, par⟩ := tb
  dsimp only [tbV, Tb.c] at hxt hrL hlen
  have hax : a = (decide (0 ≤ ref) && decide ((l[ref.toNat]?).getD default = k)) := hax
  cases t3 : decide (0 ≤ ref) with
  | false =>
    rw [t3, Bool.false_and] at hax
    subst hax
    obtain ⟨kk, ki, kr, ks⟩ := k
    dsimp only [valV]
    refine spec_intro [] _ Tryz.func101 rfl Tryz.ntmps101 (by rfl) (fun w0 R => ?_)
    refine ok_learn (VwIn.slice (VwIn.there (VwIn.here hvw))) ?_
    rintro ⟨pv, cv, rfl⟩
    refine ok_learn (VwIn.base (n := 5) (p := pv) (len := (ts.map tbV).length) (cap := cv) (xs := ts.map tbV) (VwIn.there (VwIn.here hvw)) (by intro e; rw [e] at htl; simp at htl)) ?_
    rintro ⟨bv, ov, rfl⟩
    repeat' (first | (refine go_Y ?_; intros) | (refine gs_Y ?_ ?_ <;> (intro hgd; try (simp only [Bool.not_true, Bool.not_false] at hgd))) | (refine gc_Y ?_ ?_ <;> intro _) | fail)
    (refine rt_Y (y := ()) (hrs := Tryz.results101) (hv := ?_) (hφ := ?_))
    · rfl
    · trivial
  | true =>
    have hr0 := of_decide_eq_true t3
    obtain ⟨rm, rfl⟩ : ∃ rm : Nat, ref = rm := ⟨ref.toNat, by omega⟩
    have hrm : rm < l.length := by omega
    have hli : l[rm]? = some l[rm] := List.getElem?_eq_getElem hrm
    have hxr : (l.map valV)[rm]? = some (valV l[rm]) := by rw [List.getElem?_map, hli]; rfl
    have hnr : rm < (l.map valV).length := by rw [List.length_map]; exact hrm
    rw [t3, Bool.true_and, Int.toNat_natCast, hli, Option.getD_some] at hax
    generalize l[rm] = u at hxr hax
    rw [← eqL_valV] at hax
    obtain ⟨uk, ui, ur, us⟩ := u
    obtain ⟨kk, ki, kr, ks⟩ := k
    dsimp only [valV] at hxr hax ⊢
    rw [hax]
    refine spec_intro [] _ Tryz.func101 rfl Tryz.ntmps101 (by rfl) (fun w0 R => ?_)
    refine ok_learn (VwIn.slice (VwIn.there (VwIn.here hvw))) ?_
    rintro ⟨pv, cv, rfl⟩
    refine ok_learn (VwIn.base (n := 5) (p := pv) (len := (ts.map tbV).length) (cap := cv) (xs := ts.map tbV) (VwIn.there (VwIn.here hvw)) (by intro e; rw [e] at htl; simp at htl)) ?_
    rintro ⟨bv, ov, rfl⟩
    refine ok_learn (VwIn.slice (VwIn.there (VwIn.here hw))) ?_
    rintro ⟨pw, cw, rfl⟩
    refine ok_learn (VwIn.base (VwIn.there (VwIn.here hw)) (by intro e; rw [e] at hnr; simp at hnr)) ?_
    rintro ⟨bw, ow, rfl⟩
    repeat' (first | (refine go_Y ?_; intros) | (refine gs_Y ?_ ?_ <;> (intro hgd; try (simp only [Bool.not_true, Bool.not_false] at hgd))) | (refine gc_Y ?_ ?_ <;> intro _) | fail)
    (refine rt_Y (y := ()) (hrs := Tryz.results101) (hv := ?_) (hφ := ?_))
    · rfl
    · trivial
theorem relSchema_spec (b : Nat) (r : Rl) (P : HProp) (hok : r.Ok) :
    FSpec Tryz.prog 66 [.pointer (some ⟨b, 0, none⟩)] [relP P b r, P] (V1s × List Tb × HProp) (fun y => SV y.2.2 y.1.1 y.2.1 ∧ y.2.1.map Tb.c = r.s ∧ Ext P y.2.2) (fun y => .agg #[y.1.1]) (fun y => [relP y.2.2 b r, y.2.2]) := by
  refine fspec_ex ?_
  rintro ⟨⟨vs, ts, m, es⟩, hy⟩
  have hy' := hy
  obtain ⟨hvc, hsv, hss, hes⟩ := hy
  dsimp only at hvc hsv hss hes
  unfold relL
  dsimp only
  have hvw := hsv.vw
  obtain ⟨ds, _, hah, h1, h12⟩ := checkS_ok hok.sch
  have hcl := relClone_spec vs ts P hsv (by rw [← hss, List.length_map] at h1; exact h1) (by rw [← hss, List.length_map] at h12; omega) (fun t ht => by have := (hah.tab t (by rw [← hss]; exact ht)).len; omega)
  refine spec_intro [] _ Tryz.func66 rfl Tryz.ntmps66 (by rfl) (fun w0 R => ?_)
  refine ok_learn (VwIn.slice (VwIn.there (VwIn.there (VwIn.here hvw)))) ?_
  rintro ⟨pv, cv, rfl⟩
  repeat' (first | (refine go_Y ?_; intros) | (refine gs_Y ?_ ?_ <;> (intro hgd; try (simp only [Bool.not_true, Bool.not_false] at hgd))) | (refine gc_Y ?_ ?_ <;> intro _) | fail)
  refine cl_Y (hcl) ?_
  rintro ⟨⟨v, hv⟩, ts', P1⟩ ⟨hsv', hmap', hE⟩
  dsimp only at hsv' hmap' hE ⊢
  refine ops_learn (VwIn.slice (n := 5) (v := v) (xs := ts'.map tbV) (VwIn.here hsv'.vw)) ?_
  rintro ⟨pv', cv', rfl⟩
  repeat' (first | (refine go_Y ?_; intros) | (refine gs_Y ?_ ?_ <;> (intro hgd; try (simp only [Bool.not_true, Bool.not_false] at hgd))) | (refine gc_Y ?_ ?_ <;> intro _) | fail)
  refine cont_map (fun _ h => rel_in (b := b) (r := r) (P := P1) (RlOK.ext hE hy') (Take.out takeD h)) ?_
  (refine rt_Y (y := (⟨.slice pv' (ts'.map tbV).length cv', rfl⟩, ts', P1)) (hrs := Tryz.results66) (hv := ?_) (hφ := ?_))
  · rfl
  · exact ⟨hsv', hmap'.trans hss, hE⟩
end Go.Proofs.YtbagfdolcabniaaGreatDoor
/- rel.Of. -/
-- @DEFS Y
set_option linter.unusedSimpArgs false
set_option linter.unusedVariables false
set_option maxRecDepth 100000
namespace Go.Proofs.YtbagfdolcabniaaGreatDoor
open Go Go.Fx Go.Proofs Go.Pl

theorem ofV_spec (b bx bt bk : Nat) (r : Rl) (t : Int) (k : Vl) (vs : Value) (ts : List Tb) (m : Nat) (w : Value) (l : List Vl) (A : HProp) (hsv : SV A vs ts) (hss : ts.map Tb.c = r.s) (hw : Vw A 4 w (l.map valV)) (hr : rowS r.s t l = true) :
    VSpec Tryz.prog (.func (.func 101) #[] #[.pointer (some ⟨bx, 0, none⟩), .pointer (some ⟨bt, 0, none⟩), .pointer (some ⟨bk, 0, none⟩)]) [w] [pts b (.cells [vs, .map (some m), .int .u64 r.turns].toArray 100), A, (fun h => SatL (ofF b bx bt bk t k) h)] Unit (fun _ => True)
      (fun _ => .bool (askOf r.s t k l)) (fun _ => [pts b (.cells [vs, .map (some m), .int .u64 r.turns].toArray 100), A, (fun h => SatL (ofF b bx bt bk t k) h)]) := by
  have h1 := of1_spec b bx bt bk vs (.map (some m)) r.turns ts t k w l A hsv hw (by rw [hss]; exact hr)
  rw [hss] at h1
  exact VSpec.conseq (vspec_func (args := [w]) (cap := [.pointer (some ⟨bx, 0, none⟩), .pointer (some ⟨bt, 0, none⟩), .pointer (some ⟨bk, 0, none⟩)]) h1) (fun _ _ s => s.consMono fun _ s => s.consMono fun _ s => SatL.flat s)
    (fun y _ => ⟨(), trivial, rfl, fun _ _ s => s.consMono fun _ s => s.consMono fun _ s => SatL.unflat (M := ofF b bx bt bk t k) s⟩)
/-- Of. -/
theorem relOf_spec (b : Nat) (r : Rl) (t : Int) (k : Vl) (P : HProp) (hok : r.Ok) (hwf : Rl.Wf r) :
    FSpec Tryz.prog 63 [.pointer (some ⟨b, 0, none⟩), .int .i64 t, .agg (valV k).toArray] [relP P b r, P] (V1s × List Rw × HProp) (fun y => Ext P y.2.2 ∧ (∀ x ∈ y.2.1, Vw y.2.2 4 x.1.1 (x.2.map valV)) ∧ InOrder r t (askOf r.s t k) (y.2.1.map (·.2)))
      (fun y => y.1.1) (fun y => [row 35 1 y.1.1 (y.2.1.map rwV), relP y.2.2 b r, y.2.2]) := by
  by_cases hh : hasS r.s t = true
  · have hof := fun bx bt bk => someF_spec b r t (.func (.func 101) #[] #[.pointer (some ⟨bx, 0, none⟩), .pointer (some ⟨bt, 0, none⟩), .pointer (some ⟨bk, 0, none⟩)]) rfl (askOf r.s t k) P (fun h => SatL (ofF b bx bt bk t k) h) hok hwf hh (fun vs ts m w l A hsv hss hw hr => ofV_spec b bx bt bk r t k vs ts m w l A hsv hss hw hr)
    obtain ⟨kk, ki, kr, ks⟩ := k
    dsimp only [valV]
    refine spec_intro [] _ Tryz.func63 rfl Tryz.ntmps63 (by rfl) (fun w0 R => ?_)
    repeat' (first | (refine go_Y ?_; intros) | (refine gs_Y ?_ ?_ <;> (intro hgd; try (simp only [Bool.not_true, Bool.not_false] at hgd))) | (refine gc_Y ?_ ?_ <;> intro _) | fail)
    rename_i bx bt bk
    refine opsL_map (L' := (fun h => SatL (ofF b bx bt bk t ⟨kk, ki, kr, ks⟩) h) :: ([relP P b r, P] ++ R)) (fun _ h => SatL.unflat (M := ofF b bx bt bk t ⟨kk, ki, kr, ks⟩) (Take.out takeD h)) ?_
    refine cl_Y (hof bx bt bk) ?_
    rintro ⟨⟨v, hv⟩, l, Q⟩ ⟨h1, h2, h3⟩
    dsimp only at h1 h2 h3 ⊢
    repeat' (first | (refine go_Y ?_; intros) | (refine gs_Y ?_ ?_ <;> (intro hgd; try (simp only [Bool.not_true, Bool.not_false] at hgd))) | (refine gc_Y ?_ ?_ <;> intro _) | fail)
    (refine rt_Y (y := (⟨v, hv⟩, l, Q)) (hrs := Tryz.results63) (hv := ?_) (hφ := ?_))
    · rfl
    · exact ⟨h1, h2, h3⟩
  · have ht : t < 0 ∨ (r.s.length : Int) ≤ t := by
      simp only [hasS, hok.sch, Bool.true_and, Bool.and_eq_true, decide_eq_true_eq] at hh
      omega
    have hs := fun bx bt bk => some_none b r t (.func (.func 101) #[] #[.pointer (some ⟨bx, 0, none⟩), .pointer (some ⟨bt, 0, none⟩), .pointer (some ⟨bk, 0, none⟩)]) rfl P hok ht
    have hr := rows_none hok (ask := askOf r.s t k) ht
    obtain ⟨kk, ki, kr, ks⟩ := k
    dsimp only [valV]
    refine spec_intro [] _ Tryz.func63 rfl Tryz.ntmps63 (by rfl) (fun w0 R => ?_)
    repeat' (first | (refine go_Y ?_; intros) | (refine gs_Y ?_ ?_ <;> (intro hgd; try (simp only [Bool.not_true, Bool.not_false] at hgd))) | (refine gc_Y ?_ ?_ <;> intro _) | fail)
    rename_i bx bt bk
    refine cl_Y (hs bx bt bk) ?_
    intro _ _
    repeat' (first | (refine go_Y ?_; intros) | (refine gs_Y ?_ ?_ <;> (intro hgd; try (simp only [Bool.not_true, Bool.not_false] at hgd))) | (refine gc_Y ?_ ?_ <;> intro _) | fail)
    refine cont_map (fun _ h => nilRow (e := 35) (n := 1) h) ?_
    (refine rt_Y (y := (⟨.slice none 0 0, rfl⟩, [], P)) (hrs := Tryz.results63) (hv := ?_) (hφ := ?_))
    · rfl
    · exact ⟨Ext.refl P, fun _ h => by simp at h, ⟨by rw [hr]; exact .refl _, .nil⟩⟩
instance coEq : SEq Tryz.prog 144 [.string, .int .u8, .bool] := ⟨by kernel_rfl⟩
theorem eqL_coV (c : Co) : eqL [TypeDesc.string, TypeDesc.int .u8, TypeDesc.bool] (coV c) (coV c) = true := by
  obtain ⟨n, k, b⟩ := c
  simp [coV, eqL, eqD]
end Go.Proofs.YtbagfdolcabniaaGreatDoor
/- The laws of layer 14: are all rows the document's? -/
-- @DEFS Y
set_option linter.unusedSimpArgs false
set_option linter.unusedVariables false
set_option maxRecDepth 100000
namespace Go.Proofs.YtbagfdolcabniaaGreatDoor
open Go Go.Fx Go.Proofs Go.Pl

theorem InOrder.small {r : Rl} {t : Int} {ask : List Vl → Bool} {l : List Rw} (h : InOrder r t ask (l.map (·.2))) (hok : r.Ok) : l.length ≤ 200 ∧ ∀ x ∈ l, x.2.length ≤ 8 := by
  refine ⟨?_, fun x hx => ?_⟩
  · have h1 := h.perm.length_eq
    have h2 := rowsAt_len hok t ask
    rw [List.length_map] at h1
    omega
  · obtain ⟨p, hp, _⟩ := rowsAt_mem hok (h.perm.subset (List.mem_map_of_mem hx))
    exact row_len hok (aget_of_mem hok hp)
set_option maxHeartbeats 4000000 in
theorem lall_spec (b bx : Nat) (r : Rl) (P : HProp) (vs vr : Value) (ts : List Tb) (q : List Rr) (hok : r.Ok) (hwf : Rl.Wf r) (hy : RfOK P r ⟨vs, ts, vr, q⟩) :
    FSpec Tryz.prog 15 [.pointer (some ⟨b, 0, none⟩), .pointer (some ⟨bx, 0, none⟩)] [relP P b r, pts bx (.cells [vs, vr, .int .u64 r.turns].toArray 47), row 114 2 vr (q.map rrV), P] HProp (fun P' => Ext P P') (fun _ => .bool true)
      (fun P' => [relP P' b r, pts bx (.cells [vs, vr, .int .u64 r.turns].toArray 47), row 114 2 vr (q.map rrV), P']) := by
  have hvw := hy.sv.vw
  dsimp only at hvw
  have htl := hy.sv.len
  dsimp only at htl
  have ltm : (ts.map tbV).length = ts.length := by simp
  refine spec_intro [] _ Tryz.func15 rfl Tryz.ntmps15 (by rfl) (fun w0 R => ?_)
  refine ok_learn (VwIn.slice (VwIn.there (VwIn.there (VwIn.there (VwIn.here hvw))))) ?_
  rintro ⟨pv, cv, rfl⟩
  repeat' (first | (refine go_Y ?_; intros) | (refine gs_Y ?_ ?_ <;> (intro hgd; try (simp only [Bool.not_true, Bool.not_false] at hgd))) | (refine gc_Y ?_ ?_ <;> intro _) | fail)
  refine ok_loop' (γ := Nat × { Q : HProp // Ext P Q }) (fun g ρ L => g.1 ≤ ts.length + 2 ∧ Knows ρ [(0, .pointer (some ⟨b, 0, none⟩)), (1, .pointer (some ⟨bx, 0, none⟩)), (5, .int .i64 ((g.1 : Int) - 1))] ∧
      L = [relP g.2.1 b r, pts bx (.cells [.slice pv (ts.map tbV).length cv, vr, .int .u64 r.turns].toArray 47), row 114 2 vr (q.map rrV), g.2.1] ++ R) (fun g => ts.length + 2 - g.1)
    (0, ⟨P, Ext.refl P⟩) ⟨by simp, ⟨rfl, rfl, rfl, trivial⟩, rfl⟩ ?_
  rintro ⟨n, Q, hE⟩ ρ L ⟨hn, hk, rfl⟩
  dsimp only at hE hn hk ⊢
  refine ok_regs hk ?_
  cases t1 : decide (((n : Int) - 1) ≤ ((ts.map tbV).length : Int)) with
  | false =>
    repeat' (first | (refine go_Y ?_; intros) | (refine gs_Y ?_ ?_ <;> (intro hgd; try (simp only [Bool.not_true, Bool.not_false] at hgd))) | (refine gc_Y ?_ ?_ <;> intro _) | fail)
    (refine rt_Y (y := Q) (hrs := Tryz.results15) (hv := ?_) (hφ := ?_))
    · rfl
    · exact hE
  | true =>
    have h0 : n ≤ ts.length + 1 := by have := of_decide_eq_true t1; omega
    have hr1 := relRows_spec b r ((n : Int) - 1) Q hok hwf
    repeat' (first | (refine go_Y ?_; intros) | (refine gs_Y ?_ ?_ <;> (intro hgd; try (simp only [Bool.not_true, Bool.not_false] at hgd))) | (refine gc_Y ?_ ?_ <;> intro _) | fail)
    refine cl_Y (hr1) ?_
    rintro ⟨⟨v1, hv1⟩, l1, Q1⟩ ⟨hE1, hl1, ho1⟩
    dsimp only at hE1 hl1 ho1 ⊢
    repeat' (first | (refine go_Y ?_; intros) | (refine gs_Y ?_ ?_ <;> (intro hgd; try (simp only [Bool.not_true, Bool.not_false] at hgd))) | (refine gc_Y ?_ ?_ <;> intro _) | fail)
    have hr2 := all14o_spec bx r ((n : Int) - 1) Q1 (.slice pv (ts.map tbV).length cv) vr ts q hok (hy.ext (hE.trans hE1))
    refine cl_Y (hr2) ?_
    rintro ⟨⟨v2, hv2⟩, l2⟩ ⟨hl2, ho2⟩
    dsimp only at hl2 ho2 ⊢
    repeat' (first | (refine go_Y ?_; intros) | (refine gs_Y ?_ ?_ <;> (intro hgd; try (simp only [Bool.not_true, Bool.not_false] at hgd))) | (refine gc_Y ?_ ?_ <;> intro _) | fail)
    have heq : decide (l1.map (·.2) = l2.map (·.2)) = true := decide_eq_true (ho1.uniq ho2 rfl (.refl _))
    obtain ⟨s1, s2⟩ := ho1.small hok
    have hsm := same14_spec l1 l2 v1 v2 (row 35 1 v1 (l1.map rwV)) (row 35 1 v2 (l2.map rwV)) Q1 Vw.row Vw.row hl1 hl2 (by omega) (fun x hx => by have := s2 x hx; omega)
    rw [heq] at hsm
    refine cl_Y (hsm) ?_
    intro _ _
    repeat' (first | (refine go_Y ?_; intros) | (refine gs_Y ?_ ?_ <;> (intro hgd; try (simp only [Bool.not_true, Bool.not_false] at hgd))) | (refine gc_Y ?_ ?_ <;> intro _) | fail)
    refine cont_map (L' := [relP Q1 b r, pts bx (.cells [.slice pv (ts.map tbV).length cv, vr, .int .u64 r.turns].toArray 47), row 114 2 vr (q.map rrV), Q1] ++ R) entD ?_
    refine cont_back (n + 1, ⟨Q1, hE.trans hE1⟩) ⟨by dsimp only; omega, ⟨rfl, rfl, by show Value.int .i64 (((n : Int) - 1) + 1) = Value.int .i64 (((n + 1 : Nat) : Int) - 1); congr 1; omega, trivial⟩, rfl⟩ (by dsimp only; omega)
theorem lall2_spec (b bx : Nat) (r : Rl) (P : HProp) (hok : r.Ok) (hwf : Rl.Wf r) :
    FSpec Tryz.prog 15 [.pointer (some ⟨b, 0, none⟩), .pointer (some ⟨bx, 0, none⟩)] [relP P b r, rfP P bx r, P] HProp (fun P' => Ext P P') (fun _ => .bool true) (fun P' => [relP P' b r, rfP P' bx r, P']) := by
  refine FSpec.conseq (pre := [rfP P bx r, relP P b r, P]) (post := fun P' => [relP P' b r, rfP P' bx r, P']) (φ := fun P' => Ext P P') (ret := fun _ => .bool true) ?_ (fun R h s => s.swap) (fun y hy => ⟨y, hy, rfl, fun _ _ s => s⟩)
  refine fspec_ex ?_
  rintro ⟨⟨vs, ts, vr, q⟩, hy⟩
  unfold rfL
  dsimp only
  refine (lall_spec b bx r P vs vr ts q hok hwf hy).conseq (fun _ => entD) (fun P' hE => ⟨P', hE, rfl, fun R h s => ?_⟩)
  exact SatL.swap (rf_in (hy.ext hE) (Take.out takeD s))
end Go.Proofs.YtbagfdolcabniaaGreatDoor
/- Two schemas told apart (fascicleref13.Same); a state looked at (layer 14's looks). -/
-- @DEFS Y
set_option linter.unusedSimpArgs false
set_option linter.unusedVariables false
set_option maxRecDepth 100000
namespace Go.Proofs.YtbagfdolcabniaaGreatDoor
open Go Go.Fx Go.Proofs Go.Pl

set_option maxHeartbeats 4000000 in
theorem same13_spec (vs ws : Value) (ts us : List Tb) (A : HProp) (hA : SV A vs ts) (hB : SV A ws us) (he : us.map Tb.c = ts.map Tb.c) :
    FSpec Tryz.prog 65 [.agg #[vs], .agg #[ws]] [A] Unit (fun _ => True) (fun _ => .bool true) (fun _ => [A]) := by
  have hvw := hA.vw
  have hww := hB.vw
  have hul : us.length = ts.length := by have := congrArg List.length he; simpa using this
  have lt : (ts.map tbV).length = ts.length := by simp
  have lu : (us.map tbV).length = ts.length := by simp [hul]
  have e0 : (!decide (((ts.map tbV).length : Int) = ((us.map tbV).length : Int))) = false := by rw [lt, lu]; simp
  have htl := hA.len
  refine spec_intro [] _ Tryz.func65 rfl Tryz.ntmps65 (by rfl) (fun w0 R => ?_)
  refine ok_learn (VwIn.slice (VwIn.here hvw)) ?_
  rintro ⟨pv, cv, rfl⟩
  refine ok_learn (VwIn.slice (VwIn.here hww)) ?_
  rintro ⟨pw, cw, rfl⟩
  repeat' (first | (refine go_Y ?_; intros) | (refine gs_Y ?_ ?_ <;> (intro hgd; try (simp only [Bool.not_true, Bool.not_false] at hgd))) | (refine gc_Y ?_ ?_ <;> intro _) | fail)
  rename_i b2 b3
  refine ok_map (L' := [A, pts b2 (.cells [.slice pv (ts.map tbV).length cv].toArray 24), pts b3 (.cells [.slice pw (us.map tbV).length cw].toArray 24)] ++ R) entD ?_
  refine ok_loop' (γ := Nat) (fun n ρ L => n ≤ ts.length ∧ Knows ρ [(2, .pointer (some ⟨b2, 0, none⟩)), (3, .pointer (some ⟨b3, 0, none⟩)), (5, .int .i64 n)] ∧
      L = [A, pts b2 (.cells [.slice pv (ts.map tbV).length cv].toArray 24), pts b3 (.cells [.slice pw (us.map tbV).length cw].toArray 24)] ++ R) (fun n => ts.length - n)
    0 ⟨by omega, ⟨rfl, rfl, rfl, trivial⟩, rfl⟩ ?_
  rintro n ρ L ⟨hn, hk, rfl⟩
  refine ok_regs hk ?_
  cases t1 : decide ((n : Int) < ((ts.map tbV).length : Int)) with
  | false =>
    repeat' (first | (refine go_Y ?_; intros) | (refine gs_Y ?_ ?_ <;> (intro hgd; try (simp only [Bool.not_true, Bool.not_false] at hgd))) | (refine gc_Y ?_ ?_ <;> intro _) | fail)
    (refine rt_Y (y := ()) (hrs := Tryz.results65) (hv := ?_) (hφ := ?_))
    · rfl
    · trivial
  | true =>
    have h0 : n < ts.length := by have := of_decide_eq_true t1; omega
    have h0' : n < us.length := by omega
    have hx : (ts.map tbV)[n]? = some (tbV ts[n]) := by rw [List.getElem?_map, List.getElem?_eq_getElem h0]; rfl
    have hy : (us.map tbV)[n]? = some (tbV us[n]) := by rw [List.getElem?_map, List.getElem?_eq_getElem h0']; rfl
    have hn1 : n < (ts.map tbV).length := by omega
    have hn2 : n < (us.map tbV).length := by omega
    have hxc : us[n].c = ts[n].c := by
      have e2 := congrArg (fun l => l[n]?) he
      simp only [List.getElem?_map, List.getElem?_eq_getElem h0, List.getElem?_eq_getElem h0', Option.map_some, Option.some.injEq] at e2
      exact e2
    have htx := hA.tab _ (List.getElem_mem h0)
    have hty := hB.tab _ (List.getElem_mem h0')
    refine ok_learn (VwIn.base (n := 5) (p := pv) (len := (ts.map tbV).length) (cap := cv) (xs := ts.map tbV) (VwIn.here hvw) (by intro e; rw [e] at hn1; simp at hn1)) ?_
    rintro ⟨bu, ou, rfl⟩
    refine ok_learn (VwIn.base (n := 5) (p := pw) (len := (us.map tbV).length) (cap := cw) (xs := us.map tbV) (VwIn.here hww) (by intro e; rw [e] at hn2; simp at hn2)) ?_
    rintro ⟨bw, ow, rfl⟩
    generalize ts[n] = x at hx hxc htx
    generalize us[n] = y at hy hxc hty
    obtain ⟨xn, xc, ⟨xv, hxv⟩, xk, xr, xp⟩ := x
    obtain ⟨⟨yv, hyv⟩, rfl⟩ : ∃ yw, y = Tb.mk xn xc yw xk xr xp := by
      obtain ⟨a, b, c, d, e, f⟩ := y
      simp only [Tb.c, Tc.mk.injEq] at hxc
      obtain ⟨rfl, rfl, rfl, rfl, rfl⟩ := hxc
      exact ⟨c, rfl⟩
    have hxw := htx.vw
    have hyw := hty.vw
    have hcl := htx.len
    dsimp only [tbV] at hx hy hxw hyw hcl
    have e1 : (!(xn.toList == xn.toList)) = false := by simp
    have e2 : (!decide (xk = xk)) = false := by simp
    have e3 : (!decide (xr = xr)) = false := by simp
    have e4 : (!decide (xp = xp)) = false := by simp
    have e5 : (!decide (((xc.map coV).length : Int) = ((xc.map coV).length : Int))) = false := by simp
    have lc : (xc.map coV).length = xc.length := by simp
    refine ok_learn (VwIn.slice (VwIn.here hxw)) ?_
    rintro ⟨px, cx, rfl⟩
    refine ok_learn (VwIn.slice (VwIn.here hyw)) ?_
    rintro ⟨py, cy, rfl⟩
    repeat' (first | (refine go_Y ?_; intros) | (refine gs_Y ?_ ?_ <;> (intro hgd; try (simp only [Bool.not_true, Bool.not_false] at hgd))) | (refine gc_Y ?_ ?_ <;> intro _) | fail)
    refine ok_draw_fork (cv := []) 10 [10, 11, 12] ([A, pts b2 (.cells [.slice (some ⟨bu, ou, none⟩) (ts.map tbV).length cv].toArray 24), pts b3 (.cells [.slice (some ⟨bw, ow, none⟩) (us.map tbV).length cw].toArray 24)] ++ R) (by kernel_rfl) rfl (by decide +kernel) (by decide +kernel) (fun _ h => h) ?_
    repeat' (first | (refine go_Y ?_; intros) | (refine gs_Y ?_ ?_ <;> (intro hgd; try (simp only [Bool.not_true, Bool.not_false] at hgd))) | (refine gc_Y ?_ ?_ <;> intro _) | fail)
    refine cont_fork rfl rfl rfl rfl rfl rfl rfl (by decide) (fun _ h => h) ?_
    intro b6 b7
    repeat' (first | (refine go_Y ?_; intros) | (refine gs_Y ?_ ?_ <;> (intro hgd; try (simp only [Bool.not_true, Bool.not_false] at hgd))) | (refine gc_Y ?_ ?_ <;> intro _) | fail)
    refine ok_map (L' := [A, pts b2 (.cells [.slice (some ⟨bu, ou, none⟩) (ts.map tbV).length cv].toArray 24), pts b3 (.cells [.slice (some ⟨bw, ow, none⟩) (us.map tbV).length cw].toArray 24), pts b6 (.cells [.string xn, .slice px (xc.map coV).length cx, .int .i64 xk, .int .i64 xr, .int .i64 xp].toArray 88), pts b7 (.cells [.string xn, .slice py (xc.map coV).length cy, .int .i64 xk, .int .i64 xr, .int .i64 xp].toArray 88)] ++ R) entD ?_
    refine ok_loop' (γ := Nat) (fun m ρ L => m ≤ xc.length ∧ Knows ρ [(2, .pointer (some ⟨b2, 0, none⟩)), (3, .pointer (some ⟨b3, 0, none⟩)), (5, .int .i64 n), (6, .pointer (some ⟨b6, 0, none⟩)), (7, .pointer (some ⟨b7, 0, none⟩)), (8, .int .i64 m)] ∧
        L = [A, pts b2 (.cells [.slice (some ⟨bu, ou, none⟩) (ts.map tbV).length cv].toArray 24), pts b3 (.cells [.slice (some ⟨bw, ow, none⟩) (us.map tbV).length cw].toArray 24), pts b6 (.cells [.string xn, .slice px (xc.map coV).length cx, .int .i64 xk, .int .i64 xr, .int .i64 xp].toArray 88), pts b7 (.cells [.string xn, .slice py (xc.map coV).length cy, .int .i64 xk, .int .i64 xr, .int .i64 xp].toArray 88)] ++ R) (fun m => xc.length - m)
      0 ⟨by omega, ⟨rfl, rfl, rfl, rfl, rfl, rfl, trivial⟩, rfl⟩ ?_
    rintro m ρ L ⟨hm, hk, rfl⟩
    refine ok_regs hk ?_
    cases u1 : decide ((m : Int) < ((xc.map coV).length : Int)) with
    | false =>
      repeat' (first | (refine go_Y ?_; intros) | (refine gs_Y ?_ ?_ <;> (intro hgd; try (simp only [Bool.not_true, Bool.not_false] at hgd))) | (refine gc_Y ?_ ?_ <;> intro _) | fail)
      refine cont_map (L' := [A, pts b2 (.cells [.slice (some ⟨bu, ou, none⟩) (ts.map tbV).length cv].toArray 24), pts b3 (.cells [.slice (some ⟨bw, ow, none⟩) (us.map tbV).length cw].toArray 24)] ++ R) entD ?_
      refine cont_back (n + 1) ⟨h0, ⟨rfl, rfl, rfl, trivial⟩, rfl⟩ (by omega)
    | true =>
      have g0 : m < xc.length := by have := of_decide_eq_true u1; omega
      have hc : (xc.map coV)[m]? = some (coV xc[m]) := by rw [List.getElem?_map, List.getElem?_eq_getElem g0]; rfl
      have hm1 : m < (xc.map coV).length := by omega
      refine ok_learn (VwIn.base (n := 3) (p := px) (len := (xc.map coV).length) (cap := cx) (xs := xc.map coV) (VwIn.here hxw) (by intro e; rw [e] at hm1; simp at hm1)) ?_
      rintro ⟨bv, ov, rfl⟩
      refine ok_learn (VwIn.base (n := 3) (p := py) (len := (xc.map coV).length) (cap := cy) (xs := xc.map coV) (VwIn.here hyw) (by intro e; rw [e] at hm1; simp at hm1)) ?_
      rintro ⟨bz, oz, rfl⟩
      generalize xc[m] = c at hc
      obtain ⟨cn, ck, cb⟩ := c
      dsimp only [coV] at hc
      have hq : nilB BinOp.neq (eqL [TypeDesc.string, TypeDesc.int .u8, TypeDesc.bool] [Value.string cn, Value.int .u8 ck, Value.bool cb] [Value.string cn, Value.int .u8 ck, Value.bool cb]) = false := by simp [nilB, eqL, eqD]
      repeat' (first | (refine go_Y ?_; intros) | (refine gs_Y ?_ ?_ <;> (intro hgd; try (simp only [Bool.not_true, Bool.not_false] at hgd))) | (refine gc_Y ?_ ?_ <;> intro _) | fail)
      refine cont_back (m + 1) ⟨g0, ⟨rfl, rfl, rfl, rfl, rfl, rfl, trivial⟩, rfl⟩ (by omega)
set_option maxHeartbeats 8000000 in
theorem looks_spec (b bx : Nat) (r : Rl) (t : Int) (k : Vl) (P : HProp) (hok : r.Ok) (hwf : Rl.Wf r) (hU : UT P) (hkw : k.wf) :
    FSpec Tryz.prog 21 [.pointer (some ⟨b, 0, none⟩), .pointer (some ⟨bx, 0, none⟩), .int .i64 t, .agg (valV k).toArray] [relP P b r, rfP P bx r, P] HProp (fun P' => Ext P P') (fun _ => .bool true) (fun P' => [relP P' b r, rfP P' bx r, P']) := by
  have hg1 := relGet_spec b r t k P hok hU hkw
  have hg2 := get14_spec bx r t k P hok hwf hU hkw
  have hw1 := relWhole_spec b r P hok
  have hlen : (r.getOp t k).1.length ≤ 8 := by
    unfold Rl.getOp
    repeat' split
    all_goals (try dsimp only)
    all_goals (first | (rename_i h; exact row_len hok h) | (simp; done) | skip)
  have hof := fun Q => relOf_spec b r t k Q hok hwf
  have hoq := fun Q vs vr ts q (hy : RfOK Q r ⟨vs, ts, vr, q⟩) => of14o_spec bx r t k Q vs vr ts q hok hy
  obtain ⟨kk, ki, kr, ks⟩ := k
  generalize (r.getOp t ⟨kk, ki, kr, ks⟩) = gg at hg1 hg2 hlen
  obtain ⟨gl, ge⟩ := gg
  dsimp only [valV] at hg1 hg2 hlen hof hoq ⊢
  have e1 : (!decide (ge = ge)) = false := by simp
  have e2 : (!decide (r.turns = r.turns)) = false := by simp
  refine spec_intro [] _ Tryz.func21 rfl Tryz.ntmps21 (by rfl) (fun w0 R => ?_)
  repeat' (first | (refine go_Y ?_; intros) | (refine gs_Y ?_ ?_ <;> (intro hgd; try (simp only [Bool.not_true, Bool.not_false] at hgd))) | (refine gc_Y ?_ ?_ <;> intro _) | fail)
  rename_i b7
  refine cl_Y (hg1) ?_
  rintro ⟨v1, hv1⟩ _
  repeat' (first | (refine go_Y ?_; intros) | (refine gs_Y ?_ ?_ <;> (intro hgd; try (simp only [Bool.not_true, Bool.not_false] at hgd))) | (refine gc_Y ?_ ?_ <;> intro _) | fail)
  refine cl_Y (hg2) ?_
  rintro ⟨v2, hv2⟩ hvw2
  dsimp only at hvw2
  repeat' (first | (refine go_Y ?_; intros) | (refine gs_Y ?_ ?_ <;> (intro hgd; try (simp only [Bool.not_true, Bool.not_false] at hgd))) | (refine gc_Y ?_ ?_ <;> intro _) | fail)
  refine cl_Y (hw1) ?_
  intro _ _
  repeat' (first | (refine go_Y ?_; intros) | (refine gs_Y ?_ ?_ <;> (intro hgd; try (simp only [Bool.not_true, Bool.not_false] at hgd))) | (refine gc_Y ?_ ?_ <;> intro _) | fail)
  refine ok_map (L' := [rfP P bx r, relP P b r, row 50 4 v1 (gl.map valV), P, pts b7 (.cells [.int .u8 kk, .int .i64 ki, .int .u64 kr, .string ks].toArray 50)] ++ R) entD ?_
  refine ok_ex .here ?_
  rintro ⟨⟨vs, ts, vr, q⟩, hy⟩
  unfold rfL
  dsimp only
  have hql := hy.rq.len
  dsimp only at hql
  have hqm : (q.map rrV).length = q.length := by simp
  refine ok_learn (rowShapeS (e := 114) (n := 2) (v := vr) (xs := q.map rrV) (by decide) takeD) ?_
  rintro ⟨pr, cr, rfl, hcr, hsp⟩
  have e3 : (!decide ((r.rows.length : Int) = ((q.map rrV).length : Int))) = false := by rw [hqm, hql]; simp
  have hs := same04_spec gl gl v1 v2 (row 50 4 v1 (gl.map valV)) P Vw.row hvw2 (by omega)
  rw [show decide (gl = gl) = true from by simp] at hs
  have hwo := whole14o_spec bx r P vs (.slice pr (q.map rrV).length cr) ts q hok hwf hy
  cases hwh : r.whole with
  | true =>
    rw [hwh] at hwo
    have f1 : (!decide ((0 : Int) = 0)) = false := by decide
    have f4 : (!(true == true)) = false := by decide
    try rw [cond_true]
    try rw [cond_false]
    (apply ok_draw [21, 26, 36]; (focus (kernel_rfl)); (focus ((conv => lhs; whnf); first | done | rfl)); (focus (decide +kernel)); (focus (exact (fun _ h => h))))
    repeat' (first | (refine go_Y ?_; intros) | (refine gs_Y ?_ ?_ <;> (intro hgd; try (simp only [Bool.not_true, Bool.not_false] at hgd))) | (refine gc_Y ?_ ?_ <;> intro _) | fail)
    refine clW_Y ([pts bx (.cells [vs, .slice pr (q.map rrV).length cr, .int .u64 r.turns].toArray 47)]) (hs) ?_
    intro _ _
    repeat' (first | (refine go_Y ?_; intros) | (refine gs_Y ?_ ?_ <;> (intro hgd; try (simp only [Bool.not_true, Bool.not_false] at hgd))) | (refine gc_Y ?_ ?_ <;> intro _) | fail)
    refine clN_Y (hwo) ?_
    intro _ _
    repeat' (first | (refine go_Y ?_; intros) | (refine gs_Y ?_ ?_ <;> (intro hgd; try (simp only [Bool.not_true, Bool.not_false] at hgd))) | (refine gc_Y ?_ ?_ <;> intro _) | fail)
    refine clN_Y (relLen_spec b r P) ?_
    intro _ _
    repeat' (first | (refine go_Y ?_; intros) | (refine gs_Y ?_ ?_ <;> (intro hgd; try (simp only [Bool.not_true, Bool.not_false] at hgd))) | (refine gc_Y ?_ ?_ <;> intro _) | fail)
    refine clN_Y (relTurns_spec b r P) ?_
    intro _ _
    repeat' (first | (refine go_Y ?_; intros) | (refine gs_Y ?_ ?_ <;> (intro hgd; try (simp only [Bool.not_true, Bool.not_false] at hgd))) | (refine gc_Y ?_ ?_ <;> intro _) | fail)
    refine ok_drawL (cv := []) [3, 22] ([pts b7 (.cells [.int .u8 kk, .int .i64 ki, .int .u64 kr, .string ks].toArray 50), pts bx (.cells [vs, .slice pr (q.map rrV).length cr, .int .u64 r.turns].toArray 47)]) (takeD) (by kernel_rfl) rfl (by decide +kernel) ?_
    repeat' (first | (refine go_Y ?_; intros) | (refine gs_Y ?_ ?_ <;> (intro hgd; try (simp only [Bool.not_true, Bool.not_false] at hgd))) | (refine gc_Y ?_ ?_ <;> intro _) | fail)
    refine clN_Y (hof P) ?_
    rintro ⟨⟨u1, hu1⟩, l1, P1⟩ ⟨hE1, hl1, ho1⟩
    dsimp only at hE1 hl1 ho1 ⊢
    repeat' (first | (refine go_Y ?_; intros) | (refine gs_Y ?_ ?_ <;> (intro hgd; try (simp only [Bool.not_true, Bool.not_false] at hgd))) | (refine gc_Y ?_ ?_ <;> intro _) | fail)
    refine cl_Y (hoq P1 vs (.slice pr (q.map rrV).length cr) ts q (hy.ext hE1)) ?_
    rintro ⟨⟨u2, hu2⟩, l2⟩ ⟨hl2, ho2⟩
    dsimp only at hl2 ho2 ⊢
    repeat' (first | (refine go_Y ?_; intros) | (refine gs_Y ?_ ?_ <;> (intro hgd; try (simp only [Bool.not_true, Bool.not_false] at hgd))) | (refine gc_Y ?_ ?_ <;> intro _) | fail)
    have heq : decide (l1.map (·.2) = l2.map (·.2)) = true := decide_eq_true (ho1.uniq ho2 rfl (.refl _))
    obtain ⟨s1, s2⟩ := ho1.small hok
    have hsm := same14_spec l1 l2 u1 u2 (row 35 1 u1 (l1.map rwV)) (row 35 1 u2 (l2.map rwV)) P1 Vw.row Vw.row hl1 hl2 (by omega) (fun x hx => by have := s2 x hx; omega)
    rw [heq] at hsm
    refine cl_Y (hsm) ?_
    intro _ _
    repeat' (first | (refine go_Y ?_; intros) | (refine gs_Y ?_ ?_ <;> (intro hgd; try (simp only [Bool.not_true, Bool.not_false] at hgd))) | (refine gc_Y ?_ ?_ <;> intro _) | fail)
    refine cl_Y (relOf_spec b r t nul P1 hok hwf) ?_
    rintro ⟨⟨u3, hu3⟩, l3, P2⟩ ⟨hE2, hl3, ho3⟩
    dsimp only at hE2 hl3 ho3 ⊢
    repeat' (first | (refine go_Y ?_; intros) | (refine gs_Y ?_ ?_ <;> (intro hgd; try (simp only [Bool.not_true, Bool.not_false] at hgd))) | (refine gc_Y ?_ ?_ <;> intro _) | fail)
    refine cl_Y (of14o_spec bx r t nul P2 vs (.slice pr (q.map rrV).length cr) ts q hok (hy.ext (hE1.trans hE2))) ?_
    rintro ⟨⟨u4, hu4⟩, l4⟩ ⟨hl4, ho4⟩
    dsimp only at hl4 ho4 ⊢
    repeat' (first | (refine go_Y ?_; intros) | (refine gs_Y ?_ ?_ <;> (intro hgd; try (simp only [Bool.not_true, Bool.not_false] at hgd))) | (refine gc_Y ?_ ?_ <;> intro _) | fail)
    have heq2 : decide (l3.map (·.2) = l4.map (·.2)) = true := decide_eq_true (ho3.uniq ho4 rfl (.refl _))
    obtain ⟨s3, s4⟩ := ho3.small hok
    have hsm2 := same14_spec l3 l4 u3 u4 (row 35 1 u3 (l3.map rwV)) (row 35 1 u4 (l4.map rwV)) P2 Vw.row Vw.row hl3 hl4 (by omega) (fun x hx => by have := s4 x hx; omega)
    rw [heq2] at hsm2
    refine clW_Y ([pts bx (.cells [vs, .slice pr (q.map rrV).length cr, .int .u64 r.turns].toArray 47)]) (hsm2) ?_
    intro _ _
    repeat' (first | (refine go_Y ?_; intros) | (refine gs_Y ?_ ?_ <;> (intro hgd; try (simp only [Bool.not_true, Bool.not_false] at hgd))) | (refine gc_Y ?_ ?_ <;> intro _) | fail)
    refine clN_Y (relSchema_spec b r P2 hok) ?_
    rintro ⟨⟨v5, hv5⟩, ts5, P3⟩ ⟨hsv5, hts5, hE3⟩
    dsimp only at hsv5 hts5 hE3 ⊢
    repeat' (first | (refine go_Y ?_; intros) | (refine gs_Y ?_ ?_ <;> (intro hgd; try (simp only [Bool.not_true, Bool.not_false] at hgd))) | (refine gc_Y ?_ ?_ <;> intro _) | fail)
    have hyy := hy.ext (hE1.trans (hE2.trans hE3))
    refine cl_Y (same13_spec v5 vs ts5 ts P3 hsv5 hyy.sv (by rw [hts5]; exact hy.s)) ?_
    intro _ _
    repeat' (first | (refine go_Y ?_; intros) | (refine gs_Y ?_ ?_ <;> (intro hgd; try (simp only [Bool.not_true, Bool.not_false] at hgd))) | (refine gc_Y ?_ ?_ <;> intro _) | fail)
    refine cont_map (fun _ h => rf_in (b := bx) (r := r) (P := P3) hyy (Take.out takeD h)) ?_
    (refine rt_Y (y := P3) (hrs := Tryz.results21) (hv := ?_) (hφ := ?_))
    · rfl
    · exact hE1.trans (hE2.trans hE3)
  | false =>
    rw [hwh] at hwo
    have f1 : (!decide ((140 : Int) = 0)) = true := by decide
    have f2 : (!decide ((140 : Int) = 140)) = false := by decide
    have f4 : (!(false == false)) = false := by decide
    try rw [cond_true]
    try rw [cond_false]
    (apply ok_draw [21, 26, 36]; (focus (kernel_rfl)); (focus ((conv => lhs; whnf); first | done | rfl)); (focus (decide +kernel)); (focus (exact (fun _ h => h))))
    repeat' (first | (refine go_Y ?_; intros) | (refine gs_Y ?_ ?_ <;> (intro hgd; try (simp only [Bool.not_true, Bool.not_false] at hgd))) | (refine gc_Y ?_ ?_ <;> intro _) | fail)
    refine clW_Y ([pts bx (.cells [vs, .slice pr (q.map rrV).length cr, .int .u64 r.turns].toArray 47)]) (hs) ?_
    intro _ _
    repeat' (first | (refine go_Y ?_; intros) | (refine gs_Y ?_ ?_ <;> (intro hgd; try (simp only [Bool.not_true, Bool.not_false] at hgd))) | (refine gc_Y ?_ ?_ <;> intro _) | fail)
    refine clN_Y (hwo) ?_
    intro _ _
    repeat' (first | (refine go_Y ?_; intros) | (refine gs_Y ?_ ?_ <;> (intro hgd; try (simp only [Bool.not_true, Bool.not_false] at hgd))) | (refine gc_Y ?_ ?_ <;> intro _) | fail)
    refine clN_Y (relLen_spec b r P) ?_
    intro _ _
    repeat' (first | (refine go_Y ?_; intros) | (refine gs_Y ?_ ?_ <;> (intro hgd; try (simp only [Bool.not_true, Bool.not_false] at hgd))) | (refine gc_Y ?_ ?_ <;> intro _) | fail)
    refine clN_Y (relTurns_spec b r P) ?_
    intro _ _
    repeat' (first | (refine go_Y ?_; intros) | (refine gs_Y ?_ ?_ <;> (intro hgd; try (simp only [Bool.not_true, Bool.not_false] at hgd))) | (refine gc_Y ?_ ?_ <;> intro _) | fail)
    refine ok_drawL (cv := []) [3, 22] ([pts b7 (.cells [.int .u8 kk, .int .i64 ki, .int .u64 kr, .string ks].toArray 50), pts bx (.cells [vs, .slice pr (q.map rrV).length cr, .int .u64 r.turns].toArray 47)]) (takeD) (by kernel_rfl) rfl (by decide +kernel) ?_
    repeat' (first | (refine go_Y ?_; intros) | (refine gs_Y ?_ ?_ <;> (intro hgd; try (simp only [Bool.not_true, Bool.not_false] at hgd))) | (refine gc_Y ?_ ?_ <;> intro _) | fail)
    refine clN_Y (hof P) ?_
    rintro ⟨⟨u1, hu1⟩, l1, P1⟩ ⟨hE1, hl1, ho1⟩
    dsimp only at hE1 hl1 ho1 ⊢
    repeat' (first | (refine go_Y ?_; intros) | (refine gs_Y ?_ ?_ <;> (intro hgd; try (simp only [Bool.not_true, Bool.not_false] at hgd))) | (refine gc_Y ?_ ?_ <;> intro _) | fail)
    refine cl_Y (hoq P1 vs (.slice pr (q.map rrV).length cr) ts q (hy.ext hE1)) ?_
    rintro ⟨⟨u2, hu2⟩, l2⟩ ⟨hl2, ho2⟩
    dsimp only at hl2 ho2 ⊢
    repeat' (first | (refine go_Y ?_; intros) | (refine gs_Y ?_ ?_ <;> (intro hgd; try (simp only [Bool.not_true, Bool.not_false] at hgd))) | (refine gc_Y ?_ ?_ <;> intro _) | fail)
    have heq : decide (l1.map (·.2) = l2.map (·.2)) = true := decide_eq_true (ho1.uniq ho2 rfl (.refl _))
    obtain ⟨s1, s2⟩ := ho1.small hok
    have hsm := same14_spec l1 l2 u1 u2 (row 35 1 u1 (l1.map rwV)) (row 35 1 u2 (l2.map rwV)) P1 Vw.row Vw.row hl1 hl2 (by omega) (fun x hx => by have := s2 x hx; omega)
    rw [heq] at hsm
    refine cl_Y (hsm) ?_
    intro _ _
    repeat' (first | (refine go_Y ?_; intros) | (refine gs_Y ?_ ?_ <;> (intro hgd; try (simp only [Bool.not_true, Bool.not_false] at hgd))) | (refine gc_Y ?_ ?_ <;> intro _) | fail)
    refine cl_Y (relOf_spec b r t nul P1 hok hwf) ?_
    rintro ⟨⟨u3, hu3⟩, l3, P2⟩ ⟨hE2, hl3, ho3⟩
    dsimp only at hE2 hl3 ho3 ⊢
    repeat' (first | (refine go_Y ?_; intros) | (refine gs_Y ?_ ?_ <;> (intro hgd; try (simp only [Bool.not_true, Bool.not_false] at hgd))) | (refine gc_Y ?_ ?_ <;> intro _) | fail)
    refine cl_Y (of14o_spec bx r t nul P2 vs (.slice pr (q.map rrV).length cr) ts q hok (hy.ext (hE1.trans hE2))) ?_
    rintro ⟨⟨u4, hu4⟩, l4⟩ ⟨hl4, ho4⟩
    dsimp only at hl4 ho4 ⊢
    repeat' (first | (refine go_Y ?_; intros) | (refine gs_Y ?_ ?_ <;> (intro hgd; try (simp only [Bool.not_true, Bool.not_false] at hgd))) | (refine gc_Y ?_ ?_ <;> intro _) | fail)
    have heq2 : decide (l3.map (·.2) = l4.map (·.2)) = true := decide_eq_true (ho3.uniq ho4 rfl (.refl _))
    obtain ⟨s3, s4⟩ := ho3.small hok
    have hsm2 := same14_spec l3 l4 u3 u4 (row 35 1 u3 (l3.map rwV)) (row 35 1 u4 (l4.map rwV)) P2 Vw.row Vw.row hl3 hl4 (by omega) (fun x hx => by have := s4 x hx; omega)
    rw [heq2] at hsm2
    refine clW_Y ([pts bx (.cells [vs, .slice pr (q.map rrV).length cr, .int .u64 r.turns].toArray 47)]) (hsm2) ?_
    intro _ _
    repeat' (first | (refine go_Y ?_; intros) | (refine gs_Y ?_ ?_ <;> (intro hgd; try (simp only [Bool.not_true, Bool.not_false] at hgd))) | (refine gc_Y ?_ ?_ <;> intro _) | fail)
    refine clN_Y (relSchema_spec b r P2 hok) ?_
    rintro ⟨⟨v5, hv5⟩, ts5, P3⟩ ⟨hsv5, hts5, hE3⟩
    dsimp only at hsv5 hts5 hE3 ⊢
    repeat' (first | (refine go_Y ?_; intros) | (refine gs_Y ?_ ?_ <;> (intro hgd; try (simp only [Bool.not_true, Bool.not_false] at hgd))) | (refine gc_Y ?_ ?_ <;> intro _) | fail)
    have hyy := hy.ext (hE1.trans (hE2.trans hE3))
    refine cl_Y (same13_spec v5 vs ts5 ts P3 hsv5 hyy.sv (by rw [hts5]; exact hy.s)) ?_
    intro _ _
    repeat' (first | (refine go_Y ?_; intros) | (refine gs_Y ?_ ?_ <;> (intro hgd; try (simp only [Bool.not_true, Bool.not_false] at hgd))) | (refine gc_Y ?_ ?_ <;> intro _) | fail)
    refine cont_map (fun _ h => rf_in (b := bx) (r := r) (P := P3) hyy (Take.out takeD h)) ?_
    (refine rt_Y (y := P3) (hrs := Tryz.results21) (hv := ?_) (hφ := ?_))
    · rfl
    · exact hE1.trans (hE2.trans hE3)
end Go.Proofs.YtbagfdolcabniaaGreatDoor
