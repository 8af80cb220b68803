/- Texts merged: QcI QcK QcL QcM. -/
import Derived.Test.YtphaegcoldpclaaDoorQcP
import Derived.Test.YtphaegcoldpclaaDoorG7
import Derived.Test.YtphaegcoldpclaaDoorG9
/- The reference's state (fascicleref14): Of, Whole. -/
-- @DEFS Y
set_option linter.unusedSimpArgs false
set_option linter.unusedVariables false
set_option maxRecDepth 100000
namespace Go.Proofs.YtphaegcoldpclaaDoor
open Go Go.Fx Go.Proofs Go.Pl

/-- Does a row refer by a value? -/
def askOf (s : Sc) (t : Int) (key : Vl) (l : List Vl) : Bool := decide (0 ≤ (tabAt s t).ref) && decide ((l[(tabAt s t).ref.toNat]?).getD default = key)
end Go.Proofs.YtphaegcoldpclaaDoor
/- The reference's state (fascicleref14): Copy, CopyOps. -/
-- @DEFS Y
set_option linter.unusedSimpArgs false
set_option linter.unusedVariables false
set_option maxRecDepth 100000
namespace Go.Proofs.YtphaegcoldpclaaDoor
open Go Go.Fx Go.Proofs Go.Pl

def Rr.tl (x : Rr) : Int × List Vl := (x.t, x.l)
theorem RefQ.congr {r : Rl} {q q' : List Rr} (h : RefQ r q) (e : q'.map Rr.tl = q.map Rr.tl) : RefQ r q' := by
  have e1 : ∀ l : List Rr, l.map (Rr.pl r.s) = (l.map Rr.tl).map (fun x => ((x.1, Pl.keyOf r.s x.1 x.2), x.2)) := fun l => by rw [List.map_map]; rfl
  refine ⟨by rw [e1, e, ← e1]; exact h.perm, ?_⟩
  have h2 := h.srt
  have e2 : ∀ l : List Rr, (l.Pairwise fun x y => pltB (x.pl r.s).1 (y.pl r.s).1 = true) ↔ ((l.map (Rr.pl r.s)).Pairwise fun x y => pltB x.1 y.1 = true) := fun l => by rw [List.pairwise_map]
  rw [e2, e1] at h2
  rw [e2, e1, e]
  exact h2
abbrev G14 (A : HProp) := { g : V1s × List Rr × HProp // Ext A g.2.2 ∧ (∀ x ∈ g.2.1, Vw g.2.2 4 x.lv.1 (x.l.map valV)) }
abbrev GOp (A : HProp) := { g : V1s × List Om × HProp // Ext A g.2.2 ∧ (∀ x ∈ g.2.1, OmR g.2.2 x) }
end Go.Proofs.YtphaegcoldpclaaDoor
/- rel.Of, rel.Schema; two schemas told apart (fascicleref13.Same). -/
-- @DEFS Y
set_option linter.unusedSimpArgs false
set_option linter.unusedVariables false
set_option maxRecDepth 100000
namespace Go.Proofs.YtphaegcoldpclaaDoor
open Go Go.Fx Go.Proofs Go.Pl

/-- What the question of Of reads. -/
def ofF (b bx bt bk : Nat) (t : Int) (k : Vl) : List HProp := [pts bx (.cells [.pointer (some ⟨b, 0, none⟩)].toArray 104), pts bt (.cells [.int .i64 t].toArray 3), pts bk (.cells (valV k).toArray 71)]
set_option maxHeartbeats 2000000 in
theorem of1_spec (b bx bt bk : Nat) (vs vm : Value) (turns : Int) (ts : List Tb) (t : Int) (k : Vl) (w : Value) (l : List Vl) (A : HProp) (hsv : SV A vs ts) (hw : Vw A 4 w (l.map valV)) (hr : rowS (ts.map Tb.c) t l = true) :
    FSpec Tryd.prog 127 [w, .pointer (some ⟨bx, 0, none⟩), .pointer (some ⟨bt, 0, none⟩), .pointer (some ⟨bk, 0, none⟩)] ([pts b (.cells [vs, vm, .int .u64 turns].toArray 145), A] ++ ofF b bx bt bk t k) Unit (fun _ => True)
      (fun _ => .bool (askOf (ts.map Tb.c) t k l)) (fun _ => [pts b (.cells [vs, vm, .int .u64 turns].toArray 145), A] ++ ofF b bx bt bk t k) := by
  have hvw := hsv.vw
  have hh : hasS (ts.map Tb.c) t = true := by simp only [rowS, Bool.and_eq_true] at hr; exact hr.1
  obtain ⟨_, _, hlen⟩ := rowS_key hr
  unfold ofF
  have hax : askOf (ts.map Tb.c) t k l = (decide (0 ≤ (tabAt (ts.map Tb.c) t).ref) && decide ((l[(tabAt (ts.map Tb.c) t).ref.toNat]?).getD default = k)) := rfl
  generalize askOf (ts.map Tb.c) t k l = a at hax ⊢
  obtain ⟨tm, tb, rfl, htt, hxt, htl, hta, htok, htmem⟩ := hasS_tb hh
  have hrL := htok.refL
  rw [hta] at hax hlen
  obtain ⟨tn, cols, ⟨tcv, htcv⟩, key, ref, par⟩ := tb
  dsimp only [tbV, Tb.c] at hxt hrL hlen
  have hax : a = (decide (0 ≤ ref) && decide ((l[ref.toNat]?).getD default = k)) := hax
  cases t3 : decide (0 ≤ ref) with
  | false =>
    rw [t3, Bool.false_and] at hax
    subst hax
    obtain ⟨kk, ki, kr, ks⟩ := k
    dsimp only [valV]
    refine spec_intro [] _ Tryd.func127 rfl Tryd.ntmps127 (by rfl) (fun w0 R => ?_)
    refine ok_learn (VwIn.slice (VwIn.there (VwIn.here hvw))) ?_
    rintro ⟨pv, cv, rfl⟩
    refine ok_learn (VwIn.base (n := 5) (p := pv) (len := (ts.map tbV).length) (cap := cv) (xs := ts.map tbV) (VwIn.there (VwIn.here hvw)) (by intro e; rw [e] at htl; simp at htl)) ?_
    rintro ⟨bv, ov, rfl⟩
    repeat' (first | (refine go_Y ?_; intros) | (refine gs_Y ?_ ?_ <;> (intro hgd; try (simp only [Bool.not_true, Bool.not_false] at hgd))) | (refine gc_Y ?_ ?_ <;> intro _) | fail)
    (refine rt_Y (y := ()) (hrs := Tryd.results127) (hv := ?_) (hφ := ?_))
    · rfl
    · trivial
  | true =>
    have hr0 := of_decide_eq_true t3
    obtain ⟨rm, rfl⟩ : ∃ rm : Nat, ref = rm := ⟨ref.toNat, by omega⟩
    have hrm : rm < l.length := by omega
    have hli : l[rm]? = some l[rm] := List.getElem?_eq_getElem hrm
    have hxr : (l.map valV)[rm]? = some (valV l[rm]) := by rw [List.getElem?_map, hli]; rfl
    have hnr : rm < (l.map valV).length := by rw [List.length_map]; exact hrm
    rw [t3, Bool.true_and, Int.toNat_natCast, hli, Option.getD_some] at hax
    generalize l[rm] = u at hxr hax
    rw [← eqL_valV] at hax
    obtain ⟨uk, ui, ur, us⟩ := u
    obtain ⟨kk, ki, kr, ks⟩ := k
    dsimp only [valV] at hxr hax ⊢
    rw [hax]
    refine spec_intro [] _ Tryd.func127 rfl Tryd.ntmps127 (by rfl) (fun w0 R => ?_)
    refine ok_learn (VwIn.slice (VwIn.there (VwIn.here hvw))) ?_
    rintro ⟨pv, cv, rfl⟩
    refine ok_learn (VwIn.base (n := 5) (p := pv) (len := (ts.map tbV).length) (cap := cv) (xs := ts.map tbV) (VwIn.there (VwIn.here hvw)) (by intro e; rw [e] at htl; simp at htl)) ?_
    rintro ⟨bv, ov, rfl⟩
    refine ok_learn (VwIn.slice (VwIn.there (VwIn.here hw))) ?_
    rintro ⟨pw, cw, rfl⟩
    refine ok_learn (VwIn.base (VwIn.there (VwIn.here hw)) (by intro e; rw [e] at hnr; simp at hnr)) ?_
    rintro ⟨bw, ow, rfl⟩
    repeat' (first | (refine go_Y ?_; intros) | (refine gs_Y ?_ ?_ <;> (intro hgd; try (simp only [Bool.not_true, Bool.not_false] at hgd))) | (refine gc_Y ?_ ?_ <;> intro _) | fail)
    (refine rt_Y (y := ()) (hrs := Tryd.results127) (hv := ?_) (hφ := ?_))
    · rfl
    · trivial
theorem relSchema_spec (b : Nat) (r : Rl) (P : HProp) (hok : r.Ok) :
    FSpec Tryd.prog 87 [.pointer (some ⟨b, 0, none⟩)] [relP P b r, P] (V1s × List Tb × HProp) (fun y => SV y.2.2 y.1.1 y.2.1 ∧ y.2.1.map Tb.c = r.s ∧ Ext P y.2.2) (fun y => .agg #[y.1.1]) (fun y => [relP y.2.2 b r, y.2.2]) := by
  refine fspec_ex ?_
  rintro ⟨⟨vs, ts, m, es⟩, hy⟩
  have hy' := hy
  obtain ⟨hvc, hsv, hss, hes⟩ := hy
  dsimp only at hvc hsv hss hes
  unfold relL
  dsimp only
  have hvw := hsv.vw
  obtain ⟨ds, _, hah, h1, h12⟩ := checkS_ok hok.sch
  have hcl := relClone_spec vs ts P hsv (by rw [← hss, List.length_map] at h1; exact h1) (by rw [← hss, List.length_map] at h12; omega) (fun t ht => by have := (hah.tab t (by rw [← hss]; exact ht)).len; omega)
  refine spec_intro [] _ Tryd.func87 rfl Tryd.ntmps87 (by rfl) (fun w0 R => ?_)
  refine ok_learn (VwIn.slice (VwIn.there (VwIn.there (VwIn.here hvw)))) ?_
  rintro ⟨pv, cv, rfl⟩
  repeat' (first | (refine go_Y ?_; intros) | (refine gs_Y ?_ ?_ <;> (intro hgd; try (simp only [Bool.not_true, Bool.not_false] at hgd))) | (refine gc_Y ?_ ?_ <;> intro _) | fail)
  refine cl_Y (hcl) ?_
  rintro ⟨⟨v, hv⟩, ts', P1⟩ ⟨hsv', hmap', hE⟩
  dsimp only at hsv' hmap' hE ⊢
  refine ops_learn (VwIn.slice (n := 5) (v := v) (xs := ts'.map tbV) (VwIn.here hsv'.vw)) ?_
  rintro ⟨pv', cv', rfl⟩
  repeat' (first | (refine go_Y ?_; intros) | (refine gs_Y ?_ ?_ <;> (intro hgd; try (simp only [Bool.not_true, Bool.not_false] at hgd))) | (refine gc_Y ?_ ?_ <;> intro _) | fail)
  refine cont_map (fun _ h => rel_in (b := b) (r := r) (P := P1) (RlOK.ext hE hy') (Take.out takeD h)) ?_
  (refine rt_Y (y := (⟨.slice pv' (ts'.map tbV).length cv', rfl⟩, ts', P1)) (hrs := Tryd.results87) (hv := ?_) (hφ := ?_))
  · rfl
  · exact ⟨hsv', hmap'.trans hss, hE⟩
end Go.Proofs.YtphaegcoldpclaaDoor
/- rel.Of. -/
-- @DEFS Y
set_option linter.unusedSimpArgs false
set_option linter.unusedVariables false
set_option maxRecDepth 100000
namespace Go.Proofs.YtphaegcoldpclaaDoor
open Go Go.Fx Go.Proofs Go.Pl

theorem ofV_spec (b bx bt bk : Nat) (r : Rl) (t : Int) (k : Vl) (vs : Value) (ts : List Tb) (m : Nat) (w : Value) (l : List Vl) (A : HProp) (hsv : SV A vs ts) (hss : ts.map Tb.c = r.s) (hw : Vw A 4 w (l.map valV)) (hr : rowS r.s t l = true) :
    VSpec Tryd.prog (.func (.func 127) #[] #[.pointer (some ⟨bx, 0, none⟩), .pointer (some ⟨bt, 0, none⟩), .pointer (some ⟨bk, 0, none⟩)]) [w] [pts b (.cells [vs, .map (some m), .int .u64 r.turns].toArray 145), A, (fun h => SatL (ofF b bx bt bk t k) h)] Unit (fun _ => True)
      (fun _ => .bool (askOf r.s t k l)) (fun _ => [pts b (.cells [vs, .map (some m), .int .u64 r.turns].toArray 145), A, (fun h => SatL (ofF b bx bt bk t k) h)]) := by
  have h1 := of1_spec b bx bt bk vs (.map (some m)) r.turns ts t k w l A hsv hw (by rw [hss]; exact hr)
  rw [hss] at h1
  exact VSpec.conseq (vspec_func (args := [w]) (cap := [.pointer (some ⟨bx, 0, none⟩), .pointer (some ⟨bt, 0, none⟩), .pointer (some ⟨bk, 0, none⟩)]) h1) (fun _ _ s => s.consMono fun _ s => s.consMono fun _ s => SatL.flat s)
    (fun y _ => ⟨(), trivial, rfl, fun _ _ s => s.consMono fun _ s => s.consMono fun _ s => SatL.unflat (M := ofF b bx bt bk t k) s⟩)
/-- Of. -/
theorem relOf_spec (b : Nat) (r : Rl) (t : Int) (k : Vl) (P : HProp) (hok : r.Ok) (hwf : Rl.Wf r) :
    FSpec Tryd.prog 112 [.pointer (some ⟨b, 0, none⟩), .int .i64 t, .agg (valV k).toArray] [relP P b r, P] (V1s × List Rw × HProp) (fun y => Ext P y.2.2 ∧ (∀ x ∈ y.2.1, Vw y.2.2 4 x.1.1 (x.2.map valV)) ∧ InOrder r t (askOf r.s t k) (y.2.1.map (·.2)))
      (fun y => y.1.1) (fun y => [row 49 1 y.1.1 (y.2.1.map rwV), relP y.2.2 b r, y.2.2]) := by
  by_cases hh : hasS r.s t = true
  · have hof := fun bx bt bk => someF_spec b r t (.func (.func 127) #[] #[.pointer (some ⟨bx, 0, none⟩), .pointer (some ⟨bt, 0, none⟩), .pointer (some ⟨bk, 0, none⟩)]) rfl (askOf r.s t k) P (fun h => SatL (ofF b bx bt bk t k) h) hok hwf hh (fun vs ts m w l A hsv hss hw hr => ofV_spec b bx bt bk r t k vs ts m w l A hsv hss hw hr)
    obtain ⟨kk, ki, kr, ks⟩ := k
    dsimp only [valV]
    refine spec_intro [] _ Tryd.func112 rfl Tryd.ntmps112 (by rfl) (fun w0 R => ?_)
    repeat' (first | (refine go_Y ?_; intros) | (refine gs_Y ?_ ?_ <;> (intro hgd; try (simp only [Bool.not_true, Bool.not_false] at hgd))) | (refine gc_Y ?_ ?_ <;> intro _) | fail)
    rename_i bx bt bk
    refine opsL_map (L' := (fun h => SatL (ofF b bx bt bk t ⟨kk, ki, kr, ks⟩) h) :: ([relP P b r, P] ++ R)) (fun _ h => SatL.unflat (M := ofF b bx bt bk t ⟨kk, ki, kr, ks⟩) (Take.out takeD h)) ?_
    refine cl_Y (hof bx bt bk) ?_
    rintro ⟨⟨v, hv⟩, l, Q⟩ ⟨h1, h2, h3⟩
    dsimp only at h1 h2 h3 ⊢
    repeat' (first | (refine go_Y ?_; intros) | (refine gs_Y ?_ ?_ <;> (intro hgd; try (simp only [Bool.not_true, Bool.not_false] at hgd))) | (refine gc_Y ?_ ?_ <;> intro _) | fail)
    (refine rt_Y (y := (⟨v, hv⟩, l, Q)) (hrs := Tryd.results112) (hv := ?_) (hφ := ?_))
    · rfl
    · exact ⟨h1, h2, h3⟩
  · have ht : t < 0 ∨ (r.s.length : Int) ≤ t := by
      simp only [hasS, hok.sch, Bool.true_and, Bool.and_eq_true, decide_eq_true_eq] at hh
      omega
    have hs := fun bx bt bk => some_none b r t (.func (.func 127) #[] #[.pointer (some ⟨bx, 0, none⟩), .pointer (some ⟨bt, 0, none⟩), .pointer (some ⟨bk, 0, none⟩)]) rfl P hok ht
    have hr := rows_none hok (ask := askOf r.s t k) ht
    obtain ⟨kk, ki, kr, ks⟩ := k
    dsimp only [valV]
    refine spec_intro [] _ Tryd.func112 rfl Tryd.ntmps112 (by rfl) (fun w0 R => ?_)
    repeat' (first | (refine go_Y ?_; intros) | (refine gs_Y ?_ ?_ <;> (intro hgd; try (simp only [Bool.not_true, Bool.not_false] at hgd))) | (refine gc_Y ?_ ?_ <;> intro _) | fail)
    rename_i bx bt bk
    refine cl_Y (hs bx bt bk) ?_
    intro _ _
    repeat' (first | (refine go_Y ?_; intros) | (refine gs_Y ?_ ?_ <;> (intro hgd; try (simp only [Bool.not_true, Bool.not_false] at hgd))) | (refine gc_Y ?_ ?_ <;> intro _) | fail)
    refine cont_map (fun _ h => nilRow (e := 49) (n := 1) h) ?_
    (refine rt_Y (y := (⟨.slice none 0 0, rfl⟩, [], P)) (hrs := Tryd.results112) (hv := ?_) (hφ := ?_))
    · rfl
    · exact ⟨Ext.refl P, fun _ h => by simp at h, ⟨by rw [hr]; exact .refl _, .nil⟩⟩
instance coEq : SEq Tryd.prog 118 [.string, .int .u8, .bool] := ⟨by kernel_rfl⟩
end Go.Proofs.YtphaegcoldpclaaDoor
