/- Texts merged: PhA PhB PhD PhE. -/
import Derived.Test.YtphaegcoldpclaaGreatDoorG16
import Derived.Test.YtphaegcoldpclaaGreatDoorG18
import Derived.Test.YtphaegcoldpclaaGreatDoorG19
import Derived.Test.YtphaegcoldpclaaGreatDoorG13
import Derived.Test.YtphaegcoldpclaaGreatDoorG12
set_option linter.unusedSimpArgs false
set_option linter.unusedVariables false
set_option maxRecDepth 100000
namespace Go.Proofs.YtphaegcoldpclaaGreatDoor
open Go Go.Fx Go.Proofs Go.Pl

section
variable {X : Cx} {ops : Array Oper} {nb : NB} {N : Act → World → Prop} {i : Nat} {os : List Oper} {Ls : List HProp} {ds : List Deferred} {ρ : Regs} {L L' : List HProp} {Q : Exit → Act → World → Prop}
theorem cont_poolR {e : Exit} {ty n : Nat} {v : Value} {xs : List (List Value)} {P : HProp} (t : Take L [row ty n v xs, P] L') (h : ∀ P', Ext P P' → Vw P' n v xs → Cont X Q e ds ρ (P' :: L')) : Cont X Q e ds ρ L :=
  cont_map (fun _ s => pool_in (Take.out2 t s)) (h _ (Ext.pool _ _) pool_row)
theorem ops_poolR {ty n : Nat} {v : Value} {xs : List (List Value)} {P : HProp} (t : Take L [row ty n v xs, P] L') (h : ∀ P', Ext P P' → Vw P' n v xs → OpsL X ops nb N i os Ls ds ρ (P' :: L')) : OpsL X ops nb N i os Ls ds ρ L :=
  opsL_mapL (fun _ s => pool_in (Take.out2 t s)) (h _ (Ext.pool _ _) pool_row)
end
def doerV (bk br bs bd : Nat) : Value := .func (.func 78) #[] #[.pointer (some ⟨bk, 0, none⟩), .pointer (some ⟨br, 0, none⟩), .pointer (some ⟨bs, 0, none⟩), .pointer (some ⟨bd, 0, none⟩)]
structure DoerF (F : HProp) (b bk br bs bd : Nat) (vs kv : Value) (ks : List V1s) (s : Sc) : Prop where
  rk : Rd F bk (.cells [kv].toArray 143)
  rr : Rd F br (.cells [.pointer (some ⟨b, 0, none⟩)].toArray 31)
  rs : Rd F bs (.cells [vs].toArray 24)
  rd : Rd F bd (.cells [doerV bk br bs bd].toArray 96)
  kl : ks.length = s.length
  kv : Vw F 1 kv (ks.map fun x : V1s => [x.1])
def KW (P : HProp) (ks : List V1s) (s : Sc) : Prop := ∀ (n : Nat) (x : V1s), ks[n]? = some x → Vw P 1 x.1 ((kidsS s n).map cnV)
theorem KW.ext {P P' : HProp} (a : Ext P P') {ks : List V1s} {s : Sc} (h : KW P ks s) : KW P' ks s := fun n x hx => a.vw (h n x hx)
abbrev DmP := Dm × HProp
abbrev GD (P : HProp) := { g : V1s × List Dm × HProp // Ext P g.2.2 ∧ ∀ x ∈ g.2.1, DocR g.2.2 x }
theorem good3 {a c d : Value} (h : oneCells [a, c, d] = true) : goodB 3 [[a, c, d]] = true := by
  simp only [goodB, List.all_cons, List.all_nil, Bool.and_true, h]; rfl
theorem kidsS_len (s : Sc) (t : Int) : (kidsS s t).length ≤ s.length := kidsUp_len s t s.length
theorem take_succ_flat {α β : Type} {l : List α} {i : Nat} {x : α} (h : l[i]? = some x) (f : α → List β) : (l.take (i + 1)).flatMap f = (l.take i).flatMap f ++ f x := by
  obtain ⟨hi, rfl⟩ := List.getElem?_eq_some_iff.1 h
  rw [List.take_succ_eq_append_getElem hi, List.flatMap_append]
  simp
theorem docs_mono {P Q : HProp} (a : Ext P Q) {l : List Dm} (h : ∀ x ∈ l, DocR P x) : ∀ x ∈ l, DocR Q x := fun x hx => (h x hx).ext a
set_option maxHeartbeats 16000000 in
theorem doc1_spec {r : Rl} {R0 : List Pr2} (hR : RowsQ r R0) (hok : r.Ok) (hwf : Rl.Wf r) (F : HProp) (b bk br bs bd : Nat) (vs kv : Value) (ts : List Tb) (ks : List V1s) (hF : DoerF F b bk br bs bd vs kv ks r.s) (hss : ts.map Tb.c = r.s) :
    ∀ (n : Nat) (P : HProp) (t : Int) (w : V1s) (row0 : List Vl), (t, row0) ∈ R0 → (r.s.length : Int) ≤ t + n → SV P vs ts → KW P ks r.s → Vw P 4 w.1 (row0.map valV) →
      FSpec Tryz.prog 78 [.int .i64 t, w.1, .pointer (some ⟨bk, 0, none⟩), .pointer (some ⟨br, 0, none⟩), .pointer (some ⟨bs, 0, none⟩), .pointer (some ⟨bd, 0, none⟩)] [relP P b r, P, F] DmP
        (fun y => Ext P y.2 ∧ DocR y.2 y.1 ∧ y.1.c = docS r.s R0 n t row0) (fun y => .agg (docV y.1).toArray) (fun y => [relP y.2 b r, y.2, F]) := by
  intro n
  induction n with
  | zero =>
    intro P t w row0 hm hn _ _ _
    have := (hR.ok.tab _ hm).2
    dsimp only at this
    omega
  | succ n ih =>
  intro P t w row0 hm hn hsv hkw0 hw
  obtain ⟨w, hwc⟩ := w
  dsimp only at hw ⊢
  have hro := hR.row _ hm
  dsimp only at hro
  have hh : hasS (ts.map Tb.c) t = true := by rw [hss]; simp only [rowS, Bool.and_eq_true] at hro; exact hro.1
  obtain ⟨hk1, hk2, hlen⟩ := rowS_key hro
  have hdoc : docS r.s R0 (n + 1) t row0 = .mk t row0 ((kidsS r.s t).flatMap fun c => (ofR R0 c (askOf r.s c (Pl.keyOf r.s t row0))).map (docS r.s R0 n c)) := rfl
  have hkw : (Pl.keyOf r.s t row0).wf := by
    have hx : ((t, Pl.keyOf r.s t row0), row0) ∈ r.rows := aget_mem ((hR.mem _).1 hm)
    exact hwf _ hx _ (List.mem_of_getElem? hk2)
  have hrw : ∀ v ∈ row0, v.text.size ≤ 140737488355328 := fun v hv => (hwf _ (aget_mem ((hR.mem _).1 hm)) v hv).t
  obtain ⟨dep, _, hdep⟩ := dep_ex hR.ok.sch
  have hrl0 : row0.length ≤ 8 := row_len hok ((hR.mem _).1 hm)
  have hslen : r.s.length ≤ 12 := by obtain ⟨_, _, _, _, h12⟩ := checkS_ok hok.sch; exact h12
  have hkidL := kidsS_len r.s t
  rw [hdoc]
  generalize Pl.keyOf r.s t row0 = key at hk1 hk2 hkw hdoc ⊢
  obtain ⟨tm, tb, rfl, htt, hxt, htl, hta, htok, htmem⟩ := hasS_tb hh
  have k0 := htok.key0
  have kL := htok.keyL
  rw [hss] at hta
  rw [hta] at hk2 hlen
  have htsl : ts.length = r.s.length := by rw [← hss, List.length_map]
  have hkt : tm < ks.length := by rw [hF.kl, ← htsl]; rw [List.length_map] at htl; exact htl
  have hkx : (ks.map fun x : V1s => [x.1])[tm]? = some [ks[tm].1] := by rw [List.getElem?_map, List.getElem?_eq_getElem hkt]; rfl
  have hkv := hkw0 tm _ (List.getElem?_eq_getElem hkt)
  have hkn : tm < (ks.map fun x : V1s => [x.1]).length := by rw [List.length_map]; exact hkt
  obtain ⟨tn, cols, ⟨cv, hcv⟩, tkey, ref, par⟩ := tb
  dsimp only [tbV, Tb.c] at hxt k0 kL hk2 hlen
  obtain ⟨km, rfl⟩ : ∃ km : Nat, tkey = km := ⟨tkey.toNat, by omega⟩
  rw [Int.toNat_natCast] at hk2
  have hkl := (List.getElem?_eq_some_iff.1 hk2).1
  have hnk : km < (row0.map valV).length := by rw [List.length_map]; exact hkl
  have hxk : (row0.map valV)[km]? = some (valV key) := by rw [List.getElem?_map, hk2]; rfl
  have hrk := hF.rk
  have hrr := hF.rr
  have hrs := hF.rs
  have hrd := hF.rd
  have hfv := hF.kv
  have hof := fun (c : Int) (Q : HProp) => relOf_spec b r c key Q hok hwf
  have hco : ∀ c l, InOrder r c (askOf r.s c key) l → l = ofR R0 c (askOf r.s c key) := fun c l h => h.uniq (hR.ord c _) rfl (.refl _)
  generalize ks[tm] = kx at hkx hkv
  obtain ⟨kx, hkc⟩ := kx
  dsimp only at hkx hkv
  obtain ⟨kk, ki, kr, ks'⟩ := key
  dsimp only [valV] at hxk hof
  refine spec_intro [] _ Tryz.func78 rfl Tryz.ntmps78 (by rfl) (fun w0 R => ?_)
  refine ok_learn (VwIn.slice (VwIn.there (VwIn.there (VwIn.here hfv)))) ?_
  rintro ⟨pk, ck, rfl⟩
  refine ok_learn (VwIn.base (n := 1) (xs := ks.map fun x : V1s => [x.1]) (VwIn.there (VwIn.there (VwIn.here hfv))) (by intro e; rw [e] at hkn; simp at hkn)) ?_
  rintro ⟨bu, ou, rfl⟩
  refine ok_learn (VwIn.slice (VwIn.there (VwIn.here hkv))) ?_
  rintro ⟨px, cx, rfl⟩
  refine ok_learn (VwIn.slice (VwIn.there (VwIn.here hw))) ?_
  rintro ⟨pw, cw, rfl⟩
  repeat' (first | (refine go_Y ?_; intros) | (refine gs_Y ?_ ?_ <;> (intro hgd; try (simp only [Bool.not_true, Bool.not_false] at hgd))) | (refine gc_Y ?_ ?_ <;> intro _) | fail)
  rename_i b8 b9
  refine ok_map (fun _ h => nilRow (e := 44) (n := 3) h) ?_
  refine ok_map (L' := [relP P b r, P, F, row 44 3 (.slice none 0 0) [], pts b9 (.cells [.int .i64 (tm : Int), .slice pw (row0.map valV).length cw, .slice none 0 0].toArray 44), pts b8 (.cells [.int .i64 0, .slice none 0 0, .slice none 0 0].toArray 44)] ++ R) entD ?_
  refine ok_loop' (γ := Nat × GD P) (fun g ρ L => g.1 ≤ (kidsS r.s tm).length ∧ g.2.1.2.1.map Dm.c = ((kidsS r.s tm).take g.1).flatMap (fun c => (ofR R0 c (askOf r.s c ⟨kk, ki, kr, ks'⟩)).map (docS r.s R0 n c)) ∧ g.2.1.2.1.length ≤ 200 * g.1 ∧
      Knows ρ [(0, .int .i64 (tm : Int)), (1, .slice pw (row0.map valV).length cw), (2, .pointer (some ⟨bk, 0, none⟩)), (3, .pointer (some ⟨br, 0, none⟩)), (4, .pointer (some ⟨bs, 0, none⟩)), (5, .pointer (some ⟨bd, 0, none⟩)), (8, .pointer (some ⟨b8, 0, none⟩)), (9, .pointer (some ⟨b9, 0, none⟩)), (20, .slice px ((kidsS r.s tm).map cnV).length cx), (21, .int .i64 (((kidsS r.s tm).map cnV).length : Int)), (22, .int .i64 g.1)] ∧
      L = [relP g.2.1.2.2 b r, g.2.1.2.2, F, row 44 3 g.2.1.1.1 (g.2.1.2.1.map docV), pts b9 (.cells [.int .i64 (tm : Int), .slice pw (row0.map valV).length cw, g.2.1.1.1].toArray 44), pts b8 (.cells [.int .i64 0, .slice none 0 0, .slice none 0 0].toArray 44)] ++ R) (fun g => (kidsS r.s tm).length - g.1)
    (0, ⟨(⟨.slice none 0 0, rfl⟩, [], P), Ext.refl P, fun _ h => by simp at h⟩) ⟨by simp, rfl, by simp, ⟨rfl, rfl, rfl, rfl, rfl, rfl, rfl, rfl, rfl, rfl, rfl, trivial⟩, rfl⟩ ?_
  rintro ⟨i, ⟨⟨v, hv⟩, acc, Q⟩, hE, hacc⟩ ρ L ⟨hi, he, hal, hk, rfl⟩
  dsimp only at hE hacc hi he hal hk ⊢
  refine ok_regs hk ?_
  have lkm : ((kidsS r.s tm).map cnV).length = (kidsS r.s tm).length := by simp
  have hwQ := hE.vw hw
  have hsvQ := hsv.ext hE
  cases t1 : decide ((i : Int) < (((kidsS r.s tm).map cnV).length : Int)) with
  | false =>
    have hie : i = (kidsS r.s tm).length := by have := of_decide_eq_false t1; omega
    rw [hie, List.take_length] at he
    repeat' (first | (refine go_Y ?_; intros) | (refine gs_Y ?_ ?_ <;> (intro hgd; try (simp only [Bool.not_true, Bool.not_false] at hgd))) | (refine gc_Y ?_ ?_ <;> intro _) | fail)
    refine cont_poolR (ty := 44) (n := 3) (v := v) (xs := acc.map docV) (P := Q) takeD ?_
    intro Q' hQ' hvk
    refine cont_map (fun _ h => relP_ext hQ' (b := b) (r := r) (Take.out1 (A := relP Q b r) takeD h)) ?_
    (refine rt_Y (y := (Dm.mk (tm : Int) ⟨.slice pw (row0.map valV).length cw, rfl⟩ row0 ⟨v, hv⟩ acc, Q')) (hrs := Tryz.results78) (hv := ?_) (hφ := ?_))
    · rfl
    · refine ⟨hE.trans hQ', .mk (hQ'.vw hwQ) hvk (docs_mono hQ' hacc) (by omega) (by omega) hrw, ?_⟩
      simp only [Dm.c, cK_map, he]
  | true =>
    have h0 : i < (kidsS r.s tm).length := by have := of_decide_eq_true t1; omega
    have hci : (kidsS r.s tm)[i]? = some (kidsS r.s tm)[i] := List.getElem?_eq_getElem h0
    have hcx : ((kidsS r.s tm).map cnV)[i]? = some (cnV (kidsS r.s tm)[i]) := by rw [List.getElem?_map, hci]; rfl
    have hcn : i < ((kidsS r.s tm).map cnV).length := by omega
    have hst := take_succ_flat hci (fun c => (ofR R0 c (askOf r.s c ⟨kk, ki, kr, ks'⟩)).map (docS r.s R0 n c))
    obtain ⟨⟨c0, c1⟩, hcp⟩ := mem_kidsS.1 (List.mem_of_getElem? hci)
    generalize (kidsS r.s tm)[i] = c at hci hcx hst c0 c1 hcp
    dsimp only [cnV] at hcx
    have hctm : (tm : Int) < c := by
      rcases hdep c c0 c1 with ⟨_, h2⟩ | ⟨_, _, h3, _⟩
      · omega
      · omega
    have hof1 := hof c Q
    have hkvQ := hE.vw hkv
    have hvwQ := hsvQ.vw
    refine ok_learn (VwIn.base (n := 1) (xs := (kidsS r.s tm).map cnV) (VwIn.there (VwIn.here (hE.vw hkv))) (by intro e; rw [e] at hcn; simp at hcn)) ?_
    rintro ⟨bx, ox, rfl⟩
    refine ok_learn (VwIn.slice (VwIn.there (VwIn.here hvwQ))) ?_
    rintro ⟨pv, cvv, rfl⟩
    refine ok_learn (VwIn.base (n := 5) (xs := ts.map tbV) (VwIn.there (VwIn.here hvwQ)) (by intro e; rw [e] at htl; simp at htl)) ?_
    rintro ⟨bv, ov, rfl⟩
    refine ok_learn (VwIn.base (n := 4) (xs := row0.map valV) (VwIn.there (VwIn.here hwQ)) (by intro e; rw [e] at hnk; simp at hnk)) ?_
    rintro ⟨bw, ow, rfl⟩
    repeat' (first | (refine go_Y ?_; intros) | (refine gs_Y ?_ ?_ <;> (intro hgd; try (simp only [Bool.not_true, Bool.not_false] at hgd))) | (refine gc_Y ?_ ?_ <;> intro _) | fail)
    refine cl_Y (hof1) ?_
    rintro ⟨⟨vl, hvl⟩, l, Q1⟩ ⟨hQ1, hlw, hlo⟩
    dsimp only at hQ1 hlw hlo ⊢
    have hll := rowsAt_len hok c (askOf r.s c ⟨kk, ki, kr, ks'⟩)
    have hll2 := hlo.perm.length_eq
    rw [List.length_map] at hll2
    have hlo := hco c _ hlo
    have llm : (l.map rwV).length = l.length := by simp
    refine ops_learn (rowShapeS (e := 42) (n := 1) (v := vl) (xs := l.map rwV) (by decide) takeD) ?_
    rintro ⟨pl, cl, rfl, hcl, hsl⟩
    repeat' (first | (refine go_Y ?_; intros) | (refine gs_Y ?_ ?_ <;> (intro hgd; try (simp only [Bool.not_true, Bool.not_false] at hgd))) | (refine gc_Y ?_ ?_ <;> intro _) | fail)
    have hE1 := hE.trans hQ1
    refine ok_map (L' := [relP Q1 b r, Q1, F, row 44 3 v (acc.map docV), pts b9 (.cells [.int .i64 (tm : Int), .slice (some ⟨bw, ow, none⟩) (row0.map valV).length cw, v].toArray 44), row 42 1 (.slice pl (l.map rwV).length cl) (l.map rwV), pts b8 (.cells [.int .i64 0, .slice none 0 0, .slice none 0 0].toArray 44)] ++ R) entD ?_
    refine ok_loop' (γ := Nat × GD Q1) (fun g ρ L => g.1 ≤ l.length ∧ g.2.1.2.1.map Dm.c = acc.map Dm.c ++ ((l.take g.1).map (·.2)).map (docS r.s R0 n c) ∧ g.2.1.2.1.length ≤ 200 * i + g.1 ∧
        Knows ρ [(0, .int .i64 (tm : Int)), (1, .slice (some ⟨bw, ow, none⟩) (row0.map valV).length cw), (2, .pointer (some ⟨bk, 0, none⟩)), (3, .pointer (some ⟨br, 0, none⟩)), (4, .pointer (some ⟨bs, 0, none⟩)), (5, .pointer (some ⟨bd, 0, none⟩)), (8, .pointer (some ⟨b8, 0, none⟩)), (9, .pointer (some ⟨b9, 0, none⟩)), (11, .int .i64 c), (20, .slice (some ⟨bx, ox, none⟩) ((kidsS r.s tm).map cnV).length cx), (21, .int .i64 (((kidsS r.s tm).map cnV).length : Int)), (22, .int .i64 i), (37, .slice pl (l.map rwV).length cl), (38, .int .i64 ((l.map rwV).length : Int)), (39, .int .i64 g.1)] ∧
        L = [relP g.2.1.2.2 b r, g.2.1.2.2, F, row 44 3 g.2.1.1.1 (g.2.1.2.1.map docV), pts b9 (.cells [.int .i64 (tm : Int), .slice (some ⟨bw, ow, none⟩) (row0.map valV).length cw, g.2.1.1.1].toArray 44), row 42 1 (.slice pl (l.map rwV).length cl) (l.map rwV), pts b8 (.cells [.int .i64 0, .slice none 0 0, .slice none 0 0].toArray 44)] ++ R) (fun g => l.length - g.1)
      (0, ⟨(⟨v, hv⟩, acc, Q1), Ext.refl Q1, docs_mono hQ1 hacc⟩) ⟨by simp, by simp, by dsimp only; omega, ⟨rfl, rfl, rfl, rfl, rfl, rfl, rfl, rfl, rfl, rfl, rfl, rfl, rfl, rfl, rfl, trivial⟩, rfl⟩ ?_
    rintro ⟨j, ⟨⟨v2, hv2⟩, acc2, Q2⟩, hE2, hacc2⟩ ρ L ⟨hj, he2, hal2, hk, rfl⟩
    dsimp only at hE2 hacc2 hj he2 hal2 hk ⊢
    refine ok_regs hk ?_
    cases t2 : decide ((j : Int) < ((l.map rwV).length : Int)) with
    | false =>
      have hje : j = l.length := by have := of_decide_eq_false t2; omega
      rw [hje, List.take_length, hlo, he, ← hst] at he2
      repeat' (first | (refine go_Y ?_; intros) | (refine gs_Y ?_ ?_ <;> (intro hgd; try (simp only [Bool.not_true, Bool.not_false] at hgd))) | (refine gc_Y ?_ ?_ <;> intro _) | fail)
      refine cont_map (L' := [relP Q2 b r, Q2, F, row 44 3 v2 (acc2.map docV), pts b9 (.cells [.int .i64 (tm : Int), .slice (some ⟨bw, ow, none⟩) (row0.map valV).length cw, v2].toArray 44), pts b8 (.cells [.int .i64 0, .slice none 0 0, .slice none 0 0].toArray 44)] ++ R) entD ?_
      refine cont_back (i + 1, ⟨(⟨v2, hv2⟩, acc2, Q2), hE1.trans hE2, hacc2⟩) ⟨h0, he2, by dsimp only; omega, ⟨rfl, rfl, rfl, rfl, rfl, rfl, rfl, rfl, rfl, rfl, rfl, trivial⟩, rfl⟩ (by show (kidsS r.s tm).length - (i + 1) < (kidsS r.s tm).length - i; omega)
    | true =>
      have hj0 : j < l.length := by have := of_decide_eq_true t2; omega
      have hlj : l[j]? = some l[j] := List.getElem?_eq_getElem hj0
      have hjx : (l.map rwV)[j]? = some (rwV l[j]) := by rw [List.getElem?_map, hlj]; rfl
      have hjn : j < (l.map rwV).length := by omega
      have hst2 : (l.take (j + 1)).map (·.2) = (l.take j).map (·.2) ++ [l[j].2] := by rw [List.take_succ_eq_append_getElem hj0, List.map_append]; rfl
      have hmR : (c, l[j].2) ∈ R0 := (mem_ofR.1 (by rw [← hlo]; exact List.mem_map_of_mem (List.getElem_mem hj0))).1
      have hlv := hE2.vw (hlw _ (List.getElem_mem hj0))
      have hdo := ih Q2 c l[j].1 l[j].2 hmR (by omega) (hsvQ.ext (hQ1.trans hE2)) (hkw0.ext (hE1.trans hE2)) hlv
      refine ok_learn (VwIn.base (n := 1) (p := pl) (len := (l.map rwV).length) (cap := cl) (xs := l.map rwV) (VwIn.there (VwIn.there (VwIn.there (VwIn.there (VwIn.there (VwIn.here Vw.row)))))) (by intro e; rw [e] at hjn; simp at hjn)) ?_
      rintro ⟨bl, ol, rfl⟩
      generalize l[j] = x at hlj hjx hst2 hmR hlv hdo
      obtain ⟨⟨xv, hxv⟩, xl⟩ := x
      dsimp only [rwV] at hjx hst2 hlv hdo
      have hdv := vspec_func (P := Tryz.prog) (f := 78) (args := [.int .i64 c, xv]) (cap := [.pointer (some ⟨bk, 0, none⟩), .pointer (some ⟨br, 0, none⟩), .pointer (some ⟨bs, 0, none⟩), .pointer (some ⟨bd, 0, none⟩)]) hdo
      have lac : (acc2.map docV).length = acc2.length := by simp
      repeat' (first | (refine go_Y ?_; intros) | (refine gs_Y ?_ ?_ <;> (intro hgd; try (simp only [Bool.not_true, Bool.not_false] at hgd))) | (refine gc_Y ?_ ?_ <;> intro _) | fail)
      refine ok_drawL (cv := []) [5, 6] ([pts b9 (.cells [.int .i64 (tm : Int), .slice (some ⟨bw, ow, none⟩) (row0.map valV).length cw, v2].toArray 44), F]) (takeD) (by kernel_rfl) rfl (by decide +kernel) ?_
      repeat' (first | (refine go_Y ?_; intros) | (refine gs_Y ?_ ?_ <;> (intro hgd; try (simp only [Bool.not_true, Bool.not_false] at hgd))) | (refine gc_Y ?_ ?_ <;> intro _) | fail)
      refine clVN_Y (hdv) ?_
      rintro ⟨d, Q3⟩ ⟨hQ3, hdR, hdc⟩
      dsimp only at hQ3 hdR hdc ⊢
      obtain ⟨dt, ⟨dlv, hdlv⟩, drow, ⟨dkv, hdkv⟩, dk⟩ := d
      dsimp only [docV] at hdR hdc ⊢
      have hone : oneCells [Value.int .i64 dt, dlv, dkv] = true := by
        simp only [oneCells, List.all_cons, List.all_nil, hdlv, hdkv, Bool.and_true]; rfl
      have hgb := good3 hone
      repeat' (first | (refine go_Y ?_; intros) | (refine gs_Y ?_ ?_ <;> (intro hgd; try (simp only [Bool.not_true, Bool.not_false] at hgd))) | (refine gc_Y ?_ ?_ <;> intro _) | fail)
      rename_i v4 hv4 v5 hv5
      refine cont_map (L' := [relP Q3 b r, Q3, F, row 44 3 v5 ((acc2 ++ ([.mk dt ⟨dlv, hdlv⟩ drow ⟨dkv, hdkv⟩ dk] : List Dm)).map docV), pts b9 (.cells [.int .i64 (tm : Int), .slice (some ⟨bw, ow, none⟩) (row0.map valV).length cw, v5].toArray 44), row 42 1 (.slice (some ⟨bl, ol, none⟩) (l.map rwV).length cl) (l.map rwV), pts b8 (.cells [.int .i64 0, .slice none 0 0, .slice none 0 0].toArray 44)] ++ R) (by rw [List.map_append]; exact entD) ?_
      refine cont_back (j + 1, ⟨(⟨v5, hv5⟩, acc2 ++ ([.mk dt ⟨dlv, hdlv⟩ drow ⟨dkv, hdkv⟩ dk] : List Dm), Q3), hE2.trans hQ3, fun x hx => ?_⟩) ⟨hj0, ?_, by dsimp only; rw [List.length_append, List.length_singleton]; omega, ⟨rfl, rfl, rfl, rfl, rfl, rfl, rfl, rfl, rfl, rfl, rfl, rfl, rfl, rfl, rfl, trivial⟩, rfl⟩ (by show l.length - (j + 1) < l.length - j; omega)
      · rcases List.mem_append.1 hx with hx | hx
        · exact (hacc2 x hx).ext hQ3
        · rw [List.mem_singleton] at hx; subst hx; exact hdR
      · dsimp only
        rw [List.map_append, he2, hst2, List.map_append, ← List.append_assoc, List.map_cons, List.map_nil, hdc]
        rfl
end Go.Proofs.YtphaegcoldpclaaGreatDoor
set_option linter.unusedSimpArgs false
set_option linter.unusedVariables false
set_option maxRecDepth 100000
namespace Go.Proofs.YtphaegcoldpclaaGreatDoor
open Go Go.Fx Go.Proofs Go.Pl

theorem Rd.of {M : List HProp} {b : Nat} {o : Obj} (h : RdIn M b o) : Rd (fun h => SatL M h) b o := fun _ s => h.satL s
theorem Vw.of {M : List HProp} {n : Nat} {v : Value} {xs : List (List Value)} (h : VwIn M n v xs) : Vw (fun h => SatL M h) n v xs := fun _ s => h.satL s
def DoerC (r : Rl) (R0 : List Pr2) (b : Nat) (fv : Value) (F P : HProp) : Prop := ∀ (Q : HProp) (t : Int) (w : V1s) (row0 : List Vl), Ext P Q → (t, row0) ∈ R0 → Vw Q 4 w.1 (row0.map valV) →
  VSpec Tryz.prog fv [.int .i64 t, w.1] [relP Q b r, Q, F] DmP (fun y => Ext Q y.2 ∧ DocR y.2 y.1 ∧ y.1.c = docS r.s R0 r.s.length t row0) (fun y => .agg (docV y.1).toArray) (fun y => [relP y.2 b r, y.2, F])
structure DrY where
  fv : Value
  F : HProp
  P : HProp
theorem set_app {α : Type} {a : List α} {z y : α} {m : Nat} (h : 0 < m) : (a ++ List.replicate m z).set a.length y = (a ++ [y]) ++ List.replicate (m - 1) z := by
  obtain ⟨k, rfl⟩ : ∃ k, m = k + 1 := ⟨m - 1, by omega⟩
  rw [List.set_append_right _ _ (Nat.le_refl _), Nat.sub_self, List.replicate_succ, List.set_cons_zero, Nat.add_sub_cancel, List.append_assoc]
  rfl
abbrev GKs (s : Sc) (P : HProp) := { g : List V1s × HProp // Ext P g.2 ∧ KW g.2 g.1 s }
set_option maxHeartbeats 8000000 in
theorem doer_spec {r : Rl} {R0 : List Pr2} (hR : RowsQ r R0) (hok : r.Ok) (hwf : Rl.Wf r) (b : Nat) (P : HProp) :
    FSpec Tryz.prog 46 [.pointer (some ⟨b, 0, none⟩)] [relP P b r, P] DrY (fun y => Ext P y.P ∧ DoerC r R0 b y.fv y.F y.P) (fun y => y.fv) (fun y => [relP y.P b r, y.P, y.F]) := by
  have hsc := relSchema_spec b r P hok
  have hslen : r.s.length ≤ 12 := by obtain ⟨_, _, _, _, h12⟩ := checkS_ok hok.sch; exact h12
  refine spec_intro [] _ Tryz.func46 rfl Tryz.ntmps46 (by rfl) (fun w0 R => ?_)
  repeat' (first | (refine go_Y ?_; intros) | (refine gs_Y ?_ ?_ <;> (intro hgd; try (simp only [Bool.not_true, Bool.not_false] at hgd))) | (refine gc_Y ?_ ?_ <;> intro _) | fail)
  rename_i b1
  refine cl_Y (hsc) ?_
  rintro ⟨⟨vs, hvs⟩, ts, P1⟩ ⟨hsv, hss, hE1⟩
  dsimp only at hsv hss hE1 ⊢
  have htl : ts.length = r.s.length := by rw [← hss, List.length_map]
  have ltm : (ts.map tbV).length = ts.length := by simp
  have hvw := hsv.vw
  refine ops_learn (VwIn.slice (n := 5) (v := vs) (xs := ts.map tbV) (VwIn.there (VwIn.here hvw))) ?_
  rintro ⟨pv, cv, rfl⟩
  repeat' (first | (refine go_Y ?_; intros) | (refine gs_Y ?_ ?_ <;> (intro hgd; try (simp only [Bool.not_true, Bool.not_false] at hgd))) | (refine gc_Y ?_ ?_ <;> intro _) | fail)
  rename_i b3 g b4
  have key : ∀ (F : HProp) (bd : Nat) (kv : Value) (ks : List V1s) (Q : HProp), Ext P1 Q → DoerF F b b4 b1 b3 bd (.slice pv (ts.map tbV).length cv) kv ks r.s → KW Q ks r.s → DoerC r R0 b (doerV b4 b1 b3 bd) F Q := by
    intro F bd kv ks Q hEQ hF hKW Q' t w row0 hQ' hm hw
    have h := doc1_spec hR hok hwf F b b4 b1 b3 bd _ kv ts ks hF hss r.s.length Q' t w row0 hm (by have := (hR.ok.tab _ hm).1; dsimp only at this; omega) (hsv.ext (hEQ.trans hQ')) (hKW.ext hQ') hw
    exact vspec_func (P := Tryz.prog) (f := 78) (args := [.int .i64 t, w.1]) (cap := [.pointer (some ⟨b4, 0, none⟩), .pointer (some ⟨b1, 0, none⟩), .pointer (some ⟨b3, 0, none⟩), .pointer (some ⟨bd, 0, none⟩)]) h
  refine ok_map (L' := [relP P1 b r, P1, row 73 1 (.slice (some ⟨g, 0, none⟩) (ts.map tbV).length (ts.map tbV).length) (([] : List V1s).map (fun x : V1s => [x.1]) ++ List.replicate ((ts.map tbV).length - 0) [Value.slice none 0 0]), pts b4 (.cells [.slice (some ⟨g, 0, none⟩) (ts.map tbV).length (ts.map tbV).length].toArray 143), pts b3 (.cells [.slice pv (ts.map tbV).length cv].toArray 24), pts b1 (.cells [.pointer (some ⟨b, 0, none⟩)].toArray 31)] ++ R) entD ?_
  refine ok_loop' (γ := Nat × GKs r.s P1) (fun y ρ L => y.1 ≤ ts.length ∧ y.2.1.1.length = y.1 ∧ Knows ρ [(1, .pointer (some ⟨b1, 0, none⟩)), (3, .pointer (some ⟨b3, 0, none⟩)), (4, .pointer (some ⟨b4, 0, none⟩)), (15, .int .i64 ((ts.map tbV).length : Int)), (16, .int .i64 y.1)] ∧
      L = [relP y.2.1.2 b r, y.2.1.2, row 73 1 (.slice (some ⟨g, 0, none⟩) (ts.map tbV).length (ts.map tbV).length) (y.2.1.1.map (fun x : V1s => [x.1]) ++ List.replicate ((ts.map tbV).length - y.1) [Value.slice none 0 0]), pts b4 (.cells [.slice (some ⟨g, 0, none⟩) (ts.map tbV).length (ts.map tbV).length].toArray 143), pts b3 (.cells [.slice pv (ts.map tbV).length cv].toArray 24), pts b1 (.cells [.pointer (some ⟨b, 0, none⟩)].toArray 31)] ++ R) (fun y => ts.length - y.1)
    (0, ⟨([], P1), Ext.refl P1, fun n x h => by simp at h⟩) ⟨by simp, rfl, ⟨rfl, rfl, rfl, rfl, rfl, trivial⟩, rfl⟩ ?_
  rintro ⟨i, ⟨ks, Q⟩, hE, hKW⟩ ρ L ⟨hi, hkl, hk, rfl⟩
  dsimp only at hE hKW hi hkl hk ⊢
  refine ok_regs hk ?_
  cases t1 : decide ((i : Int) < ((ts.map tbV).length : Int)) with
  | false =>
    have hie : i = ts.length := by have := of_decide_eq_false t1; omega
    have hz : (ts.map tbV).length - i = 0 := by omega
    rw [hz]
    simp only [List.replicate_zero, List.append_nil]
    repeat' (first | (refine go_Y ?_; intros) | (refine gs_Y ?_ ?_ <;> (intro hgd; try (simp only [Bool.not_true, Bool.not_false] at hgd))) | (refine gc_Y ?_ ?_ <;> intro _) | fail)
    rename_i b6
    refine cont_map (L' := (fun h => SatL [row 73 1 (.slice (some ⟨g, 0, none⟩) (ts.map tbV).length (ts.map tbV).length) (ks.map (fun x : V1s => [x.1])), pts b4 (.cells [.slice (some ⟨g, 0, none⟩) (ts.map tbV).length (ts.map tbV).length].toArray 143), pts b1 (.cells [.pointer (some ⟨b, 0, none⟩)].toArray 31), pts b3 (.cells [.slice pv (ts.map tbV).length cv].toArray 24), pts b6 (.cells [doerV b4 b1 b3 b6].toArray 96)] h) :: ([relP Q b r, Q] ++ R)) (fun _ h => SatL.unflat (Take.out takeD h)) ?_
    (refine rt_Y (y := ⟨doerV b4 b1 b3 b6, (fun h => SatL [row 73 1 (.slice (some ⟨g, 0, none⟩) (ts.map tbV).length (ts.map tbV).length) (ks.map (fun x : V1s => [x.1])), pts b4 (.cells [.slice (some ⟨g, 0, none⟩) (ts.map tbV).length (ts.map tbV).length].toArray 143), pts b1 (.cells [.pointer (some ⟨b, 0, none⟩)].toArray 31), pts b3 (.cells [.slice pv (ts.map tbV).length cv].toArray 24), pts b6 (.cells [doerV b4 b1 b3 b6].toArray 96)] h), Q⟩) (hrs := Tryz.results46) (hv := ?_) (hφ := ?_))
    · rfl
    · refine ⟨hE1.trans hE, key _ b6 (.slice (some ⟨g, 0, none⟩) (ts.map tbV).length (ts.map tbV).length) ks Q hE ⟨?_, ?_, ?_, ?_, ?_, ?_⟩ hKW⟩
      · exact Rd.of (.there (.here (Rd.pts _ _)))
      · exact Rd.of (.there (.there (.here (Rd.pts _ _))))
      · exact Rd.of (.there (.there (.there (.here (Rd.pts _ _)))))
      · exact Rd.of (.there (.there (.there (.there (.here (Rd.pts _ _))))))
      · omega
      · exact Vw.of (.here Vw.row)
  | true =>
    have h0 : i < ts.length := by have := of_decide_eq_true t1; omega
    have hh : hasS (ts.map Tb.c) (i : Int) = true := by
      rw [hss]
      simp only [hasS, hok.sch, Bool.true_and, Bool.and_eq_true, decide_eq_true_eq]
      omega
    have hkd := kids_spec (.slice pv (ts.map tbV).length cv) ts (i : Int) Q (hsv.ext hE) hh
    rw [hss] at hkd
    have hxl : (ks.map (fun x : V1s => [x.1]) ++ List.replicate ((ts.map tbV).length - i) [Value.slice none 0 0]).length = (ts.map tbV).length := by simp; omega
    have hin : i < (ts.map tbV).length := by omega
    repeat' (first | (refine go_Y ?_; intros) | (refine gs_Y ?_ ?_ <;> (intro hgd; try (simp only [Bool.not_true, Bool.not_false] at hgd))) | (refine gc_Y ?_ ?_ <;> intro _) | fail)
    refine ok_drawL (cv := []) [4] ([pts b4 (.cells [.slice (some ⟨g, 0, none⟩) (ts.map tbV).length (ts.map tbV).length].toArray 143), pts b3 (.cells [.slice pv (ts.map tbV).length cv].toArray 24)]) (takeD) (by kernel_rfl) rfl (by decide +kernel) ?_
    repeat' (first | (refine go_Y ?_; intros) | (refine gs_Y ?_ ?_ <;> (intro hgd; try (simp only [Bool.not_true, Bool.not_false] at hgd))) | (refine gc_Y ?_ ?_ <;> intro _) | fail)
    refine clN_Y (hkd) ?_
    rintro ⟨vk, hvk⟩ _
    dsimp only
    repeat' (first | (refine go_Y ?_; intros) | (refine gs_Y ?_ ?_ <;> (intro hgd; try (simp only [Bool.not_true, Bool.not_false] at hgd))) | (refine gc_Y ?_ ?_ <;> intro _) | fail)
    refine cont_poolR (ty := 3) (n := 1) (v := vk) (xs := (kidsS r.s i).map cnV) (P := Q) takeD ?_
    intro Q' hQ' hvk'
    refine cont_map (fun _ h => relP_ext hQ' (b := b) (r := r) (Take.out1 (A := relP Q b r) takeD h)) ?_
    have hset := set_app (a := ks.map (fun x : V1s => [x.1])) (z := [Value.slice none 0 0]) (y := [vk]) (m := (ts.map tbV).length - i) (by omega)
    have hml : (ks.map (fun x : V1s => [x.1])).length = i := by rw [List.length_map]; exact hkl
    rw [hml] at hset
    refine cont_map (L' := [relP Q' b r, Q', row 73 1 (.slice (some ⟨g, 0, none⟩) (ts.map tbV).length (ts.map tbV).length) ((ks ++ ([⟨vk, hvk⟩] : List V1s)).map (fun x : V1s => [x.1]) ++ List.replicate ((ts.map tbV).length - (i + 1)) [Value.slice none 0 0]), pts b4 (.cells [.slice (some ⟨g, 0, none⟩) (ts.map tbV).length (ts.map tbV).length].toArray 143), pts b3 (.cells [.slice pv (ts.map tbV).length cv].toArray 24), pts b1 (.cells [.pointer (some ⟨b, 0, none⟩)].toArray 31)] ++ R) (by
      rw [show (ts.map tbV).length - (i + 1) = (ts.map tbV).length - i - 1 from by omega, List.map_append, show (([⟨vk, hvk⟩] : List V1s).map fun x : V1s => [x.1]) = [[vk]] from rfl, ← hset]
      exact entD) ?_
    refine cont_back (i + 1, ⟨(ks ++ ([⟨vk, hvk⟩] : List V1s), Q'), hE.trans hQ', fun n x hx => ?_⟩) ⟨h0, by dsimp only; rw [List.length_append, List.length_singleton, hkl], ⟨rfl, rfl, rfl, rfl, rfl, trivial⟩, rfl⟩ (by show ts.length - (i + 1) < ts.length - i; omega)
    rcases Nat.lt_or_ge n ks.length with hn | hn
    · rw [List.getElem?_append_left hn] at hx
      exact hQ'.vw (hKW n x hx)
    · rw [List.getElem?_append_right hn] at hx
      have hn0 : n - ks.length = 0 := by
        have := (List.getElem?_eq_some_iff.1 hx).1
        simp at this; omega
      rw [hn0] at hx
      simp only [List.getElem?_cons_zero, Option.some.injEq] at hx
      subst hx
      have : n = i := by omega
      subst this
      exact hvk'
end Go.Proofs.YtphaegcoldpclaaGreatDoor
set_option linter.unusedSimpArgs false
set_option linter.unusedVariables false
set_option maxRecDepth 100000
namespace Go.Proofs.YtphaegcoldpclaaGreatDoor
open Go Go.Fx Go.Proofs Go.Pl

theorem rootP_succ (r : Rl) (n : Nat) (p : Pr2) : rootP r (n + 1) p = if (tabAt r.s p.1).par < 0 then some p else match aget (upOf r.s p) r.rows with
    | none => none
    | some l => rootP r n ((tabAt r.s p.1).par, l) := rfl
section
variable {r : Rl} {R : List Pr2}
theorem rootP_fuel (h : RowsQ r R) : ∀ (n : Nat) {p : Pr2}, p ∈ R → p.1 < n → rootP r n p = rootP r (n + 1) p
  | 0, p, hp, hn => by have := (h.ok.tab p hp).1; omega
  | n + 1, p, hp, hn => by
    rw [rootP_succ, rootP_succ]
    by_cases h1 : (tabAt r.s p.1).par < 0
    · rw [if_pos h1, if_pos h1]
    · rw [if_neg h1, if_neg h1]
      cases hg : aget (upOf r.s p) r.rows with
      | none => rfl
      | some l =>
        obtain ⟨h2, _, h3⟩ := h.parent hp (by omega) hg
        exact rootP_fuel h n h2 (by show (tabAt r.s p.1).par < n; omega)
theorem rootR_top (h : RowsQ r R) {q : Pr2} (hq : q ∈ R) (hp : (tabAt r.s q.1).par < 0) : rootR r q = some q := (rootR_iff h hq).2 ⟨hq, hp, .refl⟩
theorem rootR_lost (h : RowsQ r R) {q : Pr2} (hq : q ∈ R) (hp : 0 ≤ (tabAt r.s q.1).par) (hg : aget (upOf r.s q) r.rows = none) : rootR r q = none := by
  have := (h.ok.tab q hq).2
  have := (h.ok.tab q hq).1
  unfold rootR
  obtain ⟨m, hm⟩ : ∃ m, r.s.length = m + 1 := ⟨r.s.length - 1, by omega⟩
  rw [hm, rootP_succ, if_neg (by omega), hg]
theorem rootR_up (h : RowsQ r R) {q : Pr2} (hq : q ∈ R) (hp : 0 ≤ (tabAt r.s q.1).par) {l : List Vl} (hg : aget (upOf r.s q) r.rows = some l) : rootR r q = rootR r ((tabAt r.s q.1).par, l) := by
  have := (h.ok.tab q hq).2
  have := (h.ok.tab q hq).1
  obtain ⟨h2, _, h3⟩ := h.parent hq hp hg
  unfold rootR
  obtain ⟨m, hm⟩ : ∃ m, r.s.length = m + 1 := ⟨r.s.length - 1, by omega⟩
  rw [hm, rootP_succ, if_neg (by omega), hg]
  exact rootP_fuel h m h2 (by show (tabAt r.s q.1).par < m; omega)
def rootAns (r : Rl) (q : Pr2) : Int × Vl × Bool := match rootR r q with
  | some p => (p.1, Pl.keyOf r.s p.1 p.2, true)
  | none => (0, ⟨0, 0, 0, ⟨#[]⟩⟩, false)
theorem rootAns_some {q p : Pr2} (h : rootR r q = some p) : rootAns r q = (p.1, Pl.keyOf r.s p.1 p.2, true) := by unfold rootAns; rw [h]
theorem rootAns_none {q : Pr2} (h : rootR r q = none) : rootAns r q = (0, ⟨0, 0, 0, ⟨#[]⟩⟩, false) := by unfold rootAns; rw [h]
end
def docE : List Value := [.int .i64 0, .slice none 0 0, .slice none 0 0]
set_option maxHeartbeats 4000000 in
theorem aOf_some {r : Rl} {R0 : List Pr2} (hR : RowsQ r R0) (hok : r.Ok) (hwf : Rl.Wf r) (b : Nat) (t : Int) (k : Vl) (l : List Vl) (P : HProp) (hU : UT P) (hkw : k.wf) (hg : aget (t, k) r.rows = some l) :
    FSpec Tryz.prog 14 [.pointer (some ⟨b, 0, none⟩), .int .i64 t, .agg (valV k).toArray] [relP P b r, P] DmP (fun y => Ext P y.2 ∧ DocR y.2 y.1 ∧ y.1.c = docS r.s R0 r.s.length t l)
      (fun y => .tuple #[.agg (docV y.1).toArray, .int .i64 0]) (fun y => [relP y.2 b r, y.2]) := by
  have hget := relGet_spec b r t k P hok hU hkw
  rw [getOp_some hR hg] at hget
  dsimp only at hget
  have hm := (hR.get _ _ hg).1
  dsimp only at hm
  obtain ⟨kk, ki, kr, ks⟩ := k
  dsimp only [valV] at hget ⊢
  refine spec_intro [] _ Tryz.func14 rfl Tryz.ntmps14 (by rfl) (fun w0 R => ?_)
  repeat' (first | (refine go_Y ?_; intros) | (refine gs_Y ?_ ?_ <;> (intro hgd; try (simp only [Bool.not_true, Bool.not_false] at hgd))) | (refine gc_Y ?_ ?_ <;> intro _) | fail)
  refine cl_Y (hget) ?_
  rintro ⟨v, hv⟩ _
  dsimp only
  refine ops_poolR (ty := 28) (n := 4) (v := v) (xs := l.map valV) (P := P) takeD ?_
  intro P1 hE1 hvw
  refine opsL_mapL (fun _ h => relP_ext hE1 (b := b) (r := r) (Take.out1 (A := relP P b r) takeD h)) ?_
  repeat' (first | (refine go_Y ?_; intros) | (refine gs_Y ?_ ?_ <;> (intro hgd; try (simp only [Bool.not_true, Bool.not_false] at hgd))) | (refine gc_Y ?_ ?_ <;> intro _) | fail)
  refine cl_Y (doer_spec hR hok hwf b P1) ?_
  rintro ⟨fv, F, P2⟩ ⟨hE2, hdc⟩
  dsimp only at hE2 hdc ⊢
  have hcall := hdc P2 t ⟨v, hv⟩ l (Ext.refl P2) hm (hE2.vw hvw)
  dsimp only at hcall
  repeat' (first | (refine go_Y ?_; intros) | (refine gs_Y ?_ ?_ <;> (intro hgd; try (simp only [Bool.not_true, Bool.not_false] at hgd))) | (refine gc_Y ?_ ?_ <;> intro _) | fail)
  refine clV_Y (hcall) ?_
  rintro ⟨d, P3⟩ ⟨hE3, hdR, hdc'⟩
  dsimp only at hE3 hdR hdc' ⊢
  obtain ⟨dt, ⟨dlv, hdlv⟩, drow, ⟨dkv, hdkv⟩, dk⟩ := d
  dsimp only [docV] at hdR hdc' ⊢
  have hone : oneCells [Value.int .i64 dt, dlv, dkv] = true := by
    simp only [oneCells, List.all_cons, List.all_nil, hdlv, hdkv, Bool.and_true]; rfl
  repeat' (first | (refine go_Y ?_; intros) | (refine gs_Y ?_ ?_ <;> (intro hgd; try (simp only [Bool.not_true, Bool.not_false] at hgd))) | (refine gc_Y ?_ ?_ <;> intro _) | fail)
  (refine rt_Y (y := (Dm.mk dt ⟨dlv, hdlv⟩ drow ⟨dkv, hdkv⟩ dk, P3)) (hrs := Tryz.results14) (hv := ?_) (hφ := ?_))
  · rfl
  · exact ⟨hE1.trans (hE2.trans hE3), hdR, hdc'⟩
theorem aOf_none {r : Rl} (hok : r.Ok) (b : Nat) (t : Int) (k : Vl) (P : HProp) (hU : UT P) (hkw : k.wf) (hg : aget (t, k) r.rows = none) :
    FSpec Tryz.prog 14 [.pointer (some ⟨b, 0, none⟩), .int .i64 t, .agg (valV k).toArray] [relP P b r, P] Unit (fun _ => True)
      (fun _ => .tuple #[.agg docE.toArray, .int .i64 (r.getOp t k).2]) (fun y => [relP P b r, P]) := by
  have hget := relGet_spec b r t k P hok hU hkw
  obtain ⟨h1, h2⟩ := getOp_none hg (t := t) (k := k)
  rw [h1] at hget
  generalize (r.getOp t k).2 = e at hget h2
  have f1 : (!decide (e = (0 : Int))) = true := by rcases h2 with rfl | rfl <;> decide
  obtain ⟨kk, ki, kr, ks⟩ := k
  dsimp only [valV] at hget ⊢
  refine spec_intro [] _ Tryz.func14 rfl Tryz.ntmps14 (by rfl) (fun w0 R => ?_)
  repeat' (first | (refine go_Y ?_; intros) | (refine gs_Y ?_ ?_ <;> (intro hgd; try (simp only [Bool.not_true, Bool.not_false] at hgd))) | (refine gc_Y ?_ ?_ <;> intro _) | fail)
  refine cl_Y (hget) ?_
  rintro ⟨v, hv⟩ _
  dsimp only
  repeat' (first | (refine go_Y ?_; intros) | (refine gs_Y ?_ ?_ <;> (intro hgd; try (simp only [Bool.not_true, Bool.not_false] at hgd))) | (refine gc_Y ?_ ?_ <;> intro _) | fail)
  (refine rt_Y (y := ()) (hrs := Tryz.results14) (hv := ?_) (hφ := ?_))
  · rfl
  · trivial
instance tbInh : Inhabited Tb := ⟨⟨⟨#[]⟩, [], ⟨.slice none 0 0, rfl⟩, 0, 0, 0⟩⟩
def tbAt (ts : List Tb) (t : Int) : Tb := (ts[t.toNat]?).getD default
abbrev GRt (r : Rl) (R0 : List Pr2) (p0 : Pr2) (P : HProp) := { g : Pr2 × V1s × Nat × HProp // g.1 ∈ R0 ∧ rootR r g.1 = rootR r p0 ∧ Ext P g.2.2.2 ∧ Vw g.2.2.2 4 g.2.1.1 (g.1.2.map valV) }
theorem aRoot_none {r : Rl} (hok : r.Ok) (b : Nat) (t : Int) (k : Vl) (P : HProp) (hU : UT P) (hkw : k.wf) (hg : aget (t, k) r.rows = none) :
    FSpec Tryz.prog 15 [.pointer (some ⟨b, 0, none⟩), .int .i64 t, .agg (valV k).toArray] [relP P b r, P] Unit (fun _ => True)
      (fun _ => .tuple #[.int .i64 0, .agg (valV ⟨0, 0, 0, ⟨#[]⟩⟩).toArray, .bool false, .int .i64 (r.getOp t k).2]) (fun y => [relP P b r, P]) := by
  have hget := relGet_spec b r t k P hok hU hkw
  obtain ⟨h1, h2⟩ := getOp_none hg (t := t) (k := k)
  rw [h1] at hget
  generalize (r.getOp t k).2 = e at hget h2
  have f1 : (!decide (e = (0 : Int))) = true := by rcases h2 with rfl | rfl <;> decide
  obtain ⟨kk, ki, kr, ks⟩ := k
  dsimp only [valV] at hget ⊢
  refine spec_intro [] _ Tryz.func15 rfl Tryz.ntmps15 (by rfl) (fun w0 R => ?_)
  repeat' (first | (refine go_Y ?_; intros) | (refine gs_Y ?_ ?_ <;> (intro hgd; try (simp only [Bool.not_true, Bool.not_false] at hgd))) | (refine gc_Y ?_ ?_ <;> intro _) | fail)
  refine cl_Y (hget) ?_
  rintro ⟨v, hv⟩ _
  dsimp only
  repeat' (first | (refine go_Y ?_; intros) | (refine gs_Y ?_ ?_ <;> (intro hgd; try (simp only [Bool.not_true, Bool.not_false] at hgd))) | (refine gc_Y ?_ ?_ <;> intro _) | fail)
  (refine rt_Y (y := ()) (hrs := Tryz.results15) (hv := ?_) (hφ := ?_))
  · rfl
  · trivial
set_option maxHeartbeats 8000000 in
theorem aRoot_some {r : Rl} {R0 : List Pr2} (hR : RowsQ r R0) (hok : r.Ok) (hwf : Rl.Wf r) (b : Nat) (t : Int) (k : Vl) (l : List Vl) (P : HProp) (hU : UT P) (hkw : k.wf) (hg : aget (t, k) r.rows = some l) :
    FSpec Tryz.prog 15 [.pointer (some ⟨b, 0, none⟩), .int .i64 t, .agg (valV k).toArray] [relP P b r, P] HProp (fun y => Ext P y)
      (fun _ => .tuple #[.int .i64 (rootAns r (t, l)).1, .agg (valV (rootAns r (t, l)).2.1).toArray, .bool (rootAns r (t, l)).2.2, .int .i64 0]) (fun y => [relP y b r, y]) := by
  have hget := relGet_spec b r t k P hok hU hkw
  rw [getOp_some hR hg] at hget
  dsimp only at hget
  have hm := (hR.get _ _ hg).1
  dsimp only at hm
  have hsc := fun P => relSchema_spec b r P hok
  have hgets := fun (t : Int) (v : Vl) (P : HProp) (hU : UT P) (hv : v.wf) => relGet_spec b r t v P hok hU hv
  obtain ⟨dep, _, hdep⟩ := dep_ex hR.ok.sch
  obtain ⟨kk, ki, kr, ks⟩ := k
  dsimp only [valV] at hget
  have hro := hR.row _ hm
  dsimp only at hro
  have hh0 : hasS r.s t = true := by simp only [rowS, Bool.and_eq_true] at hro; exact hro.1
  refine spec_intro [] _ Tryz.func15 rfl Tryz.ntmps15 (by rfl) (fun w0 R => ?_)
  repeat' (first | (refine go_Y ?_; intros) | (refine gs_Y ?_ ?_ <;> (intro hgd; try (simp only [Bool.not_true, Bool.not_false] at hgd))) | (refine gc_Y ?_ ?_ <;> intro _) | fail)
  rename_i b5 b7
  refine cl_Y (hget) ?_
  rintro ⟨v, hv⟩ _
  dsimp only
  refine ops_poolR (ty := 28) (n := 4) (v := v) (xs := l.map valV) (P := P) takeD ?_
  intro P1 hE1 hvw
  refine opsL_mapL (fun _ h => relP_ext hE1 (b := b) (r := r) (Take.out1 (A := relP P b r) takeD h)) ?_
  repeat' (first | (refine go_Y ?_; intros) | (refine gs_Y ?_ ?_ <;> (intro hgd; try (simp only [Bool.not_true, Bool.not_false] at hgd))) | (refine gc_Y ?_ ?_ <;> intro _) | fail)
  refine cl_Y (hsc P1) ?_
  rintro ⟨⟨vs, hvs⟩, ts, P2⟩ ⟨hsv, hss, hE2⟩
  dsimp only at hsv hss hE2 ⊢
  have htab : ∀ {t' : Int} {l' : List Vl}, (t', l') ∈ R0 → ∃ (m : Nat), t' = m ∧ (ts.map tbV)[m]? = some (tbV (tbAt ts t')) ∧ m < (ts.map tbV).length ∧ tabAt r.s t' = (tbAt ts t').c ∧ TabOk (tbAt ts t').c := by
    intro t' l' hm'
    have hro' := hR.row _ hm'
    dsimp only at hro'
    have hh : hasS (ts.map Tb.c) t' = true := by rw [hss]; simp only [rowS, Bool.and_eq_true] at hro'; exact hro'.1
    obtain ⟨m, tb, rfl, htt, hxt, htl, hta, htok, _⟩ := hasS_tb hh
    have e : tbAt ts (m : Int) = tb := by unfold tbAt; rw [Int.toNat_natCast, htt]; rfl
    rw [hss] at hta
    exact ⟨m, rfl, by rw [e]; exact hxt, htl, by rw [e]; exact hta, by rw [e]; exact htok⟩
  have hvs2 := hsv.vw
  refine ops_learn (VwIn.slice (n := 5) (v := vs) (xs := ts.map tbV) (VwIn.there (VwIn.here hvs2))) ?_
  rintro ⟨pv, cv, rfl⟩
  obtain ⟨tm, rfl, hxt, htl, _, _⟩ := htab hm
  refine ops_learn (VwIn.base (n := 5) (xs := ts.map tbV) (VwIn.there (VwIn.here hvs2)) (by intro e; rw [e] at htl; simp at htl)) ?_
  rintro ⟨bv, ov, rfl⟩
  have htb : ∃ tb, tb = tbAt ts (tm : Int) := ⟨_, rfl⟩
  obtain ⟨tb, htb⟩ := htb
  rw [← htb] at hxt
  obtain ⟨tn, cols, ⟨tcv, htcv⟩, tk, tr, tp⟩ := tb
  dsimp only [tbV] at hxt
  have hone : oneCells [Value.string tn, tcv, Value.int .i64 tk, Value.int .i64 tr, Value.int .i64 tp] = true := by
    simp only [oneCells, List.all_cons, List.all_nil, htcv, Bool.and_true]; rfl
  repeat' (first | (refine go_Y ?_; intros) | (refine gs_Y ?_ ?_ <;> (intro hgd; try (simp only [Bool.not_true, Bool.not_false] at hgd))) | (refine gc_Y ?_ ?_ <;> intro _) | fail)
  rename_i b12 b13
  have hE02 := hE1.trans hE2
  refine ok_map (L' := [relP P2 b r, P2, pts b13 (.cells (tbV (tbAt ts (tm : Int))).toArray 61), pts b12 (.cells [.slice (some ⟨bv, ov, none⟩) (ts.map tbV).length cv].toArray 24), pts b7 (.cells [.int .u8 0, .int .i64 0, .int .u64 0, .string ⟨#[]⟩].toArray 28)] ++ R) (by rw [← htb]; exact entD) ?_
  clear hone hxt htl htb
  refine ok_loop' (γ := GRt r R0 ((tm : Int), l) P2) (fun g ρ L => Knows ρ [(0, .pointer (some ⟨b, 0, none⟩)), (1, .int .i64 g.1.1.1), (7, .pointer (some ⟨b7, 0, none⟩)), (10, g.1.2.1.1), (12, .pointer (some ⟨b12, 0, none⟩)), (13, .pointer (some ⟨g.1.2.2.1, 0, none⟩))] ∧
      L = [relP g.1.2.2.2 b r, g.1.2.2.2, pts g.1.2.2.1 (.cells (tbV (tbAt ts g.1.1.1)).toArray 61), pts b12 (.cells [.slice (some ⟨bv, ov, none⟩) (ts.map tbV).length cv].toArray 24), pts b7 (.cells [.int .u8 0, .int .i64 0, .int .u64 0, .string ⟨#[]⟩].toArray 28)] ++ R) (fun g => g.1.1.1.toNat)
    ⟨(((tm : Int), l), ⟨v, hv⟩, b13, P2), hm, rfl, Ext.refl P2, hE2.vw hvw⟩ ⟨⟨rfl, rfl, rfl, rfl, rfl, rfl, trivial⟩, rfl⟩ ?_
  rintro ⟨⟨⟨t', l'⟩, ⟨w, hw⟩, bt, Q⟩, hm', hrr, hE, hwv⟩ ρ L ⟨hk, rfl⟩
  dsimp only at hm' hrr hE hwv hk ⊢
  refine ok_regs hk ?_
  have hvsQ := hE.vw hvs2
  have hUQ := hU.ext (hE02.trans hE)
  obtain ⟨m, rfl, hxt, htl, hta, htok⟩ := htab hm'
  have hro' := hR.row _ hm'
  dsimp only at hro'
  obtain ⟨hk1, hk2, hlen⟩ := rowS_key hro'
  have hx' : (((m : Int), Pl.keyOf r.s (m : Int) l'), l') ∈ r.rows := aget_mem ((hR.mem _).1 hm')
  have hwl := hwf _ hx'
  dsimp only at hwl
  have htop := rootR_top hR hm'
  have hlost := rootR_lost hR hm'
  have hup := fun h => rootR_up (l := h) hR hm'
  have hpar := fun (l2 : List Vl) h1 => hR.parent (l := l2) hm' h1
  have hup0 : upOf r.s ((m : Int), l') = ((tabAt r.s (m : Int)).par, (l'[(tabAt r.s (m : Int)).ref.toNat]?).getD default) := rfl
  obtain ⟨r0, r1⟩ := hR.ok.tab _ hm'
  have hdm := hdep (m : Int) r0 r1
  dsimp only at htop hlost hup hpar
  rw [hup0] at hlost hup hpar
  have k0 := htok.key0
  have kL := htok.keyL
  have rL := htok.refL
  rw [hta] at htop hlost hup hpar hk2 hlen hdm
  generalize tbAt ts (m : Int) = tb at hxt htop hlost hup hpar hk2 hlen hdm k0 kL rL
  obtain ⟨tn, cols, ⟨tcv, htcv⟩, tk, tr, tp⟩ := tb
  dsimp only [tbV, Tb.c] at hxt htop hlost hup hpar hk2 hlen hdm k0 kL rL ⊢
  refine ok_learn (VwIn.slice (VwIn.there (VwIn.here hwv))) ?_
  rintro ⟨pw, cw, rfl⟩
  cases t1 : decide (0 ≤ tp) with
  | false =>
    have hrt := htop (by have := of_decide_eq_false t1; omega)
    rw [hrr] at hrt
    rw [rootAns_some hrt]
    generalize Pl.keyOf r.s (m : Int) l' = key at hk2
    obtain ⟨km, rfl⟩ : ∃ km : Nat, tk = km := ⟨tk.toNat, by omega⟩
    rw [Int.toNat_natCast] at hk2
    have hkl := (List.getElem?_eq_some_iff.1 hk2).1
    have hnk : km < (l'.map valV).length := by rw [List.length_map]; exact hkl
    have hxk : (l'.map valV)[km]? = some (valV key) := by rw [List.getElem?_map, hk2]; rfl
    obtain ⟨yk, yi, yr, ys⟩ := key
    dsimp only [valV] at hxk ⊢
    refine ok_learn (VwIn.base (n := 4) (xs := l'.map valV) (VwIn.there (VwIn.here hwv)) (by intro e; rw [e] at hnk; simp at hnk)) ?_
    rintro ⟨bw, ow, rfl⟩
    repeat' (first | (refine go_Y ?_; intros) | (refine gs_Y ?_ ?_ <;> (intro hgd; try (simp only [Bool.not_true, Bool.not_false] at hgd))) | (refine gc_Y ?_ ?_ <;> intro _) | fail)
    (refine rt_Y (y := Q) (hrs := Tryz.results15) (hv := ?_) (hφ := ?_))
    · rfl
    · exact hE02.trans hE
  | true =>
    have hp0 := of_decide_eq_true t1
    have hr0 : 0 ≤ tr := by rcases hdm with ⟨_, h2⟩ | ⟨h2, _⟩ <;> omega
    obtain ⟨rm, rfl⟩ : ∃ rm : Nat, tr = rm := ⟨tr.toNat, by omega⟩
    have hrm : rm < l'.length := by omega
    have hli : l'[rm]? = some l'[rm] := List.getElem?_eq_getElem hrm
    have hxr : (l'.map valV)[rm]? = some (valV l'[rm]) := by rw [List.getElem?_map, hli]; rfl
    have hnr : rm < (l'.map valV).length := by rw [List.length_map]; exact hrm
    have huw := hwl _ (List.getElem_mem hrm)
    rw [Int.toNat_natCast, hli, Option.getD_some] at hlost hup hpar
    have hgt := hgets tp l'[rm] Q hUQ huw
    generalize l'[rm] = u at hli hxr huw hlost hup hpar hgt
    refine ok_learn (VwIn.base (n := 4) (xs := l'.map valV) (VwIn.there (VwIn.here hwv)) (by intro e; rw [e] at hnr; simp at hnr)) ?_
    rintro ⟨bw, ow, rfl⟩
    cases hg2 : aget (tp, u) r.rows with
    | none =>
      have hrt := hlost hp0 hg2
      rw [hrr] at hrt
      rw [rootAns_none hrt]
      obtain ⟨h1, h2⟩ := getOp_none hg2
      rw [h1] at hgt
      generalize (r.getOp tp u).2 = e at hgt h2
      have f1 : (!decide (e = (0 : Int))) = true := by rcases h2 with rfl | rfl <;> decide
      obtain ⟨uk, ui, ur, us⟩ := u
      dsimp only [valV] at hxr hgt ⊢
      repeat' (first | (refine go_Y ?_; intros) | (refine gs_Y ?_ ?_ <;> (intro hgd; try (simp only [Bool.not_true, Bool.not_false] at hgd))) | (refine gc_Y ?_ ?_ <;> intro _) | fail)
      refine cl_Y (hgt) ?_
      rintro ⟨v2, hv2⟩ _
      dsimp only
      repeat' (first | (refine go_Y ?_; intros) | (refine gs_Y ?_ ?_ <;> (intro hgd; try (simp only [Bool.not_true, Bool.not_false] at hgd))) | (refine gc_Y ?_ ?_ <;> intro _) | fail)
      (refine rt_Y (y := Q) (hrs := Tryz.results15) (hv := ?_) (hφ := ?_))
      · rfl
      · exact hE02.trans hE
    | some l2 =>
      have hrt := hup l2 hp0 hg2
      rw [hrr] at hrt
      obtain ⟨hm2, _, hlt⟩ := hpar l2 hp0 hg2
      rw [getOp_some hR hg2] at hgt
      dsimp only at hgt
      have f1 : (!decide ((0 : Int) = (0 : Int))) = false := by decide
      obtain ⟨m2, rfl, hxt2, htl2, _, _⟩ := htab hm2
      have htb : ∃ tb, tb = tbAt ts (m2 : Int) := ⟨_, rfl⟩
      obtain ⟨tb, htb⟩ := htb
      rw [← htb] at hxt2
      obtain ⟨tn2, cols2, ⟨tcv2, htcv2⟩, tk2, tr2, tp2⟩ := tb
      dsimp only [tbV] at hxt2
      have hone : oneCells [Value.string tn, tcv, Value.int .i64 tk, Value.int .i64 (rm : Int), Value.int .i64 (m2 : Int)] = true := by
        simp only [oneCells, List.all_cons, List.all_nil, htcv, Bool.and_true]; rfl
      have hone2 : oneCells [Value.string tn2, tcv2, Value.int .i64 tk2, Value.int .i64 tr2, Value.int .i64 tp2] = true := by
        simp only [oneCells, List.all_cons, List.all_nil, htcv2, Bool.and_true]; rfl
      obtain ⟨uk, ui, ur, us⟩ := u
      dsimp only [valV] at hxr hgt
      repeat' (first | (refine go_Y ?_; intros) | (refine gs_Y ?_ ?_ <;> (intro hgd; try (simp only [Bool.not_true, Bool.not_false] at hgd))) | (refine gc_Y ?_ ?_ <;> intro _) | fail)
      refine cl_Y (hgt) ?_
      rintro ⟨v2, hv2⟩ _
      dsimp only
      refine ops_poolR (ty := 28) (n := 4) (v := v2) (xs := l2.map valV) (P := Q) takeD ?_
      intro Q1 hQ1 hvw2
      refine opsL_mapL (fun _ h => relP_ext hQ1 (b := b) (r := r) (Take.out1 (A := relP Q b r) takeD h)) ?_
      have hvsQ1 := hQ1.vw hvsQ
      repeat' (first | (refine go_Y ?_; intros) | (refine gs_Y ?_ ?_ <;> (intro hgd; try (simp only [Bool.not_true, Bool.not_false] at hgd))) | (refine gc_Y ?_ ?_ <;> intro _) | fail)
      rename_i b13'
      refine cont_map (L' := [relP Q1 b r, Q1, pts b13' (.cells (tbV (tbAt ts (m2 : Int))).toArray 61), pts b12 (.cells [.slice (some ⟨bv, ov, none⟩) (ts.map tbV).length cv].toArray 24), pts b7 (.cells [.int .u8 0, .int .i64 0, .int .u64 0, .string ⟨#[]⟩].toArray 28)] ++ R) (by rw [← htb]; exact entD) ?_
      refine cont_back ⟨(((m2 : Int), l2), ⟨v2, hv2⟩, b13', Q1), hm2, hrt.symm.trans rfl, hE.trans hQ1, hvw2⟩ ⟨⟨rfl, rfl, rfl, rfl, rfl, rfl, trivial⟩, rfl⟩ (by show (m2 : Int).toNat < (m : Int).toNat; omega)
end Go.Proofs.YtphaegcoldpclaaGreatDoor
set_option linter.unusedSimpArgs false
set_option linter.unusedVariables false
set_option maxRecDepth 100000
namespace Go.Proofs.YtphaegcoldpclaaGreatDoor
open Go Go.Fx Go.Proofs Go.Pl

def docsUp (r : Rl) (R0 : List Pr2) (n : Nat) : List Dc := (List.range n).flatMap fun k : Nat => if (tabAt r.s (k : Int)).par < 0 then (ofR R0 (k : Int) fun _ => true).map (docS r.s R0 r.s.length (k : Int)) else []
def docsR (r : Rl) (R0 : List Pr2) : List Dc := (rootsR r R0).map fun p => docS r.s R0 r.s.length p.1 p.2
theorem aAll_nil : FSpec Tryz.prog 11 [.pointer none] [] Unit (fun _ => True) (fun _ => .tuple #[.slice none 0 0, .int .i64 1]) (fun _ => []) := by
  refine spec_intro [] _ Tryz.func11 rfl Tryz.ntmps11 (by rfl) (fun w0 R => ?_)
  repeat' (first | (refine go_Y ?_; intros) | (refine gs_Y ?_ ?_ <;> (intro hgd; try (simp only [Bool.not_true, Bool.not_false] at hgd))) | (refine gc_Y ?_ ?_ <;> intro _) | fail)
  (refine rt_Y (y := ()) (hrs := Tryz.results11) (hv := ?_) (hφ := ?_))
  · rfl
  · trivial
end Go.Proofs.YtphaegcoldpclaaGreatDoor
