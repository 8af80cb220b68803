/- Texts merged: PhG PhT PhO. -/
import Derived.Test.YtphaegcoldpclaaGreatDoorG19
import Derived.Test.YtphaegcoldpclaaGreatDoorG13
import Derived.Test.YtphaegcoldpclaaGreatDoorG16
/- The reference's root of a row, how often a row stands in a document (fascicleref24: Root, Count). -/
-- @DEFS Y
set_option linter.unusedSimpArgs false
set_option linter.unusedVariables false
set_option maxRecDepth 100000
namespace Go.Proofs.YtphaegcoldpclaaGreatDoor
open Go Go.Fx Go.Proofs Go.Pl

abbrev GRq (r : Rl) (R0 : List Pr2) (p0 : Pr2) (P : HProp) := { g : Pr2 × V1s // g.1 ∈ R0 ∧ rootR r g.1 = rootR r p0 ∧ Vw P 4 g.2.1 (g.1.2.map valV) }
/-! ### Count -/
theorem nodesK_len_le {k : Dc} {ks : List Dc} (h : k ∈ ks) : (nodesD k).length ≤ (nodesK ks).length := by
  rw [nodesK_flat]
  obtain ⟨a, c, rfl⟩ := List.append_of_mem h
  rw [List.flatMap_append, List.flatMap_cons]
  simp only [List.length_append]
  omega
set_option maxHeartbeats 8000000 in
theorem count24_spec {s : Sc} {vs : V1s} {ts : List Tb} {P : HProp} (hsv : SV P vs.1 ts) (hss : ts.map Tb.c = s) (t : Int) (k : Vl) {d : Dm} (h : DocR P d) (hrow : ∀ x ∈ nodesD d.c, rowS s x.1 x.2 = true) (hN : (nodesD d.c).length ≤ 1000000) :
    FSpec Tryz.prog 22 [.agg #[vs.1], .agg (docV d).toArray, .int .i64 t, .agg (valV k).toArray] [P] Unit (fun _ => True) (fun _ => .int .i64 (((nodesD d.c).countP (hitP s t k) : Nat) : Int)) (fun _ => [P]) := by
  obtain ⟨vs, hvs⟩ := vs
  dsimp only at hsv ⊢
  have hvw := hsv.vw
  induction h with
  | @mk dt lv kv row0 kids h1 h2 h3 h4 h5 h6 ih =>
  obtain ⟨lv, hlv⟩ := lv
  obtain ⟨kv, hkv⟩ := kv
  dsimp only [docV, Dm.c] at h1 h2 hrow hN ⊢
  have hro := hrow (dt, row0) (by simp [nodesD])
  dsimp only at hro
  have hrowK : ∀ k' ∈ kids, ∀ x ∈ nodesD k'.c, rowS s x.1 x.2 = true := fun k' hk' x hx => hrow x (by
    simp only [nodesD, nodesK_flat, List.mem_cons, List.mem_flatMap]
    exact .inr ⟨k'.c, by rw [cK_map]; exact List.mem_map_of_mem hk', hx⟩)
  have hNk : ∀ k' ∈ kids, (nodesD k'.c).length ≤ 1000000 := fun k' hk' => by
    have e := nodesK_len_le (k := k'.c) (ks := Dm.cK kids) (by rw [cK_map]; exact List.mem_map_of_mem hk')
    simp only [nodesD, List.length_cons] at hN
    omega
  have hh : hasS (ts.map Tb.c) dt = true := by rw [hss]; simp only [rowS, Bool.and_eq_true] at hro; exact hro.1
  obtain ⟨hk1, hk2, hlen⟩ := rowS_key hro
  have hcnt : (nodesD (.mk dt row0 (Dm.cK kids))).countP (hitP s t k) = (if hitP s t k (dt, row0) = true then 1 else 0) + (nodesK (Dm.cK kids)).countP (hitP s t k) := by
    simp only [nodesD, List.countP_cons]; omega
  have hcl : (nodesK (Dm.cK kids)).countP (hitP s t k) ≤ 1000000 := by
    have := List.countP_le_length (p := hitP s t k) (l := nodesK (Dm.cK kids))
    simp only [nodesD, List.length_cons] at hN
    omega
  have hhit : hitP s t k (dt, row0) = (decide (dt = t) && decide (Pl.keyOf s dt row0 = k)) := rfl
  rw [hcnt]
  generalize hitP s t k (dt, row0) = hb at hhit
  generalize Pl.keyOf s dt row0 = key at hk1 hk2 hhit
  have lk : (kids.map docV).length = kids.length := by simp
  obtain ⟨tm, tb, rfl, htt, hxt, htl, hta, htok, htmem⟩ := hasS_tb hh
  have k0 := htok.key0
  have kL := htok.keyL
  rw [hss] at hta
  rw [hta] at hk2 hlen
  obtain ⟨tn, cols, ⟨cv, hcv⟩, tkey, ref, par⟩ := tb
  dsimp only [tbV, Tb.c] at hxt k0 kL hk2 hlen
  obtain ⟨km, rfl⟩ : ∃ km : Nat, tkey = km := ⟨tkey.toNat, by omega⟩
  rw [Int.toNat_natCast] at hk2
  have hkl := (List.getElem?_eq_some_iff.1 hk2).1
  have hnk : km < (row0.map valV).length := by rw [List.length_map]; exact hkl
  have hxk : (row0.map valV)[km]? = some (valV key) := by rw [List.getElem?_map, hk2]; rfl
  have g0 : decide ((tm : Int) < 0) = false := by simp
  have g1 : decide (((ts.map tbV).length : Int) ≤ (tm : Int)) = false := by simp only [decide_eq_false_iff_not]; omega
  have g2 : decide ((km : Int) < ((row0.map valV).length : Int)) = true := by simp only [decide_eq_true_eq]; omega
  have hq := eqL_valV key k
  obtain ⟨xk, xi, xr, xs⟩ := key
  obtain ⟨yk, yi, yr, ys⟩ := k
  dsimp only [valV] at hxk ih hq ⊢
  have hcase : (decide ((tm : Int) = t) = false ∧ hb = false) ∨ (decide ((tm : Int) = t) = true ∧ nilB BinOp.eql (eqL [TypeDesc.int .u8, TypeDesc.int .i64, TypeDesc.int .u64, TypeDesc.string] [Value.int .u8 xk, Value.int .i64 xi, Value.int .u64 xr, Value.string xs] [Value.int .u8 yk, Value.int .i64 yi, Value.int .u64 yr, Value.string ys]) = false ∧ hb = false) ∨
      (decide ((tm : Int) = t) = true ∧ nilB BinOp.eql (eqL [TypeDesc.int .u8, TypeDesc.int .i64, TypeDesc.int .u64, TypeDesc.string] [Value.int .u8 xk, Value.int .i64 xi, Value.int .u64 xr, Value.string xs] [Value.int .u8 yk, Value.int .i64 yi, Value.int .u64 yr, Value.string ys]) = true ∧ hb = true) := by
    have e : nilB BinOp.eql (eqL [TypeDesc.int .u8, TypeDesc.int .i64, TypeDesc.int .u64, TypeDesc.string] [Value.int .u8 xk, Value.int .i64 xi, Value.int .u64 xr, Value.string xs] [Value.int .u8 yk, Value.int .i64 yi, Value.int .u64 yr, Value.string ys]) = decide ((⟨xk, xi, xr, xs⟩ : Vl) = ⟨yk, yi, yr, ys⟩) := by simp only [nilB]; exact hq
    rw [e, hhit]
    cases decide ((tm : Int) = t) <;> cases decide ((⟨xk, xi, xr, xs⟩ : Vl) = ⟨yk, yi, yr, ys⟩) <;> simp
  clear hq hhit
  rcases hcase with ⟨u1, hbv⟩ | ⟨u1, u2, hbv⟩ | ⟨u1, u2, hbv⟩
  all_goals
    refine spec_intro [] _ Tryz.func22 rfl Tryz.ntmps22 (by rfl) (fun w0 R => ?_)
    refine ok_learn (VwIn.slice (VwIn.here hvw)) ?_
    rintro ⟨pv, cv', rfl⟩
    refine ok_learn (VwIn.base (n := 5) (xs := ts.map tbV) (VwIn.here hvw) (by intro e; rw [e] at htl; simp at htl)) ?_
    rintro ⟨bv, ov, rfl⟩
    refine ok_learn (VwIn.slice (VwIn.here h1)) ?_
    rintro ⟨pl, cl, rfl⟩
    refine ok_learn (VwIn.base (n := 4) (xs := row0.map valV) (VwIn.here h1) (by intro e; rw [e] at hnk; simp at hnk)) ?_
    rintro ⟨bl, ol, rfl⟩
    refine ok_learn (VwIn.slice (VwIn.here h2)) ?_
    rintro ⟨pk, ck, rfl⟩
    repeat' (first | (refine go_Y ?_; intros) | (refine gs_Y ?_ ?_ <;> (intro hgd; try (simp only [Bool.not_true, Bool.not_false] at hgd))) | (refine gc_Y ?_ ?_ <;> intro _) | fail)
    rename_i b4 b5 b7
    refine ok_map (L' := [P, pts b4 (.cells [.slice (some ⟨bv, ov, none⟩) (ts.map tbV).length cv'].toArray 24), pts b5 (.cells [.int .i64 (tm : Int), .slice (some ⟨bl, ol, none⟩) (row0.map valV).length cl, .slice pk (kids.map docV).length ck].toArray 44), pts b7 (.cells [.int .u8 yk, .int .i64 yi, .int .u64 yr, .string ys].toArray 28)] ++ R) entD ?_
    refine ok_loop' (γ := Nat × Nat) (fun g ρ L => g.1 ≤ kids.length ∧ g.2 + (nodesK (Dm.cK (kids.drop g.1))).countP (hitP s t ⟨yk, yi, yr, ys⟩) = (if hb = true then 1 else 0) + (nodesK (Dm.cK kids)).countP (hitP s t ⟨yk, yi, yr, ys⟩) ∧
        Knows ρ [(2, .int .i64 t), (4, .pointer (some ⟨b4, 0, none⟩)), (5, .pointer (some ⟨b5, 0, none⟩)), (7, .pointer (some ⟨b7, 0, none⟩)), (9, .int .i64 (g.2 : Int)), (11, .int .i64 (g.1 : Int))] ∧
        L = [P, pts b4 (.cells [.slice (some ⟨bv, ov, none⟩) (ts.map tbV).length cv'].toArray 24), pts b5 (.cells [.int .i64 (tm : Int), .slice (some ⟨bl, ol, none⟩) (row0.map valV).length cl, .slice pk (kids.map docV).length ck].toArray 44), pts b7 (.cells [.int .u8 yk, .int .i64 yi, .int .u64 yr, .string ys].toArray 28)] ++ R) (fun g => kids.length - g.1)
      (0, if hb = true then 1 else 0) ⟨by simp, rfl, ⟨rfl, rfl, rfl, rfl, by rw [hbv]; rfl, rfl, trivial⟩, rfl⟩ ?_
    rintro ⟨i, n⟩ ρ L ⟨hi, hinv, hk, rfl⟩
    dsimp only at hi hinv hk ⊢
    refine ok_regs hk ?_
    have hb1 : (if hb = true then 1 else 0 : Nat) ≤ 1 := by split <;> omega
    cases t1 : decide ((i : Int) < ((kids.map docV).length : Int)) with
    | false =>
      have hie : i = kids.length := by have := of_decide_eq_false t1; omega
      rw [hie, List.drop_length] at hinv
      simp only [Dm.cK, nodesK, List.countP_nil, Nat.add_zero] at hinv
      repeat' (first | (refine go_Y ?_; intros) | (refine gs_Y ?_ ?_ <;> (intro hgd; try (simp only [Bool.not_true, Bool.not_false] at hgd))) | (refine gc_Y ?_ ?_ <;> intro _) | fail)
      (refine rt_Y (y := ()) (hrs := Tryz.results22) (hv := ?_) (hφ := ?_))
      · rw [← hinv]; rfl
      · trivial
    | true =>
      have h0 : i < kids.length := by have := of_decide_eq_true t1; omega
      have hx : (kids.map docV)[i]? = some (docV kids[i]) := by rw [List.getElem?_map, List.getElem?_eq_getElem h0]; rfl
      have hn1 : i < (kids.map docV).length := by omega
      have hs := ih _ (List.getElem_mem h0) (hrowK _ (List.getElem_mem h0)) (hNk _ (List.getElem_mem h0))
      rw [List.drop_eq_getElem_cons h0] at hinv
      simp only [Dm.cK, nodesK, List.countP_append] at hinv
      generalize kids[i] = x at hx hs hinv
      obtain ⟨kt, ⟨klv, hklv⟩, krow, ⟨kkv, hkkv⟩, kkids⟩ := x
      dsimp only [docV] at hx hs
      generalize (nodesD (Dm.mk kt ⟨klv, hklv⟩ krow ⟨kkv, hkkv⟩ kkids).c).countP (hitP s t ⟨yk, yi, yr, ys⟩) = y at hs hinv
      refine ok_learn (VwIn.base (n := 3) (xs := kids.map docV) (VwIn.here h2) (by intro e; rw [e] at hn1; simp at hn1)) ?_
      rintro ⟨bu, ou, rfl⟩
      repeat' (first | (refine go_Y ?_; intros) | (refine gs_Y ?_ ?_ <;> (intro hgd; try (simp only [Bool.not_true, Bool.not_false] at hgd))) | (refine gc_Y ?_ ?_ <;> intro _) | fail)
      refine cl_Y (hs) ?_
      intro _ _
      repeat' (first | (refine go_Y ?_; intros) | (refine gs_Y ?_ ?_ <;> (intro hgd; try (simp only [Bool.not_true, Bool.not_false] at hgd))) | (refine gc_Y ?_ ?_ <;> intro _) | fail)
      refine cont_map (L' := [P, pts b4 (.cells [.slice (some ⟨bv, ov, none⟩) (ts.map tbV).length cv'].toArray 24), pts b5 (.cells [.int .i64 (tm : Int), .slice (some ⟨bl, ol, none⟩) (row0.map valV).length cl, .slice (some ⟨bu, ou, none⟩) (kids.map docV).length ck].toArray 44), pts b7 (.cells [.int .u8 yk, .int .i64 yi, .int .u64 yr, .string ys].toArray 28)] ++ R) entD ?_
      refine cont_back (i + 1, n + y) ⟨h0, by dsimp only; omega, ⟨rfl, rfl, rfl, rfl, rfl, rfl, trivial⟩, rfl⟩ (by dsimp only; omega)
end Go.Proofs.YtphaegcoldpclaaGreatDoor
/- The law AggTells (layer 24). -/
-- @DEFS Y
set_option linter.unusedSimpArgs false
set_option linter.unusedVariables false
set_option maxRecDepth 100000
namespace Go.Proofs.YtphaegcoldpclaaGreatDoor
open Go Go.Fx Go.Proofs Go.Pl

theorem RowsQ.uniq {r : Rl} {R R' : List Pr2} (h : RowsQ r R) (h' : RowsQ r R') : R = R' := by
  have := filter_same (s := r.s) h.srt h'.srt (f := fun _ => true) (fun x _ => by rw [h.mem, h'.mem])
  rwa [List.filter_eq_self.2 (fun _ _ => rfl), List.filter_eq_self.2 (fun _ _ => rfl)] at this
theorem docsR_len {r : Rl} {R0 : List Pr2} (hR : RowsQ r R0) {l : List Dm} (h : l.map Dm.c = docsR r R0) : l.length ≤ 200 := by
  have e := congrArg List.length h
  unfold docsR rootsR at e
  rw [List.length_map, List.length_map] at e
  have h1 := List.length_filter_le (fun p : Pr2 => decide ((tabAt r.s p.1).par < 0)) R0
  have h2 := hR.ok.len
  omega
def dmE : Dm := .mk 0 ⟨.slice none 0 0, rfl⟩ [] ⟨.slice none 0 0, rfl⟩ []
end Go.Proofs.YtphaegcoldpclaaGreatDoor
/- The law AggOnce (layer 24): printed by tools/gen_pho.py. -/
-- @DEFS Y
set_option linter.unusedSimpArgs false
set_option linter.unusedVariables false
set_option maxRecDepth 100000
namespace Go.Proofs.YtphaegcoldpclaaGreatDoor
open Go Go.Fx Go.Proofs Go.Pl

theorem docS_top (s : Sc) (R : List Pr2) (n : Nat) (p : Pr2) : ∃ ks, docS s R n p.1 p.2 = .mk p.1 p.2 ks := by
  cases n with
  | zero => exact ⟨_, rfl⟩
  | succ n => exact ⟨_, docS_succ n p⟩
/-- How many rows with a root the first tables have. -/
def rootedUp (r : Rl) (R0 : List Pr2) (n : Nat) : Nat := ((List.range n).flatMap fun k : Nat => (ofR R0 (k : Int) fun _ => true).map fun l => ((k : Int), l)).countP fun q => (rootR r q).isSome
theorem ofR_back (R0 : List Pr2) (k : Int) : ((ofR R0 k fun _ => true).map fun l => (k, l)) = R0.filter fun x => decide (x.1 = k) := by
  unfold ofR
  rw [List.map_map]
  have e : (R0.filter fun x => decide (x.1 = k) && true) = R0.filter fun x => decide (x.1 = k) := List.filter_congr fun x _ => by simp
  rw [e]
  have : ∀ l : List Pr2, (∀ x ∈ l, x.1 = k) → l.map ((fun l => (k, l)) ∘ fun x => x.2) = l := by
    intro l hl
    induction l with
    | nil => rfl
    | cons a l ih =>
      rw [List.map_cons, ih fun x hx => hl x (List.mem_cons_of_mem _ hx)]
      have := hl a (List.mem_cons_self ..)
      simp only [Function.comp_apply]
      rw [← this]
  exact this _ fun x hx => by simpa using (List.mem_filter.1 hx).2
theorem rootedUp_all {r : Rl} {R0 : List Pr2} (h : RowsQ r R0) : rootedUp r R0 r.s.length = R0.countP fun q => (rootR r q).isSome := by
  unfold rootedUp
  conv => rhs; rw [h.tabs]
  congr 1
  exact fm_congr fun k _ => ofR_back R0 k
theorem rootedUp_step (r : Rl) (R0 : List Pr2) (n : Nat) : rootedUp r R0 (n + 1) = rootedUp r R0 n + ((ofR R0 (n : Int) fun _ => true).map fun l => ((n : Int), l)).countP fun q => (rootR r q).isSome := by
  unfold rootedUp
  rw [List.range_succ, List.flatMap_append, List.countP_append]
  simp
theorem rootedUp_zero (r : Rl) (R0 : List Pr2) : rootedUp r R0 0 = 0 := by simp [rootedUp]
theorem rootedUp_le {r : Rl} {R0 : List Pr2} (n : Nat) : rootedUp r R0 n ≤ R0.length * n := by
  induction n with
  | zero => simp [rootedUp]
  | succ n ih =>
    rw [rootedUp_step]
    have h1 := List.countP_le_length (p := fun q => (rootR r q).isSome) (l := (ofR R0 (n : Int) fun _ => true).map fun l => ((n : Int), l))
    rw [ofR_back] at h1 ⊢
    have h2 := List.length_filter_le (fun x : Pr2 => decide (x.1 = (n : Int))) R0
    rw [Nat.mul_add]; omega
abbrev GPl (P : HProp) := { x : HProp // Ext P x }
theorem sum_take_le : ∀ (l : List Nat) (n m : Nat), (∀ x ∈ l, x ≤ m) → (l.take n).sum ≤ m * n
  | [], n, m, _ => by simp
  | a :: l, 0, m, _ => by simp
  | a :: l, n + 1, m, h => by
    have h1 := h a (List.mem_cons_self ..)
    have h2 := sum_take_le l n m fun x hx => h x (List.mem_cons_of_mem _ hx)
    simp only [List.take_succ_cons, List.sum_cons]
    rw [Nat.mul_add]; omega
set_option maxHeartbeats 32000000 in
theorem AggOnce_spec (vs vo : Value) (ts : List Tb) (ops : List Om) (A : HProp) (hU : UT A) (hvc : vs.oneCell' = true) (h : SVr A vs ts) (ho : OsR A vo ops) (hwops : ∀ q ∈ ops, ∀ v ∈ q.row, v.wf) :
    FSpec Tryz.prog 4 [.agg #[vs], vo] [A] HProp (fun P' => Ext A P') (fun _ => .bool true) (fun P' => [P']) := by
  have hh1 := heavy14_spec vs vo ts ops A h ho
  have hal := fun (P : HProp) (e : Ext A P) => alive24_spec P (hU.ext e)
  refine spec_intro [] _ Tryz.func4 rfl Tryz.ntmps4 (by rfl) (fun w0 R => ?_)
  refine ok_learn (VwIn.slice (VwIn.here h.vw)) ?_
  rintro ⟨ps, cv, rfl⟩
  repeat' (first | (refine go_Y ?_; intros) | (refine gs_Y ?_ ?_ <;> (intro hgd; try (simp only [Bool.not_true, Bool.not_false] at hgd))) | (refine gc_Y ?_ ?_ <;> intro _) | fail)
  rename_i b2
  refine cl_Y (hh1) ?_
  intro y1 hlg
  cases y1 with
  | true =>
    repeat' (first | (refine go_Y ?_; intros) | (refine gs_Y ?_ ?_ <;> (intro hgd; try (simp only [Bool.not_true, Bool.not_false] at hgd))) | (refine gc_Y ?_ ?_ <;> intro _) | fail)
    refine cl_Y (hal A (Ext.refl A)) ?_
    intro _ _
    repeat' (first | (refine go_Y ?_; intros) | (refine gs_Y ?_ ?_ <;> (intro hgd; try (simp only [Bool.not_true, Bool.not_false] at hgd))) | (refine gc_Y ?_ ?_ <;> intro _) | fail)
    (refine rt_Y (y := A) (hrs := Tryz.results4) (hv := ?_) (hφ := ?_))
    · rfl
    · exact Ext.refl A
  | false =>
  have hsm := hlg rfl
  have hsv := h.sv hsm.1
  cases hck : checkS (ts.map Tb.c) with
  | false =>
    repeat' (first | (refine go_Y ?_; intros) | (refine gs_Y ?_ ?_ <;> (intro hgd; try (simp only [Bool.not_true, Bool.not_false] at hgd))) | (refine gc_Y ?_ ?_ <;> intro _) | fail)
    refine cl_Y (both24_bad (.slice ps (ts.map tbV).length cv) vo ts ops A hsv ho hck) ?_
    intro _ _
    repeat' (first | (refine go_Y ?_; intros) | (refine gs_Y ?_ ?_ <;> (intro hgd; try (simp only [Bool.not_true, Bool.not_false] at hgd))) | (refine gc_Y ?_ ?_ <;> intro _) | fail)
    refine cl_Y (hal A (Ext.refl A)) ?_
    intro _ _
    repeat' (first | (refine go_Y ?_; intros) | (refine gs_Y ?_ ?_ <;> (intro hgd; try (simp only [Bool.not_true, Bool.not_false] at hgd))) | (refine gc_Y ?_ ?_ <;> intro _) | fail)
    (refine rt_Y (y := A) (hrs := Tryz.results4) (hv := ?_) (hφ := ?_))
    · rfl
    · exact Ext.refl A
  | true =>
  repeat' (first | (refine go_Y ?_; intros) | (refine gs_Y ?_ ?_ <;> (intro hgd; try (simp only [Bool.not_true, Bool.not_false] at hgd))) | (refine gc_Y ?_ ?_ <;> intro _) | fail)
  refine cl_Y (both24_ok (.slice ps (ts.map tbV).length cv) vo ts ops A hU hsv ho hwops hsm hck) ?_
  rintro ⟨b, bx, r, P⟩ ⟨hok, hwf, hrs, hE⟩
  dsimp only at hok hwf hrs hE ⊢
  refine rfP_Q (P := P) (b := bx) (r := r) takeD fun hQ => ?_
  obtain ⟨R0, hR⟩ := hQ.rows hok
  have hslen : r.s.length ≤ 12 := by obtain ⟨_, _, _, _, h12⟩ := checkS_ok hok.sch; exact h12
  have htsl : ts.length = r.s.length := by rw [hrs, List.length_map]
  have ltm : (ts.map tbV).length = ts.length := by simp
  repeat' (first | (refine go_Y ?_; intros) | (refine gs_Y ?_ ?_ <;> (intro hgd; try (simp only [Bool.not_true, Bool.not_false] at hgd))) | (refine gc_Y ?_ ?_ <;> intro _) | fail)
  refine cl_Y (aAll_spec hR hok hwf b P) ?_
  rintro ⟨⟨v1, hv1⟩, l1, P1⟩ ⟨hE1, hd1, hc1⟩
  dsimp only at hE1 hd1 hc1 ⊢
  have f0 : (!decide ((0 : Int) = (0 : Int))) = false := by decide
  have hA1 := hE.trans hE1
  have hl1 := docsR_len hR hc1
  have hlroots : (rootsR r R0).length = l1.length := by
    have := congrArg List.length hc1
    unfold docsR at this
    rw [List.length_map, List.length_map] at this
    exact this.symm
  have hroot : ∀ (n : Nat) (hn : n < l1.length), ∃ p, (rootsR r R0)[n]? = some p ∧ p ∈ rootsR r R0 ∧ l1[n].c = docS r.s R0 r.s.length p.1 p.2 := by
    intro n hn
    have hn' : n < (rootsR r R0).length := by omega
    refine ⟨(rootsR r R0)[n], List.getElem?_eq_getElem hn', List.getElem_mem hn', ?_⟩
    have := congrArg (fun l => l[n]?) hc1
    unfold docsR at this
    simp only [List.getElem?_map, List.getElem?_eq_getElem hn, List.getElem?_eq_getElem hn', Option.map_some, Option.some.injEq] at this
    exact this
  refine ops_learn (rowShapeS (e := 44) (n := 3) (v := v1) (xs := l1.map docV) (by decide) takeD) ?_
  rintro ⟨pd, cd, rfl, hcd, hsd⟩
  have lm1 : (l1.map docV).length = l1.length := by simp
  repeat' (first | (refine go_Y ?_; intros) | (refine gs_Y ?_ ?_ <;> (intro hgd; try (simp only [Bool.not_true, Bool.not_false] at hgd))) | (refine gc_Y ?_ ?_ <;> intro _) | fail)
  have hnode := fun (p : Pr2) => (nodesD (docS r.s R0 r.s.length p.1 p.2)).length
  refine ok_map (L' := [row 44 3 (.slice pd (l1.map docV).length cd) (l1.map docV), relP P1 b r, P1, pts b2 (.cells [.slice ps (ts.map tbV).length cv].toArray 24)] ++ R) entD ?_
  refine ok_loop' (γ := Nat × Nat) (fun g ρ L => g.1 ≤ l1.length ∧ g.2 = (((rootsR r R0).map fun p => (nodesD (docS r.s R0 r.s.length p.1 p.2)).length).take g.1).sum ∧ Knows ρ [(2, .pointer (some ⟨b2, 0, none⟩)), (5, .pointer (some ⟨b, 0, none⟩)), (8, .slice pd (l1.map docV).length cd), (10, .int .i64 (g.2 : Int)), (11, .int .i64 (g.1 : Int))] ∧
      L = [row 44 3 (.slice pd (l1.map docV).length cd) (l1.map docV), relP P1 b r, P1, pts b2 (.cells [.slice ps (ts.map tbV).length cv].toArray 24)] ++ R) (fun g => l1.length - g.1)
    (0, 0) ⟨by simp, by simp, ⟨rfl, rfl, rfl, rfl, rfl, trivial⟩, rfl⟩ ?_
  rintro ⟨i, total⟩ ρ L ⟨hi, htot, hk, rfl⟩
  dsimp only at hi htot hk ⊢
  refine ok_regs hk ?_
  cases t1 : decide ((i : Int) < ((l1.map docV).length : Int)) with
  | true =>
    have h0 : i < l1.length := by have := of_decide_eq_true t1; omega
    have hx : (l1.map docV)[i]? = some (docV l1[i]) := by rw [List.getElem?_map, List.getElem?_eq_getElem h0]; rfl
    have hn1 : i < (l1.map docV).length := by omega
    obtain ⟨p, hp1, hp2, hp3⟩ := hroot i h0
    have hpm := (List.mem_filter.1 hp2).1
    obtain ⟨hsz1, hsz2⟩ := docS_size hR.ok r.s.length hpm
    have hpos := nodesD_pos (docS r.s R0 r.s.length p.1 p.2)
    have hs := aSize_spec (hd1 _ (List.getElem_mem h0))
    rw [hp3, hsz1] at hs
    have htb : total ≤ 200 * i := by
      rw [htot]
      exact sum_take_le _ _ _ fun x hx => by
        obtain ⟨p', hp', rfl⟩ := List.mem_map.1 hx
        exact (docS_size hR.ok r.s.length (List.mem_filter.1 hp').1).2
    have hnx : (((rootsR r R0).map fun p => (nodesD (docS r.s R0 r.s.length p.1 p.2)).length).take (i + 1)).sum = (((rootsR r R0).map fun p => (nodesD (docS r.s R0 r.s.length p.1 p.2)).length).take i).sum + (nodesD (docS r.s R0 r.s.length p.1 p.2)).length := by
      have hlt : i < ((rootsR r R0).map fun p => (nodesD (docS r.s R0 r.s.length p.1 p.2)).length).length := by rw [List.length_map]; omega
      rw [List.take_succ_eq_append_getElem hlt, List.sum_append]
      have hp0 := (List.getElem?_eq_some_iff.1 hp1).2
      simp only [List.getElem_map, List.sum_cons, List.sum_nil, Nat.add_zero]
      rw [hp0]
    rw [← htot] at hnx
    obtain ⟨p0, p1'⟩ := hR.ok.tab p hpm
    obtain ⟨ks0, htop⟩ := docS_top r.s R0 r.s.length p
    generalize (nodesD (docS r.s R0 r.s.length p.1 p.2)).length = nn at hsz2 hpos hs hnx
    refine ok_learn (VwIn.base (n := 3) (p := pd) (len := (l1.map docV).length) (cap := cd) (xs := l1.map docV) (VwIn.here Vw.row) (by intro e; rw [e] at hn1; simp at hn1)) ?_
    rintro ⟨bd, od, rfl⟩
    generalize l1[i] = d at hx hs hp3
    obtain ⟨dt, ⟨dlv, hdlv⟩, drow, ⟨dkv, hdkv⟩, dk⟩ := d
    rw [htop] at hp3
    simp only [Dm.c, Dc.mk.injEq] at hp3
    obtain ⟨rfl, _, _⟩ := hp3
    dsimp only [docV] at hx hs
    have g0 : decide ((nn : Int) < 1) = false := by simp only [decide_eq_false_iff_not]; omega
    have g1 : decide (p.1 < 0) = false := by simp only [decide_eq_false_iff_not]; omega
    have g2 : decide (((ts.map tbV).length : Int) ≤ p.1) = false := by simp only [decide_eq_false_iff_not]; omega
    repeat' (first | (refine go_Y ?_; intros) | (refine gs_Y ?_ ?_ <;> (intro hgd; try (simp only [Bool.not_true, Bool.not_false] at hgd))) | (refine gc_Y ?_ ?_ <;> intro _) | fail)
    refine cl_Y (hs) ?_
    intro _ _
    repeat' (first | (refine go_Y ?_; intros) | (refine gs_Y ?_ ?_ <;> (intro hgd; try (simp only [Bool.not_true, Bool.not_false] at hgd))) | (refine gc_Y ?_ ?_ <;> intro _) | fail)
    refine cont_map (L' := [row 44 3 (.slice (some ⟨bd, od, none⟩) (l1.map docV).length cd) (l1.map docV), relP P1 b r, P1, pts b2 (.cells [.slice ps (ts.map tbV).length cv].toArray 24)] ++ R) entD ?_
    refine cont_back (i + 1, total + nn) ⟨h0, hnx.symm, ⟨rfl, rfl, rfl, rfl, rfl, trivial⟩, rfl⟩ (by dsimp only; omega)
  | false =>
  have hie : i = l1.length := by have := of_decide_eq_false t1; omega
  rw [hie, List.take_of_length_le (by rw [List.length_map]; omega), total_rooted hR, ← rootedUp_all hR] at htot
  repeat' (first | (refine go_Y ?_; intros) | (refine gs_Y ?_ ?_ <;> (intro hgd; try (simp only [Bool.not_true, Bool.not_false] at hgd))) | (refine gc_Y ?_ ?_ <;> intro _) | fail)
  clear hie t1
  refine ok_map (L' := [row 44 3 (.slice pd (l1.map docV).length cd) (l1.map docV), relP P1 b r, P1, pts b2 (.cells [.slice ps (ts.map tbV).length cv].toArray 24)] ++ R) entD ?_
  refine ok_loop' (γ := Nat × GPl P1) (fun g ρ L => g.1 ≤ ts.length ∧ Knows ρ [(2, .pointer (some ⟨b2, 0, none⟩)), (5, .pointer (some ⟨b, 0, none⟩)), (8, .slice pd (l1.map docV).length cd), (10, .int .i64 (total : Int)), (13, .int .i64 (rootedUp r R0 g.1 : Int)), (14, .int .i64 (g.1 : Int))] ∧
      L = [row 44 3 (.slice pd (l1.map docV).length cd) (l1.map docV), relP g.2.1 b r, g.2.1, pts b2 (.cells [.slice ps (ts.map tbV).length cv].toArray 24)] ++ R) (fun g => ts.length - g.1)
    (0, ⟨P1, Ext.refl P1⟩) ⟨by simp, ⟨rfl, rfl, rfl, rfl, by rw [rootedUp_zero]; rfl, rfl, trivial⟩, rfl⟩ ?_
  rintro ⟨m, ⟨Q, hQ⟩⟩ ρ L ⟨hm, hk, rfl⟩
  dsimp only at hm hk ⊢
  refine ok_regs hk ?_
  have hAQ := hA1.trans hQ
  cases t2 : decide ((m : Int) < ((ts.map tbV).length : Int)) with
  | false =>
    have hme : m = r.s.length := by have := of_decide_eq_false t2; omega
    have hvwQ := hAQ.vw h.vw
    have e1 : decide ((total : Int) = (rootedUp r R0 m : Int)) = true := by rw [hme, htot]; simp
    repeat' (first | (refine go_Y ?_; intros) | (refine gs_Y ?_ ?_ <;> (intro hgd; try (simp only [Bool.not_true, Bool.not_false] at hgd))) | (refine gc_Y ?_ ?_ <;> intro _) | fail)
    refine cl_Y (hal Q hAQ) ?_
    intro _ _
    repeat' (first | (refine go_Y ?_; intros) | (refine gs_Y ?_ ?_ <;> (intro hgd; try (simp only [Bool.not_true, Bool.not_false] at hgd))) | (refine gc_Y ?_ ?_ <;> intro _) | fail)
    (refine rt_Y (y := Q) (hrs := Tryz.results4) (hv := ?_) (hφ := ?_))
    · rfl
    · exact hAQ
  | true =>
  have hm0 : m < ts.length := by have := of_decide_eq_true t2; omega
  have hmx : (ts.map tbV)[m]? = some (tbV ts[m]) := by rw [List.getElem?_map, List.getElem?_eq_getElem hm0]; rfl
  have hmn : m < (ts.map tbV).length := by omega
  have htai : tabAt r.s (m : Int) = ts[m].c := by
    rw [hrs]
    unfold tabAt
    rw [Int.toNat_natCast, List.getElem?_map, List.getElem?_eq_getElem hm0]; rfl
  have hstp := rootedUp_step r R0 m
  repeat' (first | (refine go_Y ?_; intros) | (refine gs_Y ?_ ?_ <;> (intro hgd; try (simp only [Bool.not_true, Bool.not_false] at hgd))) | (refine gc_Y ?_ ?_ <;> intro _) | fail)
  refine cl_Y (relRows_spec b r (m : Int) Q hok hwf) ?_
  rintro ⟨⟨vl, hvl⟩, l, Q1⟩ ⟨hQ1, hlw, hlo⟩
  dsimp only at hQ1 hlw hlo ⊢
  have hll := rowsAt_len hok (m : Int) (fun _ => true)
  have hll2 := hlo.perm.length_eq
  rw [List.length_map] at hll2
  have hlo := hlo.uniq (hR.ord (m : Int) _) rfl (.refl _)
  have llm : (l.map rwV).length = l.length := by simp
  have hru := rootedUp_le (r := r) (R0 := R0) m
  have hRl := hR.ok.len
  have hru2 : rootedUp r R0 m ≤ 200 * 12 := Nat.le_trans hru (Nat.mul_le_mul hRl (by omega))
  refine ops_learn (rowShapeS (e := 42) (n := 1) (v := vl) (xs := l.map rwV) (by decide) takeD) ?_
  rintro ⟨pl, cl, rfl, hcl, hsl⟩
  repeat' (first | (refine go_Y ?_; intros) | (refine gs_Y ?_ ?_ <;> (intro hgd; try (simp only [Bool.not_true, Bool.not_false] at hgd))) | (refine gc_Y ?_ ?_ <;> intro _) | fail)
  refine ok_map (L' := [row 44 3 (.slice pd (l1.map docV).length cd) (l1.map docV), relP Q1 b r, Q1, row 42 1 (.slice pl (l.map rwV).length cl) (l.map rwV), pts b2 (.cells [.slice ps (ts.map tbV).length cv].toArray 24)] ++ R) entD ?_
  refine ok_loop' (γ := Nat × GPl Q1) (fun g ρ L => g.1 ≤ l.length ∧ Knows ρ [(2, .pointer (some ⟨b2, 0, none⟩)), (5, .pointer (some ⟨b, 0, none⟩)), (8, .slice pd (l1.map docV).length cd), (10, .int .i64 (total : Int)), (13, .int .i64 ((rootedUp r R0 m + (((l.take g.1).map (·.2)).map fun x => ((m : Int), x)).countP fun q => (rootR r q).isSome : Nat) : Int)), (14, .int .i64 (m : Int)), (15, .slice pl (l.map rwV).length cl), (16, .int .i64 (g.1 : Int))] ∧
      L = [row 44 3 (.slice pd (l1.map docV).length cd) (l1.map docV), relP g.2.1 b r, g.2.1, row 42 1 (.slice pl (l.map rwV).length cl) (l.map rwV), pts b2 (.cells [.slice ps (ts.map tbV).length cv].toArray 24)] ++ R) (fun g => l.length - g.1)
    (0, ⟨Q1, Ext.refl Q1⟩) ⟨by simp, ⟨rfl, rfl, rfl, rfl, by simp only [List.take_zero, List.map_nil, List.countP_nil, Nat.add_zero]; rfl, rfl, rfl, rfl, trivial⟩, rfl⟩ ?_
  rintro ⟨j, ⟨Q2, hQ2⟩⟩ ρ L ⟨hj, hk, rfl⟩
  dsimp only at hj hk ⊢
  refine ok_regs hk ?_
  have hA2 := hAQ.trans (hQ1.trans hQ2)
  cases t3 : decide ((j : Int) < ((l.map rwV).length : Int)) with
  | false =>
    have hje : j = l.length := by have := of_decide_eq_false t3; omega
    have hnew : rootedUp r R0 m + (((l.take j).map (·.2)).map fun x => ((m : Int), x)).countP (fun q => (rootR r q).isSome) = rootedUp r R0 (m + 1) := by
      rw [hje, List.take_length, hlo]
      exact hstp.symm
    repeat' (first | (refine go_Y ?_; intros) | (refine gs_Y ?_ ?_ <;> (intro hgd; try (simp only [Bool.not_true, Bool.not_false] at hgd))) | (refine gc_Y ?_ ?_ <;> intro _) | fail)
    refine cont_map (L' := [row 44 3 (.slice pd (l1.map docV).length cd) (l1.map docV), relP Q2 b r, Q2, pts b2 (.cells [.slice ps (ts.map tbV).length cv].toArray 24)] ++ R) entD ?_
    refine cont_back (m + 1, ⟨Q2, hQ.trans (hQ1.trans hQ2)⟩) ⟨hm0, ⟨rfl, rfl, rfl, rfl, by rw [← hnew]; rfl, rfl, trivial⟩, rfl⟩ (by show ts.length - (m + 1) < ts.length - m; omega)
  | true =>
  have hj0 : j < l.length := by have := of_decide_eq_true t3; omega
  have hlj : l[j]? = some l[j] := List.getElem?_eq_getElem hj0
  have hjx : (l.map rwV)[j]? = some (rwV l[j]) := by rw [List.getElem?_map, hlj]; rfl
  have hjn : j < (l.map rwV).length := by omega
  have hstc : (((l.take (j + 1)).map (·.2)).map fun x => ((m : Int), x)).countP (fun q => (rootR r q).isSome) = (((l.take j).map (·.2)).map fun x => ((m : Int), x)).countP (fun q => (rootR r q).isSome) + (if (rootR r ((m : Int), l[j].2)).isSome = true then 1 else 0) := by
    rw [List.take_succ_eq_append_getElem hj0, List.map_append, List.map_append, List.countP_append]
    simp only [List.map_cons, List.map_nil, List.countP_cons, List.countP_nil, Nat.zero_add]
  have hcle := List.countP_le_length (p := fun q => (rootR r q).isSome) (l := ((l.take j).map (·.2)).map fun x => ((m : Int), x))
  rw [List.length_map, List.length_map, List.length_take] at hcle
  have hcle2 : (((l.take j).map (·.2)).map fun x => ((m : Int), x)).countP (fun q => (rootR r q).isSome) ≤ 200 := by omega
  have hmR : ((m : Int), l[j].2) ∈ R0 := (mem_ofR.1 (by rw [← hlo]; exact List.mem_map_of_mem (List.getElem_mem hj0))).1
  have hlv := hQ2.vw (hlw _ (List.getElem_mem hj0))
  refine ok_learn (VwIn.base (n := 1) (p := pl) (len := (l.map rwV).length) (cap := cl) (xs := l.map rwV) (VwIn.there (VwIn.there (VwIn.there (VwIn.here Vw.row)))) (by intro e; rw [e] at hjn; simp at hjn)) ?_
  rintro ⟨bl, ol, rfl⟩
  generalize l[j] = x at hlj hjx hstc hmR hlv
  obtain ⟨⟨xv, hxv⟩, xl⟩ := x
  dsimp only [rwV] at hjx hstc hmR hlv
  have hro := hR.row _ hmR
  dsimp only at hro
  obtain ⟨hk1, hk2, hlen⟩ := rowS_key hro
  have hgm := (hR.mem _).1 hmR
  have hgm' : aget ((m : Int), Pl.keyOf r.s (m : Int) xl) r.rows = some xl := hgm
  have hkw : (Pl.keyOf r.s (m : Int) xl).wf := hwf _ (aget_mem hgm') _ (List.mem_of_getElem? hk2)
  have hU2 := hU.ext hA2
  have hrt := aRoot_some hR hok hwf b (m : Int) (Pl.keyOf r.s (m : Int) xl) xl Q2 hU2 hkw hgm'
  have hcr := fun (p : Pr2) (hp : p ∈ rootsR r R0) => count_root hR hp hmR
  dsimp only at hcr
  have hc24 := fun (Q : HProp) (e : Ext A Q) (d : Dm) (hd : DocR Q d) h3 h4 => count24_spec (vs := ⟨.slice ps (ts.map tbV).length cv, rfl⟩) (hsv.ext e) hrs.symm (m : Int) (Pl.keyOf r.s (m : Int) xl) hd h3 h4
  have hvwQ := hA2.vw h.vw
  have hh : hasS (ts.map Tb.c) (m : Int) = true := by rw [← hrs]; simp only [rowS, Bool.and_eq_true] at hro; exact hro.1
  obtain ⟨_, _, _, htok0, _⟩ := hasS_tab hh
  rw [← hrs, htai] at htok0
  rw [htai] at hk2 hlen
  generalize Pl.keyOf r.s (m : Int) xl = key at hk2 hkw hrt hcr hc24
  generalize ts[m] = tb at hmx hk2 hlen htok0
  obtain ⟨tn, cols, ⟨tcv, htcv⟩, tkey, ref, par⟩ := tb
  have k0 := htok0.key0
  have kL := htok0.keyL
  dsimp only [tbV, Tb.c] at hmx hk2 hlen k0 kL
  obtain ⟨km, rfl⟩ : ∃ km : Nat, tkey = km := ⟨tkey.toNat, by omega⟩
  rw [Int.toNat_natCast] at hk2
  have hkl := (List.getElem?_eq_some_iff.1 hk2).1
  have hnk : km < (xl.map valV).length := by rw [List.length_map]; exact hkl
  have hxk : (xl.map valV)[km]? = some (valV key) := by rw [List.getElem?_map, hk2]; rfl
  have g4 : decide (((xl.map valV).length : Int) ≤ (km : Int)) = false := by simp only [decide_eq_false_iff_not]; omega
  refine ok_learn (VwIn.slice (VwIn.there (VwIn.there (VwIn.here hlv)))) ?_
  rintro ⟨px, cx, rfl⟩
  refine ok_learn (VwIn.base (n := 4) (xs := xl.map valV) (VwIn.there (VwIn.there (VwIn.here hlv))) (by intro e; rw [e] at hnk; simp at hnk)) ?_
  rintro ⟨bx', ox', rfl⟩
  refine ok_learn (VwIn.base (n := 5) (p := ps) (len := (ts.map tbV).length) (cap := cv) (xs := ts.map tbV) (VwIn.there (VwIn.there (VwIn.here hvwQ))) (by intro e; rw [e] at hmn; simp at hmn)) ?_
  rintro ⟨bv, ov, rfl⟩
  obtain ⟨kk, ki, kr, ks⟩ := key
  dsimp only [valV] at hxk hrt hc24
  repeat' (first | (refine go_Y ?_; intros) | (refine gs_Y ?_ ?_ <;> (intro hgd; try (simp only [Bool.not_true, Bool.not_false] at hgd))) | (refine gc_Y ?_ ?_ <;> intro _) | fail)
  (apply ok_draw [12]; (focus (kernel_rfl)); (focus ((conv => lhs; whnf); first | done | rfl)); (focus (decide +kernel)); (focus (exact (fun _ h => h))))
  repeat' (first | (refine go_Y ?_; intros) | (refine gs_Y ?_ ?_ <;> (intro hgd; try (simp only [Bool.not_true, Bool.not_false] at hgd))) | (refine gc_Y ?_ ?_ <;> intro _) | fail)
  rename_i b17
  have hwn : ∀ p ∈ rootsR r R0, rootR r ((m : Int), xl) = some p ↔ (rootAns r ((m : Int), xl)).2.2 = true ∧ p.1 = (rootAns r ((m : Int), xl)).1 ∧ Pl.keyOf r.s p.1 p.2 = (rootAns r ((m : Int), xl)).2.1 := by
    intro p hp
    cases hrr : rootR r ((m : Int), xl) with
    | none => rw [rootAns_none hrr]; simp
    | some p' =>
      rw [rootAns_some hrr]
      simp only [Option.some.injEq, true_and]
      refine ⟨fun e => by rw [e]; exact ⟨rfl, rfl⟩, fun ⟨e1, e2⟩ => ?_⟩
      exact (hR.ok.uniq (List.mem_filter.1 hp).1 ((rootR_iff hR hmR).1 hrr).1 e1 e2).symm
  have hsome : (rootR r ((m : Int), xl)).isSome = (rootAns r ((m : Int), xl)).2.2 := by
    cases hrr : rootR r ((m : Int), xl) with
    | none => rw [rootAns_none hrr]; rfl
    | some p' => rw [rootAns_some hrr]; rfl
  have hrng : (rootAns r ((m : Int), xl)).2.2 = true → 0 ≤ (rootAns r ((m : Int), xl)).1 ∧ (rootAns r ((m : Int), xl)).1 < r.s.length := by
    cases hrr : rootR r ((m : Int), xl) with
    | none => rw [rootAns_none hrr]; intro e; cases e
    | some p' => rw [rootAns_some hrr]; exact fun _ => hR.ok.tab _ ((rootR_iff hR hmR).1 hrr).1
  rw [hsome] at hstc
  obtain ⟨⟨u, uk, has⟩, hans⟩ : ∃ z, z = rootAns r ((m : Int), xl) := ⟨_, rfl⟩
  rw [← hans] at hwn hrng hstc hrt
  clear hans hsome
  dsimp only at hwn hrng hstc hrt
  have huk : ∃ uk0, uk0 = uk := ⟨_, rfl⟩
  obtain ⟨uk0, huk0⟩ := huk
  rw [← huk0] at hwn
  obtain ⟨uk, ui, ur, us⟩ := uk
  dsimp only [valV] at hrt
  refine cl_Y (hrt) ?_
  intro Q3 hQ3
  have hA3 := hA2.trans hQ3
  have hvwQ3 := hQ3.vw hvwQ
  have hc24 := hc24 Q3 hA3
  have hd3 := docs_mono (hQ.trans (hQ1.trans (hQ2.trans hQ3))) hd1
  generalize hcg : (((l.take j).map (·.2)).map fun x => ((m : Int), x)).countP (fun q => (rootR r q).isSome) = c1 at hstc hcle2 ⊢
  cases has with
  | false =>
    rw [if_neg (by decide)] at hstc
    repeat' (first | (refine go_Y ?_; intros) | (refine gs_Y ?_ ?_ <;> (intro hgd; try (simp only [Bool.not_true, Bool.not_false] at hgd))) | (refine gc_Y ?_ ?_ <;> intro _) | fail)
    rename_i b19
    refine ok_map (L' := [row 44 3 (.slice pd (l1.map docV).length cd) (l1.map docV), relP Q3 b r, Q3, row 42 1 (.slice (some ⟨bl, ol, none⟩) (l.map rwV).length cl) (l.map rwV), pts b17 (.cells [.int .u8 kk, .int .i64 ki, .int .u64 kr, .string ks].toArray 28), pts b19 (.cells [.int .u8 uk, .int .i64 ui, .int .u64 ur, .string us].toArray 28), pts b2 (.cells [.slice (some ⟨bv, ov, none⟩) (ts.map tbV).length cv].toArray 24)] ++ R) entD ?_
    refine ok_loop' (γ := Nat) (fun n ρ L => n ≤ l1.length ∧ Knows ρ [(2, .pointer (some ⟨b2, 0, none⟩)), (5, .pointer (some ⟨b, 0, none⟩)), (8, .slice pd (l1.map docV).length cd), (10, .int .i64 (total : Int)), (13, .int .i64 (((rootedUp r R0 m + c1 : Nat) : Int))), (14, .int .i64 (m : Int)), (15, .slice (some ⟨bl, ol, none⟩) (l.map rwV).length cl), (16, .int .i64 (j : Int)), (17, .pointer (some ⟨b17, 0, none⟩)), (18, .int .i64 u), (19, .pointer (some ⟨b19, 0, none⟩)), (20, .bool false), (22, .int .i64 (n : Int))] ∧
        L = [row 44 3 (.slice pd (l1.map docV).length cd) (l1.map docV), relP Q3 b r, Q3, row 42 1 (.slice (some ⟨bl, ol, none⟩) (l.map rwV).length cl) (l.map rwV), pts b17 (.cells [.int .u8 kk, .int .i64 ki, .int .u64 kr, .string ks].toArray 28), pts b19 (.cells [.int .u8 uk, .int .i64 ui, .int .u64 ur, .string us].toArray 28), pts b2 (.cells [.slice (some ⟨bv, ov, none⟩) (ts.map tbV).length cv].toArray 24)] ++ R) (fun n => l1.length - n)
      0 ⟨by simp, ⟨rfl, rfl, rfl, rfl, rfl, rfl, rfl, rfl, rfl, rfl, rfl, rfl, rfl, trivial⟩, rfl⟩ ?_
    rintro n ρ L ⟨hn, hk, rfl⟩
    refine ok_regs hk ?_
    cases t4 : decide ((n : Int) < ((l1.map docV).length : Int)) with
    | false =>
      repeat' (first | (refine go_Y ?_; intros) | (refine gs_Y ?_ ?_ <;> (intro hgd; try (simp only [Bool.not_true, Bool.not_false] at hgd))) | (refine gc_Y ?_ ?_ <;> intro _) | fail)
      refine cont_map (L' := [row 44 3 (.slice pd (l1.map docV).length cd) (l1.map docV), relP Q3 b r, Q3, row 42 1 (.slice (some ⟨bl, ol, none⟩) (l.map rwV).length cl) (l.map rwV), pts b2 (.cells [.slice (some ⟨bv, ov, none⟩) (ts.map tbV).length cv].toArray 24)] ++ R) entD ?_
      refine cont_back (j + 1, ⟨Q3, hQ2.trans hQ3⟩) ⟨hj0, ⟨rfl, rfl, rfl, rfl, by
        try dsimp only
        rw [hstc]
        rfl, rfl, rfl, rfl, trivial⟩, rfl⟩ (by show l.length - (j + 1) < l.length - j; omega)
    | true =>
      have hn0 : n < l1.length := by have := of_decide_eq_true t4; omega
      have hdx : (l1.map docV)[n]? = some (docV l1[n]) := by rw [List.getElem?_map, List.getElem?_eq_getElem hn0]; rfl
      have hdn : n < (l1.map docV).length := by omega
      obtain ⟨p, hp1, hp2, hp3⟩ := hroot n hn0
      have hpm := (List.mem_filter.1 hp2).1
      obtain ⟨hsz1, hsz2⟩ := docS_size hR.ok r.s.length hpm
      have hcn := hc24 l1[n] (hd3 _ (List.getElem_mem hn0)) (by rw [hp3]; exact fun x hx => hR.row x (nodes_mem hR.ok _ hpm hx).1) (by rw [hp3]; omega)
      rw [hp3, hcr p hp2] at hcn
      have hw := hwn p hp2
      obtain ⟨ks0, htop⟩ := docS_top r.s R0 r.s.length p
      have hdd := hd3 _ (List.getElem_mem hn0)
      refine ok_learn (VwIn.base (n := 3) (p := pd) (len := (l1.map docV).length) (cap := cd) (xs := l1.map docV) (VwIn.here Vw.row) (by intro e; rw [e] at hdn; simp at hdn)) ?_
      rintro ⟨bd, od, rfl⟩
      generalize l1[n] = d at hdx hcn hp3 hdd
      obtain ⟨dt, ⟨dlv, hdlv⟩, drow, ⟨dkv, hdkv⟩, dk⟩ := d
      rw [htop] at hp3
      simp only [Dm.c, Dc.mk.injEq] at hp3
      obtain ⟨rfl, rfl, _⟩ := hp3
      cases hdd with
      | mk hdv _ _ _ _ _ =>
      dsimp only [docV] at hdx hcn hdv
      have hone : oneCells [Value.int .i64 p.1, dlv, dkv] = true := by
        simp only [oneCells, List.all_cons, List.all_nil, hdlv, hdkv, Bool.and_true]; rfl
      rw [if_neg (by rw [hw]; intro hh; cases hh.1)] at hcn
      have f7 : (!decide (((0 : Nat) : Int) = (0 : Int))) = false := by decide
      repeat' (first | (refine go_Y ?_; intros) | (refine gs_Y ?_ ?_ <;> (intro hgd; try (simp only [Bool.not_true, Bool.not_false] at hgd))) | (refine gc_Y ?_ ?_ <;> intro _) | fail)
      refine cl_Y (hcn) ?_
      intro _ _
      repeat' (first | (refine go_Y ?_; intros) | (refine gs_Y ?_ ?_ <;> (intro hgd; try (simp only [Bool.not_true, Bool.not_false] at hgd))) | (refine gc_Y ?_ ?_ <;> intro _) | fail)
      refine cont_map (L' := [row 44 3 (.slice (some ⟨bd, od, none⟩) (l1.map docV).length cd) (l1.map docV), relP Q3 b r, Q3, row 42 1 (.slice (some ⟨bl, ol, none⟩) (l.map rwV).length cl) (l.map rwV), pts b17 (.cells [.int .u8 kk, .int .i64 ki, .int .u64 kr, .string ks].toArray 28), pts b19 (.cells [.int .u8 uk, .int .i64 ui, .int .u64 ur, .string us].toArray 28), pts b2 (.cells [.slice (some ⟨bv, ov, none⟩) (ts.map tbV).length cv].toArray 24)] ++ R) entD ?_
      refine cont_back (n + 1) ⟨hn0, ⟨rfl, rfl, rfl, rfl, rfl, rfl, rfl, rfl, rfl, rfl, rfl, rfl, rfl, trivial⟩, rfl⟩ (by omega)
  | true =>
    rw [if_pos rfl] at hstc
    repeat' (first | (refine go_Y ?_; intros) | (refine gs_Y ?_ ?_ <;> (intro hgd; try (simp only [Bool.not_true, Bool.not_false] at hgd))) | (refine gc_Y ?_ ?_ <;> intro _) | fail)
    rename_i b19
    refine ok_map (L' := [row 44 3 (.slice pd (l1.map docV).length cd) (l1.map docV), relP Q3 b r, Q3, row 42 1 (.slice (some ⟨bl, ol, none⟩) (l.map rwV).length cl) (l.map rwV), pts b17 (.cells [.int .u8 kk, .int .i64 ki, .int .u64 kr, .string ks].toArray 28), pts b19 (.cells [.int .u8 uk, .int .i64 ui, .int .u64 ur, .string us].toArray 28), pts b2 (.cells [.slice (some ⟨bv, ov, none⟩) (ts.map tbV).length cv].toArray 24)] ++ R) entD ?_
    refine ok_loop' (γ := Nat) (fun n ρ L => n ≤ l1.length ∧ Knows ρ [(2, .pointer (some ⟨b2, 0, none⟩)), (5, .pointer (some ⟨b, 0, none⟩)), (8, .slice pd (l1.map docV).length cd), (10, .int .i64 (total : Int)), (13, .int .i64 (((rootedUp r R0 m + c1 : Nat) : Int) + 1)), (14, .int .i64 (m : Int)), (15, .slice (some ⟨bl, ol, none⟩) (l.map rwV).length cl), (16, .int .i64 (j : Int)), (17, .pointer (some ⟨b17, 0, none⟩)), (18, .int .i64 u), (19, .pointer (some ⟨b19, 0, none⟩)), (20, .bool true), (22, .int .i64 (n : Int))] ∧
        L = [row 44 3 (.slice pd (l1.map docV).length cd) (l1.map docV), relP Q3 b r, Q3, row 42 1 (.slice (some ⟨bl, ol, none⟩) (l.map rwV).length cl) (l.map rwV), pts b17 (.cells [.int .u8 kk, .int .i64 ki, .int .u64 kr, .string ks].toArray 28), pts b19 (.cells [.int .u8 uk, .int .i64 ui, .int .u64 ur, .string us].toArray 28), pts b2 (.cells [.slice (some ⟨bv, ov, none⟩) (ts.map tbV).length cv].toArray 24)] ++ R) (fun n => l1.length - n)
      0 ⟨by simp, ⟨rfl, rfl, rfl, rfl, rfl, rfl, rfl, rfl, rfl, rfl, rfl, rfl, rfl, trivial⟩, rfl⟩ ?_
    rintro n ρ L ⟨hn, hk, rfl⟩
    refine ok_regs hk ?_
    cases t4 : decide ((n : Int) < ((l1.map docV).length : Int)) with
    | false =>
      repeat' (first | (refine go_Y ?_; intros) | (refine gs_Y ?_ ?_ <;> (intro hgd; try (simp only [Bool.not_true, Bool.not_false] at hgd))) | (refine gc_Y ?_ ?_ <;> intro _) | fail)
      refine cont_map (L' := [row 44 3 (.slice pd (l1.map docV).length cd) (l1.map docV), relP Q3 b r, Q3, row 42 1 (.slice (some ⟨bl, ol, none⟩) (l.map rwV).length cl) (l.map rwV), pts b2 (.cells [.slice (some ⟨bv, ov, none⟩) (ts.map tbV).length cv].toArray 24)] ++ R) entD ?_
      refine cont_back (j + 1, ⟨Q3, hQ2.trans hQ3⟩) ⟨hj0, ⟨rfl, rfl, rfl, rfl, by
        try dsimp only
        rw [hstc]
        rfl, rfl, rfl, rfl, trivial⟩, rfl⟩ (by show l.length - (j + 1) < l.length - j; omega)
    | true =>
      have hn0 : n < l1.length := by have := of_decide_eq_true t4; omega
      have hdx : (l1.map docV)[n]? = some (docV l1[n]) := by rw [List.getElem?_map, List.getElem?_eq_getElem hn0]; rfl
      have hdn : n < (l1.map docV).length := by omega
      obtain ⟨p, hp1, hp2, hp3⟩ := hroot n hn0
      have hpm := (List.mem_filter.1 hp2).1
      obtain ⟨hsz1, hsz2⟩ := docS_size hR.ok r.s.length hpm
      have hcn := hc24 l1[n] (hd3 _ (List.getElem_mem hn0)) (by rw [hp3]; exact fun x hx => hR.row x (nodes_mem hR.ok _ hpm hx).1) (by rw [hp3]; omega)
      rw [hp3, hcr p hp2] at hcn
      have hw := hwn p hp2
      obtain ⟨ks0, htop⟩ := docS_top r.s R0 r.s.length p
      have hdd := hd3 _ (List.getElem_mem hn0)
      refine ok_learn (VwIn.base (n := 3) (p := pd) (len := (l1.map docV).length) (cap := cd) (xs := l1.map docV) (VwIn.here Vw.row) (by intro e; rw [e] at hdn; simp at hdn)) ?_
      rintro ⟨bd, od, rfl⟩
      generalize l1[n] = d at hdx hcn hp3 hdd
      obtain ⟨dt, ⟨dlv, hdlv⟩, drow, ⟨dkv, hdkv⟩, dk⟩ := d
      rw [htop] at hp3
      simp only [Dm.c, Dc.mk.injEq] at hp3
      obtain ⟨rfl, rfl, _⟩ := hp3
      cases hdd with
      | mk hdv _ _ _ _ _ =>
      dsimp only [docV] at hdx hcn hdv
      have hone : oneCells [Value.int .i64 p.1, dlv, dkv] = true := by
        simp only [oneCells, List.all_cons, List.all_nil, hdlv, hdkv, Bool.and_true]; rfl
      obtain ⟨u0, u1'⟩ := hrng rfl
      have g5 : decide (0 ≤ u) = true := by simpa using u0
      have g6 : decide (u < ((ts.map tbV).length : Int)) = true := by simp only [decide_eq_true_eq]; omega
      cases e1 : decide (p.1 = u) with
      | false =>
        rw [if_neg (by rw [hw]; intro hh; exact of_decide_eq_false e1 hh.2.1)] at hcn
        have f7 : (!decide (((0 : Nat) : Int) = (0 : Int))) = false := by decide
        repeat' (first | (refine go_Y ?_; intros) | (refine gs_Y ?_ ?_ <;> (intro hgd; try (simp only [Bool.not_true, Bool.not_false] at hgd))) | (refine gc_Y ?_ ?_ <;> intro _) | fail)
        refine cl_Y (hcn) ?_
        intro _ _
        repeat' (first | (refine go_Y ?_; intros) | (refine gs_Y ?_ ?_ <;> (intro hgd; try (simp only [Bool.not_true, Bool.not_false] at hgd))) | (refine gc_Y ?_ ?_ <;> intro _) | fail)
        refine cont_map (L' := [row 44 3 (.slice (some ⟨bd, od, none⟩) (l1.map docV).length cd) (l1.map docV), relP Q3 b r, Q3, row 42 1 (.slice (some ⟨bl, ol, none⟩) (l.map rwV).length cl) (l.map rwV), pts b17 (.cells [.int .u8 kk, .int .i64 ki, .int .u64 kr, .string ks].toArray 28), pts b19 (.cells [.int .u8 uk, .int .i64 ui, .int .u64 ur, .string us].toArray 28), pts b2 (.cells [.slice (some ⟨bv, ov, none⟩) (ts.map tbV).length cv].toArray 24)] ++ R) entD ?_
        refine cont_back (n + 1) ⟨hn0, ⟨rfl, rfl, rfl, rfl, rfl, rfl, rfl, rfl, rfl, rfl, rfl, rfl, rfl, trivial⟩, rfl⟩ (by omega)
      | true =>
        have e1' := of_decide_eq_true e1
        have hrop := hR.row _ hpm
        obtain ⟨_, hpk2, hplen⟩ := rowS_key hrop
        have hhp : hasS (ts.map Tb.c) p.1 = true := by rw [← hrs]; simp only [rowS, Bool.and_eq_true] at hrop; exact hrop.1
        obtain ⟨um, tbu, hum, hut, hux, hul, huta, hutok, _⟩ := hasS_tb hhp
        rw [← hrs] at huta
        rw [huta] at hpk2 hplen
        generalize Pl.keyOf r.s p.1 p.2 = pkey at hpk2 hw
        obtain ⟨utn, ucols, ⟨utcv, hutcv⟩, utkey, uref, upar⟩ := tbu
        have uk0' := hutok.key0
        have ukL := hutok.keyL
        have hutab := (hsv.tab _ (List.mem_of_getElem? hut)).vw
        dsimp only [tbV, Tb.c] at hux hpk2 hplen uk0' ukL hutab
        obtain ⟨ukm, rfl⟩ : ∃ ukm : Nat, utkey = ukm := ⟨utkey.toNat, by omega⟩
        rw [Int.toNat_natCast] at hpk2
        have hpkl := (List.getElem?_eq_some_iff.1 hpk2).1
        have hpnk : ukm < (p.2.map valV).length := by rw [List.length_map]; exact hpkl
        have hpxk : (p.2.map valV)[ukm]? = some (valV pkey) := by rw [List.getElem?_map, hpk2]; rfl
        have hucol := hA3.vw hutab
        refine ok_learn (VwIn.slice (n := 3) (VwIn.there (VwIn.there (VwIn.here hucol)))) ?_
        rintro ⟨pu, cu, rfl⟩
        refine ok_learn (VwIn.slice (VwIn.there (VwIn.there (VwIn.here hdv)))) ?_
        rintro ⟨pw, cw, rfl⟩
        refine ok_learn (VwIn.base (n := 4) (xs := p.2.map valV) (VwIn.there (VwIn.there (VwIn.here hdv))) (by intro e; rw [e] at hpnk; simp at hpnk)) ?_
        rintro ⟨bw, ow, rfl⟩
        have hum' : u = (um : Int) := by rw [← e1', hum]
        have g8 : decide (((p.2.map valV).length : Int) = ((ucols.map coV).length : Int)) = true := by simp only [List.length_map, decide_eq_true_eq]; omega
        have hq := eqL_valV pkey uk0
        obtain ⟨qk, qi, qr, qs⟩ := pkey
        subst huk0
        dsimp only [valV] at hpxk hq
        subst hum'
        cases e2 : nilB BinOp.eql (eqL [TypeDesc.int .u8, TypeDesc.int .i64, TypeDesc.int .u64, TypeDesc.string] [Value.int .u8 qk, Value.int .i64 qi, Value.int .u64 qr, Value.string qs] [Value.int .u8 uk, Value.int .i64 ui, Value.int .u64 ur, Value.string us]) with
        | false =>
          have e3 : (⟨qk, qi, qr, qs⟩ : Vl) ≠ ⟨uk, ui, ur, us⟩ := by
            intro e
            have e4 := e2
            simp only [nilB] at e4
            rw [hq] at e4
            exact absurd e (by simpa using e4)
          rw [if_neg (by rw [hw]; intro hh; exact e3 hh.2.2)] at hcn
          have f7 : (!decide (((0 : Nat) : Int) = (0 : Int))) = false := by decide
          repeat' (first | (refine go_Y ?_; intros) | (refine gs_Y ?_ ?_ <;> (intro hgd; try (simp only [Bool.not_true, Bool.not_false] at hgd))) | (refine gc_Y ?_ ?_ <;> intro _) | fail)
          refine cl_Y (hcn) ?_
          intro _ _
          repeat' (first | (refine go_Y ?_; intros) | (refine gs_Y ?_ ?_ <;> (intro hgd; try (simp only [Bool.not_true, Bool.not_false] at hgd))) | (refine gc_Y ?_ ?_ <;> intro _) | fail)
          refine cont_map (L' := [row 44 3 (.slice (some ⟨bd, od, none⟩) (l1.map docV).length cd) (l1.map docV), relP Q3 b r, Q3, row 42 1 (.slice (some ⟨bl, ol, none⟩) (l.map rwV).length cl) (l.map rwV), pts b17 (.cells [.int .u8 kk, .int .i64 ki, .int .u64 kr, .string ks].toArray 28), pts b19 (.cells [.int .u8 uk, .int .i64 ui, .int .u64 ur, .string us].toArray 28), pts b2 (.cells [.slice (some ⟨bv, ov, none⟩) (ts.map tbV).length cv].toArray 24)] ++ R) entD ?_
          refine cont_back (n + 1) ⟨hn0, ⟨rfl, rfl, rfl, rfl, rfl, rfl, rfl, rfl, rfl, rfl, rfl, rfl, rfl, trivial⟩, rfl⟩ (by omega)
        | true =>
          have e3 : (⟨qk, qi, qr, qs⟩ : Vl) = ⟨uk, ui, ur, us⟩ := by
            have e4 := e2
            simp only [nilB] at e4
            rw [hq] at e4
            exact of_decide_eq_true e4
          rw [if_pos (hw.2 ⟨rfl, e1', e3⟩)] at hcn
          have f7 : (!decide (((1 : Nat) : Int) = (1 : Int))) = false := by decide
          repeat' (first | (refine go_Y ?_; intros) | (refine gs_Y ?_ ?_ <;> (intro hgd; try (simp only [Bool.not_true, Bool.not_false] at hgd))) | (refine gc_Y ?_ ?_ <;> intro _) | fail)
          refine cl_Y (hcn) ?_
          intro _ _
          repeat' (first | (refine go_Y ?_; intros) | (refine gs_Y ?_ ?_ <;> (intro hgd; try (simp only [Bool.not_true, Bool.not_false] at hgd))) | (refine gc_Y ?_ ?_ <;> intro _) | fail)
          refine cont_map (L' := [row 44 3 (.slice (some ⟨bd, od, none⟩) (l1.map docV).length cd) (l1.map docV), relP Q3 b r, Q3, row 42 1 (.slice (some ⟨bl, ol, none⟩) (l.map rwV).length cl) (l.map rwV), pts b17 (.cells [.int .u8 kk, .int .i64 ki, .int .u64 kr, .string ks].toArray 28), pts b19 (.cells [.int .u8 uk, .int .i64 ui, .int .u64 ur, .string us].toArray 28), pts b2 (.cells [.slice (some ⟨bv, ov, none⟩) (ts.map tbV).length cv].toArray 24)] ++ R) entD ?_
          refine cont_back (n + 1) ⟨hn0, ⟨rfl, rfl, rfl, rfl, rfl, rfl, rfl, rfl, rfl, rfl, rfl, rfl, rfl, trivial⟩, rfl⟩ (by omega)
end Go.Proofs.YtphaegcoldpclaaGreatDoor
