/- Texts merged: SuE SuF SuG SuH. -/
import Derived.Test.YtmnafjonbeihiaaGreatDoorG23
import Derived.Test.YtmnafjonbeihiaaGreatDoorG24
import Derived.Test.YtmnafjonbeihiaaGreatDoorH32
import Derived.Test.YtmnafjonbeihiaaGreatDoorJ7
import Derived.Test.YtmnafjonbeihiaaGreatDoorG25
import Derived.Test.YtmnafjonbeihiaaGreatDoorG7
set_option linter.unusedSimpArgs false
set_option linter.unusedVariables false
set_option maxRecDepth 100000
namespace Go.Pl
open Go
def recsB : Nat → List (List Chg) → List BA
  | _, [] => []
  | n, l :: ls => recB n l :: recsB (n + 1) ls
theorem recsB_len : ∀ (n : Nat) (ls : List (List Chg)), (recsB n ls).length = ls.length
  | _, [] => rfl
  | n, l :: ls => by rw [recsB, List.length_cons, List.length_cons, recsB_len]
theorem recsB_get : ∀ (n : Nat) {ls : List (List Chg)} {k : Nat} {l : List Chg}, ls[k]? = some l → (recsB n ls)[k]? = some (recB (n + k) l)
  | n, [], k, l, h => by simp at h
  | n, a :: ls, 0, l, h => by
    obtain rfl : a = l := by simpa using h
    rfl
  | n, a :: ls, k + 1, l, h => by
    have := recsB_get (n + 1) (ls := ls) (k := k) (by simpa using h)
    rw [recsB, List.getElem?_cons_succ, this]
    congr 2
    omega
structure HistOk (s : Sc) (ls : List (List Chg)) (r : Rl) : Prop where
  h : hist ⟨s, [], 0⟩ ls = some r
  few : ls.length ≤ 300
  ch : ∀ l ∈ ls, l.length ≤ 60 ∧ ∀ c ∈ l, ChOk c
theorem hist_take : ∀ {ls : List (List Chg)} {r0 r : Rl} {k : Nat}, hist r0 ls = some r → ∃ r', hist r0 (ls.take k) = some r'
  | [], r0, r, k, _ => ⟨r0, by simp [hist]⟩
  | l :: ls, r0, r, 0, _ => ⟨r0, rfl⟩
  | l :: ls, r0, r, k + 1, h => by
    unfold hist at h
    split at h
    · rename_i r1 h1
      split at h
      · rename_i h2
        obtain ⟨r', h3⟩ := hist_take (k := k) h
        refine ⟨r', ?_⟩
        rw [List.take_succ_cons]
        unfold hist
        rw [h1]
        dsimp only
        rw [if_pos h2, h3]
      · cases h
    · cases h
theorem hist_step {ls : List (List Chg)} {r0 r r1 : Rl} {k : Nat} {l : List Chg} (h : hist r0 ls = some r) (hk : ls[k]? = some l) (h1 : hist r0 (ls.take k) = some r1) : ∃ r2, dones r1 l = some r2 ∧ r2.whole = true ∧ hist r0 (ls.take (k + 1)) = some r2 := by
  have hkl : k < ls.length := by
    rcases Nat.lt_or_ge k ls.length with h1 | h1
    · exact h1
    · rw [List.getElem?_eq_none h1] at hk; cases hk
  obtain ⟨r2, h2⟩ := hist_take (k := k + 1) h
  have e := h2
  rw [List.take_succ_eq_append_getElem hkl, hist_app, h1] at e
  rw [List.getElem?_eq_getElem hkl] at hk
  rw [Option.some.inj hk] at e
  change hist r1 [l] = some r2 at e
  unfold hist at e
  split at e
  · rename_i r3 h3
    split at e
    · rename_i h4
      obtain rfl := Option.some.inj e
      exact ⟨r3, h3, h4, h2⟩
    · cases e
  · cases e
theorem hist_ok : ∀ {ls : List (List Chg)} {r0 r : Rl}, r0.Ok → hist r0 ls = some r → r.Ok ∧ r.s = r0.s
  | [], r0, r, h0, h => by rw [← Option.some.inj h]; exact ⟨h0, rfl⟩
  | l :: ls, r0, r, h0, h => by
    unfold hist at h
    split at h
    · rename_i r1 h1
      split at h
      · have e := (dones_N h1).1
        have hs := dones_s h1
        obtain ⟨a, b⟩ := hist_ok (r0 := r1) (by rw [← e]; exact doneN_ok h0 l) h
        exact ⟨a, b.trans hs⟩
      · cases h
    · cases h
end Go.Pl
namespace Go.Proofs.YtmnafjonbeihiaaGreatDoor
open Go Go.Fx Go.Proofs Go.Pl
structure Src where
  r : Rl
  l : List (List Chg)
  t : Option Tx
  w : Wv
structure SrY where
  vs : Value
  ts : List Tb
  wb : Nat
  rb : Nat
  lv : V1s
  ls : List Cmt
  tb : Nat
structure SrOK (P : HProp) (S : Src) (y : SrY) : Prop where
  vc : y.vs.oneCell' = true
  sv : SV P y.vs y.ts
  ts : y.ts.map Tb.c = S.r.s
  cm : ∀ x ∈ y.ls, CmtI P x
  l : y.ls.map (fun x => x.2.map Cm.c) = S.l
theorem SrOK.ext {P P' : HProp} (e : Ext P P') {S : Src} {y : SrY} (h : SrOK P S y) : SrOK P' S y := ⟨h.vc, h.sv.ext e, h.ts, fun x hx => (h.cm x hx).ext e, h.l⟩
def empS : HProp := fun _ => True
def opP (P : HProp) (rb tb : Nat) : Option Tx → HProp
  | none => empS
  | some x => txP P tb rb x
def txV17 (tb : Nat) : Option Tx → Value
  | none => .pointer none
  | some _ => .pointer (some ⟨tb, 0, none⟩)
def srL (P : HProp) (xb b : Nat) (S : Src) (y : { y : SrY // SrOK P S y }) : List HProp :=
  [pts xb (.cells [y.1.vs, .pointer (some ⟨y.1.wb, 0, none⟩), y.1.lv.1, .pointer (some ⟨y.1.rb, 0, none⟩), txV17 y.1.tb S.t].toArray 99), walP y.1.wb b nC S.w, row 33 1 y.1.lv.1 (y.1.ls.map cmtV), relP P y.1.rb S.r, opP P y.1.rb y.1.tb S.t]
def srP (P : HProp) (xb b : Nat) (S : Src) : HProp := exP (srL P xb b S)
theorem sr_in {P : HProp} {xb b : Nat} {S : Src} {y : SrY} (hy : SrOK P S y) {L : List HProp} {h : Frag} (s : SatL (srL P xb b S ⟨y, hy⟩ ++ L) h) : SatL (srP P xb b S :: L) h := ex_in (M := srL P xb b S) ⟨y, hy⟩ rfl s
theorem empS_in {L : List HProp} {h : Frag} (s : SatL L h) : SatL (empS :: L) h := satL_emp (A := empS) trivial s
theorem sOpen_nil (v : Value) (hv : v.oneCell' = true) : FSpec Tryz.prog 22 [.pointer none, .agg #[v]] [] Unit (fun _ => True) (fun _ => .tuple #[.pointer none, .int .i64 1]) (fun _ => []) := by
  refine spec_intro [] _ Tryz.func22 rfl Tryz.ntmps22 (by rfl) (fun w0 R => ?_)
  repeat' (first | (refine gY ?_; intros) | (refine hY ?_ ?_ <;> (intro hgd; try simp only [bn] at hgd)) | (refine jY ?_ ?_ <;> intro _) | fail)
  (refine rt_Y (y := ()) (hrs := Tryz.results22) (hv := ?_) (hφ := ?_))
  · rfl
  · trivial
set_option maxHeartbeats 16000000 in
theorem sOpen_new (b : Nat) (d d1 : Dk) (w1 : Wv) (vs : Value) (ts : List Tb) (A : HProp) (hvc : vs.oneCell' = true) (hU : UT A) (hsv : SV A vs ts) (hc : checkS (ts.map Tb.c) = true) (hd : d.Ok) (hl : d.loose.length ≤ 1000000000) (hW : (openW d nC).2 = (0, [], 0)) (hd1 : (openW d nC).1.Ok) (hl1 : (openW d nC).1.loose.length ≤ 1000000000)
    (hA : appendW ⟨0, 0, 0⟩ (openW d nC).1 nC [putSB (ts.map Tb.c)] = (w1, d1, 0)) :
    FSpec Tryz.prog 22 [.pointer (some ⟨b, 0, none⟩), .agg #[vs]] [diskP b d, A] (Nat × HProp) (fun y => Ext A y.2) (fun y => .tuple #[.pointer (some ⟨y.1, 0, none⟩), .int .i64 0])
      (fun y => [srP y.2 y.1 b ⟨⟨ts.map Tb.c, [], 0⟩, [], none, w1⟩, diskP b d1, y.2]) := by
  have hNew := relNew_spec vs ts A hsv hc
  have hOpen := Open_good b d nC hd hl (by decide) (by rw [hW])
  rw [hW] at hOpen
  dsimp only at hOpen
  rw [show (⟨(([] : List BA).length : Int), ((0 : Nat) : Int), 0⟩ : Wv) = ⟨0, 0, 0⟩ from rfl] at hOpen
  have hzh := putSB_size hc
  have hAp := fun (wb : Nat) (u : Value) (P : HProp) (hu : Vw P 1 u ([putSB (ts.map Tb.c)].map strV)) => Append_spec wb b nC ⟨0, 0, 0⟩ (openW d nC).1 u P [putSB (ts.map Tb.c)] hd1 hl1 (by decide) hu (by show lenT [_] ≤ _; simp [lenT]; omega) (fun _ => by decide)
  rw [hA] at hAp
  dsimp only at hAp
  have hSch := fun (rb : Nat) (P : HProp) => relSchema_spec rb ⟨ts.map Tb.c, [], 0⟩ P (Rl.Ok.new hc)
  have hPut := fun (P : HProp) (e : Ext A P) => sPut_spec vs ts P (hU.ext e) (hsv.ext e) hc hvc
  generalize putSB (ts.map Tb.c) = hd0 at hAp hPut
  generalize (openW d nC).1 = d0 at hOpen hAp
  have e0 : (!decide ((0 : Int) = (0 : Int))) = false := rfl
  refine spec_intro [] _ Tryz.func22 rfl Tryz.ntmps22 (by rfl) (fun w0 R => ?_)
  repeat' (first | (refine gY ?_; intros) | (refine hY ?_ ?_ <;> (intro hgd; try simp only [bn] at hgd)) | (refine jY ?_ ?_ <;> intro _) | fail)
  refine cl_Y (hNew) ?_
  rintro ⟨rb, P1⟩ hE1
  dsimp only at hE1 ⊢
  repeat' (first | (refine gY ?_; intros) | (refine hY ?_ ?_ <;> (intro hgd; try simp only [bn] at hgd)) | (refine jY ?_ ?_ <;> intro _) | fail)
  refine cl_Y (hOpen) ?_
  rintro ⟨wb, ⟨lv, hlv⟩⟩ _
  dsimp only
  repeat' (first | (refine gY ?_; intros) | (refine hY ?_ ?_ <;> (intro hgd; try simp only [bn] at hgd)) | (refine jY ?_ ?_ <;> intro _) | fail)
  refine cl_Y (hSch rb P1) ?_
  rintro ⟨⟨v2, hv2⟩, ts2, P2⟩ ⟨hs2, ht2, hE2⟩
  dsimp only at hs2 ht2 hE2 ⊢
  repeat' (first | (refine gY ?_; intros) | (refine hY ?_ ?_ <;> (intro hgd; try simp only [bn] at hgd)) | (refine jY ?_ ?_ <;> intro _) | fail)
  rename_i xb
  refine cl_Y (hPut P2 (hE1.trans hE2)) ?_
  intro _ _
  refine ops_learn (rowShapeS (e := 9) (n := 1) (v := lv) (xs := ([] : List BA).map strV) (by decide) takeD) ?_
  rintro ⟨pl, cl, rfl, _, _⟩
  have t1 : decide (((List.map strV ([] : List BA)).length : Int) = 0) = true := rfl
  repeat' (first | (refine gY ?_; intros) | (refine hY ?_ ?_ <;> (intro hgd; try simp only [bn] at hgd)) | (refine jY ?_ ?_ <;> intro _) | fail)
  rename_i w hw
  refine ops_poolN (ty := 9) (n := 1) (v := w) (xs := [hd0].map strV) (P := P2) takeD ?_
  intro P3 hE3 hv3
  refine cl_Y (hAp wb w P3 hv3) ?_
  intro _ _
  repeat' (first | (refine gY ?_; intros) | (refine hY ?_ ?_ <;> (intro hgd; try simp only [bn] at hgd)) | (refine jY ?_ ?_ <;> intro _) | fail)
  have hE := hE1.trans (hE2.trans hE3)
  have hy : SrOK P3 ⟨⟨ts.map Tb.c, [], 0⟩, [], none, w1⟩ ⟨v2, ts2, wb, rb, ⟨.slice none 0 0, rfl⟩, [], 0⟩ := ⟨hv2, hs2.ext hE3, ht2, fun x hx => by simp at hx, rfl⟩
  refine cont_map (fun _ h => relP_ext hE3 (b := rb) (r := ⟨ts.map Tb.c, [], 0⟩) (Take.out1 (A := relP P2 rb ⟨ts.map Tb.c, [], 0⟩) takeD h)) ?_
  refine cont_map (fun _ h => nilRow (e := 33) (n := 1) h) ?_
  refine cont_map (fun _ h => empS_in h) ?_
  refine cont_map (fun _ h => sr_in (P := P3) (xb := xb) (b := b) hy (Take.out takeD h)) ?_
  (refine rt_Y (y := (xb, P3)) (hrs := Tryz.results22) (hv := ?_) (hφ := ?_))
  · rfl
  · exact hE
set_option maxHeartbeats 32000000 in
theorem sOpen_again (b : Nat) (d d1 : Dk) (sz : Nat) (vs : Value) (ts : List Tb) (A : HProp) (ls : List (List Chg)) (r : Rl) (hvc : vs.oneCell' = true) (hU : UT A) (hsv : SV A vs ts) (hc : checkS (ts.map Tb.c) = true) (hd : d.Ok) (hl : d.loose.length ≤ 1000000000) (hH : HistOk (ts.map Tb.c) ls r)
    (hW : openW d nC = (d1, 0, putSB (ts.map Tb.c) :: recsB 1 ls, sz)) :
    FSpec Tryz.prog 22 [.pointer (some ⟨b, 0, none⟩), .agg #[vs]] [diskP b d, A] (Nat × HProp) (fun y => Ext A y.2) (fun y => .tuple #[.pointer (some ⟨y.1, 0, none⟩), .int .i64 0])
      (fun y => [srP y.2 y.1 b ⟨r, ls, none, ⟨((ls.length + 1 : Nat) : Int), (sz : Int), 0⟩⟩, diskP b d1, y.2]) := by
  have hNew := relNew_spec vs ts A hsv hc
  have hOpen := Open_good b d nC hd hl (by decide) (by rw [hW])
  rw [hW] at hOpen
  dsimp only at hOpen
  rw [List.length_cons, recsB_len] at hOpen
  have hSch := fun (rb : Nat) (P : HProp) => relSchema_spec rb ⟨ts.map Tb.c, [], 0⟩ P (Rl.Ok.new hc)
  have hPut := fun (P : HProp) (e : Ext A P) => sPut_spec vs ts P (hU.ext e) (hsv.ext e) hc hvc
  have hok0 : Rl.Ok ⟨ts.map Tb.c, [], 0⟩ := Rl.Ok.new hc
  have hget := fun (k : Nat) (l : List Chg) (h : ls[k]? = some l) => recsB_get 1 h
  have hRL := recsB_len 1 ls
  have hfew := hH.few
  generalize putSB (ts.map Tb.c) = hd0 at hPut hOpen
  generalize recsB 1 ls = rs at hOpen hget hRL
  obtain ⟨r0, hr0⟩ : ∃ r0 : Rl, r0 = ⟨ts.map Tb.c, [], 0⟩ := ⟨_, rfl⟩
  have hHh := hH.h
  rw [← hr0] at hHh hok0
  have hr0s : r0.s = ts.map Tb.c := by rw [hr0]
  have e0 : (!decide ((0 : Int) = (0 : Int))) = false := rfl
  have lL : ((hd0 :: rs).map strV).length = ls.length + 1 := by rw [List.length_map, List.length_cons, hRL]
  refine spec_intro [] _ Tryz.func22 rfl Tryz.ntmps22 (by rfl) (fun w0 R => ?_)
  repeat' (first | (refine gY ?_; intros) | (refine hY ?_ ?_ <;> (intro hgd; try simp only [bn] at hgd)) | (refine jY ?_ ?_ <;> intro _) | fail)
  refine cl_Y (hNew) ?_
  rintro ⟨rb, P1⟩ hE1
  dsimp only at hE1 ⊢
  repeat' (first | (refine gY ?_; intros) | (refine hY ?_ ?_ <;> (intro hgd; try simp only [bn] at hgd)) | (refine jY ?_ ?_ <;> intro _) | fail)
  refine cl_Y (hOpen) ?_
  rintro ⟨wb, ⟨lv, hlv⟩⟩ _
  dsimp only
  refine ops_learn (rowShapeS (e := 9) (n := 1) (v := lv) (xs := (hd0 :: rs).map strV) (by decide) takeD) ?_
  rintro ⟨pl, cl, rfl, hcl, _⟩
  refine ops_poolN (ty := 9) (n := 1) (v := .slice pl ((hd0 :: rs).map strV).length cl) (xs := (hd0 :: rs).map strV) (P := P1) takeD ?_
  intro P1' hE1' hvL
  refine opsL_mapL (fun _ h => relP_ext hE1' (b := rb) (r := ⟨ts.map Tb.c, [], 0⟩) (Take.out1 (A := relP P1 rb ⟨ts.map Tb.c, [], 0⟩) takeD h)) ?_
  repeat' (first | (refine gY ?_; intros) | (refine hY ?_ ?_ <;> (intro hgd; try simp only [bn] at hgd)) | (refine jY ?_ ?_ <;> intro _) | fail)
  refine cl_Y (hSch rb P1') ?_
  rintro ⟨⟨v2, hv2⟩, ts2, P2⟩ ⟨hs2, ht2, hE2⟩
  dsimp only at hs2 ht2 hE2 ⊢
  repeat' (first | (refine gY ?_; intros) | (refine hY ?_ ?_ <;> (intro hgd; try simp only [bn] at hgd)) | (refine jY ?_ ?_ <;> intro _) | fail)
  rename_i xb
  refine cl_Y (hPut P2 (hE1.trans (hE1'.trans hE2))) ?_
  intro _ _
  have hvL2 := hE2.vw hvL
  have t1 : decide ((((hd0 :: rs).map strV).length : Int) = 0) = false := decide_eq_false (by omega)
  have t2 : (!(hd0.toList == hd0.toList)) = false := by simp
  have hx0 : ((hd0 :: rs).map strV)[0]? = some (strV hd0) := rfl
  have hn0 : 0 < ((hd0 :: rs).map strV).length := by omega
  refine ops_learn (VwIn.base (n := 1) (p := pl) (len := ((hd0 :: rs).map strV).length) (cap := cl) (xs := (hd0 :: rs).map strV) (VwIn.here hvL2) (by intro e; rw [e] at hn0; simp at hn0)) ?_
  rintro ⟨bu, ou, rfl⟩
  repeat' (first | (refine gY ?_; intros) | (refine hY ?_ ?_ <;> (intro hgd; try simp only [bn] at hgd)) | (refine jY ?_ ?_ <;> intro _) | fail)
  have lr : (rs.map strV).length = ls.length := by rw [List.length_map, hRL]
  obtain ⟨pd, hdv⟩ : ∃ pd, dropV 1 (some ⟨bu, ou, none⟩) ((hd0 :: rs).map strV).length cl 1 = .slice pd (rs.map strV).length (cl - 1) := ⟨_, by unfold dropV; congr 1⟩
  have hvD := hvL2.drop (k := 1) hcl
  rw [hdv, show ((hd0 :: rs).map strV).drop 1 = rs.map strV from rfl] at hvD
  refine ops_run (a_slice_viewlo (m := 1) rfl rfl rfl (by omega) rfl ?_)
  rw [hdv]
  repeat' (first | (refine gY ?_; intros) | (refine hY ?_ ?_ <;> (intro hgd; try simp only [bn] at hgd)) | (refine jY ?_ ?_ <;> intro _) | fail)
  refine ok_map (fun _ h => nilRow (e := 33) (n := 1) h) ?_
  rw [← hr0]
  refine ok_map (L' := [pts xb (.cells [v2, .pointer (some ⟨wb, 0, none⟩), .slice none 0 0, .pointer (some ⟨rb, 0, none⟩), .pointer none].toArray 99), row 33 1 (.slice none 0 0) (([] : List Cmt).map cmtV), relP P2 rb r0, P2, diskP b d1, walP wb b nC ⟨((ls.length + 1 : Nat) : Int), (sz : Int), 0⟩] ++ R) entD ?_
  refine ok_loop' (γ := Nat × V1s × List Cmt × Rl × HProp) (fun g ρ L => g.1 ≤ ls.length ∧ g.2.2.1.length = g.1 ∧ g.2.2.1.map (fun x => x.2.map Cm.c) = ls.take g.1 ∧ hist r0 (ls.take g.1) = some g.2.2.2.1 ∧ Ext P2 g.2.2.2.2 ∧ (∀ x ∈ g.2.2.1, CmtI g.2.2.2.2 x) ∧
      Knows ρ [(10, .pointer (some ⟨xb, 0, none⟩)), (63, .slice pd (rs.map strV).length (cl - 1)), (64, .int .i64 ((rs.map strV).length : Int)), (65, .int .i64 (g.1 : Int))] ∧
      L = [pts xb (.cells [v2, .pointer (some ⟨wb, 0, none⟩), g.2.1.1, .pointer (some ⟨rb, 0, none⟩), .pointer none].toArray 99), row 33 1 g.2.1.1 (g.2.2.1.map cmtV), relP g.2.2.2.2 rb g.2.2.2.1, g.2.2.2.2, diskP b d1, walP wb b nC ⟨((ls.length + 1 : Nat) : Int), (sz : Int), 0⟩] ++ R)
    (fun g => ls.length - g.1) (0, ⟨.slice none 0 0, rfl⟩, [], r0, P2) ⟨Nat.zero_le _, rfl, rfl, rfl, .refl _, fun x hx => by simp at hx, ⟨rfl, rfl, rfl, rfl, trivial⟩, rfl⟩ ?_
  rintro ⟨k, ⟨v, hv⟩, cm, rk, P⟩ ρ L ⟨hk0, hk1, hk2, hk3, hE, hcm, hk, rfl⟩
  dsimp only at hk0 hk1 hk2 hk3 hE hcm hk ⊢
  refine ok_regs hk ?_
  obtain ⟨hrk, hrks⟩ := hist_ok hok0 hk3
  cases t3 : decide ((k : Int) < ((rs.map strV).length : Int)) with
  | false =>
    have hke : k = ls.length := by have := of_decide_eq_false t3; omega
    have hfin : rk = r := by
      rw [hke, List.take_length, hHh] at hk3
      exact (Option.some.inj hk3).symm
    subst hfin
    have hy : SrOK P ⟨rk, ls, none, ⟨((ls.length + 1 : Nat) : Int), (sz : Int), 0⟩⟩ ⟨v2, ts2, wb, rb, ⟨v, hv⟩, cm, 0⟩ := ⟨hv2, hs2.ext hE, by show ts2.map Tb.c = rk.s; rw [ht2, hrks, hr0s], hcm, by rw [hk2, hke, List.take_length]⟩
    repeat' (first | (refine gY ?_; intros) | (refine hY ?_ ?_ <;> (intro hgd; try simp only [bn] at hgd)) | (refine jY ?_ ?_ <;> intro _) | fail)
    refine cont_map (fun _ h => empS_in h) ?_
    refine cont_map (fun _ h => sr_in (P := P) (xb := xb) (b := b) hy (Take.out takeD h)) ?_
    (refine rt_Y (y := (xb, P)) (hrs := Tryz.results22) (hv := ?_) (hφ := ?_))
    · rfl
    · exact hE1.trans (hE1'.trans (hE2.trans hE))
  | true =>
    have h : k < ls.length := by have := of_decide_eq_true t3; omega
    obtain ⟨l, hlk⟩ : ∃ l, ls[k]? = some l := ⟨_, List.getElem?_eq_getElem h⟩
    obtain ⟨r2, hd2, hw2, hn2⟩ := hist_step hHh hlk hk3
    obtain ⟨hl60, hlch⟩ := hH.ch l (List.mem_of_getElem? hlk)
    have hx : (rs.map strV)[k]? = some (strV (recB (1 + k) l)) := by rw [List.getElem?_map, hget k l hlk]; rfl
    have hn1 : k < (rs.map strV).length := by omega
    have hvD2 := hE.vw hvD
    have htk := stake_spec xb wb rb v2 ts2 ⟨v, hv⟩ cm (.pointer none) rk r2 l P hv2 rfl (hs2.ext hE) (by rw [ht2, hrks, hr0s]) hrk (hU.ext (hE1.trans (hE1'.trans (hE2.trans hE)))) (by omega) (by omega) hd2 hw2 hlch
    rw [hk1, Nat.add_comm k 1] at htk
    generalize recB (1 + k) l = tx at hx htk
    have hls : ls.take (k + 1) = ls.take k ++ [l] := by
      rw [List.take_succ_eq_append_getElem h]
      rw [List.getElem?_eq_getElem h] at hlk
      rw [Option.some.inj hlk]
    refine ok_learn (VwIn.base (n := 1) (p := pd) (len := (rs.map strV).length) (cap := cl - 1) (xs := rs.map strV) (VwIn.there (VwIn.there (VwIn.there (VwIn.here hvD2)))) (by intro e; rw [e] at hn1; simp at hn1)) ?_
    rintro ⟨bd, od, rfl⟩
    repeat' (first | (refine gY ?_; intros) | (refine hY ?_ ?_ <;> (intro hgd; try simp only [bn] at hgd)) | (refine jY ?_ ?_ <;> intro _) | fail)
    refine cl_Y (htk) ?_
    rintro ⟨⟨v', hv'⟩, x', P'⟩ ⟨hE', hI', hx'⟩
    dsimp only at hE' hI' hx' ⊢
    repeat' (first | (refine gY ?_; intros) | (refine hY ?_ ?_ <;> (intro hgd; try simp only [bn] at hgd)) | (refine jY ?_ ?_ <;> intro _) | fail)
    refine cont_map (L' := [pts xb (.cells [v2, .pointer (some ⟨wb, 0, none⟩), v', .pointer (some ⟨rb, 0, none⟩), .pointer none].toArray 99), row 33 1 v' ((cm ++ [x']).map cmtV), relP P' rb r2, P', diskP b d1, walP wb b nC ⟨((ls.length + 1 : Nat) : Int), (sz : Int), 0⟩] ++ R) entD ?_
    exact cont_back (k + 1, ⟨v', hv'⟩, cm ++ [x'], r2, P') ⟨h, by dsimp only; rw [List.length_append, List.length_singleton, hk1], by dsimp only; rw [List.map_append, hk2, hls]; show _ ++ [x'.2.map Cm.c] = _; rw [hx'], hn2, hE.trans hE', fun y hy => by
      rcases List.mem_append.1 hy with h1 | h1
      · exact (hcm y h1).ext hE'
      · rw [List.mem_singleton.1 h1]; exact hI', ⟨rfl, rfl, rfl, rfl, trivial⟩, rfl⟩ (by dsimp only; omega)
structure SrI (S : Src) : Prop where
  ok : S.r.Ok
  wf : Rl.Wf S.r
  few : S.l.length ≤ 300
  tx : ∀ x, S.t = some x → x.Ok ∧ Rl.Wf x.own ∧ x.over = false ∧ TxB S.r x
def Src.begin (S : Src) : Src × Int := if S.w.fault ≠ 0 then (S, S.w.fault) else match S.t with
  | some _ => (S, 170)
  | none => ({ S with t := some ⟨S.r, S.r.turns, [], [], false⟩ }, 0)
def Src.mayE (S : Src) : Int := if S.w.fault ≠ 0 then S.w.fault else match S.t with
  | some _ => 0
  | none => 171
def Src.doS (S : Src) (o : Opr) : Src × Int := if S.w.fault ≠ 0 then (S, S.w.fault) else match S.t with
  | some x => ({ S with t := some (x.doT o).1 }, (x.doT o).2)
  | none => (S, 171)
def Src.abortS (S : Src) : Src × Int := match S.t with
  | some _ => ({ S with t := none }, 0)
  | none => (S, 171)
theorem sFault_nil : FSpec Tryz.prog 17 [.pointer none] [] Unit (fun _ => True) (fun _ => .int .i64 1) (fun _ => []) := by
  refine spec_intro [] _ Tryz.func17 rfl Tryz.ntmps17 (by rfl) (fun w0 R => ?_)
  repeat' (first | (refine gY ?_; intros) | (refine hY ?_ ?_ <;> (intro hgd; try simp only [bn] at hgd)) | (refine jY ?_ ?_ <;> intro _) | fail)
  (refine rt_Y (y := ()) (hrs := Tryz.results17) (hv := ?_) (hφ := ?_))
  · rfl
  · trivial
abbrev sxP (xb wb rb : Nat) (vs lv tp : Value) : HProp := pts xb (.cells [vs, .pointer (some ⟨wb, 0, none⟩), lv, .pointer (some ⟨rb, 0, none⟩), tp].toArray 99)
theorem sFaultO (xb b wb rb : Nat) (vs lv tp : Value) (w : Wv) : FSpec Tryz.prog 17 [.pointer (some ⟨xb, 0, none⟩)] [sxP xb wb rb vs lv tp, walP wb b nC w] Unit (fun _ => True) (fun _ => .int .i64 w.fault) (fun _ => [sxP xb wb rb vs lv tp, walP wb b nC w]) := by
  have hF := Fault_spec wb b nC w
  refine spec_intro [] _ Tryz.func17 rfl Tryz.ntmps17 (by rfl) (fun w0 R => ?_)
  repeat' (first | (refine gY ?_; intros) | (refine hY ?_ ?_ <;> (intro hgd; try simp only [bn] at hgd)) | (refine jY ?_ ?_ <;> intro _) | fail)
  refine cl_Y (hF) ?_
  intro _ _
  repeat' (first | (refine gY ?_; intros) | (refine hY ?_ ?_ <;> (intro hgd; try simp only [bn] at hgd)) | (refine jY ?_ ?_ <;> intro _) | fail)
  (refine rt_Y (y := ()) (hrs := Tryz.results17) (hv := ?_) (hφ := ?_))
  · rfl
  · trivial
set_option maxHeartbeats 4000000 in
theorem sBegin_spec (xb b : Nat) (S : Src) (P : HProp) : FSpec Tryz.prog 12 [.pointer (some ⟨xb, 0, none⟩)] [srP P xb b S] Unit (fun _ => True) (fun _ => .int .i64 S.begin.2) (fun _ => [srP P xb b S.begin.1]) := by
  obtain ⟨r, l, t, w⟩ := S
  refine fspec_ex ?_
  rintro ⟨⟨vs, ts, wb, rb, ⟨lv, hlv⟩, ls, tb⟩, hy⟩
  unfold Src.begin srL
  dsimp only
  have hvc := hy.vc
  dsimp only at hvc
  by_cases h0 : w.fault = 0
  · have e0 : (!decide (w.fault = 0)) = false := by rw [h0]; rfl
    rw [if_neg (fun h => h h0)]
    have hFa := fun tp => sFaultO xb b wb rb vs lv tp w
    cases t with
    | some x =>
      dsimp only [txV17, opP]
      refine spec_intro [] _ Tryz.func12 rfl Tryz.ntmps12 (by rfl) (fun w0 R => ?_)
      repeat' (first | (refine gY ?_; intros) | (refine hY ?_ ?_ <;> (intro hgd; try simp only [bn] at hgd)) | (refine jY ?_ ?_ <;> intro _) | fail)
      refine cl_Y (hFa (.pointer (some ⟨tb, 0, none⟩))) ?_
      intro _ _
      repeat' (first | (refine gY ?_; intros) | (refine hY ?_ ?_ <;> (intro hgd; try simp only [bn] at hgd)) | (refine jY ?_ ?_ <;> intro _) | fail)
      refine cont_map (fun _ h => sr_in (P := P) (xb := xb) (b := b) hy (Take.out takeD h)) ?_
      (refine rt_Y (y := ()) (hrs := Tryz.results12) (hv := ?_) (hφ := ?_))
      · rfl
      · trivial
    | none =>
      dsimp only [txV17, opP]
      have hNx := txNew_spec rb r P
      refine spec_intro [] _ Tryz.func12 rfl Tryz.ntmps12 (by rfl) (fun w0 R => ?_)
      repeat' (first | (refine gY ?_; intros) | (refine hY ?_ ?_ <;> (intro hgd; try simp only [bn] at hgd)) | (refine jY ?_ ?_ <;> intro _) | fail)
      refine cl_Y (hFa (.pointer none)) ?_
      intro _ _
      repeat' (first | (refine gY ?_; intros) | (refine hY ?_ ?_ <;> (intro hgd; try simp only [bn] at hgd)) | (refine jY ?_ ?_ <;> intro _) | fail)
      refine cl_Y (hNx) ?_
      intro tb' _
      repeat' (first | (refine gY ?_; intros) | (refine hY ?_ ?_ <;> (intro hgd; try simp only [bn] at hgd)) | (refine jY ?_ ?_ <;> intro _) | fail)
      refine cont_map (fun _ h => sr_in (P := P) (xb := xb) (b := b) (S := ⟨r, l, some ⟨r, r.turns, [], [], false⟩, w⟩) (y := ⟨vs, ts, wb, rb, ⟨lv, hlv⟩, ls, tb'⟩) ⟨hy.vc, hy.sv, hy.ts, hy.cm, hy.l⟩ (Take.out takeD h)) ?_
      (refine rt_Y (y := ()) (hrs := Tryz.results12) (hv := ?_) (hφ := ?_))
      · rfl
      · trivial
  · have e0 : (!decide (w.fault = 0)) = true := by rw [decide_eq_false h0]; rfl
    rw [if_pos h0]
    dsimp only
    generalize htv : txV17 tb t = tv
    have hFa := sFaultO xb b wb rb vs lv tv w
    refine spec_intro [] _ Tryz.func12 rfl Tryz.ntmps12 (by rfl) (fun w0 R => ?_)
    repeat' (first | (refine gY ?_; intros) | (refine hY ?_ ?_ <;> (intro hgd; try simp only [bn] at hgd)) | (refine jY ?_ ?_ <;> intro _) | fail)
    refine cl_Y (hFa) ?_
    intro _ _
    repeat' (first | (refine gY ?_; intros) | (refine hY ?_ ?_ <;> (intro hgd; try simp only [bn] at hgd)) | (refine jY ?_ ?_ <;> intro _) | fail)
    subst htv
    refine cont_map (fun _ h => sr_in (P := P) (xb := xb) (b := b) hy (Take.out takeD h)) ?_
    (refine rt_Y (y := ()) (hrs := Tryz.results12) (hv := ?_) (hφ := ?_))
    · rfl
    · trivial
theorem sMayN (xb b wb rb : Nat) (vs lv : Value) (w : Wv) (hvc : vs.oneCell' = true) (hlc : lv.oneCell' = true) (h0 : w.fault = 0) : FSpec Tryz.prog 46 [.pointer (some ⟨xb, 0, none⟩)] [sxP xb wb rb vs lv (.pointer none), walP wb b nC w] Unit (fun _ => True) (fun _ => .int .i64 171) (fun _ => [sxP xb wb rb vs lv (.pointer none), walP wb b nC w]) := by
  have e0 : (!decide (w.fault = 0)) = false := by rw [h0]; rfl
  have hFa := sFaultO xb b wb rb vs lv (.pointer none) w
  refine spec_intro [] _ Tryz.func46 rfl Tryz.ntmps46 (by rfl) (fun w0 R => ?_)
  repeat' (first | (refine gY ?_; intros) | (refine hY ?_ ?_ <;> (intro hgd; try simp only [bn] at hgd)) | (refine jY ?_ ?_ <;> intro _) | fail)
  refine cl_Y (hFa) ?_
  intro _ _
  repeat' (first | (refine gY ?_; intros) | (refine hY ?_ ?_ <;> (intro hgd; try simp only [bn] at hgd)) | (refine jY ?_ ?_ <;> intro _) | fail)
  (refine rt_Y (y := ()) (hrs := Tryz.results46) (hv := ?_) (hφ := ?_))
  · rfl
  · trivial
theorem sMayS (xb b wb rb tb : Nat) (vs lv : Value) (w : Wv) (hvc : vs.oneCell' = true) (hlc : lv.oneCell' = true) (h0 : w.fault = 0) : FSpec Tryz.prog 46 [.pointer (some ⟨xb, 0, none⟩)] [sxP xb wb rb vs lv (.pointer (some ⟨tb, 0, none⟩)), walP wb b nC w] Unit (fun _ => True) (fun _ => .int .i64 0) (fun _ => [sxP xb wb rb vs lv (.pointer (some ⟨tb, 0, none⟩)), walP wb b nC w]) := by
  have e0 : (!decide (w.fault = 0)) = false := by rw [h0]; rfl
  have hFa := sFaultO xb b wb rb vs lv (.pointer (some ⟨tb, 0, none⟩)) w
  refine spec_intro [] _ Tryz.func46 rfl Tryz.ntmps46 (by rfl) (fun w0 R => ?_)
  repeat' (first | (refine gY ?_; intros) | (refine hY ?_ ?_ <;> (intro hgd; try simp only [bn] at hgd)) | (refine jY ?_ ?_ <;> intro _) | fail)
  refine cl_Y (hFa) ?_
  intro _ _
  repeat' (first | (refine gY ?_; intros) | (refine hY ?_ ?_ <;> (intro hgd; try simp only [bn] at hgd)) | (refine jY ?_ ?_ <;> intro _) | fail)
  (refine rt_Y (y := ()) (hrs := Tryz.results46) (hv := ?_) (hφ := ?_))
  · rfl
  · trivial
theorem sMayF (xb b wb rb : Nat) (vs lv tp : Value) (w : Wv) (hvc : vs.oneCell' = true) (hlc : lv.oneCell' = true) (h0 : w.fault ≠ 0) : FSpec Tryz.prog 46 [.pointer (some ⟨xb, 0, none⟩)] [sxP xb wb rb vs lv tp, walP wb b nC w] Unit (fun _ => True) (fun _ => .int .i64 w.fault) (fun _ => [sxP xb wb rb vs lv tp, walP wb b nC w]) := by
  have e0 : (!decide (w.fault = 0)) = true := by rw [decide_eq_false h0]; rfl
  have hFa := sFaultO xb b wb rb vs lv tp w
  refine spec_intro [] _ Tryz.func46 rfl Tryz.ntmps46 (by rfl) (fun w0 R => ?_)
  repeat' (first | (refine gY ?_; intros) | (refine hY ?_ ?_ <;> (intro hgd; try simp only [bn] at hgd)) | (refine jY ?_ ?_ <;> intro _) | fail)
  refine cl_Y (hFa) ?_
  intro _ _
  repeat' (first | (refine gY ?_; intros) | (refine hY ?_ ?_ <;> (intro hgd; try simp only [bn] at hgd)) | (refine jY ?_ ?_ <;> intro _) | fail)
  (refine rt_Y (y := ()) (hrs := Tryz.results46) (hv := ?_) (hφ := ?_))
  · rfl
  · trivial
theorem sMay_nil : FSpec Tryz.prog 46 [.pointer none] [] Unit (fun _ => True) (fun _ => .int .i64 1) (fun _ => []) := by
  have e0 : (!decide ((1 : Int) = 0)) = true := rfl
  have hFa := sFault_nil
  refine spec_intro [] _ Tryz.func46 rfl Tryz.ntmps46 (by rfl) (fun w0 R => ?_)
  repeat' (first | (refine gY ?_; intros) | (refine hY ?_ ?_ <;> (intro hgd; try simp only [bn] at hgd)) | (refine jY ?_ ?_ <;> intro _) | fail)
  refine cl_Y (hFa) ?_
  intro _ _
  repeat' (first | (refine gY ?_; intros) | (refine hY ?_ ?_ <;> (intro hgd; try simp only [bn] at hgd)) | (refine jY ?_ ?_ <;> intro _) | fail)
  (refine rt_Y (y := ()) (hrs := Tryz.results46) (hv := ?_) (hφ := ?_))
  · rfl
  · trivial
set_option maxHeartbeats 4000000 in
theorem sDo_spec (xb b : Nat) (S : Src) (o : Opr) (u : Value) (P : HProp) (hI : SrI S) (hU : UT P) (hw : Vw P 4 u (o.row.map valV)) (huc : u.oneCell' = true) (hwf : ∀ v ∈ o.row, v.wf) (hlen : o.row.length ≤ 1000000) :
    FSpec Tryz.prog 13 [.pointer (some ⟨xb, 0, none⟩), .agg #[.int .u8 o.kind, .int .i64 o.table, u]] [srP P xb b S, P] HProp (fun P' => Ext P P') (fun _ => .int .i64 (S.doS o).2) (fun P' => [srP P' xb b (S.doS o).1, P']) := by
  obtain ⟨r, l, t, w⟩ := S
  refine fspec_ex ?_
  rintro ⟨⟨vs, ts, wb, rb, ⟨lv, hlv⟩, ls, tb⟩, hy⟩
  unfold Src.doS srL
  dsimp only
  have hvc := hy.vc
  dsimp only at hvc
  by_cases h0 : w.fault = 0
  · rw [if_neg (fun h => h h0)]
    have e0 : (!decide ((0 : Int) = 0)) = false := rfl
    have e1 : (!decide ((171 : Int) = 0)) = true := rfl
    cases t with
    | some x =>
      obtain ⟨hx, hxw, _, _⟩ := hI.tx x rfl
      dsimp only [txV17, opP]
      have hM := sMayS xb b wb rb tb vs lv w hvc hlv h0
      have hDo := txDo_spec tb rb x o u P hx hU hw huc hwf hlen
      refine spec_intro [] _ Tryz.func13 rfl Tryz.ntmps13 (by rfl) (fun w0 R => ?_)
      repeat' (first | (refine gY ?_; intros) | (refine hY ?_ ?_ <;> (intro hgd; try simp only [bn] at hgd)) | (refine jY ?_ ?_ <;> intro _) | fail)
      refine cl_Y (hM) ?_
      intro _ _
      repeat' (first | (refine gY ?_; intros) | (refine hY ?_ ?_ <;> (intro hgd; try simp only [bn] at hgd)) | (refine jY ?_ ?_ <;> intro _) | fail)
      refine cl_Y (hDo) ?_
      intro P' hE
      repeat' (first | (refine gY ?_; intros) | (refine hY ?_ ?_ <;> (intro hgd; try simp only [bn] at hgd)) | (refine jY ?_ ?_ <;> intro _) | fail)
      refine cont_map (fun _ h => relP_ext hE (b := rb) (r := r) (Take.out1 (A := relP P rb r) takeD h)) ?_
      refine cont_map (fun _ h => sr_in (P := P') (xb := xb) (b := b) (S := ⟨r, l, some (x.doT o).1, w⟩) (y := ⟨vs, ts, wb, rb, ⟨lv, hlv⟩, ls, tb⟩) (SrOK.ext hE ⟨hy.vc, hy.sv, hy.ts, hy.cm, hy.l⟩) (Take.out takeD h)) ?_
      (refine rt_Y (y := P') (hrs := Tryz.results13) (hv := ?_) (hφ := ?_))
      · rfl
      · exact hE
    | none =>
      dsimp only [txV17, opP]
      have hM := sMayN xb b wb rb vs lv w hvc hlv h0
      refine spec_intro [] _ Tryz.func13 rfl Tryz.ntmps13 (by rfl) (fun w0 R => ?_)
      repeat' (first | (refine gY ?_; intros) | (refine hY ?_ ?_ <;> (intro hgd; try simp only [bn] at hgd)) | (refine jY ?_ ?_ <;> intro _) | fail)
      refine cl_Y (hM) ?_
      intro _ _
      repeat' (first | (refine gY ?_; intros) | (refine hY ?_ ?_ <;> (intro hgd; try simp only [bn] at hgd)) | (refine jY ?_ ?_ <;> intro _) | fail)
      refine cont_map (fun _ h => sr_in (P := P) (xb := xb) (b := b) hy (Take.out takeD h)) ?_
      (refine rt_Y (y := P) (hrs := Tryz.results13) (hv := ?_) (hφ := ?_))
      · rfl
      · exact .refl _
  · have e0 : (!decide (w.fault = 0)) = true := by rw [decide_eq_false h0]; rfl
    rw [if_pos h0]
    dsimp only
    generalize htv : txV17 tb t = tv
    have hM := sMayF xb b wb rb vs lv tv w hvc hlv h0
    refine spec_intro [] _ Tryz.func13 rfl Tryz.ntmps13 (by rfl) (fun w0 R => ?_)
    repeat' (first | (refine gY ?_; intros) | (refine hY ?_ ?_ <;> (intro hgd; try simp only [bn] at hgd)) | (refine jY ?_ ?_ <;> intro _) | fail)
    refine cl_Y (hM) ?_
    intro _ _
    repeat' (first | (refine gY ?_; intros) | (refine hY ?_ ?_ <;> (intro hgd; try simp only [bn] at hgd)) | (refine jY ?_ ?_ <;> intro _) | fail)
    subst htv
    refine cont_map (fun _ h => sr_in (P := P) (xb := xb) (b := b) hy (Take.out takeD h)) ?_
    (refine rt_Y (y := P) (hrs := Tryz.results13) (hv := ?_) (hφ := ?_))
    · rfl
    · exact .refl _
theorem sDo_nil (k t : Int) (u : Value) (hu : u.oneCell' = true) : FSpec Tryz.prog 13 [.pointer none, .agg #[.int .u8 k, .int .i64 t, u]] [] Unit (fun _ => True) (fun _ => .int .i64 1) (fun _ => []) := by
  have e0 : (!decide ((1 : Int) = 0)) = true := rfl
  refine spec_intro [] _ Tryz.func13 rfl Tryz.ntmps13 (by rfl) (fun w0 R => ?_)
  repeat' (first | (refine gY ?_; intros) | (refine hY ?_ ?_ <;> (intro hgd; try simp only [bn] at hgd)) | (refine jY ?_ ?_ <;> intro _) | fail)
  refine cl_Y (sMay_nil) ?_
  intro _ _
  repeat' (first | (refine gY ?_; intros) | (refine hY ?_ ?_ <;> (intro hgd; try simp only [bn] at hgd)) | (refine jY ?_ ?_ <;> intro _) | fail)
  (refine rt_Y (y := ()) (hrs := Tryz.results13) (hv := ?_) (hφ := ?_))
  · rfl
  · trivial
theorem sBegin_nil : FSpec Tryz.prog 12 [.pointer none] [] Unit (fun _ => True) (fun _ => .int .i64 1) (fun _ => []) := by
  have e0 : (!decide ((1 : Int) = 0)) = true := rfl
  refine spec_intro [] _ Tryz.func12 rfl Tryz.ntmps12 (by rfl) (fun w0 R => ?_)
  repeat' (first | (refine gY ?_; intros) | (refine hY ?_ ?_ <;> (intro hgd; try simp only [bn] at hgd)) | (refine jY ?_ ?_ <;> intro _) | fail)
  refine cl_Y (sFault_nil) ?_
  intro _ _
  repeat' (first | (refine gY ?_; intros) | (refine hY ?_ ?_ <;> (intro hgd; try simp only [bn] at hgd)) | (refine jY ?_ ?_ <;> intro _) | fail)
  (refine rt_Y (y := ()) (hrs := Tryz.results12) (hv := ?_) (hφ := ?_))
  · rfl
  · trivial
theorem sCommit_nil : FSpec Tryz.prog 11 [.pointer none] [] Unit (fun _ => True) (fun _ => .tuple #[.int .u64 0, .int .i64 1]) (fun _ => []) := by
  have e0 : (!decide ((1 : Int) = 0)) = true := rfl
  refine spec_intro [] _ Tryz.func11 rfl Tryz.ntmps11 (by rfl) (fun w0 R => ?_)
  repeat' (first | (refine gY ?_; intros) | (refine hY ?_ ?_ <;> (intro hgd; try simp only [bn] at hgd)) | (refine jY ?_ ?_ <;> intro _) | fail)
  refine cl_Y (sMay_nil) ?_
  intro _ _
  repeat' (first | (refine gY ?_; intros) | (refine hY ?_ ?_ <;> (intro hgd; try simp only [bn] at hgd)) | (refine jY ?_ ?_ <;> intro _) | fail)
  (refine rt_Y (y := ()) (hrs := Tryz.results11) (hv := ?_) (hφ := ?_))
  · rfl
  · trivial
theorem sAbort_nil : FSpec Tryz.prog 14 [.pointer none] [] Unit (fun _ => True) (fun _ => .int .i64 1) (fun _ => []) := by
  refine spec_intro [] _ Tryz.func14 rfl Tryz.ntmps14 (by rfl) (fun w0 R => ?_)
  repeat' (first | (refine gY ?_; intros) | (refine hY ?_ ?_ <;> (intro hgd; try simp only [bn] at hgd)) | (refine jY ?_ ?_ <;> intro _) | fail)
  (refine rt_Y (y := ()) (hrs := Tryz.results14) (hv := ?_) (hφ := ?_))
  · rfl
  · trivial
theorem sCommits_nil : FSpec Tryz.prog 15 [.pointer none] [] Unit (fun _ => True) (fun _ => .int .u64 0) (fun _ => []) := by
  refine spec_intro [] _ Tryz.func15 rfl Tryz.ntmps15 (by rfl) (fun w0 R => ?_)
  repeat' (first | (refine gY ?_; intros) | (refine hY ?_ ?_ <;> (intro hgd; try simp only [bn] at hgd)) | (refine jY ?_ ?_ <;> intro _) | fail)
  (refine rt_Y (y := ()) (hrs := Tryz.results15) (hv := ?_) (hφ := ?_))
  · rfl
  · trivial
theorem sBusy_nil : FSpec Tryz.prog 16 [.pointer none] [] Unit (fun _ => True) (fun _ => .bool false) (fun _ => []) := by
  refine spec_intro [] _ Tryz.func16 rfl Tryz.ntmps16 (by rfl) (fun w0 R => ?_)
  repeat' (first | (refine gY ?_; intros) | (refine hY ?_ ?_ <;> (intro hgd; try simp only [bn] at hgd)) | (refine jY ?_ ?_ <;> intro _) | fail)
  (refine rt_Y (y := ()) (hrs := Tryz.results16) (hv := ?_) (hφ := ?_))
  · rfl
  · trivial
theorem sSchema_nil : FSpec Tryz.prog 18 [.pointer none] [] Unit (fun _ => True) (fun _ => .agg #[.slice none 0 0]) (fun _ => []) := by
  refine spec_intro [] _ Tryz.func18 rfl Tryz.ntmps18 (by rfl) (fun w0 R => ?_)
  repeat' (first | (refine gY ?_; intros) | (refine hY ?_ ?_ <;> (intro hgd; try simp only [bn] at hgd)) | (refine jY ?_ ?_ <;> intro _) | fail)
  (refine rt_Y (y := ()) (hrs := Tryz.results18) (hv := ?_) (hφ := ?_))
  · rfl
  · trivial
theorem sChanges_nil (n : Int) : FSpec Tryz.prog 9 [.pointer none, .int .u64 n] [] Unit (fun _ => True) (fun _ => .tuple #[.slice none 0 0, .int .i64 1]) (fun _ => []) := by
  refine spec_intro [] _ Tryz.func9 rfl Tryz.ntmps9 (by rfl) (fun w0 R => ?_)
  repeat' (first | (refine gY ?_; intros) | (refine hY ?_ ?_ <;> (intro hgd; try simp only [bn] at hgd)) | (refine jY ?_ ?_ <;> intro _) | fail)
  (refine rt_Y (y := ()) (hrs := Tryz.results9) (hv := ?_) (hφ := ?_))
  · rfl
  · trivial
theorem sAt_nil (n : Int) : FSpec Tryz.prog 10 [.pointer none, .int .u64 n] [] Unit (fun _ => True) (fun _ => .tuple #[.pointer none, .int .i64 1]) (fun _ => []) := by
  refine spec_intro [] _ Tryz.func10 rfl Tryz.ntmps10 (by rfl) (fun w0 R => ?_)
  repeat' (first | (refine gY ?_; intros) | (refine hY ?_ ?_ <;> (intro hgd; try simp only [bn] at hgd)) | (refine jY ?_ ?_ <;> intro _) | fail)
  (refine rt_Y (y := ()) (hrs := Tryz.results10) (hv := ?_) (hφ := ?_))
  · rfl
  · trivial
theorem sCommits_spec (xb b : Nat) (S : Src) (P : HProp) (hl : S.l.length ≤ 300) : FSpec Tryz.prog 15 [.pointer (some ⟨xb, 0, none⟩)] [srP P xb b S] Unit (fun _ => True) (fun _ => .int .u64 (S.l.length : Int)) (fun _ => [srP P xb b S]) := by
  refine fspec_ex ?_
  rintro ⟨⟨vs, ts, wb, rb, ⟨lv, hlv⟩, ls, tb⟩, hy⟩
  unfold srL
  dsimp only
  have hvc := hy.vc
  dsimp only at hvc
  have hll : ls.length = S.l.length := by have := congrArg List.length hy.l; rw [List.length_map] at this; exact this
  have lm : (ls.map cmtV).length = S.l.length := by rw [List.length_map, hll]
  have hw : IntKind.u64.wrap ((ls.map cmtV).length : Int) = (S.l.length : Int) := by rw [lm, wrap_u64]; omega
  generalize htv : txV17 tb S.t = tv
  refine spec_intro [] _ Tryz.func15 rfl Tryz.ntmps15 (by rfl) (fun w0 R => ?_)
  refine ok_learn (rowShapeS (e := 33) (n := 1) (v := lv) (xs := ls.map cmtV) (by decide) takeD) ?_
  rintro ⟨pl, cl, rfl, _, _⟩
  repeat' (first | (refine gY ?_; intros) | (refine hY ?_ ?_ <;> (intro hgd; try simp only [bn] at hgd)) | (refine jY ?_ ?_ <;> intro _) | fail)
  subst htv
  try rw [hw]
  refine cont_map (fun _ h => sr_in (P := P) (xb := xb) (b := b) hy (Take.out takeD h)) ?_
  (refine rt_Y (y := ()) (hrs := Tryz.results15) (hv := ?_) (hφ := ?_))
  · rfl
  · trivial
end Go.Proofs.YtmnafjonbeihiaaGreatDoor
