/- The walk of RunBack. -/
import Derived.Test.YtgmobpngcilgjaaRnM
-- @DEFS Z
set_option linter.unusedSimpArgs false
set_option linter.unusedVariables false
set_option maxRecDepth 4000
namespace Go.Proofs.Ytgmobpngcilgjaa
open Go Go.Fx Go.Proofs Go.Pl

theorem fspec_frame {P : Program} {f : FuncId} {args : List Value} {pre : List HProp} {Y : Type} {φ : Y → Prop} {ret : Y → Value} {post : Y → List HProp} (s : FSpec P f args pre Y φ ret post) (F : List HProp) : FSpec P f args (pre ++ F) Y φ ret (fun y => post y ++ F) := by
  intro w0 w R hs
  rw [List.append_assoc] at hs
  refine (s w0 w (F ++ R) hs).mono ?_
  rintro e w' ⟨y, hy, he, hw⟩
  exact ⟨y, hy, he, by rw [List.append_assoc]; exact hw⟩
theorem neqP_self (p : Pr) : nilB .neq (eqL [.string, .string, .bool] [.string p.k, .string p.v, .bool p.g] [.string p.k, .string p.v, .bool p.g]) = false := by
  simp [nilB, eqL, eqD]
theorem lenT_txt : ∀ l : List Pr, lenT (l.map txtR) = 15 * l.length + sumP l
  | [] => rfl
  | p :: l => by
    have ih := lenT_txt l
    simp only [lenT, sumP, List.map_cons, List.sum_cons, List.length_cons] at ih ⊢
    rw [txtR_size, ih]; omega
theorem SrtOK.chk {xs l : List Pr} (h : SrtOK xs l) : chkR l = 0 := by
  unfold chkR
  rw [List.all_eq_true.2 h.ok, sorted_rise h.srt]; rfl
theorem SrtOK.size {xs l : List Pr} (h : SrtOK xs l) (h1 : xs.length ≤ 200) (h2 : sumP xs ≤ 32768) : (runB l).size ≤ 35788 := by
  have := h.len
  have := h.sum
  rw [runB_size, lenT_txt]; omega
theorem vw_nil3 {A : HProp} : Vw A 3 (.slice none 0 0) [] := fun h _ => ⟨fun _ hx => by simp at hx, none, 0, rfl, .inl rfl, fun _ => rfl, fun _ _ e => by cases e⟩

/-- What a run answers, written and opened. -/
structure RunOK (l : List Pr) : Prop where
  srt : Sorted l
  ok : ∀ p ∈ l, okP p = true
  len : l.length ≤ 200
  size : (runB l).size ≤ 35788
def dB (l : List Pr) : Dk := dR 262144 nR (runB l)
theorem RunOK.srtE {l : List Pr} (h : RunOK l) : Sorted ((ents l).map (·.p)) := by rw [show (ents l).map (·.p) = l from entsF_p l 20]; exact h.srt
theorem RunOK.disk {l : List Pr} (h : RunOK l) : (dB l).Ok := dR_ok (by decide) (by decide) (by have := h.size; omega)
theorem RunOK.elen {l : List Pr} (h : RunOK l) : (ents l).length ≤ 1099511627776 := by
  have := h.len
  rw [show (ents l).length = l.length from entsF_len l 20]; omega
theorem RunOK.write {l : List Pr} (h : RunOK l) (b : Nat) (v : Value) (A : HProp) (hA : Vw A 3 v (l.map prV)) : FSpec Try.prog 60 [.pointer (some ⟨b, 0, none⟩), .string nR, v] [diskP b (newD 262144), A] Unit (fun _ => True) (fun _ => .int .i64 0) (fun _ => [diskP b (dB l), A]) := by
  have hc : chkR l = 0 := by unfold chkR; rw [List.all_eq_true.2 h.ok, sorted_rise h.srt]; rfl
  have hw := Write_spec b (newD 262144) nR v A l (.new (by decide) (by decide)) (by decide) (by decide) hA (by have := h.len; omega)
  rw [write_new (by decide) may_nR hc (by have := h.size; omega)] at hw
  exact hw
theorem RunOK.open_ {l : List Pr} (h : RunOK l) (b : Nat) : FSpec Try.prog 57 [.pointer (some ⟨b, 0, none⟩), .string nR] [diskP b (dB l)] (Nat × { v : Value // v.oneCell' = true }) (fun _ => True) (fun y => .tuple #[.pointer (some ⟨y.1, 0, none⟩), .int .i64 0])
    (fun y => [diskP b (dB l), rnP y.1 b nR y.2.1 (runB l).size, enP y.2.1 (ents l)]) := by
  refine rOpen_spec b (dB l) nR l (by decide) ?_ h.ok (sorted_rise h.srt)
  have hr := dR_read may_nR 262144 (runB l) 0 16777216
  have hc : cut (runB l) 0 16777216 = runB l := cut_all _ _ (by have := h.size; omega)
  rw [show ((0 : Nat) : Int) = 0 from rfl, show ((16777216 : Nat) : Int) = 16777216 from rfl, hc] at hr
  exact hr
theorem ents_p {l : List Pr} {i : Nat} (h : i < l.length) : ∃ h' : i < (ents l).length, (ents l)[i].p = l[i] := by
  have h' : i < (ents l).length := by rw [show (ents l).length = l.length from entsF_len l 20]; exact h
  refine ⟨h', ?_⟩
  have := ents_get l i h
  rw [List.getElem?_eq_getElem h'] at this
  simp only [Option.some.injEq] at this
  rw [this]
theorem RunOK.get {l : List Pr} (h : RunOK l) (b rb : Nat) (v : Value) (sz : Int) {i : Nat} (hi : i < l.length) : FSpec Try.prog 55 [.pointer (some ⟨rb, 0, none⟩), .string l[i].k] [rnP rb b nR v sz, enP v (ents l), diskP b (dB l)] Unit (fun _ => True)
    (fun _ => .tuple #[.agg (prV l[i]).toArray, .bool true, .int .i64 0]) (fun _ => [rnP rb b nR v sz, enP v (ents l), diskP b (dB l)]) := by
  obtain ⟨h', hp⟩ := ents_p hi
  have hr := reads_good (room := 262144) may_nR h.ok rb b v sz (by decide) _ (List.getElem_mem h')
  rw [show (rdG (ents l)[i]).1 = l[i] from hp] at hr
  exact rGet_at rb b nR v sz (ents l) l[i].k (diskP b (dB l)) i l[i] 0 h.srtE h.elen h' (by rw [hp]) hr
theorem RunOK.getk {l : List Pr} (h : RunOK l) (b rb : Nat) (v : Value) (sz : Int) (key : BA) : FSpec Try.prog 55 [.pointer (some ⟨rb, 0, none⟩), .string key] [rnP rb b nR v sz, enP v (ents l), diskP b (dB l)] (Pr × Bool) (fun y => y.2 = true ↔ ∃ p ∈ l, p.k = key)
    (fun y => .tuple #[.agg (prV y.1).toArray, .bool y.2, .int .i64 0]) (fun _ => [rnP rb b nR v sz, enP v (ents l), diskP b (dB l)]) := by
  by_cases hx : ∃ p ∈ l, p.k = key
  · obtain ⟨p, hp, hk⟩ := hx
    obtain ⟨i, hi, e⟩ := List.getElem_of_mem hp
    have hg := h.get b rb v sz hi
    rw [e, hk] at hg
    exact hg.conseq (fun _ _ s => s) (fun _ _ => ⟨(p, true), ⟨fun _ => ⟨p, hp, hk⟩, fun _ => rfl⟩, rfl, fun _ _ s => s⟩)
  · have hn := rGet_none rb b nR v sz (ents l) key h.srtE h.elen (fun x hx' hk => hx ⟨x.p, by
      have := List.mem_map_of_mem (f := fun x : En => x.p) hx'
      rw [show (ents l).map (fun x => x.p) = l from entsF_p l 20] at this
      exact this, hk⟩)
    exact (fspec_frame hn [diskP b (dB l)]).conseq (fun _ _ s => s) (fun _ _ => ⟨(pr0, false), ⟨fun h => (by cases h), fun h => absurd h hx⟩, rfl, fun _ _ s => s⟩)
theorem RunOK.scan {l : List Pr} (h : RunOK l) (b rb : Nat) (v : Value) (sz : Int) (fr to : BA) (most : Int) (hm : 1 ≤ most) : FSpec Try.prog 56 [.pointer (some ⟨rb, 0, none⟩), .string fr, .string to, .int .i64 most] [rnP rb b nR v sz, enP v (ents l), diskP b (dB l)] { v : Value // v.oneCell' = true } (fun _ => True)
    (fun y => .tuple #[y.1, .int .i64 0]) (fun y => [rnP rb b nR v sz, enP v (ents l), diskP b (dB l), row 23 3 y.1 ((scanR l fr to most.toNat).map prV)]) := by
  obtain ⟨n, rfl⟩ : ∃ n : Nat, most = n := ⟨most.toNat, by omega⟩
  have hs := rScan_spec rb b fr to nR v sz (ents l) (diskP b (dB l)) rdG (n : Int) hm h.srtE h.elen (reads_good (room := 262144) may_nR h.ok rb b v sz (by decide))
  have hg := scan_good h.srt fr to n (by omega)
  rw [hg.1, hg.2] at hs
  rw [Int.toNat_natCast]
  exact hs

set_option maxHeartbeats 2000000 in
theorem RunBack_spec (u : Value) (A : HProp) (xs : List Pr) (key fr to : BA) (most : Int) (hA : Vw A 3 u (xs.map prV)) (hz : ∀ x ∈ xs, x.k.size ≤ 140737488355328 ∧ x.v.size ≤ 140737488355328) (hk : key.size ≤ 140737488355328) (hf : fr.size ≤ 140737488355328) (ht : to.size ≤ 140737488355328) :
    FSpec Try.prog 10 [u, .string key, .string fr, .string to, .int .i64 most] [A] Unit (fun _ => True) (fun _ => .bool true) (fun _ => [A]) := by
  refine spec_intro [] _ Try.func10 rfl Try.ntmps10 (by rfl) (fun w0 R => ?_)
  repeat' (first | (refine go_Z ?_; intros) | (refine gs_Z ?_ ?_ <;> (intro hgd; try (simp only [Bool.not_true, Bool.not_false] at hgd))) | (refine gc_Z ?_ ?_ <;> intro _) | fail)
  refine cl_Z (LargeP_spec u A xs hA hz) ?_
  intro y hy
  cases y with
  | true =>
    repeat' (first | (refine go_Z ?_; intros) | (refine gs_Z ?_ ?_ <;> (intro hgd; try (simp only [Bool.not_true, Bool.not_false] at hgd))) | (refine gc_Z ?_ ?_ <;> intro _) | fail)
    refine cl_Z (alive_run) ?_
    intro _ _
    repeat' (first | (refine go_Z ?_; intros) | (refine gs_Z ?_ ?_ <;> (intro hgd; try (simp only [Bool.not_true, Bool.not_false] at hgd))) | (refine gc_Z ?_ ?_ <;> intro _) | fail)
    (refine rt_Z (y := ()) (hrs := Try.results10) (hv := ?_) (hφ := ?_))
    · rfl
    · trivial
  | false =>
    obtain ⟨hl200, hsum⟩ := hy rfl
    cases t1 : decide ((4096 : Int) < (key.size : Int) + (fr.size : Int) + (to.size : Int)) with
    | true =>
      repeat' (first | (refine go_Z ?_; intros) | (refine gs_Z ?_ ?_ <;> (intro hgd; try (simp only [Bool.not_true, Bool.not_false] at hgd))) | (refine gc_Z ?_ ?_ <;> intro _) | fail)
      refine cl_Z (alive_run) ?_
      intro _ _
      repeat' (first | (refine go_Z ?_; intros) | (refine gs_Z ?_ ?_ <;> (intro hgd; try (simp only [Bool.not_true, Bool.not_false] at hgd))) | (refine gc_Z ?_ ?_ <;> intro _) | fail)
      (refine rt_Z (y := ()) (hrs := Try.results10) (hv := ?_) (hφ := ?_))
      · rfl
      · trivial
    | false =>
      repeat' (first | (refine go_Z ?_; intros) | (refine gs_Z ?_ ?_ <;> (intro hgd; try (simp only [Bool.not_true, Bool.not_false] at hgd))) | (refine gc_Z ?_ ?_ <;> intro _) | fail)
      refine cl_Z (sorted_spec u A xs hA (by omega)) ?_
      rintro ⟨l, ⟨v, hv⟩⟩ hs
      dsimp only at hs
      have hR : RunOK l := ⟨hs.srt, hs.ok, by have := hs.len; omega, hs.size hl200 hsum⟩
      have hlp : (l.map prV).length = l.length := by simp
      have hll := hR.len
      have hen : (ents l).length = l.length := entsF_len l 20
      have tl0 : (!decide (((dB l).loose.length : Int) = 0)) = false := rfl
      have tl1 : (!decide (((ents l).length : Int) = ((l.map prV).length : Int))) = false := by rw [hen, hlp]; simp
      have hfu : fused (dB l).files = (runB l).size := by simp [dB, dR, fused]
      have tl2 : (!decide (((runB l).size : Int) = (fused (dB l).files : Int))) = false := by rw [hfu]; simp
      refine ops_learn (row_shape (e := 23) (n := 3) (v := v) (xs := l.map prV) (by decide) takeD) ?_
      rintro ⟨pv, cv, rfl, hcv⟩
      repeat' (first | (refine go_Z ?_; intros) | (refine gs_Z ?_ ?_ <;> (intro hgd; try (simp only [Bool.not_true, Bool.not_false] at hgd))) | (refine gc_Z ?_ ?_ <;> intro _) | fail)
      rename_i mb
      refine cl_Z (new_spec 262144 (by decide) (by decide)) ?_
      intro b _
      repeat' (first | (refine go_Z ?_; intros) | (refine gs_Z ?_ ?_ <;> (intro hgd; try (simp only [Bool.not_true, Bool.not_false] at hgd))) | (refine gc_Z ?_ ?_ <;> intro _) | fail)
      refine cl_Z (hR.write b (.slice pv (l.map prV).length cv) (row 23 3 (.slice pv (l.map prV).length cv) (l.map prV)) Vw.row) ?_
      intro _ _
      repeat' (first | (refine go_Z ?_; intros) | (refine gs_Z ?_ ?_ <;> (intro hgd; try (simp only [Bool.not_true, Bool.not_false] at hgd))) | (refine gc_Z ?_ ?_ <;> intro _) | fail)
      refine cl_Z (Loose_spec b (dB l)) ?_
      intro _ _
      repeat' (first | (refine go_Z ?_; intros) | (refine gs_Z ?_ ?_ <;> (intro hgd; try (simp only [Bool.not_true, Bool.not_false] at hgd))) | (refine gc_Z ?_ ?_ <;> intro _) | fail)
      refine cl_Z (hR.open_ b) ?_
      rintro ⟨rb, ⟨ve, hve⟩⟩ _
      repeat' (first | (refine go_Z ?_; intros) | (refine gs_Z ?_ ?_ <;> (intro hgd; try (simp only [Bool.not_true, Bool.not_false] at hgd))) | (refine gc_Z ?_ ?_ <;> intro _) | fail)
      refine ok_drawL (cv := []) [8] ([rmP mb (.slice pv (l.map prV).length cv), row 23 3 (.slice pv (l.map prV).length cv) (l.map prV)]) (takeD) (by kernel_rfl) rfl (by decide +kernel) ?_
      repeat' (first | (refine go_Z ?_; intros) | (refine gs_Z ?_ ?_ <;> (intro hgd; try (simp only [Bool.not_true, Bool.not_false] at hgd))) | (refine gc_Z ?_ ?_ <;> intro _) | fail)
      refine clN_Z (rLen_spec rb b nR ve (runB l).size (ents l)) ?_
      intro _ _
      repeat' (first | (refine go_Z ?_; intros) | (refine gs_Z ?_ ?_ <;> (intro hgd; try (simp only [Bool.not_true, Bool.not_false] at hgd))) | (refine gc_Z ?_ ?_ <;> intro _) | fail)
      refine cl_Z (rSize_spec rb b nR ve (runB l).size) ?_
      intro _ _
      repeat' (first | (refine go_Z ?_; intros) | (refine gs_Z ?_ ?_ <;> (intro hgd; try (simp only [Bool.not_true, Bool.not_false] at hgd))) | (refine gc_Z ?_ ?_ <;> intro _) | fail)
      refine cl_Z (Used_spec b (dB l) hR.disk) ?_
      intro _ _
      repeat' (first | (refine go_Z ?_; intros) | (refine gs_Z ?_ ?_ <;> (intro hgd; try (simp only [Bool.not_true, Bool.not_false] at hgd))) | (refine gc_Z ?_ ?_ <;> intro _) | fail)
      refine ok_map (L' := [rnP rb b nR ve (runB l).size, enP ve (ents l), diskP b (dB l), rmP mb (.slice pv (l.map prV).length cv), row 23 3 (.slice pv (l.map prV).length cv) (l.map prV), A] ++ R) entD ?_
      refine ok_loop' (γ := Nat) (fun i ρ L => i ≤ l.length ∧ Knows ρ [(1, .string key), (2, .string fr), (3, .string to), (4, .int .i64 most), (11, .pointer (some ⟨mb, 0, none⟩)), (12, .pointer (some ⟨b, 0, none⟩)), (14, .pointer (some ⟨rb, 0, none⟩)), (16, .int .i64 i)] ∧ L = [rnP rb b nR ve (runB l).size, enP ve (ents l), diskP b (dB l), rmP mb (.slice pv (l.map prV).length cv), row 23 3 (.slice pv (l.map prV).length cv) (l.map prV), A] ++ R) (fun i => l.length - i) 0 ⟨by simp, ⟨rfl, rfl, rfl, rfl, rfl, rfl, rfl, rfl, trivial⟩, rfl⟩ ?_
      rintro i ρ L ⟨hi, hk, rfl⟩
      refine ok_regs hk ?_
      cases t3 : decide ((i : Int) < ((l.map prV).length : Int)) with
      | true =>
        have h : i < l.length := by simp at t3; omega
        have hn1 : i < (l.map prV).length := by omega
        have hx : (l.map prV)[i]? = some (prV l[i]) := by rw [List.getElem?_map, List.getElem?_eq_getElem h]; rfl
        have hg := hR.get b rb ve (runB l).size h
        refine ok_learn (VwIn.base (n := 3) (p := pv) (len := (l.map prV).length) (cap := cv) (xs := l.map prV) (VwIn.there (VwIn.there (VwIn.there (VwIn.there (VwIn.here Vw.row))))) (by intro e; rw [e] at hn1; simp at hn1)) ?_
        rintro ⟨bu, ou, rfl⟩
        have hne := neqP_self l[i]
        generalize l[i] = p at hx hg hne
        dsimp only [prV] at hx hg
        repeat' (first | (refine go_Z ?_; intros) | (refine gs_Z ?_ ?_ <;> (intro hgd; try (simp only [Bool.not_true, Bool.not_false] at hgd))) | (refine gc_Z ?_ ?_ <;> intro _) | fail)
        refine cl_Z (hg) ?_
        intro _ _
        repeat' (first | (refine go_Z ?_; intros) | (refine gs_Z ?_ ?_ <;> (intro hgd; try (simp only [Bool.not_true, Bool.not_false] at hgd))) | (refine gc_Z ?_ ?_ <;> intro _) | fail)
        refine cont_map (L' := [rnP rb b nR ve (runB l).size, enP ve (ents l), diskP b (dB l), rmP mb (.slice (some ⟨bu, ou, none⟩) (l.map prV).length cv), row 23 3 (.slice (some ⟨bu, ou, none⟩) (l.map prV).length cv) (l.map prV), A] ++ R) entD ?_
        refine cont_back (i + 1) ⟨h, ⟨rfl, rfl, rfl, rfl, rfl, rfl, rfl, rfl, trivial⟩, rfl⟩ (by omega)
      | false =>
        have hg := hR.getk b rb ve (runB l).size key
        have hmg := refGet_spec mb (.slice pv (l.map prV).length cv) l key (by have := hR.len; omega)
        have hms := refScan_spec mb (.slice pv (l.map prV).length cv) l fr to most (by have := hR.len; omega) (fun x hx => (okP_k (hR.ok x hx)).2.1) (by omega) (by omega)
        have hself := samePr_self (scanR l fr to most.toNat)
        have hslen : (scanR l fr to most.toNat).length ≤ 4611686018427387904 := by
          have h1 : (scanR l fr to most.toNat).length ≤ (l.filter (withB fr to)).length := by unfold scanR; rw [List.length_take]; omega
          have h2 := List.length_filter_le (withB fr to) l
          have := hR.len
          omega
        have hbb : ∀ x y : Bool, (x = true ↔ ∃ p ∈ l, p.k = key) → (y = true ↔ ∃ p ∈ l, p.k = key) → (x == y) = true := by
          intro x y h1 h2
          have : x = y := Bool.eq_iff_iff.2 (h1.trans h2.symm)
          subst this
          simp
        by_cases hm : most < 1
        · have h0 : scanR l fr to most.toNat = [] := by
            have : most.toNat = 0 := by omega
            unfold scanR; rw [this]; rfl
          have hsc := rScan_few rb fr to most hm
          repeat' (first | (refine go_Z ?_; intros) | (refine gs_Z ?_ ?_ <;> (intro hgd; try (simp only [Bool.not_true, Bool.not_false] at hgd))) | (refine gc_Z ?_ ?_ <;> intro _) | fail)
          refine cl_Z (hg) ?_
          rintro ⟨p1, is⟩ h1
          dsimp only [prV] at h1 ⊢
          repeat' (first | (refine go_Z ?_; intros) | (refine gs_Z ?_ ?_ <;> (intro hgd; try (simp only [Bool.not_true, Bool.not_false] at hgd))) | (refine gc_Z ?_ ?_ <;> intro _) | fail)
          refine cl_Z (hmg) ?_
          rintro ⟨p2, so⟩ h2
          dsimp only [prV] at h2 ⊢
          have hb := hbb is so h1 h2
          repeat' (first | (refine go_Z ?_; intros) | (refine gs_Z ?_ ?_ <;> (intro hgd; try (simp only [Bool.not_true, Bool.not_false] at hgd))) | (refine gc_Z ?_ ?_ <;> intro _) | fail)
          refine cl_Z (hsc) ?_
          intro _ _
          repeat' (first | (refine go_Z ?_; intros) | (refine gs_Z ?_ ?_ <;> (intro hgd; try (simp only [Bool.not_true, Bool.not_false] at hgd))) | (refine gc_Z ?_ ?_ <;> intro _) | fail)
          refine cl_Z (hms) ?_
          rintro ⟨v2, hv2⟩ _
          repeat' (first | (refine go_Z ?_; intros) | (refine gs_Z ?_ ?_ <;> (intro hgd; try (simp only [Bool.not_true, Bool.not_false] at hgd))) | (refine gc_Z ?_ ?_ <;> intro _) | fail)
          refine cl_Z (prSame_spec (.slice none 0 0) v2 A (row 23 3 v2 ((scanR l fr to most.toNat).map prV)) (scanR l fr to most.toNat) (scanR l fr to most.toNat) (by rw [h0]; exact vw_nil3) Vw.row hslen) ?_
          intro _ _
          rw [hself]
          repeat' (first | (refine go_Z ?_; intros) | (refine gs_Z ?_ ?_ <;> (intro hgd; try (simp only [Bool.not_true, Bool.not_false] at hgd))) | (refine gc_Z ?_ ?_ <;> intro _) | fail)
          refine cl_Z (alive_run) ?_
          intro _ _
          repeat' (first | (refine go_Z ?_; intros) | (refine gs_Z ?_ ?_ <;> (intro hgd; try (simp only [Bool.not_true, Bool.not_false] at hgd))) | (refine gc_Z ?_ ?_ <;> intro _) | fail)
          (refine rt_Z (y := ()) (hrs := Try.results10) (hv := ?_) (hφ := ?_))
          · rfl
          · trivial
        · have hsc := hR.scan b rb ve (runB l).size fr to most (by omega)
          repeat' (first | (refine go_Z ?_; intros) | (refine gs_Z ?_ ?_ <;> (intro hgd; try (simp only [Bool.not_true, Bool.not_false] at hgd))) | (refine gc_Z ?_ ?_ <;> intro _) | fail)
          refine cl_Z (hg) ?_
          rintro ⟨p1, is⟩ h1
          dsimp only [prV] at h1 ⊢
          repeat' (first | (refine go_Z ?_; intros) | (refine gs_Z ?_ ?_ <;> (intro hgd; try (simp only [Bool.not_true, Bool.not_false] at hgd))) | (refine gc_Z ?_ ?_ <;> intro _) | fail)
          refine cl_Z (hmg) ?_
          rintro ⟨p2, so⟩ h2
          dsimp only [prV] at h2 ⊢
          have hb := hbb is so h1 h2
          repeat' (first | (refine go_Z ?_; intros) | (refine gs_Z ?_ ?_ <;> (intro hgd; try (simp only [Bool.not_true, Bool.not_false] at hgd))) | (refine gc_Z ?_ ?_ <;> intro _) | fail)
          refine cl_Z (hsc) ?_
          rintro ⟨v1, hv1⟩ _
          repeat' (first | (refine go_Z ?_; intros) | (refine gs_Z ?_ ?_ <;> (intro hgd; try (simp only [Bool.not_true, Bool.not_false] at hgd))) | (refine gc_Z ?_ ?_ <;> intro _) | fail)
          refine cl_Z (hms) ?_
          rintro ⟨v2, hv2⟩ _
          repeat' (first | (refine go_Z ?_; intros) | (refine gs_Z ?_ ?_ <;> (intro hgd; try (simp only [Bool.not_true, Bool.not_false] at hgd))) | (refine gc_Z ?_ ?_ <;> intro _) | fail)
          refine cl_Z (prSame_spec v1 v2 (row 23 3 v1 ((scanR l fr to most.toNat).map prV)) (row 23 3 v2 ((scanR l fr to most.toNat).map prV)) (scanR l fr to most.toNat) (scanR l fr to most.toNat) Vw.row Vw.row hslen) ?_
          intro _ _
          rw [hself]
          repeat' (first | (refine go_Z ?_; intros) | (refine gs_Z ?_ ?_ <;> (intro hgd; try (simp only [Bool.not_true, Bool.not_false] at hgd))) | (refine gc_Z ?_ ?_ <;> intro _) | fail)
          refine cl_Z (alive_run) ?_
          intro _ _
          repeat' (first | (refine go_Z ?_; intros) | (refine gs_Z ?_ ?_ <;> (intro hgd; try (simp only [Bool.not_true, Bool.not_false] at hgd))) | (refine gc_Z ?_ ?_ <;> intro _) | fail)
          (refine rt_Z (y := ()) (hrs := Try.results10) (hv := ?_) (hφ := ?_))
          · rfl
          · trivial
end Go.Proofs.Ytgmobpngcilgjaa
