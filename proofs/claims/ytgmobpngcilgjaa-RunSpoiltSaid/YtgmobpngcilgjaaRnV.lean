/- The walk of RunSpoilt. -/
import Derived.Test.YtgmobpngcilgjaaRnO
import Derived.Test.YtgmobpngcilgjaaDkW
-- @DEFS Z
set_option linter.unusedSimpArgs false
set_option linter.unusedVariables false
set_option maxRecDepth 4000
namespace Go.Proofs.Ytgmobpngcilgjaa
open Go Go.Fx Go.Proofs Go.Pl

def dT (t : BA) : Dk := dR 262144 nR t
theorem RunOK.getS {l : List Pr} (h : RunOK l) {t : BA} {off : Nat} (hd : Diff (runB l) t off) (b rb : Nat) (v : Value) (sz : Int) {i : Nat} (hi : i < (ents l).length) (hi' : i < l.length) : FSpec Try.prog 55 [.pointer (some ⟨rb, 0, none⟩), .string l[i].k] [rnP rb b nR v sz, enP v (ents l), diskP b (dT t)] Unit (fun _ => True)
    (fun _ => .tuple #[.agg (prV (if hitB off (ents l)[i] = true then pr0 else l[i])).toArray, .bool (if hitB off (ents l)[i] = true then false else true), .int .i64 (if hitB off (ents l)[i] = true then 71 else 0)]) (fun _ => [rnP rb b nR v sz, enP v (ents l), diskP b (dT t)]) := by
  obtain ⟨_, hp⟩ := ents_p hi'
  have hr := reads_spoilt (room := 262144) may_nR h.ok hd rb b v sz (by decide) _ (List.getElem_mem hi)
  have hg := rGet_at rb b nR v sz (ents l) l[i].k (diskP b (dT t)) i _ _ h.srtE h.elen hi (by rw [hp]) hr
  by_cases hh : hitB off (ents l)[i] = true
  · have e : rdB off (ents l)[i] = (pr0, 71) := if_pos hh
    rw [e] at hg
    rw [if_pos hh, if_pos hh, if_pos hh]
    exact hg
  · have e : rdB off (ents l)[i] = ((ents l)[i].p, 0) := if_neg hh
    rw [e] at hg
    dsimp only at hg
    rw [hp] at hg
    rw [if_neg hh, if_neg hh, if_neg hh]
    exact hg
theorem RunOK.scanS {l : List Pr} (h : RunOK l) {t : BA} {off : Nat} (hd : Diff (runB l) t off) (b rb : Nat) (v : Value) (sz : Int) : FSpec Try.prog 56 [.pointer (some ⟨rb, 0, none⟩), .string ⟨#[]⟩, .string ⟨#[]⟩, .int .i64 ((l.length + 1 : Nat) : Int)] [rnP rb b nR v sz, enP v (ents l), diskP b (dT t)] { v : Value // v.oneCell' = true } (fun _ => True)
    (fun y => .tuple #[y.1, .int .i64 (if hits off (ents l) = 0 then 0 else 71)]) (fun y => [rnP rb b nR v sz, enP v (ents l), diskP b (dT t), row 23 3 y.1 ((if hits off (ents l) = 0 then l else []).map prV)]) := by
  have hs := rScan_spec rb b ⟨#[]⟩ ⟨#[]⟩ nR v sz (ents l) (diskP b (dT t)) (rdB off) ((l.length + 1 : Nat) : Int) (by omega) h.srtE h.elen (reads_spoilt (room := 262144) may_nR h.ok hd rb b v sz (by decide))
  have hg := scan_spoilt h.srt off
  rw [hg.1, hg.2] at hs
  exact hs
theorem RunOK.openS {l : List Pr} (h : RunOK l) {t : BA} {off : Nat} (hd : Diff (runB l) t off) (b : Nat) : FSpec Try.prog 57 [.pointer (some ⟨b, 0, none⟩), .string nR] [diskP b (dT t)] Unit (fun _ => True) (fun _ => .tuple #[.pointer none, .int .i64 71]) (fun _ => [diskP b (dT t)]) := by
  have hr := dR_read may_nR 262144 t 0 16777216
  have hc : cut t 0 16777216 = t := cut_all _ _ (by have := h.size; have := hd.size; omega)
  rw [show ((0 : Nat) : Int) = 0 from rfl, show ((16777216 : Nat) : Int) = 16777216 from rfl, hc] at hr
  have h71 := scan_diff (runL l) (runL_ok h.ok) hd
  have ho := rOpen_scan b (dT t) nR t (by decide) hr (by rw [h71]; decide)
  rw [h71] at ho
  exact ho

set_option maxHeartbeats 2000000 in
theorem RunSpoilt_spec (u : Value) (A : HProp) (xs : List Pr) (at_ bit : Int) (hA : Vw A 3 u (xs.map prV)) (hz : ∀ x ∈ xs, x.k.size ≤ 140737488355328 ∧ x.v.size ≤ 140737488355328) (hat : 0 ≤ at_ ∧ at_ ≤ 65535) (hbit : 0 ≤ bit ∧ bit ≤ 255) :
    FSpec Try.prog 11 [u, .int .u16 at_, .int .u8 bit] [A] Unit (fun _ => True) (fun _ => .bool true) (fun _ => [A]) := by
  refine spec_intro [] _ Try.func11 rfl Try.ntmps11 (by rfl) (fun w0 R => ?_)
  repeat' (first | (refine go_Z ?_; intros) | (refine gs_Z ?_ ?_ <;> (intro hgd; try (simp only [Bool.not_true, Bool.not_false] at hgd))) | (refine gc_Z ?_ ?_ <;> intro _) | fail)
  refine cl_Z (LargeP_spec u A xs hA hz) ?_
  intro y hy
  cases y with
  | true =>
    repeat' (first | (refine go_Z ?_; intros) | (refine gs_Z ?_ ?_ <;> (intro hgd; try (simp only [Bool.not_true, Bool.not_false] at hgd))) | (refine gc_Z ?_ ?_ <;> intro _) | fail)
    refine cl_Z (alive_run) ?_
    intro _ _
    repeat' (first | (refine go_Z ?_; intros) | (refine gs_Z ?_ ?_ <;> (intro hgd; try (simp only [Bool.not_true, Bool.not_false] at hgd))) | (refine gc_Z ?_ ?_ <;> intro _) | fail)
    (refine rt_Z (y := ()) (hrs := Try.results11) (hv := ?_) (hφ := ?_))
    · rfl
    · trivial
  | false =>
    obtain ⟨hl200, hsum⟩ := hy rfl
    repeat' (first | (refine go_Z ?_; intros) | (refine gs_Z ?_ ?_ <;> (intro hgd; try (simp only [Bool.not_true, Bool.not_false] at hgd))) | (refine gc_Z ?_ ?_ <;> intro _) | fail)
    refine cl_Z (sorted_spec u A xs hA (by omega)) ?_
    rintro ⟨l, ⟨v, hv⟩⟩ hs
    dsimp only at hs
    have hR : RunOK l := ⟨hs.srt, hs.ok, by have := hs.len; omega, hs.size hl200 hsum⟩
    have hlp : (l.map prV).length = l.length := by simp
    have hll := hR.len
    have hen : (ents l).length = l.length := entsF_len l 20
    have hfu : fused (dB l).files = (runB l).size := by simp [dB, dR, fused]
    have hrz := runB_size l
    have hrM := hR.size
    have x1 : decide ((fused (dB l).files : Int) < 1) = false := by rw [hfu]; simp; omega
    have x2 : IntKind.i64.wrap at_ = at_ := wrap_i64 (by omega) (by omega)
    have x3 : (fused (dB l).files : Int) ≠ 0 := by rw [hfu]; omega
    obtain ⟨off, x4, hoff⟩ : ∃ off : Nat, at_.tmod (fused (dB l).files : Int) = (off : Int) ∧ off < (runB l).size := by
      refine ⟨at_.toNat % (runB l).size, ?_, Nat.mod_lt _ (by omega)⟩
      rw [hfu, Int.tmod_eq_emod_of_nonneg (by omega)]
      have : at_ = (at_.toNat : Int) := by omega
      rw [this]; simp
    obtain ⟨bt, x5, hbt⟩ : ∃ bt : Nat, bit.tmod 8 = (bt : Int) ∧ bt ≤ 7 := by
      refine ⟨bit.toNat % 8, ?_, by omega⟩
      rw [Int.tmod_eq_emod_of_nonneg (by omega)]
      omega
    have x6 : IntKind.i64.wrap (bt : Int) = (bt : Int) := wrap_i64 (by omega) (by omega)
    have hdl : (runB l).data.toList.length = (runB l).size := by simp
    obtain ⟨c0, hc0⟩ : ∃ c0, (runB l).data.toList[off]? = some c0 := ⟨_, List.getElem?_eq_getElem (by omega)⟩
    obtain ⟨c, hc, hne⟩ := flip_byte c0 bt hbt
    have hD := setB_diff hc0 hne
    have hflip := fun b => Flip_spec b 262144 nR (runB l) off bt c0 c may_nR (by decide) hoff (by omega) hbt hc0 hc
    generalize setB (runB l) off c = t at hD hflip
    refine ops_learn (row_shape (e := 23) (n := 3) (v := v) (xs := l.map prV) (by decide) takeD) ?_
    rintro ⟨pv, cv, rfl, hcv⟩
    repeat' (first | (refine go_Z ?_; intros) | (refine gs_Z ?_ ?_ <;> (intro hgd; try (simp only [Bool.not_true, Bool.not_false] at hgd))) | (refine gc_Z ?_ ?_ <;> intro _) | fail)
    refine cl_Z (new_spec 262144 (by decide) (by decide)) ?_
    intro b _
    repeat' (first | (refine go_Z ?_; intros) | (refine gs_Z ?_ ?_ <;> (intro hgd; try (simp only [Bool.not_true, Bool.not_false] at hgd))) | (refine gc_Z ?_ ?_ <;> intro _) | fail)
    refine cl_Z (hR.write b (.slice pv (l.map prV).length cv) (row 23 3 (.slice pv (l.map prV).length cv) (l.map prV)) Vw.row) ?_
    intro _ _
    repeat' (first | (refine go_Z ?_; intros) | (refine gs_Z ?_ ?_ <;> (intro hgd; try (simp only [Bool.not_true, Bool.not_false] at hgd))) | (refine gc_Z ?_ ?_ <;> intro _) | fail)
    refine cl_Z (hR.open_ b) ?_
    rintro ⟨rb, ⟨ve, hve⟩⟩ _
    repeat' (first | (refine go_Z ?_; intros) | (refine gs_Z ?_ ?_ <;> (intro hgd; try (simp only [Bool.not_true, Bool.not_false] at hgd))) | (refine gc_Z ?_ ?_ <;> intro _) | fail)
    refine cl_Z (Used_spec b (dB l) hR.disk) ?_
    intro _ _
    repeat' (first | (refine go_Z ?_; intros) | (refine gs_Z ?_ ?_ <;> (intro hgd; try (simp only [Bool.not_true, Bool.not_false] at hgd))) | (refine gc_Z ?_ ?_ <;> intro _) | fail)
    refine cl_Z (Used_spec b (dB l) hR.disk) ?_
    intro _ _
    repeat' (first | (refine go_Z ?_; intros) | (refine gs_Z ?_ ?_ <;> (intro hgd; try (simp only [Bool.not_true, Bool.not_false] at hgd))) | (refine gc_Z ?_ ?_ <;> intro _) | fail)
    refine cl_Z (hflip b) ?_
    intro _ _
    repeat' (first | (refine go_Z ?_; intros) | (refine gs_Z ?_ ?_ <;> (intro hgd; try (simp only [Bool.not_true, Bool.not_false] at hgd))) | (refine gc_Z ?_ ?_ <;> intro _) | fail)
    refine ok_map (L' := [rnP rb b nR ve (runB l).size, enP ve (ents l), diskP b (dT t), row 23 3 (.slice pv (l.map prV).length cv) (l.map prV), A] ++ R) entD ?_
    refine ok_loop' (γ := Nat) (fun i ρ L => i ≤ l.length ∧ Knows ρ [(7, .slice pv (l.map prV).length cv), (8, .pointer (some ⟨b, 0, none⟩)), (10, .pointer (some ⟨rb, 0, none⟩)), (12, .int .i64 (hits off ((ents l).take i) : Int)), (13, .int .i64 i)] ∧ L = [rnP rb b nR ve (runB l).size, enP ve (ents l), diskP b (dT t), row 23 3 (.slice pv (l.map prV).length cv) (l.map prV), A] ++ R) (fun i => l.length - i) 0 ⟨by simp, ⟨rfl, rfl, rfl, rfl, rfl, trivial⟩, rfl⟩ ?_
    rintro i ρ L ⟨hi, hk, rfl⟩
    refine ok_regs hk ?_
    cases t3 : decide ((i : Int) < ((l.map prV).length : Int)) with
    | true =>
      have h : i < l.length := by simp at t3; omega
      have he : i < (ents l).length := by omega
      have hn1 : i < (l.map prV).length := by omega
      have hx : (l.map prV)[i]? = some (prV l[i]) := by rw [List.getElem?_map, List.getElem?_eq_getElem h]; rfl
      have hg := hR.getS hD b rb ve (runB l).size he h
      have hcnt := hits_take off (ents l) i he
      have hle := hits_take_le off l i
      refine ok_learn (VwIn.base (n := 3) (p := pv) (len := (l.map prV).length) (cap := cv) (xs := l.map prV) (VwIn.there (VwIn.there (VwIn.there (VwIn.here Vw.row)))) (by intro e; rw [e] at hn1; simp at hn1)) ?_
      rintro ⟨bu, ou, rfl⟩
      have hne' := neqP_self l[i]
      generalize l[i] = p at hx hg hne'
      by_cases hh : hitB off (ents l)[i] = true
      · rw [if_pos hh, if_pos hh, if_pos hh] at hg
        rw [if_pos hh] at hcnt
        dsimp only [prV] at hx hg
        have y1 : decide ((71 : Int) = 71) = true := rfl
        repeat' (first | (refine go_Z ?_; intros) | (refine gs_Z ?_ ?_ <;> (intro hgd; try (simp only [Bool.not_true, Bool.not_false] at hgd))) | (refine gc_Z ?_ ?_ <;> intro _) | fail)
        refine cl_Z (hg) ?_
        intro _ _
        repeat' (first | (refine go_Z ?_; intros) | (refine gs_Z ?_ ?_ <;> (intro hgd; try (simp only [Bool.not_true, Bool.not_false] at hgd))) | (refine gc_Z ?_ ?_ <;> intro _) | fail)
        refine cont_map (L' := [rnP rb b nR ve (runB l).size, enP ve (ents l), diskP b (dT t), row 23 3 (.slice (some ⟨bu, ou, none⟩) (l.map prV).length cv) (l.map prV), A] ++ R) entD ?_
        refine cont_back (i + 1) ⟨h, ⟨rfl, rfl, rfl, by rw [hcnt]; rfl, rfl, trivial⟩, rfl⟩ (by omega)
      · rw [if_neg hh, if_neg hh, if_neg hh] at hg
        rw [if_neg hh, Nat.add_zero] at hcnt
        dsimp only [prV] at hx hg
        have y1 : decide ((0 : Int) = 71) = false := rfl
        repeat' (first | (refine go_Z ?_; intros) | (refine gs_Z ?_ ?_ <;> (intro hgd; try (simp only [Bool.not_true, Bool.not_false] at hgd))) | (refine gc_Z ?_ ?_ <;> intro _) | fail)
        refine cl_Z (hg) ?_
        intro _ _
        repeat' (first | (refine go_Z ?_; intros) | (refine gs_Z ?_ ?_ <;> (intro hgd; try (simp only [Bool.not_true, Bool.not_false] at hgd))) | (refine gc_Z ?_ ?_ <;> intro _) | fail)
        refine cont_map (L' := [rnP rb b nR ve (runB l).size, enP ve (ents l), diskP b (dT t), row 23 3 (.slice (some ⟨bu, ou, none⟩) (l.map prV).length cv) (l.map prV), A] ++ R) entD ?_
        refine cont_back (i + 1) ⟨h, ⟨rfl, rfl, rfl, by rw [hcnt]; rfl, rfl, trivial⟩, rfl⟩ (by omega)
    | false =>
      have hil : i = l.length := by simp at t3; omega
      have htk : (ents l).take i = ents l := List.take_of_length_le (by omega)
      have hle := hits_le1 off l
      have hso := hR.openS hD b
      have hsc := hR.scanS hD b rb ve (runB l).size
      rw [show ((l.length + 1 : Nat) : Int) = ((l.map prV).length : Int) + 1 by rw [hlp]; rfl] at hsc
      rw [htk]
      have hself := samePr_self l
      generalize hits off (ents l) = n at hle hsc
      have z1 : decide ((n : Int) ≤ 1) = true := by simp; omega
      have z2 : decide ((71 : Int) = 71) = true := rfl
      by_cases hn0 : n = 0
      · subst hn0
        rw [if_pos rfl, if_pos rfl] at hsc
        have z3 : decide ((0 : Int) = 0) = true := rfl
        have z4 : (!decide (((0 : Nat) : Int) = 0)) = false := rfl
        repeat' (first | (refine go_Z ?_; intros) | (refine gs_Z ?_ ?_ <;> (intro hgd; try (simp only [Bool.not_true, Bool.not_false] at hgd))) | (refine gc_Z ?_ ?_ <;> intro _) | fail)
        refine cl_Z (hsc) ?_
        rintro ⟨v1, hv1⟩ _
        repeat' (first | (refine go_Z ?_; intros) | (refine gs_Z ?_ ?_ <;> (intro hgd; try (simp only [Bool.not_true, Bool.not_false] at hgd))) | (refine gc_Z ?_ ?_ <;> intro _) | fail)
        refine cl_Z (prSame_spec v1 (.slice pv (l.map prV).length cv) (row 23 3 v1 (l.map prV)) (row 23 3 (.slice pv (l.map prV).length cv) (l.map prV)) l l Vw.row Vw.row (by omega)) ?_
        intro _ _
        rw [hself]
        repeat' (first | (refine go_Z ?_; intros) | (refine gs_Z ?_ ?_ <;> (intro hgd; try (simp only [Bool.not_true, Bool.not_false] at hgd))) | (refine gc_Z ?_ ?_ <;> intro _) | fail)
        refine cl_Z (hso) ?_
        intro _ _
        repeat' (first | (refine go_Z ?_; intros) | (refine gs_Z ?_ ?_ <;> (intro hgd; try (simp only [Bool.not_true, Bool.not_false] at hgd))) | (refine gc_Z ?_ ?_ <;> intro _) | fail)
        refine cl_Z (alive_run) ?_
        intro _ _
        repeat' (first | (refine go_Z ?_; intros) | (refine gs_Z ?_ ?_ <;> (intro hgd; try (simp only [Bool.not_true, Bool.not_false] at hgd))) | (refine gc_Z ?_ ?_ <;> intro _) | fail)
        (refine rt_Z (y := ()) (hrs := Try.results11) (hv := ?_) (hφ := ?_))
        · rfl
        · trivial
      · rw [if_neg hn0, if_neg hn0] at hsc
        have z3 : decide ((71 : Int) = 0) = false := rfl
        have z4 : decide ((n : Int) = 0) = false := by simp; omega
        have z5 : (!decide ((71 : Int) = 71)) = false := rfl
        have z6 : (!decide ((71 : Int) = 0)) = true := rfl
        have z7 : (!decide (((List.map prV ([] : List Pr)).length : Int) = 0)) = false := rfl
        repeat' (first | (refine go_Z ?_; intros) | (refine gs_Z ?_ ?_ <;> (intro hgd; try (simp only [Bool.not_true, Bool.not_false] at hgd))) | (refine gc_Z ?_ ?_ <;> intro _) | fail)
        refine cl_Z (hsc) ?_
        rintro ⟨v1, hv1⟩ _
        repeat' (first | (refine go_Z ?_; intros) | (refine gs_Z ?_ ?_ <;> (intro hgd; try (simp only [Bool.not_true, Bool.not_false] at hgd))) | (refine gc_Z ?_ ?_ <;> intro _) | fail)
        refine cl_Z (hso) ?_
        intro _ _
        repeat' (first | (refine go_Z ?_; intros) | (refine gs_Z ?_ ?_ <;> (intro hgd; try (simp only [Bool.not_true, Bool.not_false] at hgd))) | (refine gc_Z ?_ ?_ <;> intro _) | fail)
        refine cl_Z (alive_run) ?_
        intro _ _
        repeat' (first | (refine go_Z ?_; intros) | (refine gs_Z ?_ ?_ <;> (intro hgd; try (simp only [Bool.not_true, Bool.not_false] at hgd))) | (refine gc_Z ?_ ?_ <;> intro _) | fail)
        (refine rt_Z (y := ()) (hrs := Try.results11) (hv := ?_) (hφ := ?_))
        · rfl
        · trivial
end Go.Proofs.Ytgmobpngcilgjaa
