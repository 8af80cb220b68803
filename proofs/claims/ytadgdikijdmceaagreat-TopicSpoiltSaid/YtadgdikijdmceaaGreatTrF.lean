import Derived.Test.YtadgdikijdmceaaGreatTrP
import Derived.Test.YtadgdikijdmceaaGreatTrB
import Derived.Test.YtadgdikijdmceaaGreatTqV
import Derived.Test.YtadgdikijdmceaaGreatG17
import Derived.Test.YtadgdikijdmceaaGreatFlB
import Derived.Test.YtadgdikijdmceaaGreatG0
set_option linter.unusedSimpArgs false
set_option linter.unusedVariables false
set_option maxRecDepth 100000
namespace Go.Proofs.YtadgdikijdmceaaGreat
open Go Go.Fx Go.Proofs Go.Pl

theorem tpV_71 (t : Nat) : tpV t 71 = .pointer none := rfl
def hbN (h i : Nat) : Nat := if h < i then 1 else 0
theorem rem_nat {a b : Nat} : ((a : Int)).tmod (b : Int) = ((a % b : Nat) : Int) := (Int.ofNat_tmod a b).symm
set_option maxHeartbeats 64000000 in
theorem TopicSpoilt_spec (sg : Nat) (u : Value) (A : HProp) (l : List BA) (fi at_ bt : Nat) (hsg : sg ≤ 65535) (hfi : fi ≤ 65535) (hat : at_ ≤ 65535) (hbt : bt ≤ 255) (hA : Vw A 1 u (l.map strV)) (hcap : capOk u) (hz : ∀ s ∈ l, s.size ≤ 140737488355328) :
    FSpec Tryz.prog 4 [.int .u16 (sg : Int), u, .int .u16 (fi : Int), .int .u16 (at_ : Int), .int .u8 (bt : Int)] [A] HProp (fun P' => Ext A P') (fun _ => .bool true) (fun P' => [P']) := by
  have hr := rem20 sg hsg
  have hw1 : IntKind.i64.wrap (sg : Int) = (sg : Int) := i64_nat (by omega) (by omega)
  have hw2 : IntKind.i64.wrap (fi : Int) = (fi : Int) := i64_nat (by omega) (by omega)
  have hw3 : IntKind.i64.wrap (at_ : Int) = (at_ : Int) := i64_nat (by omega) (by omega)
  have hb0 : 0 ≤ (sg : Int).tmod 20 := by rw [show (sg : Int).tmod 20 = ((sg % 20 : Nat) : Int) from (Int.ofNat_tmod sg 20).symm]; omega
  have hb1 : (sg : Int).tmod 20 ≤ 19 := by rw [show (sg : Int).tmod 20 = ((sg % 20 : Nat) : Int) from (Int.ofNat_tmod sg 20).symm]; omega
  obtain ⟨seg, hseg⟩ : ∃ seg, seg = 1 + sg % 20 := ⟨_, rfl⟩
  have hs : 1 ≤ seg := by omega
  have hs1 : seg ≤ 65536 := by omega
  rw [← hseg] at hr
  have hbt8 : (bt : Int).tmod 8 = ((bt % 8 : Nat) : Int) := rem_nat
  have hbw : IntKind.i64.wrap ((bt % 8 : Nat) : Int) = ((bt % 8 : Nat) : Int) := i64_nat (by omega) (by omega)
  have ll : (l.map strV).length = l.length := by simp
  have hn := new_spec 1048576 (by decide) (by decide)
  have hO := fun b => tOpen_spec b (newD 1048576) nT seg A (by decide) (by decide) hs hs1 (by simp [newD]) (by simp [newD]) (.new (by decide) (by decide)) (by simp [newD])
  rw [open_new18 (by decide) (by decide)] at hO
  simp only [tpV_ok] at hO
  have hfn : Firm (newD 1048576) [] := Firm.new (by decide) (by decide)
  have hro0 : (newD 1048576).room = 1048576 := rfl
  have hfu0 : (newD 1048576).fuse = -1 := rfl
  have hfs0 : (newD 1048576).files = [] := rfl
  generalize newD 1048576 = d0 at hn hO hfn hro0 hfu0 hfs0
  obtain ⟨pu, ln0, cu, ecap, hcv⟩ := hcap
  subst ecap
  refine fspec_lrnT (fun R hh g => (VwIn.slice (VwIn.here hA)) hh g) ?_
  rintro ⟨p0', c0', eu⟩
  simp only [Value.slice.injEq] at eu
  obtain ⟨_, rfl, _⟩ := eu
  have hb1T : nextS [] = 0 := rfl
  have hTw0 : Tw nT seg 0 [] := ⟨Nat.zero_mod _, rfl, .inl ⟨rfl, rfl⟩⟩
  have hwl := lenT_sumZ l
  have hO' := fun b => (show FSpec Tryz.prog 12 [.pointer (some ⟨b, 0, none⟩), .string nT, .int .i64 (1 + (sg : Int).tmod 20)] _ _ _ _ _ by rw [hr]; exact hO b)
  refine spec_intro [] _ Tryz.func4 rfl Tryz.ntmps4 (by rfl) (fun w0 R => ?_)
  repeat' (first | (refine go_Y ?_; intros) | (refine gs_Y ?_ ?_ <;> (intro hgd; try (simp only [Bool.not_true, Bool.not_false] at hgd))) | (refine gc_Y ?_ ?_ <;> intro _) | fail)
  refine cl_Y (LargeT_spec (.slice pu (l.map strV).length cu) A l hA hz) ?_
  intro y hy
  cases y with
  | true =>
    repeat' (first | (refine go_Y ?_; intros) | (refine gs_Y ?_ ?_ <;> (intro hgd; try (simp only [Bool.not_true, Bool.not_false] at hgd))) | (refine gc_Y ?_ ?_ <;> intro _) | fail)
    refine cl_Y (alive18_spec) ?_
    intro _ _
    repeat' (first | (refine go_Y ?_; intros) | (refine gs_Y ?_ ?_ <;> (intro hgd; try (simp only [Bool.not_true, Bool.not_false] at hgd))) | (refine gc_Y ?_ ?_ <;> intro _) | fail)
    (refine rt_Y (y := A) (hrs := Tryz.results4) (hv := ?_) (hφ := ?_))
    · rfl
    · exact .refl _
  | false =>
    obtain ⟨h1, h2⟩ := hy rfl
    by_cases h0 : l = []
    · have t0 : decide (((l.map strV).length : Int) = 0) = true := by rw [h0]; rfl
      repeat' (first | (refine go_Y ?_; intros) | (refine gs_Y ?_ ?_ <;> (intro hgd; try (simp only [Bool.not_true, Bool.not_false] at hgd))) | (refine gc_Y ?_ ?_ <;> intro _) | fail)
      refine cl_Y (alive18_spec) ?_
      intro _ _
      repeat' (first | (refine go_Y ?_; intros) | (refine gs_Y ?_ ?_ <;> (intro hgd; try (simp only [Bool.not_true, Bool.not_false] at hgd))) | (refine gc_Y ?_ ?_ <;> intro _) | fail)
      (refine rt_Y (y := A) (hrs := Tryz.results4) (hv := ?_) (hφ := ?_))
      · rfl
      · exact .refl _
    · have hlp : l.length ≠ 0 := fun e => h0 (List.eq_nil_of_length_eq_zero e)
      have t0 : decide (((l.map strV).length : Int) = 0) = false := decide_eq_false (by omega)
      have hxa : allOk l = true := by
        unfold allOk
        rw [List.all_eq_true]
        intro x hx
        have := sumZ_mem hx
        exact decide_eq_true (by omega)
      have hfus : (fused d0.files : Int) + (lenT l : Int) ≤ d0.room := by rw [hfs0, hro0]; show ((0 : Nat) : Int) + _ ≤ _; omega
      have hmain := append_main (rs := l) may_nT (by decide) hs hTw0 hfn hxa (by rw [hb1T]; omega) (by omega) (.inr hfus)
      have hAp := fun (b0 tb : Nat) (vs : Value) (P0 : HProp) (g1 : SgsR P0 vs []) (u : Value) (P : HProp) (e : Ext P0 P) (hu : RcR P u l) => tAppend_spec tb b0 nT seg vs 0 d0 [] u l P (g1.ext e) hu (by decide) hs hs1 hfn.ok (fun y hy => by simp at hy) (by rw [hfn.loose]; simp) (by simp) (by omega) (by rw [List.map_nil, hb1T]; omega) (by omega)
      repeat' (first | (refine go_Y ?_; intros) | (refine gs_Y ?_ ?_ <;> (intro hgd; try (simp only [Bool.not_true, Bool.not_false] at hgd))) | (refine gc_Y ?_ ?_ <;> intro _) | fail)
      refine cl_Y (hn) ?_
      intro b _
      repeat' (first | (refine go_Y ?_; intros) | (refine gs_Y ?_ ?_ <;> (intro hgd; try (simp only [Bool.not_true, Bool.not_false] at hgd))) | (refine gc_Y ?_ ?_ <;> intro _) | fail)
      refine cl_Y (hO' b) ?_
      rintro ⟨tb, vs, l0, P0⟩ ⟨g0, g1⟩
      obtain ⟨g1, g2⟩ := g1 trivial
      dsimp only at g0 g1 g2 ⊢
      obtain rfl : l0 = [] := List.map_eq_nil_iff.1 g2
      have hAp := hAp b tb vs P0 g1
      rw [List.map_nil] at hAp
      generalize appendT nT seg [] 0 l d0 = r at hmain hAp
      rcases hmain with gg | ⟨_, _, gf⟩ | ⟨_, _, _, gf⟩
      rotate_left
      · exfalso; omega
      · exact absurd hfu0 gf
      have he := gg.e
      have hg0 := gg.f0
      obtain ⟨rl, rf, rd, rn, re⟩ := r
      dsimp only at he hg0 hAp gg
      subst he hg0
      have htw := gg.tw
      have hfm := gg.firm
      have hrc : allR rl = l := by rw [gg.rc]; rfl
      dsimp only at htw hfm
      have hnm := htw.nm hs
      have hns := hfm.names may_nT (by decide) hs htw
      have hct := htw.count hs
      rw [hrc] at hct
      have hkeys : sortN (rd.files.map (·.1)) = rl.map (·.file) := sortN_rise (by have := hfm.eq.perm hfm.ok.nd (by rw [fsS_keys]; exact hnm.nodup); rw [fsS_keys] at this; exact this) hnm.keys
      have hNm := Names_spec b rd hns.1 (by omega)
      rw [hkeys] at hNm
      have hrl : rl.length ≠ 0 := by
        intro e
        rw [List.eq_nil_of_length_eq_zero e] at hrc
        exact h0 hrc.symm
      have ln : ((rl.map (·.file)).map fun s => [Value.string s]).length = rl.length := by simp
      have t1 : decide ((((rl.map (·.file)).map fun s => [Value.string s]).length : Int) = 0) = false := decide_eq_false (by omega)
      obtain ⟨k, hk⟩ : ∃ k, k = fi % rl.length := ⟨_, rfl⟩
      have hkl : k < rl.length := by rw [hk]; exact Nat.mod_lt _ (by omega)
      have hkr : (fi : Int).tmod (((rl.map (·.file)).map fun s => [Value.string s]).length : Int) = (k : Int) := by rw [ln, hk]; exact rem_nat
      have hkn : (((rl.map (·.file)).map fun s => [Value.string s]).length : Int) ≠ 0 := by omega
      obtain ⟨y, hy⟩ : ∃ y, y = rl[k] := ⟨_, rfl⟩
      have hym : y ∈ rl := by rw [hy]; exact List.getElem_mem hkl
      have hx : ((rl.map (·.file)).map fun s => [Value.string s])[k]? = some [.string y.file] := by rw [List.getElem?_map, List.getElem?_map, List.getElem?_eq_getElem hkl, ← hy]; rfl
      have hin1 : k < ((rl.map (·.file)).map fun s => [Value.string s]).length := by omega
      have hmay : mayN y.file = true := by rw [hnm.file y hym]; exact mayN_fileT nT _ may_nT (by decide)
      have hfz : y.file.size = 14 := by rw [hnm.file y hym, fileT_size]; rfl
      have hgy : fget y.file rd.files = some (framesOf y.recs) := by rw [hfm.eq]; exact fget_fsS hnm.nodup hym
      have hft : ftext y.file rd.files = framesOf y.recs := by unfold ftext; rw [hgy]; rfl
      obtain ⟨m1, m2⟩ := allR_mem hym
      rw [hrc] at m1 m2
      have hyr : y.recs ≠ [] := by
        rcases htw.sq with ⟨e, _⟩ | ⟨l0, x, e, hq, hxr⟩
        · exact absurd (by rw [e]; rfl) hrl
        · rw [e] at hym
          rcases List.mem_append.1 hym with h | h
          · intro e2
            have := (hq.fl.mem y h).2.2.2
            rw [e2, List.length_nil] at this
            omega
          · rw [List.mem_singleton.1 h]; exact hxr
      have hlp0 := lenT_pos hyr
      have hsz := dsize_spec b rd y.file (by omega)
      have hrd0 : rd.read y.file 0 0 = (⟨#[]⟩, 0) := by
        have := read_at (a := 0) (n := 0) hfm.still hmay hgy (by omega)
        rw [ext_zero] at this
        exact this
      rw [hrd0, hft, framesOf_size] at hsz
      dsimp only at hsz
      rw [if_pos rfl] at hsz
      obtain ⟨z, hzz⟩ : ∃ z, z = lenT y.recs := ⟨_, rfl⟩
      rw [← hzz] at hsz hlp0 m1
      have t2 : decide ((z : Int) < 1) = false := decide_eq_false (by omega)
      have hz0 : (z : Int) ≠ 0 := by omega
      obtain ⟨off, hoff⟩ : ∃ off, off = at_ % z := ⟨_, rfl⟩
      have hol : off < z := by rw [hoff]; exact Nat.mod_lt _ (by omega)
      have hor : (at_ : Int).tmod (z : Int) = (off : Int) := by rw [hoff]; exact rem_nat
      have hdl : (framesOf y.recs).data.toList.length = z := by rw [Array.length_toList, hzz, ← framesOf_size]; rfl
      obtain ⟨c0, hc0⟩ : ∃ c0, (framesOf y.recs).data.toList[off]? = some c0 := ⟨_, List.getElem?_eq_getElem (by omega)⟩
      obtain ⟨c, hc, hne⟩ := flip_byte c0 (bt % 8) (by omega)
      have hD := setB_diff hc0 hne
      have hFl := flip_spec b rd y.file (framesOf y.recs) off (bt % 8) c0 c hfm.still hfm.loose hgy hmay (by omega) (by rw [framesOf_size]; omega) (by rw [framesOf_size]; omega) (by omega) hc0 hc
      obtain ⟨hOk2, hh, hSp⟩ := spoilt_main hs htw hfm hym hD
      have hdf : (flipD rd y.file (setB (framesOf y.recs) off c)).files.length ≤ 1000000 ∧ (flipD rd y.file (setB (framesOf y.recs) off c)).loose.length = 0 ∧ ∀ x ∈ (flipD rd y.file (setB (framesOf y.recs) off c)).files.map (·.1), mayN x = true := by
        refine ⟨?_, rfl, fun x hx => ?_⟩
        · have := fput_len y.file (setB (framesOf y.recs) off c) rd.files
          show (fput y.file _ rd.files).length ≤ _
          omega
        · exact fput_nm hmay hns.1 x hx
      generalize flipD rd y.file (setB (framesOf y.recs) off c) = d2 at hFl hOk2 hSp hdf
      obtain ⟨q1, q2, q3⟩ := hdf
      have hB : ∀ x : Sm, x.s ∈ rl → SgB x.s := fun x hm => by
        obtain ⟨a, b, c⟩ := htw.bound hm
        obtain ⟨p, r⟩ := allR_mem hm
        rw [hrc] at p r
        have hfz : x.s.file.size = 14 := by rw [c, fileT_size]; rfl
        have hnx := htw.next
        rw [hrc] at hnx
        exact ⟨by omega, by omega, by omega, by omega⟩
      have hSlt := hSp.lt
      rw [hrc] at hSlt
      have hnx := htw.next
      rw [hrc] at hnx
      have c9 : (!decide ((0 : Int) = 0)) = false := rfl
      have hA0 := g0.vw hA
      refine opsL_mapL (fun _ h => nilRow (e := 9) (n := 1) h) ?_
      repeat' (first | (refine go_Y ?_; intros) | (refine gs_Y ?_ ?_ <;> (intro hgd; try (simp only [Bool.not_true, Bool.not_false] at hgd))) | (refine gc_Y ?_ ?_ <;> intro _) | fail)
      rename_i w hw0
      refine ops_learn (rowShapeS (e := 9) (n := 1) (v := w) (xs := [] ++ l.map strV) (by decide) takeD) ?_
      rintro ⟨p2, c2, rfl, hc2, hp2⟩
      rw [List.nil_append] at hw0 hc2 ⊢
      refine ops_poolN (ty := 9) (n := 1) (v := .slice p2 (l.map strV).length c2) (xs := l.map strV) (P := P0) takeD ?_
      intro P1 hE1 hv1
      refine cl_Y (hAp (.slice p2 (l.map strV).length c2) P1 hE1 ⟨hv1, ⟨p2, c2, rfl, hc2, hp2⟩⟩) ?_
      rintro ⟨v', l', P2⟩ ⟨k1, k2, k3⟩
      dsimp only at k1 k2 k3 ⊢
      have hA2 := g0.trans (hE1.trans k1)
      repeat' (first | (refine go_Y ?_; intros) | (refine gs_Y ?_ ?_ <;> (intro hgd; try (simp only [Bool.not_true, Bool.not_false] at hgd))) | (refine gc_Y ?_ ?_ <;> intro _) | fail)
      refine cl_Y (hNm) ?_
      rintro ⟨nv, hnv⟩ _
      refine ops_learn (rowShapeS (e := 9) (n := 1) (v := nv) (xs := (rl.map (·.file)).map fun s => [Value.string s]) (by decide) takeD) ?_
      rintro ⟨pn, cn, rfl, _, _⟩
      refine ops_learn (VwIn.base (n := 1) (p := pn) (len := ((rl.map (·.file)).map fun s => [Value.string s]).length) (cap := cn) (xs := (rl.map (·.file)).map fun s => [Value.string s]) (VwIn.here Vw.row) (by intro e; rw [e] at hin1; simp at hin1)) ?_
      rintro ⟨bu, ou, rfl⟩
      repeat' (first | (refine go_Y ?_; intros) | (refine gs_Y ?_ ?_ <;> (intro hgd; try (simp only [Bool.not_true, Bool.not_false] at hgd))) | (refine gc_Y ?_ ?_ <;> intro _) | fail)
      refine cl_Y (hsz) ?_
      intro _ _
      repeat' (first | (refine go_Y ?_; intros) | (refine gs_Y ?_ ?_ <;> (intro hgd; try (simp only [Bool.not_true, Bool.not_false] at hgd))) | (refine gc_Y ?_ ?_ <;> intro _) | fail)
      refine cl_Y (hFl) ?_
      intro _ _
      repeat' (first | (refine go_Y ?_; intros) | (refine gs_Y ?_ ?_ <;> (intro hgd; try (simp only [Bool.not_true, Bool.not_false] at hgd))) | (refine gc_Y ?_ ?_ <;> intro _) | fail)
      refine ok_map (L' := [tpP tb b nT (seg : Int) v' 0, diskP b d2, P2] ++ R) entD ?_
      refine ok_loop' (γ := Nat × HProp) (fun g ρ L => g.1 ≤ l.length ∧ Ext P2 g.2 ∧ Knows ρ [(0, .int .u16 (sg : Int)), (1, .slice pu (l.map strV).length cu), (11, .pointer (some ⟨b, 0, none⟩)), (13, .pointer (some ⟨tb, 0, none⟩)), (21, .int .i64 (hbN hh g.1 : Int)), (22, .int .i64 g.1)] ∧ L = [tpP tb b nT (seg : Int) v' 0, diskP b d2, g.2] ++ R) (fun g => l.length - g.1) (0, P2)
        ⟨Nat.zero_le _, .refl _, ⟨rfl, rfl, rfl, rfl, by rw [show hbN hh 0 = 0 from if_neg (by omega)]; rfl, rfl, trivial⟩, rfl⟩ ?_
      rintro ⟨i, P⟩ ρ L ⟨hi, hE, hk', rfl⟩
      dsimp only at hi hE hk' ⊢
      refine ok_regs hk' ?_
      cases t3 : decide ((i : Int) < ((l.map strV).length : Int)) with
      | false =>
        have hil : i = l.length := by have := of_decide_eq_false t3; omega
        have hb1 : hbN hh i = 1 := if_pos (by omega)
        have hO2 := tOpen_spec b d2 nT seg P (by decide) (by decide) hs hs1 q3 q1 hOk2 (by omega)
        obtain ⟨lx, hlx⟩ := hSp.op
        rw [hlx] at hO2
        dsimp only at hO2
        simp only [tpV_71] at hO2
        have hO2' := (show FSpec Tryz.prog 12 [.pointer (some ⟨b, 0, none⟩), .string nT, .int .i64 (1 + (sg : Int).tmod 20)] _ _ _ _ _ by rw [hr]; exact hO2)
        have c1 : decide (((1 : Nat) : Int) = 1) = true := rfl
        have c2 : decide ((71 : Int) = 71) = true := rfl
        rw [hb1]
        repeat' (first | (refine go_Y ?_; intros) | (refine gs_Y ?_ ?_ <;> (intro hgd; try (simp only [Bool.not_true, Bool.not_false] at hgd))) | (refine gc_Y ?_ ?_ <;> intro _) | fail)
        refine cl_Y (hO2') ?_
        rintro ⟨_, _, _, P3⟩ ⟨g, _⟩
        dsimp only at g ⊢
        repeat' (first | (refine go_Y ?_; intros) | (refine gs_Y ?_ ?_ <;> (intro hgd; try (simp only [Bool.not_true, Bool.not_false] at hgd))) | (refine gc_Y ?_ ?_ <;> intro _) | fail)
        refine cl_Y (alive18_spec) ?_
        intro _ _
        repeat' (first | (refine go_Y ?_; intros) | (refine gs_Y ?_ ?_ <;> (intro hgd; try (simp only [Bool.not_true, Bool.not_false] at hgd))) | (refine gc_Y ?_ ?_ <;> intro _) | fail)
        (refine rt_Y (y := P3) (hrs := Tryz.results4) (hv := ?_) (hφ := ?_))
        · rfl
        · exact (hA2.trans hE).trans g
      | true =>
        have h : i < l.length := by have := of_decide_eq_true t3; omega
        have hrd := hSp.rd i l[i] (by rw [hrc]; exact List.getElem?_eq_getElem h)
        have hR := tRead_spec tb b nT (seg : Int) v' 0 d2 l' i 1 P (k2.ext hE) (by have := congrArg List.length k3; rw [List.length_map] at this; omega) (by rw [k3]; omega) (fun x hx => hB x (by rw [← k3]; exact List.mem_map_of_mem hx))
        rw [k3, hrd] at hR
        have hte : ((i : Int) + 1) = ((i + 1 : Nat) : Int) := rfl
        have hwi : IntKind.u64.wrap (i : Int) = (i : Int) := tp_wrap64 _ (by omega)
        by_cases hi' : i = hh
        · rw [if_pos hi'] at hR
          dsimp only at hR
          have hb0 : hbN hh i = 0 := if_neg (by omega)
          have hb1 : hbN hh (i + 1) = 1 := if_pos (by omega)
          rw [hb0]
          have c1 : decide ((71 : Int) = 71) = true := rfl
          have c2 : decide (((List.map strV ([] : List BA)).length : Int) = 0) = true := rfl
          repeat' (first | (refine go_Y ?_; intros) | (refine gs_Y ?_ ?_ <;> (intro hgd; try (simp only [Bool.not_true, Bool.not_false] at hgd))) | (refine gc_Y ?_ ?_ <;> intro _) | fail)
          refine cl_Y (hR) ?_
          rintro ⟨⟨v1, hv1'⟩, P3⟩ hE3
          dsimp only at hE3 ⊢
          refine ops_learn (rowShapeS (e := 9) (n := 1) (v := v1) (xs := ([] : List BA).map strV) (by decide) takeD) ?_
          rintro ⟨p3, c3, rfl, _, _⟩
          repeat' (first | (refine go_Y ?_; intros) | (refine gs_Y ?_ ?_ <;> (intro hgd; try (simp only [Bool.not_true, Bool.not_false] at hgd))) | (refine gc_Y ?_ ?_ <;> intro _) | fail)
          refine cont_map (L' := [tpP tb b nT (seg : Int) v' 0, diskP b d2, P3] ++ R) entD ?_
          exact cont_back (i + 1, P3) ⟨h, hE.trans hE3, ⟨rfl, rfl, rfl, rfl, by rw [hb1]; rfl, rfl, trivial⟩, rfl⟩ (by dsimp only; omega)
        · rw [if_neg hi'] at hR
          dsimp only at hR
          have hb1 : hbN hh (i + 1) = hbN hh i := by unfold hbN; split <;> split <;> omega
          have c1 : decide ((0 : Int) = 71) = false := rfl
          have hvj : Vw P 1 (dropV 1 pu (i + 1) cu i) [strV l[i]] := by
            have := ((hA2.trans hE).vw hA).sub (m := i) (q := i + 1) (by omega) hcv
            rwa [show ((l.map strV).take (i + 1)).drop i = [strV l[i]] by
              rw [← List.map_take, List.take_succ_eq_append_getElem h, List.map_append, List.drop_append_of_le_length (by rw [List.length_map, List.length_take]; omega), List.drop_of_length_le (by rw [List.length_map, List.length_take]; omega)]; rfl] at this
          repeat' (first | (refine go_Y ?_; intros) | (refine gs_Y ?_ ?_ <;> (intro hgd; try (simp only [Bool.not_true, Bool.not_false] at hgd))) | (refine gc_Y ?_ ?_ <;> intro _) | fail)
          refine cl_Y (hR) ?_
          rintro ⟨⟨v1, hv1'⟩, P3⟩ hE3
          dsimp only at hE3 ⊢
          have hS := SameT_spec v1 (dropV 1 pu (i + 1) cu i) (rwS v1 [l[i]]) P3 [l[i]] [l[i]] Vw.row (hE3.vw hvj) (by simp)
          rw [sameT_self] at hS
          repeat' (first | (refine go_Y ?_; intros) | (refine gs_Y ?_ ?_ <;> (intro hgd; try (simp only [Bool.not_true, Bool.not_false] at hgd))) | (refine gc_Y ?_ ?_ <;> intro _) | fail)
          refine a_slice_view2 rfl rfl rfl rfl hte (by omega) (by omega) rfl ?_
          repeat' (first | (refine go_Y ?_; intros) | (refine gs_Y ?_ ?_ <;> (intro hgd; try (simp only [Bool.not_true, Bool.not_false] at hgd))) | (refine gc_Y ?_ ?_ <;> intro _) | fail)
          refine cl_Y (hS) ?_
          intro _ _
          repeat' (first | (refine go_Y ?_; intros) | (refine gs_Y ?_ ?_ <;> (intro hgd; try (simp only [Bool.not_true, Bool.not_false] at hgd))) | (refine gc_Y ?_ ?_ <;> intro _) | fail)
          refine cont_map (L' := [tpP tb b nT (seg : Int) v' 0, diskP b d2, P3] ++ R) entD ?_
          exact cont_back (i + 1, P3) ⟨h, hE.trans hE3, ⟨rfl, rfl, rfl, rfl, by rw [hb1]; rfl, rfl, trivial⟩, rfl⟩ (by dsimp only; omega)
end Go.Proofs.YtadgdikijdmceaaGreat
